/- Texts of this claim, one behind another. -/

import Derived.Test.YtdlbbfcfahahdaaGreatAAm
set_option linter.unusedVariables false
set_option linter.unusedSimpArgs false
section
namespace Go.Proofs.YtdlbbfcfahahdaaGreat
open Go Go.W
set_option maxRecDepth 20000
attribute [local irreducible] HL HC HQ HB Row Rows2 Blk Facts
theorem nums_len (how : Nat) (c : Ch) (ss : List Int) (xs : List Ad) : (numsN how c ss xs).length = ss.length := by simp [numsN]
theorem bil_bd {c : Ch} {ss : List Int} {xs : List Ad} (h : SaOK c ss xs) (i : Nat) : 0 ≤ bilN c ss xs i ∧ bilN c ss xs i ≤ sumN c xs i ∧ sumN c xs i ≤ 48000 := by
  have h1 := sumK_bd h i xs.length (Nat.le_refl _); have h2 := h.ch.2.2.2.2.1; have h8 := h.x8; have hs : sumN c xs i = sumK c xs xs.length i := rfl; rw [← hs] at h1; unfold bilN; generalize sumN c xs i = s at *
  split
  · have m1 : 0 ≤ s * (100 - c.2.2.2.2.1) := Int.mul_nonneg h1.1 (by omega)
    have m2 : s * (100 - c.2.2.2.2.1) ≤ s * 100 := Int.mul_le_mul_of_nonneg_left (by omega) h1.1; unfold offN; rw [Int.tdiv_eq_ediv_of_nonneg (by omega)]
    omega
  · omega
theorem nums_bd {c : Ch} {ss : List Int} {xs : List Ad} (h : SaOK c ss xs) : ∀ v ∈ numsN 58 c ss xs, 0 ≤ v ∧ v ≤ 1000000000 := fun v hv => by
  obtain ⟨i, _, rfl⟩ := List.mem_map.1 hv; rw [if_pos rfl]; have := bil_bd h i
  omega
theorem bold_sum_meets_n {A : Option Addr} {c n : Nat} (l : List Int) (h : ∀ v ∈ l, 0 ≤ v ∧ v ≤ 1000000000) (hn : l.length ≤ 1000000) (e : l.length = n) : Meets Tryz.prog F.bold_sum [.slice A n c] { LI := [Row A (rows l)], val := fun _ : Unit => int l.sum } := by
  subst e; exact bold_sum_meets l h hn
theorem sa_snoc {c : Ch} {ss : List Int} {xs : List Ad} {x : Ad} (h : SaOK c ss xs) (hx : adErr ss.length x = 0) (hl : xs.length < 8) : SaOK c ss (xs ++ [x]) :=
  ⟨h.ch, h.n1, h.n5, h.st, by rw [List.length_append, List.length_singleton]; omega, fun y hy => (List.mem_append.1 hy).elim (h.ad y) fun hy => by rw [List.mem_singleton.1 hy]; exact ad_ok hx⟩
theorem mul_1 {a b A B : Int} (ha : 1 ≤ a ∧ a ≤ A) (hb : 1 ≤ b ∧ b ≤ B) : 1 ≤ a * b ∧ a * b ≤ A * B := by
  have h1 : 0 < a * b := Int.mul_pos (by omega) (by omega); exact ⟨by omega, Int.mul_le_mul ha.2 hb.2 (by omega) (by omega)⟩
theorem sheet_bd {l s : Int} (hl : 0 ≤ l) (hs : 1 ≤ s) : (0 ≤ (l + s - 1).tdiv s ∧ (l + s - 1).tdiv s ≤ l + s) ∧ 0 ≤ (l + s - 1).tdiv s * s ∧ (l + s - 1).tdiv s * s ≤ l + s - 1 := by
  rw [Int.tdiv_eq_ediv_of_nonneg (by omega)]; have h1 : 0 ≤ (l + s - 1) / s := Int.ediv_nonneg (by omega) (by omega); have h2 := Int.ediv_mul_le (l + s - 1) (show s ≠ 0 by omega)
  have h3 : (l + s - 1) / s ≤ (l + s - 1) / s * s := by
    have := Int.mul_le_mul_of_nonneg_left hs h1
    omega
  have h4 : 0 ≤ (l + s - 1) / s * s := Int.mul_nonneg h1 (by omega)
  omega
def billsE (c : Ch) (ss : List Int) (xs : List Ad) : List Int × Int := if ¬ chkS c ss xs = 0 then ([], chkS c ss xs) else (numsN 58 c ss xs, 0)
def allN (c : Ch) (ss : List Int) (xs : List Ad) : Int := (numsN 58 c ss xs).sum
def worthE (c : Ch) (ss : List Int) (xs : List Ad) (x : Ad) : Int × Int := if ¬ chkS c ss xs = 0 then (0, chkS c ss xs) else if ¬ adErr ss.length x = 0 then (0, adErr ss.length x) else if 8 ≤ xs.length then (0, 6) else (allN c ss (xs ++ [x]) - allN c ss xs, 0)
def sheetsE (lines page pages : Int) : Int × Int × Int := if ¬ (0 ≤ lines ∧ lines ≤ 100000) ∨ ¬ (1 ≤ page ∧ page ≤ 200) ∨ ¬ (1 ≤ pages ∧ pages ≤ 64) then (0, 0, 1) else ((lines + page * pages - 1).tdiv (page * pages), (lines + page * pages - 1).tdiv (page * pages) * (page * pages) - lines, 0)
theorem bold_Bills_meets (c : Ch) (ps : Sl Int) (qs : Sl Ad) (hn : ps.l.length ≤ 1000000) (hm : qs.l.length ≤ 1000000) : Meets Tryz.prog F.bold_Bills [saV c ps qs] { LI := saL ps qs, inv := fun x : OutC => (billsE c ps.l qs.l).1.length ≤ x.2, val := fun x => .tuple #[.slice x.1 (billsE c ps.l qs.l).1.length x.2, int (billsE c ps.l qs.l).2], LO := fun x => [Row x.1 (rows (billsE c ps.l qs.l).1)] } := by
 refine meets_intro F.bold_Bills_f rfl (Nat.le_of_ble_eq_true rfl) fun w0 => ?_; refine hc_seq (hc_region ?_); refine r_box rfl rfl fun gB => ?_; refine r_assign rfl rfl (r_assign rfl rfl (hl_nil (then_n (hc_seq (hc_seq (hc_region ?_)))))); refine r_loadA rfl T.row_api_Sales T.sz_api_Sales rfl mB (by rfl) ?_; refine hl_call F.bold_Check_cb rfl rfl (bold_Check_meets c ps qs hn hm) (List.Perm.refl _) ⟨mB, mB, trivial⟩ fun _ _ => ?_; refine r_assign rfl rfl (hl_nil (then_n (hc_seq (hc_region (r_move rfl rfl (r_neq rfl rfl rfl (hl_nil (then_n ?_)))))))); refine c_dec rfl (fun hb1 => ?_) (fun hb1 => ?_)
 ·have hb1' := hb1; try simp at hb1'
  have hE : billsE c ps.l qs.l = ([], chkS c ps.l qs.l) := by rw [billsE, if_pos hb1]
  refine hc_seq (hc_region (r_move rfl rfl (r_assign rfl rfl (r_assign rfl rfl (hl_nil (then_n (hc_ret (then_ret ?_)))))))); refine hq_nilrow (α := Int) ?_; exact ret2 (none, 0) rfl rfl rfl (by show Value.tuple #[.slice none (billsE c ps.l qs.l).1.length 0, int (billsE c ps.l qs.l).2] = _; rw [hE]; rfl) rfl (by show (billsE c ps.l qs.l).1.length ≤ 0; rw [hE]; exact Nat.le_refl _) (List.nil_sublist _) (by show LSub _ [Row none (rows (billsE c ps.l qs.l).1)]; rw [hE]; exact ⟨m0, trivial⟩)
 ·have hb1' := hb1; try simp at hb1'
  have h0 : chkS c ps.l qs.l = 0 := Classical.not_not.1 hb1; have hE : billsE c ps.l qs.l = (numsN 58 c ps.l qs.l, 0) := by rw [billsE, if_neg hb1]
  have hsa := sa_ok h0; refine hc_skip (then_n (hc_seq (hc_region ?_))); refine r_loadA rfl T.row_api_Sales T.sz_api_Sales rfl mB (by rfl) ?_; refine hl_call F.bold_bills_cb rfl rfl (bold_bills_meets c ps qs hsa) (List.Perm.refl _) ⟨mB, mB, trivial⟩ fun g _ => ?_; refine r_assign rfl rfl (r_assign rfl rfl (hl_nil (then_n (hc_ret ?_)))); refine hq_letgo (rows (numsN 58 c ps.l qs.l)) (List.prefix_refl _) ?_; exact ret2 (some ⟨g, 0, none⟩, ps.l.length) rfl rfl rfl (by show Value.tuple #[.slice (some ⟨g, 0, none⟩) (billsE c ps.l qs.l).1.length ps.l.length, int (billsE c ps.l qs.l).2] = _; rw [hE]; show Value.tuple #[.slice (some ⟨g, 0, none⟩) (numsN 58 c ps.l qs.l).length ps.l.length, int 0] = _; rw [nums_len]) rfl (by show (billsE c ps.l qs.l).1.length ≤ ps.l.length; rw [hE]; exact Nat.le_of_eq (nums_len ..)) (List.nil_sublist _) (by show LSub _ [Row (some ⟨g, 0, none⟩) (rows (billsE c ps.l qs.l).1)]; rw [hE]; exact ⟨m0, trivial⟩)
theorem bold_Worth_meets (c : Ch) (ps : Sl Int) (qs : Sl Ad) (x : Ad) (hn : ps.l.length ≤ 1000000) (hm : qs.l.length ≤ 1000000) (hc : qs.l.length ≤ qs.c) : Meets Tryz.prog F.bold_Worth [saV c ps qs, adV x] { LI := saL ps qs, val := fun _ : Unit => .tuple #[int (worthE c ps.l qs.l x).1, int (worthE c ps.l qs.l x).2] } := by
 refine meets_intro F.bold_Worth_f rfl (Nat.le_of_ble_eq_true rfl) fun w0 => ?_; refine hc_seq (hc_region ?_); refine r_box rfl rfl fun gT => ?_; refine r_box rfl rfl fun gB => ?_; refine r_assign rfl rfl (r_assign rfl rfl (hl_nil (then_n (hc_seq (hc_seq (hc_region ?_)))))); refine r_loadA rfl T.row_api_Sales T.sz_api_Sales rfl mB (by rfl) ?_; refine hl_call F.bold_Check_cb rfl rfl (bold_Check_meets c ps qs hn hm) (List.Perm.refl _) ⟨mB, mB, trivial⟩ fun _ _ => ?_; refine r_assign rfl rfl (hl_nil (then_n (hc_seq (hc_region (r_move rfl rfl (r_neq rfl rfl rfl (hl_nil (then_n ?_)))))))); refine c_dec rfl (fun hb1 => ?_) (fun hb1 => ?_)
 ·have hb1' := hb1; try simp at hb1'
  refine hc_seq (hc_region (r_move rfl rfl (r_assign rfl rfl (r_assign rfl rfl (hl_nil (then_n (hc_ret (then_ret ?_)))))))); exact ret2 () rfl rfl rfl (by show Value.tuple #[int (worthE c ps.l qs.l x).1, int (worthE c ps.l qs.l x).2] = _; unfold worthE; rw [if_pos hb1]) rfl trivial (List.nil_sublist _) trivial
 ·have hb1' := hb1; try simp at hb1'
  refine hc_skip (then_n (hc_seq (hc_seq (hc_region ?_)))); refine r_loadA rfl T.row_api_Sales T.sz_api_Sales rfl mB (by rfl) ?_; refine r_loadA rfl T.row_api_Advert T.sz_api_Advert rfl mB (by rfl) ?_; refine hl_call F.bold_advertError_cb rfl rfl (bold_advertError_meets c ps qs x hn) (List.Perm.refl _) ⟨mB, mB, trivial⟩ fun _ _ => ?_; refine r_assign rfl rfl (hl_nil (then_n (hc_seq (hc_region (r_move rfl rfl (r_neq rfl rfl rfl (hl_nil (then_n ?_)))))))); refine c_dec rfl (fun hb2 => ?_) (fun hb2 => ?_)
  ·have hb2' := hb2; try simp at hb2'
   refine hc_seq (hc_region (r_move rfl rfl (r_assign rfl rfl (r_assign rfl rfl (hl_nil (then_n (hc_ret (then_ret ?_)))))))); exact ret2 () rfl rfl rfl (by show Value.tuple #[int (worthE c ps.l qs.l x).1, int (worthE c ps.l qs.l x).2] = _; unfold worthE; rw [if_neg hb1, if_pos hb2]) rfl trivial (List.nil_sublist _) trivial
  ·have hb2' := hb2; try simp at hb2'
   refine hc_skip (then_n (hc_seq (hc_seq (hc_region ?_)))); refine r_fieldAddr ⟨_, 7, none⟩ rfl rfl T.fa_api_Sales_2 rfl ?_; refine r_load rfl T.cell_L_api_Advert rfl (cell_own mB rfl) ?_; refine r_len_sl rfl T.u_L_api_Advert rfl ?_; refine r_geq rfl rfl rfl (hl_nil (then_n ?_)); refine c_dec rfl (fun hb3 => ?_) (fun hb3 => ?_)
   ·have hb3' := hb3; try simp at hb3'
    refine hc_seq (hc_region (r_assign rfl rfl (r_assign rfl rfl (hl_nil (then_n (hc_ret (then_ret ?_))))))); exact ret2 () rfl rfl rfl (by show Value.tuple #[int (worthE c ps.l qs.l x).1, int (worthE c ps.l qs.l x).2] = _; unfold worthE; rw [if_neg hb1, if_neg hb2, if_pos (by omega)]) rfl trivial (List.nil_sublist _) trivial
   ·have hb3' := hb3; try simp at hb3'
    have h0 : chkS c ps.l qs.l = 0 := Classical.not_not.1 hb1; have h1 : adErr ps.l.length x = 0 := Classical.not_not.1 hb2; have hsa := sa_ok h0; have hsb := sa_snoc hsa h1 (by omega); have hs1 := sum_bd (nums_bd hsa) 5; have hs2 := sum_bd (nums_bd hsb) 5; have hn5 := hsa.n5; rw [List.take_of_length_le (by rw [nums_len]; exact hn5)] at hs1 hs2; refine hc_skip (then_n (hc_seq ?_)); refine hc_draw 6 mixed (by decide) (by decide) rfl rfl ?_; refine hb_ex _ rfl rfl rfl (fun w1 => r_loadB rfl T.row_api_Sales T.sz_api_Sales rfl mB (by rfl) (hl_nil (qe_done rfl))) ?_; refine hb_ex _ rfl rfl rfl (fun w1 => r_loadB rfl T.row_api_Advert T.sz_api_Advert rfl mB (by rfl) (hl_nil (qe_done rfl))) ?_; refine hb_vs ⟨Sl Ad, fun q => q.l = qs.l ++ [x] ∧ q.l.length ≤ q.c, fun q => saV c ps q, fun q => [Row q.a (rows q.l)]⟩ rfl rfl rfl ?_ ?_
    ·intro w1; refine hl_call F.bold_with_cb rfl rfl (bold_with_meets c ps qs x (by omega) hc) (List.Perm.refl _) ⟨mB, mB, trivial⟩ fun q hq => ?_; refine hl_nil ?_; exact qv_done q hq rfl ⟨m0, trivial⟩
    refine hb_vs ⟨Nat, fun _ => True, fun g => .slice (some ⟨g, 0, none⟩) ps.l.length ps.l.length, fun g => [Row (some ⟨g, 0, none⟩) (rows (numsN 58 c ps.l (qs.l ++ [x])))]⟩ rfl rfl rfl ?_ ?_
    ·rintro ⟨qa, qc, ql⟩ hq; obtain rfl : ql = qs.l ++ [x] := hq.1; intro w1; refine hl_call F.bold_bills_cb rfl rfl (bold_bills_meets c ps ⟨qa, qc, qs.l ++ [x]⟩ hsb) (List.Perm.refl _) ⟨mB, mB, trivial⟩ fun g _ => ?_; refine hl_nil ?_; refine hq_letgo (rows (numsN 58 c ps.l (qs.l ++ [x]))) (List.prefix_refl _) ?_; exact qv_done g trivial rfl ⟨m0, trivial⟩
    refine hb_vs ⟨Unit, fun _ => True, fun _ => int (allN c ps.l (qs.l ++ [x])), fun _ => []⟩ rfl rfl rfl ?_ ?_
    ·intro g _; intro w1; refine hl_call F.bold_sum_cb rfl rfl (bold_sum_meets_n (numsN 58 c ps.l (qs.l ++ [x])) (nums_bd hsb) (by rw [nums_len]; omega) (nums_len ..)) (List.Perm.refl _) ⟨mB, trivial⟩ fun _ _ => ?_; refine hl_nil ?_; exact qv_done () trivial rfl trivial
    refine hb_ex _ rfl rfl rfl (fun w1 => r_loadB rfl T.row_api_Sales T.sz_api_Sales rfl mB (by rfl) (hl_nil (qe_done rfl))) ?_; refine hb_nil ⟨rfl, ?_⟩; intro _ _ _ _ _ _; refine hl_call F.bold_bills_cb rfl rfl (bold_bills_meets c ps qs hsa) (List.Perm.refl _) ⟨mB, mB, trivial⟩ fun g _ => ?_; refine hl_letgo (rows (numsN 58 c ps.l qs.l)) (List.prefix_refl _) ?_; refine hl_call F.bold_sum_cb rfl rfl (bold_sum_meets_n (numsN 58 c ps.l qs.l) (nums_bd hsa) (by rw [nums_len]; omega) (nums_len ..)) (List.Perm.refl _) ⟨mB, trivial⟩ fun _ _ => ?_; refine r_sub (allN c ps.l (qs.l ++ [x]) - allN c ps.l qs.l) rfl rfl rfl rfl (by unfold allN I64; omega) ?_; refine r_assign rfl rfl (r_assign rfl rfl (hl_nil (then_n (hc_ret ?_)))); exact ret2 () rfl rfl rfl (by show Value.tuple #[int (worthE c ps.l qs.l x).1, int (worthE c ps.l qs.l x).2] = _; unfold worthE; rw [if_neg hb1, if_neg hb2, if_neg (by omega)]) rfl trivial (List.nil_sublist _) trivial
theorem bold_Sheets_meets (l p q : Int) : Meets Tryz.prog F.bold_Sheets [int l, int p, int q] { val := fun _ : Unit => .tuple #[int (sheetsE l p q).1, int (sheetsE l p q).2.1, int (sheetsE l p q).2.2] } := by
 refine meets_intro F.bold_Sheets_f rfl (Nat.le_of_ble_eq_true rfl) fun w0 => ?_; refine hc_seq (hc_region (r_assign rfl rfl (r_assign rfl rfl (r_assign rfl rfl (hl_nil (then_n (hc_seq (hc_seq (hc_region (r_move rfl rfl ?_)))))))))); refine hl_call F.bold_between_cb rfl rfl (bold_between_meets _ _ _) (List.Perm.refl _) trivial fun _ _ => ?_; refine r_not rfl rfl (r_move rfl rfl ?_); refine g_split rfl rfl ?_ ?_
 ·intro hg1; have hg1' := hg1; try simp at hg1'
  refine g_yes rfl rfl hg1 (r_move rfl rfl (g_yes rfl rfl hg1 ?_)); refine hl_call F.bold_between_cb rfl rfl (bold_between_meets _ _ _) (List.Perm.refl _) trivial fun _ _ => ?_; refine g_yes rfl rfl hg1 (r_not rfl rfl ?_); refine p_f rfl rfl (bf1 hg1) rfl ?_; refine r_move rfl rfl ?_; refine g_split rfl rfl ?_ ?_
  ·intro hg2; have hg2' := hg2; try simp at hg2'
   refine g_yes rfl rfl hg2 (r_move rfl rfl (g_yes rfl rfl hg2 ?_)); refine hl_call F.bold_between_cb rfl rfl (bold_between_meets _ _ _) (List.Perm.refl _) trivial fun _ _ => ?_; refine g_yes rfl rfl hg2 (r_not rfl rfl ?_); refine p_f rfl rfl (bf1 hg2) rfl ?_; refine hl_nil (then_n ?_); refine hc_cond rfl (fun hb1 => ?_) (fun hb1 => ?_)
   ·have hb1' := hb1; try simp at hb1'
    refine hc_seq (hc_region (r_assign rfl rfl (r_assign rfl rfl (r_assign rfl rfl (hl_nil (then_n (hc_ret (then_ret ?_)))))))); exact ret3 () rfl rfl rfl rfl (by show Value.tuple #[int (sheetsE l p q).1, int (sheetsE l p q).2.1, int (sheetsE l p q).2.2] = _; unfold sheetsE; rw [if_pos (by omega)]) rfl trivial (List.nil_sublist _) trivial
   ·have hb1' := hb1; try simp at hb1'
    have hq2 := nbf hb1; have hm := mul_1 hg2' hq2; have hs := sheet_bd hg1'.1 hm.1; refine hc_skip (then_n (hc_seq (hc_region (r_move rfl rfl (r_move rfl rfl ?_))))); refine r_mul _ rfl rfl rfl rfl (by unfold I64; omega) ?_; refine r_assign rfl rfl (hl_nil (then_n (hc_seq (hc_region (r_move rfl rfl (r_move rfl rfl ?_)))))); refine r_add _ rfl rfl rfl rfl (by unfold I64; omega) ?_; refine r_sub _ rfl rfl rfl rfl (by unfold I64; omega) ?_; refine r_move rfl rfl ?_; refine r_quo ((l + p * q - 1).tdiv (p * q)) rfl rfl rfl (by omega) (IntWalk.i64_in _ (by omega)) ?_; refine r_assign rfl rfl (hl_nil (then_n (hc_seq (hc_region (r_move rfl rfl (r_move rfl rfl (r_move rfl rfl ?_))))))); refine r_mul _ rfl rfl rfl rfl (by unfold I64; omega) ?_; refine r_move rfl rfl ?_; refine r_sub _ rfl rfl rfl rfl (by unfold I64; omega) ?_; refine r_assign rfl rfl (r_assign rfl rfl (r_assign rfl rfl (hl_nil (then_n (hc_ret ?_))))); exact ret3 () rfl rfl rfl rfl (by show Value.tuple #[int (sheetsE l p q).1, int (sheetsE l p q).2.1, int (sheetsE l p q).2.2] = _; unfold sheetsE; rw [if_neg (by omega)]) rfl trivial (List.nil_sublist _) trivial
  ·intro hg2; have hg2' := hg2; try simp at hg2'
   refine g_no rfl rfl rfl rfl rfl hg2 (g_no rfl rfl rfl rfl rfl hg2 (g_no rfl rfl rfl rfl rfl hg2 ?_)); refine p_t rfl rfl (bt2 hg2) rfl ?_; refine hl_nil (then_n (c_t rfl rfl (hc_seq (hc_region (r_assign rfl rfl (r_assign rfl rfl (r_assign rfl rfl (hl_nil (then_n (hc_ret (then_ret ?_))))))))))); exact ret3 () rfl rfl rfl rfl (by show Value.tuple #[int (sheetsE l p q).1, int (sheetsE l p q).2.1, int (sheetsE l p q).2.2] = _; unfold sheetsE; rw [if_pos (by omega)]) rfl trivial (List.nil_sublist _) trivial
 ·intro hg1; have hg1' := hg1; try simp at hg1'
  refine g_no rfl rfl rfl rfl rfl hg1 (g_no rfl rfl rfl rfl rfl hg1 (g_no rfl rfl rfl rfl rfl hg1 ?_)); refine p_t rfl rfl (bt2 hg1) rfl ?_; refine r_move rfl rfl (g_no rfl rfl rfl rfl rfl rfl (g_no rfl rfl rfl rfl rfl rfl (g_no rfl rfl rfl rfl rfl rfl (p_t rfl rfl rfl rfl (hl_nil (then_n (c_t rfl rfl (hc_seq (hc_region (r_assign rfl rfl (r_assign rfl rfl ?_))))))))))); refine r_assign rfl rfl (hl_nil (then_n (hc_ret (then_ret ?_)))); exact ret3 () rfl rfl rfl rfl (by show Value.tuple #[int (sheetsE l p q).1, int (sheetsE l p q).2.1, int (sheetsE l p q).2.2] = _; unfold sheetsE; rw [if_pos (by omega)]) rfl trivial (List.nil_sublist _) trivial
end Go.Proofs.YtdlbbfcfahahdaaGreat
end
section
namespace Go.Proofs.YtdlbbfcfahahdaaGreat
open Go Go.W
set_option maxRecDepth 20000
attribute [local irreducible] HL HC HQ HB Row Rows2 Blk Facts
def cmpI (a b : Int) : Int := if a < b then -1 else if b < a then 1 else 0
def orL : List Int → Int
  | [] => 0
  | a :: l => if ¬ a = 0 then a else orL l
def cmpIs : List Int → List Int → Int
  | [], [] => 0
  | [], _ :: _ => -1
  | _ :: _, [] => 1
  | a :: l, b :: l' => if ¬ cmpI a b = 0 then cmpI a b else cmpIs l l'
theorem drop_getD {α : Type} [Inhabited α] {l : List α} {k : Nat} (hk : k < l.length) : l.drop k = l.getD k default :: l.drop (k + 1) := by rw [List.drop_eq_getElem_cons hk, getD_at hk]
theorem cmp_isNaN_int_meets (a : Int) : Meets Tryz.prog F.cmp_isNaN_int [int a] { val := fun _ : Unit => .bool false } := by
 refine meets_intro F.cmp_isNaN_int_f rfl (Nat.le_of_ble_eq_true rfl) fun w0 => ?_; refine hc_seq (hc_region (r_assign rfl rfl (hl_nil (then_n (hc_seq (hc_region (r_move rfl rfl (r_move rfl rfl (r_neq rfl rfl rfl (r_assign rfl rfl (hl_nil ?_))))))))))); refine then_n (hc_ret ?_); exact ret1 () rfl (congrArg (fun b => some (Value.bool b)) (by simp)) rfl trivial (.refl _) trivial
theorem cmp_Compare_int_meets (a b : Int) : Meets Tryz.prog F.cmp_Compare_int [int a, int b] { val := fun _ : Unit => int (cmpI a b) } := by
 refine meets_intro F.cmp_Compare_int_f rfl (Nat.le_of_ble_eq_true rfl) fun w0 => ?_; refine hc_seq (hc_region (r_assign rfl rfl (hl_nil (then_n (hc_seq (hc_region (r_move rfl rfl ?_))))))); refine hl_call F.cmp_isNaN_int_cb rfl rfl (cmp_isNaN_int_meets _) (.refl _) trivial fun _ _ => ?_; refine r_assign rfl rfl (hl_nil (then_n (hc_seq (hc_region (r_move rfl rfl ?_))))); refine hl_call F.cmp_isNaN_int_cb rfl rfl (cmp_isNaN_int_meets _) (.refl _) trivial fun _ _ => ?_; refine r_assign rfl rfl (hl_nil (then_n (hc_seq (hc_seq (hc_region (r_move rfl rfl (hl_nil (then_n ?_)))))))); refine c_f rfl (by first | rfl | assumption | exact bf1 (by assumption) | exact bf2 (by assumption)) ?_; refine hc_skip (then_n (hc_seq (hc_seq (hc_region (r_move rfl rfl (hl_nil (then_n ?_))))))); refine c_f rfl (by first | rfl | assumption | exact bf1 (by assumption) | exact bf2 (by assumption)) ?_; refine hc_skip (then_n (hc_seq (hc_seq (hc_region (r_move rfl rfl (r_move rfl rfl (r_lss rfl rfl rfl (hl_nil (then_n ?_))))))))); refine c_dec rfl (fun hb4 => ?_) (fun hb4 => ?_)
 ·have hb4' := hb4; try simp at hb4'
  refine hc_seq (hc_region (r_assign rfl rfl (hl_nil (then_n (hc_ret (then_ret ?_)))))); exact ret1 () rfl (congrArg (fun n => some (int n)) (by rw [cmpI, if_pos hb4])) rfl trivial (List.nil_sublist _) trivial
 ·have hb4' := hb4; try simp at hb4'
  refine hc_skip (then_n (hc_seq (hc_seq (hc_region (r_move rfl rfl (r_move rfl rfl (r_gtr rfl rfl rfl (hl_nil (then_n ?_))))))))); refine c_dec rfl (fun hb5 => ?_) (fun hb5 => ?_)
  ·have hb5' := hb5; try simp at hb5'
   refine hc_seq (hc_region (r_assign rfl rfl (hl_nil (then_n (hc_ret (then_ret ?_)))))); exact ret1 () rfl (congrArg (fun n => some (int n)) (by rw [cmpI, if_neg hb4, if_pos hb5])) rfl trivial (List.nil_sublist _) trivial
  ·have hb5' := hb5; try simp at hb5'
   refine hc_skip (then_n (hc_seq (hc_region (r_assign rfl rfl (hl_nil (then_n (hc_ret ?_))))))); exact ret1 () rfl (congrArg (fun n => some (int n)) (by rw [cmpI, if_neg hb4, if_neg hb5])) rfl trivial (List.nil_sublist _) trivial
theorem orL_drop {l : List Int} {k : Nat} (hk : k < l.length) : orL (l.drop k) = if ¬ l.getD k default = 0 then l.getD k default else orL (l.drop (k + 1)) := by
  rw [List.drop_eq_getElem_cons hk, orL, getD_at hk]
theorem cmp_Or_int_meets {A : Option Addr} {c : Nat} (l : List Int) (hl : l.length ≤ 1000000) : Meets Tryz.prog F.cmp_Or_int [.slice A l.length c] { LI := [Row A (rows l)], val := fun _ : Unit => int (orL l) } := by
 refine meets_intro F.cmp_Or_int_f rfl (Nat.le_of_ble_eq_true rfl) fun w0 => ?_; refine hc_seq (hc_region (r_assign rfl rfl (hl_nil (then_n (hc_seq (hc_region (r_assign rfl rfl (hl_nil (then_n (hc_seq (hc_seq ?_))))))))))); refine hc_region (r_move rfl rfl ?_); refine r_len_sl rfl T.u_ints rfl ?_; refine r_move rfl rfl (hl_nil (then_n (hc_block ?_))); refine hc_loop (β := Nat) ⟨fun k => k ≤ l.length ∧ orL l = orL (l.drop k), fun k => [(3, int 0), (6, .slice A l.length c), (7, int l.length), (8, int k)], fun _ => [], fun _ => [Row A (rows l)]⟩ (fun k => l.length - k) 0 ⟨Nat.zero_le _, rfl⟩ ⟨rfl, rfl, rfl, rfl, trivial⟩ (.refl _) ⟨m0, trivial⟩ fun k hk => ?_; obtain ⟨hk, ht⟩ := hk; refine hc_seq (hc_region (r_lss rfl rfl rfl (hl_nil (then_n (hc_seq ?_))))); refine c_dec rfl (fun hb1 => ?_) (fun hb1 => ?_)
 ·have hb1' := hb1; try simp at hb1'
  have hk2 : k < l.length := by omega
  rw [orL_drop hk2] at ht; refine hc_skip (then_n (hc_seq (hc_block (hc_seq (hc_region ?_))))); refine r_elem (α := Int) _ _ rfl T.u_ints T.sz_int rfl rfl rfl mB rfl (by omega) (by decide) ?_; refine r_load rfl T.cell_int rfl (cell_row mB (rows_get0 (by omega) rfl)) ?_; refine r_assign rfl rfl (hl_nil (then_n (hc_seq (hc_region (r_move rfl rfl (r_move rfl rfl (r_neq rfl rfl rfl (hl_nil (then_n ?_))))))))); refine c_dec rfl (fun hb2 => ?_) (fun hb2 => ?_)
  ·have hb2' := hb2; try simp at hb2'
   rw [if_pos hb2] at ht; refine hc_seq (hc_region (r_move rfl rfl (r_assign rfl rfl (hl_nil (then_n (hc_ret (inb_ret (then_ret (then_ret (inb_ret (then_ret ?_))))))))))); exact ret1 () rfl (congrArg (fun n => some (int n)) (by rw [ht])) rfl trivial (List.nil_sublist _) trivial
  ·have hb2' := hb2; try simp at hb2'
   rw [if_neg hb2] at ht; refine hc_skip (inb_n (then_n (hc_region ?_))); refine r_add _ rfl rfl rfl rfl (by unfold I64; omega) ?_; refine r_move rfl rfl (hl_nil ?_); exact again _ (k + 1) ⟨by omega, ht⟩ (by show l.length - (k + 1) < l.length - k; omega) ⟨rfl, rfl, rfl, rfl, trivial⟩ (.refl _) ⟨m0, trivial⟩
 ·have hb1' := hb1; try simp at hb1'
  have hk2 : k = l.length := by omega
  refine hc_exit (then_exit (then_exit (inb_hit (then_n (hc_seq (hc_region (r_move rfl rfl (r_assign rfl rfl (hl_nil (then_n (hc_ret ?_))))))))))); exact ret1 () rfl (congrArg (fun n => some (int n)) (by rw [ht, hk2, List.drop_length]; rfl)) rfl trivial (List.nil_sublist _) trivial
theorem slices_Compare_ints_meets {A B : Option Addr} {ca cb : Nat} (a b : List Int) (ha : a.length ≤ 1000000) : Meets Tryz.prog F.slices_Compare_ints [.slice A a.length ca, .slice B b.length cb] { LI := [Row A (rows a), Row B (rows b)], val := fun _ : Unit => int (cmpIs a b) } := by
 refine meets_intro F.slices_Compare_ints_f rfl (Nat.le_of_ble_eq_true rfl) fun w0 => ?_; refine hc_seq (hc_region (r_assign rfl rfl (hl_nil (then_n (hc_seq (hc_seq (hc_region (r_move rfl rfl ?_)))))))); refine r_len_sl rfl T.u_ints rfl ?_; refine r_move rfl rfl (hl_nil (then_n (hc_block ?_))); refine hc_loop (β := Nat) ⟨fun k => k ≤ a.length ∧ k ≤ b.length ∧ cmpIs a b = cmpIs (a.drop k) (b.drop k), fun k => [(0, .slice A a.length ca), (1, .slice B b.length cb), (9, .slice A a.length ca), (10, int a.length), (11, int k)], fun _ => [], fun _ => [Row A (rows a), Row B (rows b)]⟩ (fun k => a.length - k) 0 ⟨Nat.zero_le _, Nat.zero_le _, rfl⟩ ⟨rfl, rfl, rfl, rfl, rfl, trivial⟩ (.refl _) ⟨m0, m1, trivial⟩ fun k hk => ?_; obtain ⟨hka, hkb, ht⟩ := hk; refine hc_seq (hc_region (r_lss rfl rfl rfl (hl_nil (then_n (hc_seq ?_))))); refine c_dec rfl (fun hb1 => ?_) (fun hb1 => ?_)
 ·have hb1' := hb1; try simp at hb1'
  have hk2 : k < a.length := by omega
  rw [drop_getD hk2] at ht; refine hc_skip (then_n (hc_seq (hc_block (hc_seq (hc_region (r_move rfl rfl ?_)))))); refine r_elem (α := Int) _ _ rfl T.u_ints T.sz_int rfl rfl rfl mB rfl (by omega) (by decide) ?_; refine r_load rfl T.cell_int rfl (cell_row mB (rows_get0 (by omega) rfl)) ?_; refine r_assign rfl rfl (r_assign rfl rfl (hl_nil (then_n (hc_seq (hc_seq (hc_region (r_move rfl rfl (r_move rfl rfl ?_)))))))); refine r_len_sl rfl T.u_ints rfl ?_; refine r_geq rfl rfl rfl (hl_nil (then_n ?_)); refine c_dec rfl (fun hb2 => ?_) (fun hb2 => ?_)
  ·have hb2' := hb2; try simp at hb2'
   have hk3 : k = b.length := by omega
   refine hc_seq (hc_region (r_assign rfl rfl (hl_nil (then_n (hc_ret (then_ret (inb_ret (then_ret (then_ret (inb_ret (then_ret ?_))))))))))); exact ret1 () rfl (congrArg (fun n => some (int n)) (by rw [ht, hk3, List.drop_length]; rfl)) rfl trivial (List.nil_sublist _) trivial
  ·have hb2' := hb2; try simp at hb2'
   have hk3 : k < b.length := by omega
   rw [drop_getD hk3, cmpIs] at ht; refine hc_skip (then_n (hc_seq (hc_region (r_move rfl rfl (r_move rfl rfl ?_))))); refine r_elem (α := Int) _ _ rfl T.u_ints T.sz_int rfl rfl rfl mB rfl (by omega) (by decide) ?_; refine r_load rfl T.cell_int rfl (cell_row mB (rows_get0 (by omega) rfl)) ?_; refine r_assign rfl rfl (hl_nil (then_n (hc_seq (hc_region (r_move rfl rfl (r_move rfl rfl ?_)))))); refine hl_call F.cmp_Compare_int_cb rfl rfl (cmp_Compare_int_meets _ _) (.refl _) trivial fun _ _ => ?_; refine r_assign rfl rfl (hl_nil (then_n (hc_seq (hc_region (r_move rfl rfl (r_neq rfl rfl rfl (hl_nil (then_n ?_)))))))); refine c_dec rfl (fun hb3 => ?_) (fun hb3 => ?_)
   ·have hb3' := hb3; try simp at hb3'
    rw [if_pos hb3] at ht; refine hc_seq (hc_region (r_move rfl rfl (r_assign rfl rfl (hl_nil (then_n (hc_ret (inb_ret (then_ret (then_ret (inb_ret (then_ret ?_))))))))))); exact ret1 () rfl (congrArg (fun n => some (int n)) (by rw [ht])) rfl trivial (List.nil_sublist _) trivial
   ·have hb3' := hb3; try simp at hb3'
    rw [if_neg hb3] at ht; refine hc_skip (inb_n (then_n (hc_region ?_))); refine r_add _ rfl rfl rfl rfl (by unfold I64; omega) ?_; refine r_move rfl rfl (hl_nil ?_); exact again _ (k + 1) ⟨by omega, by omega, ht⟩ (by show a.length - (k + 1) < a.length - k; omega) ⟨rfl, rfl, rfl, rfl, rfl, trivial⟩ (List.nil_sublist _) ⟨m0, m1, trivial⟩
 ·have hb1' := hb1; try simp at hb1'
  have hk2 : k = a.length := by omega
  refine hc_exit (then_exit (then_exit (inb_hit (then_n (hc_seq (hc_seq (hc_region (r_move rfl rfl ?_)))))))); refine r_len_sl rfl T.u_ints rfl ?_; refine r_move rfl rfl ?_; refine r_len_sl rfl T.u_ints rfl ?_; refine r_lss rfl rfl rfl (hl_nil (then_n ?_)); refine c_dec rfl (fun hb4 => ?_) (fun hb4 => ?_)
  ·have hb4' := hb4; try simp at hb4'
   have h4 : k < b.length := by omega
   rw [hk2, List.drop_length, drop_getD (by omega)] at ht; refine hc_seq (hc_region (r_assign rfl rfl (hl_nil (then_n (hc_ret (then_ret ?_)))))); exact ret1 () rfl (congrArg (fun n => some (int n)) (by rw [ht]; rfl)) rfl trivial (List.nil_sublist _) trivial
  ·have hb4' := hb4; try simp at hb4'
   have h4 : k = b.length := by omega
   rw [hk2, List.drop_length, ← hk2, h4, List.drop_length] at ht; refine hc_skip (then_n (hc_seq (hc_region (r_assign rfl rfl (hl_nil (then_n (hc_ret ?_))))))); exact ret1 () rfl (congrArg (fun n => some (int n)) (by rw [ht]; rfl)) rfl trivial (List.nil_sublist _) trivial
theorem wrap64 {m : Nat} (h : m < 18446744073709551616) : IntKind.u64.wrap (m : Int) = (m : Int) := by
  simp only [IntKind.wrap, IntKind.bits, IntKind.signed]
  simp
  omega
theorem bv64 {m : Nat} (h : m < 18446744073709551616) : (BitVec.ofInt 64 (m : Int)).toNat = m := by
  simp [BitVec.toNat_ofInt]
  omega
section
variable {c : Cx} {Q : Exit → Act → World → Prop} {fr : Fr} {hp : Hp} {L : List Fact} {ops : Array Oper} {rest : List Oper}
variable {d : Tmp} {ty : TypeId} {pos : String} {af : Array Edge}
theorem r_and64 {t yt : TypeId} {x y : Operand} {a b : Nat} (hd : Nat.blt d c.n = true) (hx : ev fr x = some (.int .u64 a)) (hy : ev fr y = some (.int .u64 b)) (ha : a < 18446744073709551616) (hb : b < 18446744073709551616) (k : HL c ops Q rest ((d, .int .u64 (a &&& b : Nat)) :: fr) hp L) :
    HL c ops Q (⟨some d, .binOp .and t x y yt, ty, pos, af, none⟩ :: rest) fr hp L :=
  r_bin _ hd hx hy (fun _ => rfl) (fun w => by
    show (Op.intBits .and .u64 (a : Int) (b : Int)).run c.P w = _; have h : (BitVec.ofInt 64 (a : Int) &&& BitVec.ofInt 64 (b : Int)).toNat = a &&& b := by rw [BitVec.toNat_and, bv64 ha, bv64 hb]
    have hl : a &&& b < 18446744073709551616 := Nat.lt_of_le_of_lt Nat.and_le_left ha; show Result.ok (Value.int .u64 (IntKind.u64.wrap ((BitVec.ofInt 64 (a : Int) &&& BitVec.ofInt 64 (b : Int)).toNat : Nat))) w = _
    rw [h, wrap64 hl]) k
theorem r_shr64 {t yt : TypeId} {x y : Operand} {ky : IntKind} {z : Int} {a : Nat} (n : Nat) (hd : Nat.blt d c.n = true) (hx : ev fr x = some (.int .u64 a)) (hy : ev fr y = some (.int ky z)) (hz : z = (n : Int)) (hn : n < 64) (k : HL c ops Q rest ((d, .int .u64 (a / 2 ^ n : Nat)) :: fr) hp L) :
    HL c ops Q (⟨some d, .binOp .shr t x y yt, ty, pos, af, none⟩ :: rest) fr hp L :=
  r_bin _ hd hx hy (fun _ => rfl) (fun w => by
    subst hz; show (Op.shift .shr .u64 (a : Int) ky (n : Int)).run c.P w = _; have hm : min ((n : Int).toNat) (IntKind.u64.bits) = n := by show min ((n : Int).toNat) 64 = n; omega
    simp only [Op.shift]; rw [if_neg (by omega), hm, Int.fdiv_eq_ediv_of_nonneg _ (by exact_mod_cast Nat.zero_le (2 ^ n))]
    rfl) k
end
def pickK (s k : Nat) : List Int := ((List.range k).filter fun i => s.testBit i).map fun i : Nat => (i : Int)
theorem pickK_succ (s k : Nat) : pickK s (k + 1) = if s.testBit k = true then pickK s k ++ [(k : Int)] else pickK s k := by
  unfold pickK; rw [List.range_succ, List.filter_append, List.map_append, List.filter_cons, List.filter_nil]
  by_cases e : s.testBit k = true
  · rw [if_pos e, if_pos e]; rfl
  · rw [if_neg e, if_neg e]; simp
theorem pickK_len (s k : Nat) : (pickK s k).length ≤ k := by
  unfold pickK; rw [List.length_map]; exact Nat.le_trans (List.length_filter_le _ _) (by simp)
theorem pickK_in {s k : Nat} {v : Int} (h : v ∈ pickK s k) : 0 ≤ v ∧ v < (k : Int) := by
  obtain ⟨i, hi, rfl⟩ := List.mem_map.1 h; have := (List.mem_filter.1 hi).1; rw [List.mem_range] at this
  omega
theorem take_push {cur : Array Value} {k : Nat} {v : Value} (hk : k < cur.size) : (cur.setIfInBounds k v).toList.take (k + 1) = cur.toList.take k ++ [v] := by
  rw [Array.toList_setIfInBounds, List.take_succ_eq_append_getElem (by simpa using hk), List.take_set_of_le (Nat.le_refl _)]
  simp
theorem bold_cards_list_meets (s n : Nat) (hs : s < 18446744073709551616) (hn : n ≤ 60) : Meets Tryz.prog F.bold_cards_list [.int .u64 (s : Int), int n] { inv := fun _ : Nat => True, val := fun g => .slice (some ⟨g, 0, none⟩) (pickK s n).length (pickK s n).length, LO := fun g => [Row (some ⟨g, 0, none⟩) (rows (pickK s n))] } := by
 refine meets_intro F.bold_cards_list_f rfl (Nat.le_of_ble_eq_true rfl) fun w0 => ?_; refine hc_seq (hc_region (r_assign rfl rfl (hl_nil (then_n (hc_seq (hc_region (r_move rfl rfl ?_))))))); refine r_make1 (n := n) (bytes := 8) (z := int 0) rfl T.u_ints (by kernel_rfl) rfl rfl rfl rfl (by omega) (by omega) fun ga => ?_; refine r_assign rfl rfl (hl_nil (then_n (hc_seq (hc_region (r_assign rfl rfl (hl_nil (then_n (hc_seq (hc_seq (hc_region (r_move rfl rfl ?_))))))))))); refine r_move rfl rfl (hl_nil (then_n (hc_block ?_))); refine hc_loop (β := Nat × Array Value) ⟨fun x => x.1 ≤ n ∧ x.2.size = n ∧ x.2.toList.take (pickK s x.1).length = rows (pickK s x.1), fun x => [(0, .int .u64 (s : Int)), (5, .slice (some ⟨ga, 0, none⟩) n n), (6, int (pickK s x.1).length), (11, int n), (12, int x.1)], fun x => [(ga, .cells x.2 T.int (0, 0))], fun _ => []⟩ (fun x => n - x.1) (0, (List.replicate n (int 0)).toArray) ⟨Nat.zero_le _, by simp, by simp [pickK]; rfl⟩ ⟨rfl, rfl, rfl, rfl, rfl, trivial⟩ (.refl _) trivial fun x hx => ?_; obtain ⟨i, cur⟩ := x; obtain ⟨hi, hcs, hct⟩ := hx; simp only at hi hcs hct; have hpl := pickK_len s i; refine hc_seq (hc_region (r_lss rfl rfl rfl (hl_nil (then_n (hc_seq ?_))))); refine c_dec rfl (fun hb1 => ?_) (fun hb1 => ?_)
 ·have hb1' := hb1; try simp at hb1'
  have hi2 : i < n := by omega
  refine hc_skip (then_n (hc_seq (hc_block (hc_seq (hc_region (r_move rfl rfl (r_assign rfl rfl (hl_nil (then_n (hc_seq (hc_region ?_))))))))))); refine r_move rfl rfl (r_move rfl rfl ?_); refine r_shr64 i rfl rfl rfl rfl (by omega) ?_; refine r_and64 (b := 1) rfl rfl rfl (Nat.lt_of_le_of_lt (Nat.div_le_self _ _) hs) (by omega) ?_; refine r_eql rfl rfl rfl (hl_nil (then_n ?_)); refine c_dec rfl (fun hb2 => ?_) (fun hb2 => ?_)
  ·have hb2' := hb2; try simp at hb2'
   have hbt : s.testBit i = true := by rw [← bit_of]; exact decide_eq_true hb2
   have hlt : (pickK s i).length < cur.size := by omega
   refine hc_seq (hc_region (r_move rfl rfl (r_move rfl rfl (r_move rfl rfl ?_)))); refine r_indexAddr_own (pickK s i).length (pickK s i).length rfl T.u_ints T.sz_int rfl rfl rfl (by omega) (by omega) ?_; refine r_store (u := cur[(pickK s i).length]'hlt) rfl rfl (.refl _) T.sz_int (Array.getElem?_eq_getElem hlt) rfl ?_; refine hl_nil (then_n (hc_region (r_move rfl rfl ?_))); refine r_add (((pickK s i).length : Int) + 1) rfl rfl rfl rfl (by unfold I64; omega) ?_; refine r_assign rfl rfl (hl_nil (inb_n (then_n (hc_region ?_)))); refine r_add _ rfl rfl rfl rfl (by unfold I64; omega) ?_; refine r_move rfl rfl (hl_nil ?_); exact again _ (i + 1, cur.setIfInBounds (pickK s i).length (int i)) ⟨by show i + 1 ≤ n; omega, by show (cur.setIfInBounds _ _).size = n; rw [Array.size_setIfInBounds]; exact hcs, by show (cur.setIfInBounds (pickK s i).length (int i)).toList.take (pickK s (i + 1)).length = rows (pickK s (i + 1)); rw [pickK_succ, if_pos hbt, List.length_append, List.length_singleton, take_push (by omega), hct, rows_append]; rfl⟩ (by show n - (i + 1) < n - i; omega) ⟨rfl, rfl, by show some (int (((pickK s i).length : Int) + 1)) = some (int ((pickK s (i + 1)).length : Int)); rw [pickK_succ, if_pos hbt, List.length_append]; rfl, rfl, rfl, trivial⟩ (.refl _) trivial
  ·have hb2' := hb2; try simp at hb2'
   have hbt : ¬ s.testBit i = true := by rw [← bit_of, decide_eq_true_eq]; exact hb2
   refine hc_skip (inb_n (then_n (hc_region ?_))); refine r_add _ rfl rfl rfl rfl (by unfold I64; omega) ?_; refine r_move rfl rfl (hl_nil ?_); exact again _ (i + 1, cur) ⟨by show i + 1 ≤ n; omega, hcs, by show cur.toList.take (pickK s (i + 1)).length = rows (pickK s (i + 1)); rw [pickK_succ, if_neg hbt]; exact hct⟩ (by show n - (i + 1) < n - i; omega) ⟨rfl, rfl, by show some (int ((pickK s i).length : Int)) = some (int ((pickK s (i + 1)).length : Int)); rw [pickK_succ, if_neg hbt], rfl, rfl, trivial⟩ (.refl _) trivial
 ·have hb1' := hb1; try simp at hb1'
  obtain rfl : i = n := by omega
  refine hc_exit (then_exit (then_exit (inb_hit (then_n (hc_seq (hc_region (r_move rfl rfl ?_))))))); refine r_make1 (n := (pickK s i).length) (bytes := 8) (z := int 0) rfl T.u_ints (by kernel_rfl) rfl rfl rfl rfl (by omega) (by omega) fun gb => ?_; refine r_assign rfl rfl (hl_nil (then_n (hc_seq (hc_region (r_move rfl rfl (r_move rfl rfl ?_)))))); refine r_copy (cs := rows (pickK s i)) rfl T.u_ints T.sz_int rfl rfl (.refl _) (by rw [rows_len]; show _ * 1 = min _ _; omega) (cells_own (by repeat constructor) fun j u hu => ?_) (by rw [rows_len]; simp; exact Nat.le_of_eq (Nat.mul_one _)) (rows_one _) ?_
  · rw [← hct, List.getElem?_take] at hu
    split at hu
    · rw [Nat.zero_add]; simpa using hu
    · cases hu
  refine hl_nil (then_n (hc_seq (hc_region (r_move rfl rfl (r_assign rfl rfl (hl_nil (then_n (hc_ret ?_)))))))); refine hq_letgo (rows (pickK s i)) (by simp) ?_; exact ret1 gb rfl rfl rfl trivial (List.nil_sublist _) ⟨m0, trivial⟩
end Go.Proofs.YtdlbbfcfahahdaaGreat
end
section
namespace Go.Proofs.YtdlbbfcfahahdaaGreat
open Go Go.W
set_option maxRecDepth 20000
attribute [local irreducible] HL HC HQ HB Row Rows2 Blk Facts
abbrev Cd := Int × Int
instance : El Cd where
  default := (0, 0)
  cells x := [int x.1, int x.2]
  sz := 2
  len _ := rfl
  one a u h := by simp at h; rcases h with h | h <;> subst h <;> rfl
abbrev Hv := Sl Int × Int × Int
instance : El Hv where
  default := (⟨none, 0, []⟩, 0, 0)
  cells x := [.slice x.1.a x.1.l.length x.1.c, int x.2.1, int x.2.2]
  sz := 3
  len _ := rfl
  one a u h := by simp at h; rcases h with h | h | h <;> subst h <;> rfl
abbrev Hn := List Int × Int × Int
def Hv.dat (x : Hv) : Hn := (x.1.l, x.2.1, x.2.2)
abbrev Hv.row (x : Hv) : Fact := Row x.1.a (rows x.1.l)
abbrev Hv.v (x : Hv) : Value := .agg #[.slice x.1.a x.1.l.length x.1.c, int x.2.1, int x.2.2]
theorem nbg {p : Prop} [Decidable p] (h : ((!decide p) == false) = true) : p := by simpa using h
theorem nbg2 {p : Prop} [Decidable p] (h : ((!decide p) == false) = false) : ¬ p := by simpa using h
def cdB (x : Cd) : Prop := (1 ≤ x.1 ∧ x.1 ≤ 20) ∧ (0 ≤ x.2 ∧ x.2 ≤ 999)
instance (x : Cd) : Decidable (cdB x) := by unfold cdB; infer_instance
def cardsE (l : List Cd) (room : Int) : Int := if 8 < l.length then 6 else if ¬ ∀ x ∈ l, cdB x then 1 else if ¬ (0 ≤ room ∧ room ≤ 60) then 1 else 0
def ordF (x y : Hn) : Int := orL [cmpI y.2.2 x.2.2, cmpI y.2.1 x.2.1, cmpIs x.1 y.1]
def ordX (x y : Hn) : Int := orL [cmpI x.1.length y.1.length, cmpIs x.1 y.1]
def ordP (x y : Hn) : Int := orL [cmpI x.2.2 y.2.2, cmpI x.1.length y.1.length, cmpIs x.1 y.1]
theorem bold_cardsError_meets {A : Option Addr} {c : Nat} (l : List Cd) (room : Int) (hn : l.length ≤ 1000000) : Meets Tryz.prog F.bold_cardsError [.slice A l.length c, int room] { LI := [Row A (rows l)], val := fun _ : Unit => int (cardsE l room) } := by
 refine meets_intro F.bold_cardsError_f rfl (Nat.le_of_ble_eq_true rfl) fun w0 => ?_; refine hc_seq (hc_region (r_assign rfl rfl (hl_nil (then_n (hc_seq (hc_seq (hc_region (r_move rfl rfl ?_)))))))); refine r_len_sl rfl T.u_L_api_Card rfl ?_; refine r_gtr rfl rfl rfl (hl_nil (then_n ?_))
 first | refine c_dec rfl (fun hb1 => ?_) (fun hb1 => ?_) | refine hc_cond rfl (fun hb1 => ?_) (fun hb1 => ?_)
 ·have hb1' := hb1; try simp at hb1'
  refine hc_seq (hc_region (r_assign rfl rfl (hl_nil (then_n (hc_ret (then_ret ?_)))))); exact ret1 () rfl (by show some _ = some (int (cardsE l room)); unfold cardsE; rw [if_pos (by omega)]) rfl trivial (List.nil_sublist _) trivial
 ·have hb1' := hb1; try simp at hb1'
  refine hc_skip (then_n (hc_seq (hc_seq (hc_region (r_move rfl rfl ?_))))); refine r_len_sl rfl T.u_L_api_Card rfl ?_; refine r_move rfl rfl (hl_nil (then_n (hc_block ?_))); refine hc_loop (β := Nat) ⟨fun k => k ≤ l.length ∧ ∀ j, j < k → cdB (l.getD j default), fun k => [(1, int room), (10, .slice A l.length c), (11, int l.length), (12, int k)], fun _ => [], fun _ => [Row A (rows l)]⟩ (fun k => l.length - k) 0 ⟨Nat.zero_le _, fun j hj => absurd hj (Nat.not_lt_zero j)⟩ ⟨rfl, rfl, rfl, rfl, trivial⟩ (List.nil_sublist _) ⟨mB, trivial⟩ fun k hk => ?_; obtain ⟨hk, hq⟩ := hk; refine hc_seq (hc_region (r_lss rfl rfl rfl (hl_nil (then_n (hc_seq ?_)))))
  first | refine c_dec rfl (fun hb2 => ?_) (fun hb2 => ?_) | refine hc_cond rfl (fun hb2 => ?_) (fun hb2 => ?_)
  ·have hb2' := hb2; try simp at hb2'
   have hk2 : k < l.length := by omega
   refine hc_skip (then_n (hc_seq (hc_block (hc_seq (hc_region ?_))))); refine r_elem (α := Cd) _ _ rfl T.u_L_api_Card T.sz_api_Card rfl rfl rfl mB rfl (by omega) (by decide) ?_; refine r_loadS rfl T.row_api_Card T.sz_api_Card rfl rfl (cells_row mB (rows_all (by omega))) ?_; refine r_alloc rfl (fun _ => T.al_api_Card _) fun gA => ?_; refine r_storeS rfl rfl (by first | exact .refl _ | exact perm2 _ _ _ | exact perm3 _ _ _ _ | exact perm4 _ _ _ _ _) T.sz_api_Card (by rfl) (by rfl) ?_; refine hl_nil (then_n (hc_seq (hc_region ?_)))
   first | refine r_fieldAddr ⟨_, 0, none⟩ rfl rfl T.fa_api_Card_0 rfl ?_ | refine r_fieldAddr _ rfl rfl T.fa_api_Card_0 rfl ?_
   first | refine r_load rfl T.cell_int rfl (cell_own mB rfl) ?_ | refine r_load rfl T.cell_int rfl (cell_blk mB rfl) ?_ | refine r_load rfl T.cell_int rfl (cell_row mB (rows_get0 (by omega) rfl)) ?_ | refine r_load rfl T.cell_int rfl (cell_row_f mB (rows_get (by omega) rfl)) ?_ | refine r_load rfl T.cell_int rfl (cell_rowg mB rfl) ?_
   refine hl_call F.bold_between_cb rfl rfl (bold_between_meets _ _ _) (List.Perm.refl _) trivial fun _ _ => ?_; refine r_not rfl rfl (r_move rfl rfl ?_); refine g_split rfl rfl ?_ ?_
   ·intro hg1; have hg1' := hg1; try simp at hg1'
    refine g_yes rfl rfl hg1 ?_
    first | refine r_fieldAddr ⟨_, 1, none⟩ rfl rfl T.fa_api_Card_1 rfl ?_ | refine r_fieldAddr _ rfl rfl T.fa_api_Card_1 rfl ?_
    refine g_yes rfl rfl hg1 ?_
    first | refine r_load rfl T.cell_int rfl (cell_own mB rfl) ?_ | refine r_load rfl T.cell_int rfl (cell_blk mB rfl) ?_ | refine r_load rfl T.cell_int rfl (cell_row mB (rows_get0 (by omega) rfl)) ?_ | refine r_load rfl T.cell_int rfl (cell_row_f mB (rows_get (by omega) rfl)) ?_ | refine r_load rfl T.cell_int rfl (cell_rowg mB rfl) ?_
    refine g_yes rfl rfl hg1 ?_; refine hl_call F.bold_between_cb rfl rfl (bold_between_meets _ _ _) (List.Perm.refl _) trivial fun _ _ => ?_; refine g_yes rfl rfl hg1 (r_not rfl rfl ?_); refine p_f rfl rfl (bf1 hg1) rfl ?_; refine hl_nil (then_n ?_)
    first | refine c_dec rfl (fun hb3 => ?_) (fun hb3 => ?_) | refine hc_cond rfl (fun hb3 => ?_) (fun hb3 => ?_)
    ·have hb3' := hb3; try simp at hb3'
     refine hc_seq (hc_region (r_assign rfl rfl (hl_nil (then_n (hc_ret (inb_ret (then_ret (then_ret (inb_ret (then_ret ?_)))))))))); exact ret1 () rfl (by show some _ = some (int (cardsE l room)); unfold cardsE; rw [if_neg (by omega), if_pos (nall_at (p := cdB) hk2 fun e => nbt hb3 e.2)]) rfl trivial (List.nil_sublist _) trivial
    ·have hb3' := hb3; try simp at hb3'
     refine hc_skip (inb_n (then_n (hc_region ?_))); refine r_add _ rfl rfl rfl rfl (by unfold I64; omega) ?_; refine r_move rfl rfl (hl_nil ?_); exact again _ (k + 1) ⟨by show k + 1 ≤ l.length; omega, fun j hj => (Nat.lt_succ_iff_lt_or_eq.1 hj).elim (hq j) fun e => by subst e; exact ⟨nbg hg1, nbf hb3⟩⟩ (by show l.length - (k + 1) < l.length - k; omega) ⟨rfl, rfl, rfl, rfl, trivial⟩ (List.nil_sublist _) ⟨mB, trivial⟩
   ·intro hg1; have hg1' := hg1; try simp at hg1'
    refine g_no rfl rfl rfl rfl rfl hg1 (g_no rfl rfl rfl rfl rfl hg1 (g_no rfl rfl rfl rfl rfl hg1 (g_no rfl rfl rfl rfl rfl hg1 ?_))); refine p_t rfl rfl (bt2 hg1) rfl ?_; refine hl_nil (then_n (c_t rfl rfl (hc_seq (hc_region (r_assign rfl rfl (hl_nil (then_n (hc_ret (inb_ret (then_ret (then_ret ?_))))))))))); refine inb_ret (then_ret ?_); exact ret1 () rfl (by show some _ = some (int (cardsE l room)); unfold cardsE; rw [if_neg (by omega), if_pos (nall_at (p := cdB) hk2 fun e => nbg2 hg1 e.1)]) rfl trivial (List.nil_sublist _) trivial
  ·have hb2' := hb2; try simp at hb2'
   obtain rfl : k = l.length := by omega
   have hq := all_take (l := l) (p := cdB) hq; refine hc_exit (then_exit (then_exit (inb_hit (then_n (hc_seq (hc_seq (hc_region (r_move rfl rfl ?_)))))))); refine hl_call F.bold_between_cb rfl rfl (bold_between_meets _ _ _) (List.Perm.refl _) trivial fun _ _ => ?_; refine r_not rfl rfl (hl_nil (then_n ?_))
   first | refine c_dec rfl (fun hb4 => ?_) (fun hb4 => ?_) | refine hc_cond rfl (fun hb4 => ?_) (fun hb4 => ?_)
   ·have hb4' := hb4; try simp at hb4'
    refine hc_seq (hc_region (r_assign rfl rfl (hl_nil (then_n (hc_ret (then_ret ?_)))))); exact ret1 () rfl (by show some _ = some (int (cardsE l room)); unfold cardsE; rw [if_neg (by omega), if_neg (Classical.not_not.2 hq), if_pos (nbt hb4)]) rfl trivial (List.nil_sublist _) trivial
   ·have hb4' := hb4; try simp at hb4'
    refine hc_skip (then_n (hc_seq (hc_region (r_assign rfl rfl (hl_nil (then_n (hc_ret ?_))))))); exact ret1 () rfl (by show some _ = some (int (cardsE l room)); unfold cardsE; rw [if_neg (by omega), if_neg (Classical.not_not.2 hq), if_neg (Classical.not_not.2 (nbf hb4))]) rfl trivial (List.nil_sublist _) trivial
theorem bold_Fill_1_meets (x y : Hv) (hx : x.1.l.length ≤ 1000000) (hy : y.1.l.length ≤ 1000000) : Meets Tryz.prog F.bold_Fill_1 [x.v, y.v] { LI := [x.row, y.row], val := fun _ : Unit => int (ordF x.dat y.dat) } := by
 refine meets_intro F.bold_Fill_1_f rfl (Nat.le_of_ble_eq_true rfl) fun w0 => ?_; refine hc_seq (hc_region ?_); refine r_box rfl rfl fun gT => ?_; refine r_box rfl rfl fun gB => ?_; refine r_assign rfl rfl (hl_nil (then_n (hc_seq ?_))); refine hc_draw 14 mixed (by decide) (by decide) rfl rfl ?_
 apply hb_ex _ rfl rfl rfl
 ·intro w1
  first | refine r_fieldAddr ⟨_, 2, none⟩ rfl rfl T.fa_bold_hand_2 rfl ?_ | refine r_fieldAddr _ rfl rfl T.fa_bold_hand_2 rfl ?_
  refine hl_nil ?_; exact qe_done rfl
 apply hb_ex _ rfl rfl rfl
 ·intro w1
  first | refine r_load rfl T.cell_int rfl (cell_blk mB rfl) ?_ | refine r_load rfl T.cell_int rfl (cell_own mB rfl) ?_ | refine r_load rfl T.cell_int rfl (cell_row mB (rows_get0 (by omega) rfl)) ?_ | refine r_load rfl T.cell_int rfl (cell_row_f mB (rows_get (by omega) rfl)) ?_ | refine r_load rfl T.cell_int rfl (cell_rowg mB rfl) ?_
  refine hl_nil ?_; exact qe_done rfl
 apply hb_ex _ rfl rfl rfl
 ·intro w1
  first | refine r_fieldAddr ⟨_, 2, none⟩ rfl rfl T.fa_bold_hand_2 rfl ?_ | refine r_fieldAddr _ rfl rfl T.fa_bold_hand_2 rfl ?_
  refine hl_nil ?_; exact qe_done rfl
 apply hb_ex _ rfl rfl rfl
 ·intro w1
  first | refine r_load rfl T.cell_int rfl (cell_blk mB rfl) ?_ | refine r_load rfl T.cell_int rfl (cell_own mB rfl) ?_ | refine r_load rfl T.cell_int rfl (cell_row mB (rows_get0 (by omega) rfl)) ?_ | refine r_load rfl T.cell_int rfl (cell_row_f mB (rows_get (by omega) rfl)) ?_ | refine r_load rfl T.cell_int rfl (cell_rowg mB rfl) ?_
  refine hl_nil ?_; exact qe_done rfl
 refine hb_ex _ rfl rfl rfl (fun w1 => hl_call F.cmp_Compare_int_cb rfl rfl (cmp_Compare_int_meets _ _) (List.Perm.refl _) trivial fun _ _ => (hl_nil (qe_done rfl))) ?_
 apply hb_ex _ rfl rfl rfl
 ·intro w1
  first | refine r_fieldAddr ⟨_, 1, none⟩ rfl rfl T.fa_bold_hand_1 rfl ?_ | refine r_fieldAddr _ rfl rfl T.fa_bold_hand_1 rfl ?_
  refine hl_nil ?_; exact qe_done rfl
 apply hb_ex _ rfl rfl rfl
 ·intro w1
  first | refine r_load rfl T.cell_int rfl (cell_blk mB rfl) ?_ | refine r_load rfl T.cell_int rfl (cell_own mB rfl) ?_ | refine r_load rfl T.cell_int rfl (cell_row mB (rows_get0 (by omega) rfl)) ?_ | refine r_load rfl T.cell_int rfl (cell_row_f mB (rows_get (by omega) rfl)) ?_ | refine r_load rfl T.cell_int rfl (cell_rowg mB rfl) ?_
  refine hl_nil ?_; exact qe_done rfl
 apply hb_ex _ rfl rfl rfl
 ·intro w1
  first | refine r_fieldAddr ⟨_, 1, none⟩ rfl rfl T.fa_bold_hand_1 rfl ?_ | refine r_fieldAddr _ rfl rfl T.fa_bold_hand_1 rfl ?_
  refine hl_nil ?_; exact qe_done rfl
 apply hb_ex _ rfl rfl rfl
 ·intro w1
  first | refine r_load rfl T.cell_int rfl (cell_blk mB rfl) ?_ | refine r_load rfl T.cell_int rfl (cell_own mB rfl) ?_ | refine r_load rfl T.cell_int rfl (cell_row mB (rows_get0 (by omega) rfl)) ?_ | refine r_load rfl T.cell_int rfl (cell_row_f mB (rows_get (by omega) rfl)) ?_ | refine r_load rfl T.cell_int rfl (cell_rowg mB rfl) ?_
  refine hl_nil ?_; exact qe_done rfl
 refine hb_ex _ rfl rfl rfl (fun w1 => hl_call F.cmp_Compare_int_cb rfl rfl (cmp_Compare_int_meets _ _) (List.Perm.refl _) trivial fun _ _ => (hl_nil (qe_done rfl))) ?_
 apply hb_ex _ rfl rfl rfl
 ·intro w1
  first | refine r_fieldAddr ⟨_, 0, none⟩ rfl rfl T.fa_bold_hand_0 rfl ?_ | refine r_fieldAddr _ rfl rfl T.fa_bold_hand_0 rfl ?_
  refine hl_nil ?_; exact qe_done rfl
 apply hb_ex _ rfl rfl rfl
 ·intro w1
  first | refine r_load rfl T.cell_ints rfl (cell_blk mB rfl) ?_ | refine r_load rfl T.cell_ints rfl (cell_own mB rfl) ?_ | refine r_load rfl T.cell_ints rfl (cell_row mB (rows_get0 (by omega) rfl)) ?_ | refine r_load rfl T.cell_ints rfl (cell_row_f mB (rows_get (by omega) rfl)) ?_ | refine r_load rfl T.cell_ints rfl (cell_rowg mB rfl) ?_
  refine hl_nil ?_; exact qe_done rfl
 apply hb_ex _ rfl rfl rfl
 ·intro w1
  first | refine r_fieldAddr ⟨_, 0, none⟩ rfl rfl T.fa_bold_hand_0 rfl ?_ | refine r_fieldAddr _ rfl rfl T.fa_bold_hand_0 rfl ?_
  refine hl_nil ?_; exact qe_done rfl
 apply hb_ex _ rfl rfl rfl
 ·intro w1
  first | refine r_load rfl T.cell_ints rfl (cell_blk mB rfl) ?_ | refine r_load rfl T.cell_ints rfl (cell_own mB rfl) ?_ | refine r_load rfl T.cell_ints rfl (cell_row mB (rows_get0 (by omega) rfl)) ?_ | refine r_load rfl T.cell_ints rfl (cell_row_f mB (rows_get (by omega) rfl)) ?_ | refine r_load rfl T.cell_ints rfl (cell_rowg mB rfl) ?_
  refine hl_nil ?_; exact qe_done rfl
 refine hb_nil ⟨rfl, ?_⟩; refine hl_call F.slices_Compare_ints_cb rfl rfl (slices_Compare_ints_meets x.1.l y.1.l hx) (List.Perm.refl _) ⟨mB, mB, trivial⟩ fun _ _ => ?_; refine r_buildSlice _ rfl rfl (fun _ => T.bs_ints_3 ..) fun gS => ?_; refine hl_letgo (rows [cmpI y.2.2 x.2.2, cmpI y.2.1 x.2.1, cmpIs x.1.l y.1.l]) (List.prefix_refl _) ?_; refine hl_call F.cmp_Or_int_cb rfl rfl (cmp_Or_int_meets [cmpI y.2.2 x.2.2, cmpI y.2.1 x.2.1, cmpIs x.1.l y.1.l] (by simp)) (List.Perm.refl _) ⟨mB, trivial⟩ fun _ _ => ?_; refine r_assign rfl rfl (hl_nil (then_n (hc_ret ?_))); exact ret1 () rfl (by show some _ = some (int (ordF x.dat y.dat)); rfl) rfl trivial (List.nil_sublist _) trivial
theorem bold_Found_1_meets (x y : Hv) (hx : x.1.l.length ≤ 1000000) (hy : y.1.l.length ≤ 1000000) : Meets Tryz.prog F.bold_Found_1 [x.v, y.v] { LI := [x.row, y.row], val := fun _ : Unit => int (ordP x.dat y.dat) } := by
 refine meets_intro F.bold_Found_1_f rfl (Nat.le_of_ble_eq_true rfl) fun w0 => ?_; refine hc_seq (hc_region ?_); refine r_box rfl rfl fun gT => ?_; refine r_box rfl rfl fun gB => ?_; refine r_assign rfl rfl (hl_nil (then_n (hc_seq ?_))); refine hc_draw 16 mixed (by decide) (by decide) rfl rfl ?_
 apply hb_ex _ rfl rfl rfl
 ·intro w1
  first | refine r_fieldAddr ⟨_, 2, none⟩ rfl rfl T.fa_bold_hand_2 rfl ?_ | refine r_fieldAddr _ rfl rfl T.fa_bold_hand_2 rfl ?_
  refine hl_nil ?_; exact qe_done rfl
 apply hb_ex _ rfl rfl rfl
 ·intro w1
  first | refine r_load rfl T.cell_int rfl (cell_blk mB rfl) ?_ | refine r_load rfl T.cell_int rfl (cell_own mB rfl) ?_ | refine r_load rfl T.cell_int rfl (cell_row mB (rows_get0 (by omega) rfl)) ?_ | refine r_load rfl T.cell_int rfl (cell_row_f mB (rows_get (by omega) rfl)) ?_ | refine r_load rfl T.cell_int rfl (cell_rowg mB rfl) ?_
  refine hl_nil ?_; exact qe_done rfl
 apply hb_ex _ rfl rfl rfl
 ·intro w1
  first | refine r_fieldAddr ⟨_, 2, none⟩ rfl rfl T.fa_bold_hand_2 rfl ?_ | refine r_fieldAddr _ rfl rfl T.fa_bold_hand_2 rfl ?_
  refine hl_nil ?_; exact qe_done rfl
 apply hb_ex _ rfl rfl rfl
 ·intro w1
  first | refine r_load rfl T.cell_int rfl (cell_blk mB rfl) ?_ | refine r_load rfl T.cell_int rfl (cell_own mB rfl) ?_ | refine r_load rfl T.cell_int rfl (cell_row mB (rows_get0 (by omega) rfl)) ?_ | refine r_load rfl T.cell_int rfl (cell_row_f mB (rows_get (by omega) rfl)) ?_ | refine r_load rfl T.cell_int rfl (cell_rowg mB rfl) ?_
  refine hl_nil ?_; exact qe_done rfl
 refine hb_ex _ rfl rfl rfl (fun w1 => hl_call F.cmp_Compare_int_cb rfl rfl (cmp_Compare_int_meets _ _) (List.Perm.refl _) trivial fun _ _ => (hl_nil (qe_done rfl))) ?_
 apply hb_ex _ rfl rfl rfl
 ·intro w1
  first | refine r_fieldAddr ⟨_, 0, none⟩ rfl rfl T.fa_bold_hand_0 rfl ?_ | refine r_fieldAddr _ rfl rfl T.fa_bold_hand_0 rfl ?_
  refine hl_nil ?_; exact qe_done rfl
 apply hb_ex _ rfl rfl rfl
 ·intro w1
  first | refine r_load rfl T.cell_ints rfl (cell_blk mB rfl) ?_ | refine r_load rfl T.cell_ints rfl (cell_own mB rfl) ?_ | refine r_load rfl T.cell_ints rfl (cell_row mB (rows_get0 (by omega) rfl)) ?_ | refine r_load rfl T.cell_ints rfl (cell_row_f mB (rows_get (by omega) rfl)) ?_ | refine r_load rfl T.cell_ints rfl (cell_rowg mB rfl) ?_
  refine hl_nil ?_; exact qe_done rfl
 refine hb_ex _ rfl rfl rfl (fun w1 => r_len_sl rfl T.u_ints rfl (hl_nil (qe_done rfl))) ?_
 apply hb_ex _ rfl rfl rfl
 ·intro w1
  first | refine r_fieldAddr ⟨_, 0, none⟩ rfl rfl T.fa_bold_hand_0 rfl ?_ | refine r_fieldAddr _ rfl rfl T.fa_bold_hand_0 rfl ?_
  refine hl_nil ?_; exact qe_done rfl
 apply hb_ex _ rfl rfl rfl
 ·intro w1
  first | refine r_load rfl T.cell_ints rfl (cell_blk mB rfl) ?_ | refine r_load rfl T.cell_ints rfl (cell_own mB rfl) ?_ | refine r_load rfl T.cell_ints rfl (cell_row mB (rows_get0 (by omega) rfl)) ?_ | refine r_load rfl T.cell_ints rfl (cell_row_f mB (rows_get (by omega) rfl)) ?_ | refine r_load rfl T.cell_ints rfl (cell_rowg mB rfl) ?_
  refine hl_nil ?_; exact qe_done rfl
 refine hb_ex _ rfl rfl rfl (fun w1 => r_len_sl rfl T.u_ints rfl (hl_nil (qe_done rfl))) ?_; refine hb_ex _ rfl rfl rfl (fun w1 => hl_call F.cmp_Compare_int_cb rfl rfl (cmp_Compare_int_meets _ _) (List.Perm.refl _) trivial fun _ _ => (hl_nil (qe_done rfl))) ?_
 apply hb_ex _ rfl rfl rfl
 ·intro w1
  first | refine r_fieldAddr ⟨_, 0, none⟩ rfl rfl T.fa_bold_hand_0 rfl ?_ | refine r_fieldAddr _ rfl rfl T.fa_bold_hand_0 rfl ?_
  refine hl_nil ?_; exact qe_done rfl
 apply hb_ex _ rfl rfl rfl
 ·intro w1
  first | refine r_load rfl T.cell_ints rfl (cell_blk mB rfl) ?_ | refine r_load rfl T.cell_ints rfl (cell_own mB rfl) ?_ | refine r_load rfl T.cell_ints rfl (cell_row mB (rows_get0 (by omega) rfl)) ?_ | refine r_load rfl T.cell_ints rfl (cell_row_f mB (rows_get (by omega) rfl)) ?_ | refine r_load rfl T.cell_ints rfl (cell_rowg mB rfl) ?_
  refine hl_nil ?_; exact qe_done rfl
 apply hb_ex _ rfl rfl rfl
 ·intro w1
  first | refine r_fieldAddr ⟨_, 0, none⟩ rfl rfl T.fa_bold_hand_0 rfl ?_ | refine r_fieldAddr _ rfl rfl T.fa_bold_hand_0 rfl ?_
  refine hl_nil ?_; exact qe_done rfl
 apply hb_ex _ rfl rfl rfl
 ·intro w1
  first | refine r_load rfl T.cell_ints rfl (cell_blk mB rfl) ?_ | refine r_load rfl T.cell_ints rfl (cell_own mB rfl) ?_ | refine r_load rfl T.cell_ints rfl (cell_row mB (rows_get0 (by omega) rfl)) ?_ | refine r_load rfl T.cell_ints rfl (cell_row_f mB (rows_get (by omega) rfl)) ?_ | refine r_load rfl T.cell_ints rfl (cell_rowg mB rfl) ?_
  refine hl_nil ?_; exact qe_done rfl
 refine hb_nil ⟨rfl, ?_⟩; refine hl_call F.slices_Compare_ints_cb rfl rfl (slices_Compare_ints_meets x.1.l y.1.l hx) (List.Perm.refl _) ⟨mB, mB, trivial⟩ fun _ _ => ?_; refine r_buildSlice _ rfl rfl (fun _ => T.bs_ints_3 ..) fun gS => ?_; refine hl_letgo (rows [cmpI x.2.2 y.2.2, cmpI x.1.l.length y.1.l.length, cmpIs x.1.l y.1.l]) (List.prefix_refl _) ?_; refine hl_call F.cmp_Or_int_cb rfl rfl (cmp_Or_int_meets [cmpI x.2.2 y.2.2, cmpI x.1.l.length y.1.l.length, cmpIs x.1.l y.1.l] (by simp)) (List.Perm.refl _) ⟨mB, trivial⟩ fun _ _ => ?_; refine r_assign rfl rfl (hl_nil (then_n (hc_ret ?_))); exact ret1 () rfl (by show some _ = some (int (ordP x.dat y.dat)); rfl) rfl trivial (List.nil_sublist _) trivial
end Go.Proofs.YtdlbbfcfahahdaaGreat
end
section
namespace Go.Proofs.YtdlbbfcfahahdaaGreat
open Go Go.W
set_option maxRecDepth 20000
attribute [local irreducible] HL HC HQ HB Row Rows2 Blk Facts
section
variable {c : Cx} {Q : Exit → Act → World → Prop} {fr : Fr} {hp : Hp} {L : List Fact} {ops : Array Oper} {rest : List Oper}
variable {d : Tmp} {ty : TypeId} {pos : String} {af : Array Edge}
theorem r_shl1 {t yt : TypeId} {x y : Operand} {ky : IntKind} {z : Int} (n N : Nat) (hN : N = 2 ^ n) (hd : Nat.blt d c.n = true) (hx : ev fr x = some (int 1)) (hy : ev fr y = some (.int ky z)) (hz : z = (n : Int)) (hn : n < 60) (k : HL c ops Q rest ((d, int (N : Int)) :: fr) hp L) :
    HL c ops Q (⟨some d, .binOp .shl t x y yt, ty, pos, af, none⟩ :: rest) fr hp L :=
  r_bin _ hd hx hy (fun _ => rfl) (fun w => by
    subst hz; subst hN; show (Op.shift .shl .i64 1 ky (n : Int)).run c.P w = _; have hl : 2 ^ n < 2 ^ 60 := Nat.pow_lt_pow_right (by omega) hn; have hm : min ((n : Int).toNat) (IntKind.i64.bits) = n := by show min ((n : Int).toNat) 64 = n; omega
    have hw : IntKind.i64.wrap ((2 ^ n : Nat) : Int) = ((2 ^ n : Nat) : Int) := by
      generalize 2 ^ n = q at hl; simp only [IntKind.wrap, IntKind.bits, IntKind.signed]
      simp
      omega
    simp only [Op.shift]; rw [if_neg (by omega), hm, Int.one_mul, show ((2 : Int) ^ n) = ((2 ^ n : Nat) : Int) by simp, hw]
    rfl) k
end
def linL (cs : List Cd) (ks : List Int) : List Int := ks.map fun v => (cs.getD v.toNat default).1
def priL (cs : List Cd) (ks : List Int) : List Int := ks.map fun v => (cs.getD v.toNat default).2
def handK (cs : List Cd) (s : Nat) : Hn := (pickK s cs.length, (linL cs (pickK s cs.length)).sum, (priL cs (pickK s cs.length)).sum)
def handsK (cs : List Cd) (room : Int) (k : Nat) : List Hn := ((List.range k).map (handK cs)).filter fun x => decide (x.2.1 ≤ room)
theorem handsK_succ (cs : List Cd) (room : Int) (k : Nat) : handsK cs room (k + 1) = if (handK cs k).2.1 ≤ room then handsK cs room k ++ [handK cs k] else handsK cs room k := by
  unfold handsK; rw [List.range_succ, List.map_append, List.filter_append]
  by_cases e : (handK cs k).2.1 ≤ room
  · rw [if_pos e]; simp [e]
  · rw [if_neg e]; simp [e]
theorem handsK_len (cs : List Cd) (room : Int) (k : Nat) : (handsK cs room k).length ≤ k := Nat.le_trans (List.length_filter_le _ _) (by simp)
theorem lin_at {cs : List Cd} {ks : List Int} {j : Nat} (hj : j < ks.length) : (linL cs ks).getD j default = (cs.getD (ks.getD j default).toNat default).1 := by
  have h : j < (linL cs ks).length := by simpa [linL] using hj
  rw [getD_at h, getD_at hj]
  simp [linL]
theorem pri_at {cs : List Cd} {ks : List Int} {j : Nat} (hj : j < ks.length) : (priL cs ks).getD j default = (cs.getD (ks.getD j default).toNat default).2 := by
  have h : j < (priL cs ks).length := by simpa [priL] using hj
  rw [getD_at h, getD_at hj]
  simp [priL]
theorem lin_bd {cs : List Cd} (hc : ∀ x ∈ cs, cdB x) {ks : List Int} (hk : ∀ v ∈ ks, 0 ≤ v ∧ v < (cs.length : Int)) : ∀ v ∈ linL cs ks, 0 ≤ v ∧ v ≤ 1000000000 := by
  intro v hv; obtain ⟨w, hw, rfl⟩ := List.mem_map.1 hv; have h1 := hk w hw; have h2 := hc _ (getD_mem (l := cs) (k := w.toNat) (by omega)); have h3 := h2.1
  omega
theorem pri_bd {cs : List Cd} (hc : ∀ x ∈ cs, cdB x) {ks : List Int} (hk : ∀ v ∈ ks, 0 ≤ v ∧ v < (cs.length : Int)) : ∀ v ∈ priL cs ks, 0 ≤ v ∧ v ≤ 1000000000 := by
  intro v hv; obtain ⟨w, hw, rfl⟩ := List.mem_map.1 hv; have h1 := hk w hw; have h2 := hc _ (getD_mem (l := cs) (k := w.toNat) (by omega)); have h3 := h2.2
  omega
theorem lin_len (cs : List Cd) (ks : List Int) : (linL cs ks).length = ks.length := by simp [linL]
theorem pri_len (cs : List Cd) (ks : List Int) : (priL cs ks).length = ks.length := by simp [priL]
theorem bold_hands_meets {A : Option Addr} {ca : Nat} (cs : List Cd) (room : Int) (hn : cs.length ≤ 8) (hc : ∀ x ∈ cs, cdB x) : Meets Tryz.prog F.bold_hands [.slice A cs.length ca, int room] { LI := [Row A (rows cs)], inv := fun x : List Hv × OutC × Hp => x.1.map Hv.dat = handsK cs room (2 ^ cs.length) ∧ Grow T.bold_hand 3 x.2.1.1 x.1.length x.2.1.2 (rows x.1) x.2.2, val := fun x => .slice x.2.1.1 x.1.length x.2.1.2, hpO := fun x => x.2.2, LO := fun x => [innersF x.1 Hv.row] } := by
 refine meets_intro F.bold_hands_f rfl (Nat.le_of_ble_eq_true rfl) fun w0 => ?_; refine hc_seq (hc_region (r_assign rfl rfl (hl_nil (then_n (hc_seq (hc_region (r_assign rfl rfl (hl_nil (then_n (hc_seq (hc_seq ?_))))))))))); refine hc_region (r_move rfl rfl ?_); refine r_len_sl rfl T.u_L_api_Card rfl ?_; obtain ⟨N, hN⟩ : ∃ N, N = 2 ^ cs.length := ⟨_, rfl⟩; have hN2 : N ≤ 256 := by rw [hN]; exact Nat.pow_le_pow_right (n := 2) (by omega) hn
 refine r_shl1 cs.length N hN rfl rfl rfl rfl (by omega) ?_; refine r_move rfl rfl (hl_nil (then_n (hc_block ?_))); refine hc_facts (Fs := ([] : List Hv).map Hv.row) (by intro F hF; cases hF) ?_; refine hc_loop (β := Nat × List Hv × OutC × Hp) ⟨fun x => x.1 ≤ N ∧ x.2.1.map Hv.dat = handsK cs room x.1 ∧ Grow T.bold_hand 3 x.2.2.1.1 x.2.1.length x.2.2.1.2 (rows x.2.1) x.2.2.2, fun x => [(0, .slice A cs.length ca), (1, int room), (5, .slice x.2.2.1.1 x.2.1.length x.2.2.1.2), (12, int (N : Int)), (13, int x.1)], fun x => x.2.2.2, fun x => [innersF x.2.1 Hv.row, Row A (rows cs)]⟩ (fun x => N - x.1) (0, [], (none, 0), []) ⟨Nat.zero_le _, rfl, Grow.nil _ _⟩ ⟨rfl, rfl, rfl, rfl, rfl, trivial⟩ (.refl _) ⟨mB, mB, trivial⟩ fun x hx => ?_; obtain ⟨k, hs, ⟨na, nc⟩, og⟩ := x; obtain ⟨hk, hd, hG⟩ := hx; simp only at hk hd hG; have hpl := pickK_len k cs.length; have hpi : ∀ v ∈ (pickK k cs.length), 0 ≤ v ∧ v < (cs.length : Int) := fun v hv => pickK_in hv; have hll : hs.length ≤ k := by rw [← List.length_map (f := Hv.dat), hd]; exact handsK_len ..
 refine hc_seq (hc_region (r_lss rfl rfl rfl (hl_nil (then_n (hc_seq ?_))))); refine c_dec rfl (fun hb1 => ?_) (fun hb1 => ?_)
 ·have hb1' := hb1; try simp at hb1'
  have hk2 : k < N := by omega
  refine hc_skip (then_n (hc_seq (hc_block (hc_seq (hc_region (r_move rfl rfl (r_assign rfl rfl (hl_nil (then_n (hc_seq (hc_region ?_))))))))))); refine r_move rfl rfl ?_; refine r_conv (k : Int) rfl T.u_int T.u_bold_cards rfl (wrap64 (by omega)) ?_; refine r_move rfl rfl ?_; refine r_len_sl rfl T.u_L_api_Card rfl ?_; refine hl_call F.bold_cards_list_cb rfl rfl (bold_cards_list_meets k cs.length (by omega) (by omega)) (List.Perm.refl _) trivial fun gc _ => ?_; refine r_build _ rfl rfl (fun _ => T.bd_bold_hand_0 ..) ?_; refine r_alloc rfl (fun _ => T.al_bold_hand _) fun gh => ?_; refine r_storeS (cs := #[.slice (some ⟨gc, 0, none⟩) (pickK k cs.length).length (pickK k cs.length).length, int 0, int 0]) rfl rfl (.refl _) T.sz_bold_hand (by rfl) (by rfl) ?_; refine hl_nil (then_n (hc_seq (hc_seq (hc_region ?_)))); refine r_fieldAddr ⟨_, 0, none⟩ rfl rfl T.fa_bold_hand_0 rfl ?_; refine r_load (v := .slice (some ⟨gc, 0, none⟩) (pickK k cs.length).length (pickK k cs.length).length) rfl T.cell_ints rfl (cell_own mB rfl) ?_; refine r_len_sl rfl T.u_ints rfl ?_; refine r_move rfl rfl (hl_nil (then_n (hc_block ?_))); refine hc_loop (β := Nat × Int × Int) ⟨fun x => x.1 ≤ (pickK k cs.length).length ∧ x.2.1 = ((linL cs (pickK k cs.length)).take x.1).sum ∧ x.2.2 = ((priL cs (pickK k cs.length)).take x.1).sum, fun x => [(0, .slice A cs.length ca), (1, int room), (5, .slice na hs.length nc), (7, .pointer (some ⟨gh, 0, none⟩)), (12, int (N : Int)), (13, int k), (23, .slice (some ⟨gc, 0, none⟩) (pickK k cs.length).length (pickK k cs.length).length), (24, int (pickK k cs.length).length), (25, int x.1)], fun x => (gh, Obj.cells #[.slice (some ⟨gc, 0, none⟩) (pickK k cs.length).length (pickK k cs.length).length, int x.2.1, int x.2.2] T.bold_hand (0, 0)) :: og, fun _ => [Row (some ⟨gc, 0, none⟩) (rows (pickK k cs.length)), innersF hs Hv.row, Row A (rows cs)]⟩ (fun x => (pickK k cs.length).length - x.1) (0, 0, 0) ⟨Nat.zero_le _, rfl, rfl⟩ ⟨rfl, rfl, rfl, rfl, rfl, rfl, rfl, rfl, rfl, trivial⟩ (.refl _) ⟨mB, mB, mB, trivial⟩ fun x hx => ?_; obtain ⟨j, a, b⟩ := x; obtain ⟨hj, ha, hb⟩ := hx; simp only at hj ha hb; have ha1 := sum_bd (lin_bd hc hpi) j; have hb1' := sum_bd (pri_bd hc hpi) j; rw [← ha] at ha1; rw [← hb] at hb1'; refine hc_seq (hc_region (r_lss rfl rfl rfl (hl_nil (then_n (hc_seq ?_))))); refine c_dec rfl (fun hb2 => ?_) (fun hb2 => ?_)
  ·have hb2' := hb2; try simp at hb2'
   have hj2 : j < (pickK k cs.length).length := by omega
   have hvj := hpi _ (getD_mem hj2); obtain ⟨v, hv⟩ : ∃ v : Nat, ((pickK k cs.length).getD j default) = (v : Int) := ⟨_, (Int.toNat_of_nonneg hvj.1).symm⟩; have hv2 : v < cs.length := by omega
   have hcv := hc _ (getD_mem hv2); have hcl := hcv.1; have hcp := hcv.2; have ha2 := sum_take (l := linL cs (pickK k cs.length)) (k := j) (by rw [lin_len]; exact hj2); rw [← ha, lin_at hj2, hv, Int.toNat_natCast] at ha2; have hb2' := sum_take (l := priL cs (pickK k cs.length)) (k := j) (by rw [pri_len]; exact hj2); rw [← hb, pri_at hj2, hv, Int.toNat_natCast] at hb2'; refine hc_skip (then_n (hc_seq (hc_block (hc_seq (hc_region ?_))))); refine r_elem (α := Int) _ _ rfl T.u_ints T.sz_int rfl rfl rfl mB rfl (by omega) (by decide) ?_; refine r_load rfl T.cell_int rfl (cell_row mB (rows_get0 (by omega) rfl)) ?_; refine r_assign rfl rfl (hl_nil (then_n ?_)); refine hc_drawW ([(gh, Obj.cells #[.slice (some ⟨gc, 0, none⟩) (pickK k cs.length).length (pickK k cs.length).length, int a, int b] T.bold_hand (0, 0))]) (og) (List.Perm.refl _) 18 [17, 1000009, 1000001] mixed (by decide) (by decide) (by decide) rfl rfl rfl ?_; refine hb_ex _ rfl rfl rfl (fun w1 => r_fieldAddr ⟨_, 1, none⟩ rfl rfl T.fa_bold_hand_1 rfl (hl_nil (qe_done rfl))) ?_; refine hb_rd (int a) rfl rfl rfl ?_ ?_
   ·intro w1; refine r_load (v := int a) rfl T.cell_int rfl (cell_blk mB rfl) ?_; refine hl_nil ?_; exact qe_done rfl
   refine hb_ex _ rfl rfl rfl (fun w1 => r_move rfl rfl (hl_nil (qe_done rfl))) ?_; refine hb_ex _ rfl rfl rfl (fun w1 => r_move rfl rfl (hl_nil (qe_done rfl))) ?_; refine hb_ex _ rfl rfl rfl (fun w1 => r_elem (α := Cd) cs v rfl T.u_L_api_Card T.sz_api_Card rfl rfl hv (List.mem_append_right _ (by repeat constructor)) rfl hv2 (by decide) (hl_nil (qe_done rfl))) ?_; refine hb_ex _ rfl rfl rfl (fun w1 => r_fieldAddr _ rfl rfl T.fa_api_Card_0 rfl (hl_nil (qe_done rfl))) ?_; refine hb_ex _ rfl rfl rfl (fun w1 => r_load (v := int (cs.getD v default).1) rfl T.cell_int rfl (cell_row (List.mem_append_right _ (by repeat constructor)) (rows_get0 hv2 rfl)) (hl_nil (qe_done rfl))) ?_
   apply hb_ex _ rfl rfl rfl
   ·intro w1; intro _ _; refine r_add (a := a) (b := (cs.getD v default).1) (a + (cs.getD v default).1) rfl rfl rfl rfl (by unfold I64; omega) ?_; refine hl_nil ?_; exact qe_done rfl
   refine hb_ex _ rfl rfl rfl (fun w1 => r_fieldAddr ⟨_, 2, none⟩ rfl rfl T.fa_bold_hand_2 rfl (hl_nil (qe_done rfl))) ?_; refine hb_rd (int b) rfl rfl rfl ?_ ?_
   ·intro w1; refine r_load (v := int b) rfl T.cell_int rfl (cell_blk mB rfl) ?_; refine hl_nil ?_; exact qe_done rfl
   refine hb_ex _ rfl rfl rfl (fun w1 => r_move rfl rfl (hl_nil (qe_done rfl))) ?_; refine hb_ex _ rfl rfl rfl (fun w1 => r_move rfl rfl (hl_nil (qe_done rfl))) ?_; refine hb_ex _ rfl rfl rfl (fun w1 => r_elem (α := Cd) cs v rfl T.u_L_api_Card T.sz_api_Card rfl rfl hv (List.mem_append_right _ (by repeat constructor)) rfl hv2 (by decide) (hl_nil (qe_done rfl))) ?_; refine hb_ex _ rfl rfl rfl (fun w1 => r_fieldAddr _ rfl rfl T.fa_api_Card_1 rfl (hl_nil (qe_done rfl))) ?_; refine hb_ex _ rfl rfl rfl (fun w1 => r_load (v := int (cs.getD v default).2) rfl T.cell_int rfl (cell_row_f (List.mem_append_right _ (by repeat constructor)) (rows_get hv2 (j := 1) rfl)) (hl_nil (qe_done rfl))) ?_
   apply hb_ex _ rfl rfl rfl
   ·intro w1; intro _ _; refine r_add (a := b) (b := (cs.getD v default).2) (b + (cs.getD v default).2) rfl rfl rfl rfl (by unfold I64; omega) ?_; refine hl_nil ?_; exact qe_done rfl
   refine hb_ex _ rfl rfl rfl (fun w1 => r_fieldAddr ⟨_, 1, none⟩ rfl rfl T.fa_bold_hand_1 rfl (hl_nil (qe_done rfl))) ?_; refine hb_st ⟨Unit, fun _ => True, fun _ => undef, fun _ => [], fun _ => [(gh, Obj.cells ((#[.slice (some ⟨gc, 0, none⟩) (pickK k cs.length).length (pickK k cs.length).length, int a, int b]).setIfInBounds 1 (int (a + (cs.getD v default).1))) T.bold_hand (0, 0))]⟩ rfl rfl ?_ ?_
   ·skip; intro w1
    refine r_store rfl rfl (.refl _) T.sz_int rfl rfl ?_; refine hl_nil ?_; exact qw_done () trivial (fun h => by cases h) (.refl _) trivial
   refine hb_nil ⟨rfl, ?_⟩; intro _ _ _ _ _ _; refine r_fieldAddr ⟨_, 2, none⟩ rfl rfl T.fa_bold_hand_2 rfl ?_; refine r_store rfl rfl (.refl _) T.sz_int rfl rfl ?_; refine hl_nil (inb_n (then_n (hc_region ?_))); refine r_add _ rfl rfl rfl rfl (by unfold I64; omega) ?_; refine r_move rfl rfl (hl_nil ?_); exact again _ (j + 1, a + (cs.getD v default).1, b + (cs.getD v default).2) ⟨by show j + 1 ≤ _; omega, ha2.symm, hb2'.symm⟩ (by show (pickK k cs.length).length - (j + 1) < (pickK k cs.length).length - j; omega) ⟨rfl, rfl, rfl, rfl, rfl, rfl, rfl, rfl, rfl, trivial⟩ (.refl _) ⟨mB, mB, mB, trivial⟩
  ·have hb2' := hb2; try simp at hb2'
   have hj2 : j = (pickK k cs.length).length := by omega
   rw [hj2, List.take_of_length_le (Nat.le_of_eq (lin_len ..))] at ha; rw [hj2, List.take_of_length_le (Nat.le_of_eq (pri_len ..))] at hb; have hX : Hv.dat ((⟨some ⟨gc, 0, none⟩, (pickK k cs.length).length, (pickK k cs.length)⟩, a, b) : Hv) = handK cs k := by show (_, a, b) = _; rw [ha, hb]; rfl
   refine hc_exit (then_exit (then_exit (inb_hit (then_n (hc_seq (hc_region ?_)))))); refine r_fieldAddr ⟨_, 1, none⟩ rfl rfl T.fa_bold_hand_1 rfl ?_; refine r_load (v := int a) rfl T.cell_int rfl (cell_own mB rfl) ?_; refine r_move rfl rfl (r_leq rfl rfl rfl (hl_nil (then_n ?_))); refine c_dec rfl (fun hb3 => ?_) (fun hb3 => ?_)
   ·have hb3' := hb3; try simp at hb3'
    have hH : handsK cs room (k + 1) = handsK cs room k ++ [Hv.dat ((⟨some ⟨gc, 0, none⟩, (pickK k cs.length).length, (pickK k cs.length)⟩, a, b) : Hv)] := by rw [handsK_succ, hX, if_pos (by rw [← hX]; show a ≤ room; omega)]
    refine hc_region (r_move rfl rfl ?_); refine r_loadA (cs := #[.slice (some ⟨gc, 0, none⟩) (pickK k cs.length).length (pickK k cs.length).length, int a, int b]) rfl T.row_bold_hand T.sz_bold_hand rfl mB rfl ?_; refine r_buildSlice _ rfl rfl (fun _ => T.bs_L_bold_hand_1 ..) fun gS => ?_; refine hl_letgo (rows [((⟨some ⟨gc, 0, none⟩, (pickK k cs.length).length, (pickK k cs.length)⟩, a, b) : Hv)]) (List.prefix_refl _) ?_; refine r_append (hp' := [(gh, Obj.cells #[.slice (some ⟨gc, 0, none⟩) (pickK k cs.length).length (pickK k cs.length).length, int a, int b] T.bold_hand (0, 0))]) (hs.length + 1) (rows (hs ++ [((⟨some ⟨gc, 0, none⟩, (pickK k cs.length).length, (pickK k cs.length)⟩, a, b) : Hv)])) T.el_L_bold_hand rfl rfl rfl hG (perm_of fun q => by simp only [Option.toList_none, List.append_eq, List.cons_append, List.nil_append, List.countP_append, List.countP_cons, List.countP_nil]; omega) (Src.row (news := rows [((⟨some ⟨gc, 0, none⟩, (pickK k cs.length).length, (pickK k cs.length)⟩, a, b) : Hv)]) (m := 1) m0 rfl (rows_one _) (by decide)) rfl (rows_append _ _).symm (by unfold maxLen; omega) (by omega) fun A' c' og' hG' => ?_; refine r_assign rfl rfl (hl_nil (inb_n (then_n (hc_region ?_)))); refine r_add _ rfl rfl rfl rfl (by unfold I64; omega) ?_; refine r_move rfl rfl (hl_nil ?_); refine hq_facts (innerF_snoc (p := ((⟨some ⟨gc, 0, none⟩, (pickK k cs.length).length, (pickK k cs.length)⟩, a, b) : Hv)) (ps := hs) (f := Hv.row) mB mB) ?_; exact again _ (k + 1, hs ++ [((⟨some ⟨gc, 0, none⟩, (pickK k cs.length).length, (pickK k cs.length)⟩, a, b) : Hv)], (A', c'), og') ⟨by show k + 1 ≤ N; omega, by show (hs ++ [((⟨some ⟨gc, 0, none⟩, (pickK k cs.length).length, (pickK k cs.length)⟩, a, b) : Hv)]).map Hv.dat = _; rw [hH, List.map_append, hd]; rfl, by show Grow T.bold_hand 3 A' (hs ++ [((⟨some ⟨gc, 0, none⟩, (pickK k cs.length).length, (pickK k cs.length)⟩, a, b) : Hv)]).length c' _ og'; rw [List.length_append]; exact hG'⟩ (by show N - (k + 1) < N - k; omega) ⟨rfl, rfl, by show some (Value.slice A' (hs.length + 1) c') = some (Value.slice A' (hs ++ [((⟨some ⟨gc, 0, none⟩, (pickK k cs.length).length, (pickK k cs.length)⟩, a, b) : Hv)]).length c'); rw [List.length_append]; rfl, rfl, rfl, trivial⟩ (List.sublist_append_left _ _) ⟨mB, mB, trivial⟩
   ·have hb3' := hb3; try simp at hb3'
    have hH : handsK cs room (k + 1) = handsK cs room k := by rw [handsK_succ, if_neg (by rw [← hX]; show ¬ a ≤ room; omega)]
    refine hc_skip (inb_n (then_n (hc_region ?_))); refine r_add _ rfl rfl rfl rfl (by unfold I64; omega) ?_; refine r_move rfl rfl (hl_nil ?_); exact again _ (k + 1, hs, (na, nc), og) ⟨by show k + 1 ≤ N; omega, by show hs.map Hv.dat = _; rw [hH, hd], hG⟩ (by show N - (k + 1) < N - k; omega) ⟨rfl, rfl, rfl, rfl, rfl, trivial⟩ (.cons _ (.refl _)) ⟨mB, mB, trivial⟩
 ·have hb1' := hb1; try simp at hb1'
  have hk2 : k = N := by omega
  refine hc_exit (then_exit (then_exit (inb_hit (then_n (hc_seq (hc_region (r_move rfl rfl (r_assign rfl rfl (hl_nil (then_n (hc_ret ?_))))))))))); exact ret1 (hs, (na, nc), og) rfl rfl rfl ⟨by show hs.map Hv.dat = _; rw [hd, hk2, hN], hG⟩ (.refl _) ⟨mB, trivial⟩
end Go.Proofs.YtdlbbfcfahahdaaGreat
end
section
namespace Go.Proofs.YtdlbbfcfahahdaaGreat
open Go Go.W
set_option maxRecDepth 20000
attribute [local irreducible] HL HC HQ HB Row Rows2 Blk Facts
abbrev fnV (f : Nat) : Value := .func (.func f) #[] #[]
abbrev offA (y : Hv) (ok : Bool) (f : Nat) : Array Value := #[.slice y.1.a y.1.l.length y.1.c, int y.2.1, int y.2.2, .bool ok, fnV f]
theorem off_head (a b c d e : Value) : ∀ (i : Nat) (u : Value), ([a, b, c] : List Value)[i]? = some u → (#[a, b, c, d, e] : Array Value)[0 + i]? = some u := by
  intro i u h
  rcases i with _ | _ | _ | i
  · exact h
  · exact h
  · exact h
  · simp at h
def offS (o : Hn → Hn → Int) (s : Hn × Bool) (x : Hn) : Hn × Bool := if s.2 = false ∨ o x s.1 < 0 then (x, true) else s
structure OrdF (f : Nat) (o : Hn → Hn → Int) : Prop where
  cb : Callable Tryz.prog f
  m : ∀ x y : Hv, x.1.l.length ≤ 1000000 → y.1.l.length ≤ 1000000 → Meets Tryz.prog f [x.v, y.v] { LI := [x.row, y.row], val := fun _ : Unit => int (o x.dat y.dat) }
theorem ord_Fill : OrdF F.bold_Fill_1 ordF := ⟨F.bold_Fill_1_cb, bold_Fill_1_meets⟩
theorem ord_Found : OrdF F.bold_Found_1 ordP := ⟨F.bold_Found_1_cb, bold_Found_1_meets⟩
theorem bold_best_bold_hand_offer_meets {gB f : Nat} {o : Hn → Hn → Int} (hf : OrdF f o) (x y : Hv) (ok : Bool) (hx : x.1.l.length ≤ 1000000) (hy : y.1.l.length ≤ 1000000) : Meets Tryz.prog F.bold_best_bold_hand_offer [.pointer (some ⟨gB, 0, none⟩), x.v] { hpI := [(gB, Obj.cells (offA y ok f) T.bold_best_wayzgoose_bold_hand (0, 0))], LI := [x.row, y.row], inv := fun z : Hv × Bool => (z.1.dat, z.2) = offS o (y.dat, ok) x.dat ∧ (z.1 = x ∨ z.1 = y), val := fun _ => .tuple #[], hpO := fun z => [(gB, Obj.cells (offA z.1 z.2 f) T.bold_best_wayzgoose_bold_hand (0, 0))] } := by
 refine meets_intro F.bold_best_bold_hand_offer_f rfl (Nat.le_of_ble_eq_true rfl) fun w0 => ?_; refine hc_seq (hc_region ?_); refine r_box rfl rfl fun gT => ?_; refine hl_nil (then_n (hc_seq (hc_letgoB ?_))); refine hc_draw 15 mixed (by decide) (by decide) rfl rfl ?_; refine hb_ex _ rfl rfl rfl (fun w1 => r_move rfl rfl (hl_nil (qe_done rfl))) ?_; refine hb_ex _ rfl rfl rfl (fun w1 => r_nilCheck rfl rfl (hl_nil (qe_done rfl))) ?_; refine hb_ex _ rfl rfl rfl (fun w1 => r_fieldAddr ⟨_, 3, none⟩ rfl rfl T.fa_bold_best_wayzgoose_bold_hand_1 rfl (hl_nil (qe_done rfl))) ?_; refine hb_ex _ rfl rfl rfl (fun w1 => r_load (v := .bool ok) rfl T.cell_bool rfl (cell_blk (by repeat constructor) rfl) (hl_nil (qe_done rfl))) ?_; refine hb_ex _ rfl rfl rfl (fun w1 => r_not rfl rfl (hl_nil (qe_done rfl))) ?_; refine hb_ex _ rfl rfl rfl (fun w1 => r_move rfl rfl (hl_nil (qe_done rfl))) ?_; refine hb_split (t := 9) (want := false) rfl ?_ ?_
 ·intro hg1; have hg1' := hg1; try simp at hg1'
  apply hb_ex _ rfl rfl rfl
  ·intro w1; refine g_yes rfl rfl hg1 (r_move rfl rfl (hl_nil ?_)); exact qe_done rfl
  apply hb_ex _ rfl rfl rfl
  ·intro w1; refine g_yes rfl rfl hg1 (r_nilCheck rfl rfl (hl_nil ?_)); exact qe_done rfl
  apply hb_ex _ rfl rfl rfl
  ·intro w1; refine g_yes rfl rfl hg1 ?_; refine r_fieldAddr ⟨_, 4, none⟩ rfl rfl T.fa_bold_best_wayzgoose_bold_hand_2 rfl ?_; refine hl_nil ?_; exact qe_done rfl
  apply hb_ex _ rfl rfl rfl
  ·intro w1; refine g_yes rfl rfl hg1 ?_; refine r_load (v := fnV f) rfl T.cell_func_bold_hand_bold_hand_int rfl (cell_blk (by repeat constructor) rfl) ?_; refine hl_nil ?_; exact qe_done rfl
  apply hb_ex _ rfl rfl rfl
  ·intro w1; refine g_yes rfl rfl hg1 ?_; refine r_loadB (cs := #[.slice x.1.a x.1.l.length x.1.c, int x.2.1, int x.2.2]) rfl T.row_bold_hand T.sz_bold_hand rfl (by repeat constructor) rfl ?_; refine hl_nil ?_; exact qe_done rfl
  apply hb_ex _ rfl rfl rfl
  ·intro w1; refine g_yes rfl rfl hg1 (r_move rfl rfl (hl_nil ?_)); exact qe_done rfl
  apply hb_ex _ rfl rfl rfl
  ·intro w1; refine g_yes rfl rfl hg1 (r_nilCheck rfl rfl (hl_nil ?_)); exact qe_done rfl
  apply hb_ex _ rfl rfl rfl
  ·intro w1; refine g_yes rfl rfl hg1 ?_; refine r_fieldAddr ⟨_, 0, none⟩ rfl rfl T.fa_bold_best_wayzgoose_bold_hand_0 rfl ?_; refine hl_nil ?_; exact qe_done rfl
  apply hb_ex _ rfl rfl rfl
  ·intro w1; refine g_yes rfl rfl hg1 ?_; refine r_loadS (cs := [.slice y.1.a y.1.l.length y.1.c, int y.2.1, int y.2.2]) rfl T.row_bold_hand T.sz_bold_hand rfl rfl (cells_blk (by repeat constructor) (off_head _ _ _ _ _)) ?_; refine hl_nil ?_; exact qe_done rfl
  refine hb_nil ⟨rfl, ?_⟩; refine g_yes rfl rfl hg1 ?_; refine hl_callv (vs := [x.v, y.v]) (cap := []) hf.cb rfl rfl rfl (hf.m x y hx hy) (List.Perm.refl _) ⟨(by repeat constructor), (by repeat constructor), trivial⟩ fun _ _ => ?_; refine g_yes rfl rfl hg1 (r_lss rfl rfl rfl ?_); refine p_f rfl rfl (bf1 hg1) rfl ?_; refine hl_nil (then_n ?_); refine c_dec rfl (fun hb1 => ?_) (fun hb1 => ?_)
  ·have hb1' := hb1; try simp at hb1'
   refine hc_region (r_move rfl rfl (r_move rfl rfl ?_)); refine r_loadB (cs := #[.slice x.1.a x.1.l.length x.1.c, int x.2.1, int x.2.2]) rfl T.row_bold_hand T.sz_bold_hand rfl (by repeat constructor) rfl ?_; refine r_nilCheck rfl rfl ?_; refine r_fieldAddr ⟨_, 0, none⟩ rfl rfl T.fa_bold_best_wayzgoose_bold_hand_0 rfl ?_; refine r_storeR rfl rfl (.refl _) T.sz_bold_hand (show 0 + 3 ≤ 5 by decide) (by rfl) ?_; refine r_nilCheck rfl rfl ?_; refine r_fieldAddr ⟨_, 3, none⟩ rfl rfl T.fa_bold_best_wayzgoose_bold_hand_1 rfl ?_; refine r_store rfl rfl (.refl _) T.sz_bool rfl rfl ?_; refine hl_nil ?_; exact ret0n (x, true) rfl rfl rfl ⟨by show (x.dat, true) = offS o (y.dat, ok) x.dat; rw [offS, if_pos (.inr hb1)], .inl rfl⟩ (.refl _) trivial
  ·have hb1' := hb1; try simp at hb1'
   refine hc_skip ?_; exact ret0n (y, ok) rfl rfl rfl ⟨by show (y.dat, ok) = offS o (y.dat, ok) x.dat; rw [offS, if_neg (fun h => h.elim (fun h => by rw [show ok = true from hg1'] at h; cases h) hb1)], .inr rfl⟩ (.refl _) trivial
 ·intro hg1; have hg1' := hg1; try simp at hg1'
  refine hb_ex _ rfl rfl rfl (fun w1 => g_no rfl rfl rfl rfl rfl hg1 (hl_nil (qe_done rfl))) ?_; refine hb_ex _ rfl rfl rfl (fun w1 => g_no rfl rfl rfl rfl rfl hg1 (hl_nil (qe_done rfl))) ?_; refine hb_ex _ rfl rfl rfl (fun w1 => g_no rfl rfl rfl rfl rfl hg1 (hl_nil (qe_done rfl))) ?_; refine hb_ex _ rfl rfl rfl (fun w1 => g_no rfl rfl rfl rfl rfl hg1 (hl_nil (qe_done rfl))) ?_; refine hb_ex _ rfl rfl rfl (fun w1 => g_no rfl rfl rfl rfl rfl hg1 (hl_nil (qe_done rfl))) ?_; refine hb_ex _ rfl rfl rfl (fun w1 => g_no rfl rfl rfl rfl rfl hg1 (hl_nil (qe_done rfl))) ?_; refine hb_ex _ rfl rfl rfl (fun w1 => g_no rfl rfl rfl rfl rfl hg1 (hl_nil (qe_done rfl))) ?_; refine hb_ex _ rfl rfl rfl (fun w1 => g_no rfl rfl rfl rfl rfl hg1 (hl_nil (qe_done rfl))) ?_; refine hb_ex _ rfl rfl rfl (fun w1 => g_no rfl rfl rfl rfl rfl hg1 (hl_nil (qe_done rfl))) ?_; refine hb_nil ⟨rfl, ?_⟩; refine g_no rfl rfl rfl rfl rfl hg1 (g_no rfl rfl rfl rfl rfl hg1 ?_); refine p_t rfl rfl (bt2 hg1) rfl ?_; refine hl_nil (then_n (c_t rfl rfl (hc_region (r_move rfl rfl (r_move rfl rfl ?_))))); refine r_loadB (cs := #[.slice x.1.a x.1.l.length x.1.c, int x.2.1, int x.2.2]) rfl T.row_bold_hand T.sz_bold_hand rfl (by repeat constructor) rfl ?_; refine r_nilCheck rfl rfl ?_; refine r_fieldAddr ⟨_, 0, none⟩ rfl rfl T.fa_bold_best_wayzgoose_bold_hand_0 rfl ?_; refine r_storeR rfl rfl (.refl _) T.sz_bold_hand (show 0 + 3 ≤ 5 by decide) (by rfl) ?_; refine r_nilCheck rfl rfl ?_; refine r_fieldAddr ⟨_, 3, none⟩ rfl rfl T.fa_bold_best_wayzgoose_bold_hand_1 rfl ?_; refine r_store rfl rfl (.refl _) T.sz_bool rfl rfl ?_; refine hl_nil ?_; exact ret0n (x, true) rfl rfl rfl ⟨by show (x.dat, true) = offS o (y.dat, ok) x.dat; rw [offS, if_pos (.inl (show ok = false from hg1'))], .inl rfl⟩ (.refl _) trivial
end Go.Proofs.YtdlbbfcfahahdaaGreat
end
section
namespace Go.Proofs.YtdlbbfcfahahdaaGreat
open Go Go.W
set_option maxRecDepth 20000
attribute [local irreducible] HL HC HQ HB Row Rows2 Blk Facts
theorem cards_ok {cs : List Cd} {room : Int} (h : cardsE cs room = 0) : cs.length ≤ 8 ∧ (∀ x ∈ cs, cdB x) ∧ 0 ≤ room ∧ room ≤ 60 := by
  unfold cardsE at h
  split at h
  · cases h
  · split at h
    · cases h
    · rename_i h1 h2
      split at h
      · cases h
      · rename_i h3
        exact ⟨by omega, Classical.not_not.1 h2, (Classical.not_not.1 h3).1, (Classical.not_not.1 h3).2⟩
theorem hands_in {cs : List Cd} {room : Int} {k : Nat} {hs : List Hv} (hd : hs.map Hv.dat = handsK cs room k) (hn : cs.length ≤ 8) : ∀ x ∈ hs, x.1.l.length ≤ 8 := by
  intro x hx; have h : x.dat ∈ handsK cs room k := hd ▸ List.mem_map.2 ⟨x, hx, rfl⟩; obtain ⟨s, _, hs⟩ := List.mem_map.1 (List.mem_filter.1 h).1; have h2 := congrArg (fun y : Hn => y.1.length) hs; simp only [handK, Hv.dat] at h2; have := pickK_len s cs.length
  omega
theorem hands_len {cs : List Cd} {room : Int} {k : Nat} {hs : List Hv} (hd : hs.map Hv.dat = handsK cs room k) : hs.length ≤ k := by
  rw [← List.length_map (f := Hv.dat), hd]; exact handsK_len ..
def noB : Hn × Bool := (([], 0, 0), false)
def bestL (o : Hn → Hn → Int) (l : List Hn) : Hn × Bool := l.foldl (offS o) noB
theorem best_snoc (o : Hn → Hn → Int) (l : List Hn) (x : Hn) : bestL o (l ++ [x]) = offS o (bestL o l) x := by simp [bestL]
theorem take_map_succ {hs : List Hv} {k : Nat} (hk : k < hs.length) : (hs.take (k + 1)).map Hv.dat = (hs.take k).map Hv.dat ++ [Hv.dat (hs.getD k default)] := by
  rw [List.take_succ_eq_append_getElem hk, getD_at hk, List.map_append]; rfl
def fillE (cs : List Cd) (room : Int) : Hn := if ¬ cardsE cs room = 0 then ([], 0, cardsE cs room) else ((bestL ordF (handsK cs room (2 ^ cs.length))).1.1, (bestL ordF (handsK cs room (2 ^ cs.length))).1.2.2, 0)
def exactL (cs : List Cd) (room : Int) : Hn × Bool := bestL ordX ((handsK cs room (2 ^ cs.length)).filter fun x => decide (x.2.1 = room))
def exactE (cs : List Cd) (room : Int) : List Int × Int := if ¬ cardsE cs room = 0 then ([], cardsE cs room) else if (exactL cs room).2 = false then ([], 11) else ((exactL cs room).1.1, 0)
theorem bold_Fill_meets {A : Option Addr} {ca : Nat} (cs : List Cd) (room : Int) (hn : cs.length ≤ 1000000) : Meets Tryz.prog F.bold_Fill [.slice A cs.length ca, int room] { LI := [Row A (rows cs)], val := fun x : OutC => .tuple #[.slice x.1 (fillE cs room).1.length x.2, int (fillE cs room).2.1, int (fillE cs room).2.2], LO := fun x => [Row x.1 (rows (fillE cs room).1)] } := by
 refine meets_intro F.bold_Fill_f rfl (Nat.le_of_ble_eq_true rfl) fun w0 => ?_; refine hc_seq (hc_region (r_assign rfl rfl (r_assign rfl rfl (r_assign rfl rfl (hl_nil (then_n (hc_seq (hc_seq (hc_region (r_move rfl rfl (r_move rfl rfl ?_))))))))))); refine hl_call F.bold_cardsError_cb rfl rfl (bold_cardsError_meets cs room hn) (List.Perm.refl _) ⟨mB, trivial⟩ fun _ _ => ?_; refine r_assign rfl rfl (hl_nil (then_n (hc_seq (hc_region (r_move rfl rfl (r_neq rfl rfl rfl (hl_nil (then_n ?_))))))))
 first | refine c_dec rfl (fun hb1 => ?_) (fun hb1 => ?_) | refine hc_cond rfl (fun hb1 => ?_) (fun hb1 => ?_)
 ·have hb1' := hb1; try simp at hb1'
  refine hc_seq (hc_region (r_move rfl rfl (r_assign rfl rfl (r_assign rfl rfl (r_assign rfl rfl (hl_nil (then_n (hc_ret (then_ret ?_))))))))); refine hq_nilrow (α := Int) ?_; exact ret3 (none, 0) rfl rfl rfl rfl (by show Value.tuple #[.slice none (fillE cs room).1.length 0, int (fillE cs room).2.1, int (fillE cs room).2.2] = _; rw [fillE, if_pos hb1]; rfl) rfl trivial (List.nil_sublist _) (by show LSub _ [Row none (rows (fillE cs room).1)]; rw [fillE, if_pos hb1]; exact ⟨m0, trivial⟩)
 ·have hb1' := hb1; try simp at hb1'
  have h0 : cardsE cs room = 0 := Classical.not_not.1 hb1; obtain ⟨hn8, hcd, hr0, hr1⟩ := cards_ok h0; refine hc_skip (then_n (hc_seq (hc_region ?_))); refine r_build _ rfl rfl (fun _ => T.bd_bold_best_wayzgoose_bold_hand_2 ..) ?_; refine r_alloc rfl (fun _ => T.al_bold_best_wayzgoose_bold_hand _) fun gB => ?_; refine r_storeS (cs := offA ((⟨none, 0, []⟩, 0, 0) : Hv) false F.bold_Fill_1) rfl rfl (.refl _) T.sz_bold_best_wayzgoose_bold_hand (by rfl) (by rfl) ?_; refine hl_nil (then_n (hc_seq (hc_seq (hc_region (r_move rfl rfl (r_move rfl rfl ?_)))))); refine hl_call F.bold_hands_cb rfl rfl (bold_hands_meets cs room hn8 hcd) (List.Perm.refl _) ⟨mB, trivial⟩ fun x hx => ?_; obtain ⟨hs, ⟨na, nc⟩, og⟩ := x; obtain ⟨hd, hG⟩ := hx; simp only at hd hG; have hi8 := hands_in hd hn8; have hll := hands_len hd; have hN2 : 2 ^ cs.length ≤ 256 := Nat.pow_le_pow_right (n := 2) (by omega) hn8; refine hl_grown hG ?_; refine hl_nilrow (α := Int) ?_; refine r_len_sl rfl T.u_L_bold_hand rfl ?_; refine r_move rfl rfl (hl_nil (then_n (hc_block ?_))); refine hc_loop (β := Nat × Hv × Bool) ⟨fun x => x.1 ≤ hs.length ∧ (x.2.1.dat, x.2.2) = bestL ordF ((hs.take x.1).map Hv.dat) ∧ x.2.1.1.l.length ≤ 8, fun x => [(0, .slice A cs.length ca), (1, int room), (8, .pointer (some ⟨gB, 0, none⟩)), (20, .slice na hs.length nc), (21, int hs.length), (22, int x.1)], fun x => [(gB, Obj.cells (offA x.2.1 x.2.2 F.bold_Fill_1) T.bold_best_wayzgoose_bold_hand (0, 0))], fun x => [Row na (rows hs), innersF hs Hv.row, x.2.1.row]⟩ (fun x => hs.length - x.1) (0, ((⟨none, 0, []⟩, 0, 0) : Hv), false) ⟨Nat.zero_le _, rfl, Nat.zero_le _⟩ ⟨rfl, rfl, rfl, rfl, rfl, rfl, trivial⟩ (.refl _) ⟨mB, mB, mB, trivial⟩ fun x hx => ?_; obtain ⟨k, y, ok⟩ := x; obtain ⟨hk, ha, hy⟩ := hx; simp only at hk ha hy; refine hc_seq (hc_region (r_lss rfl rfl rfl (hl_nil (then_n (hc_seq ?_)))))
  first | refine c_dec rfl (fun hb2 => ?_) (fun hb2 => ?_) | refine hc_cond rfl (fun hb2 => ?_) (fun hb2 => ?_)
  ·have hb2' := hb2; try simp at hb2'
   have hk2 : k < hs.length := by omega
   have hx8 := hi8 _ (getD_mem hk2); refine hc_skip (then_n (hc_seq (hc_block (hc_seq (hc_region ?_))))); refine r_elem (α := _) _ _ rfl T.u_L_bold_hand T.sz_bold_hand rfl rfl rfl mB rfl (by omega) (by decide) ?_; refine r_loadS rfl T.row_bold_hand T.sz_bold_hand rfl rfl (cells_row mB (rows_all (by omega))) ?_; refine r_alloc rfl (fun _ => T.al_bold_hand _) fun gA => ?_; refine r_storeS (cs := #[.slice (hs.getD k default).1.a (hs.getD k default).1.l.length (hs.getD k default).1.c, int (hs.getD k default).2.1, int (hs.getD k default).2.2]) rfl rfl (.refl _) T.sz_bold_hand (by rfl) (by rfl) ?_; refine hl_nil (then_n (hc_region ?_)); refine r_loadA (cs := #[.slice (hs.getD k default).1.a (hs.getD k default).1.l.length (hs.getD k default).1.c, int (hs.getD k default).2.1, int (hs.getD k default).2.2]) rfl T.row_bold_hand T.sz_bold_hand rfl mB rfl ?_; refine hl_pick (F := Hv.row (hs.getD k default)) (Fs := hs.map Hv.row) mB (List.mem_map.2 ⟨_, getD_mem hk2, rfl⟩) ?_; refine hl_call F.bold_best_bold_hand_offer_cb rfl rfl (bold_best_bold_hand_offer_meets ord_Fill (hs.getD k default) y ok (by omega) (by omega)) (List.Perm.swap _ _ _) ⟨mB, mB, trivial⟩ fun z hz => ?_; obtain ⟨z, zk⟩ := z; obtain ⟨hz, hzi⟩ := hz; refine hl_nil (inb_n (then_n (hc_region ?_))); refine r_add _ rfl rfl rfl rfl (by unfold I64; omega) ?_; refine r_move rfl rfl (hl_nil ?_)
   rcases hzi with rfl | rfl
   · exact again _ (k + 1, (hs.getD k default), zk) ⟨by show k + 1 ≤ hs.length; omega, by show ((hs.getD k default).dat, zk) = bestL ordF ((hs.take (k + 1)).map Hv.dat); rw [take_map_succ hk2, best_snoc, ← ha]; exact hz, by first | exact hy | exact Nat.le_trans hx8 (Nat.le_refl _)⟩ (by show hs.length - (k + 1) < hs.length - k; omega) ⟨rfl, rfl, rfl, rfl, rfl, rfl, trivial⟩ (by first | exact .cons_cons _ (List.nil_sublist _) | exact .cons _ (.refl _)) ⟨mB, mB, mB, trivial⟩
   · exact again _ (k + 1, z, zk) ⟨by show k + 1 ≤ hs.length; omega, by show (z.dat, zk) = bestL ordF ((hs.take (k + 1)).map Hv.dat); rw [take_map_succ hk2, best_snoc, ← ha]; exact hz, by first | exact hy | exact Nat.le_trans hx8 (Nat.le_refl _)⟩ (by show hs.length - (k + 1) < hs.length - k; omega) ⟨rfl, rfl, rfl, rfl, rfl, rfl, trivial⟩ (by first | exact .cons_cons _ (List.nil_sublist _) | exact .cons _ (.refl _)) ⟨mB, mB, mB, trivial⟩
  ·have hb2' := hb2; try simp at hb2'
   have hk2 : k = hs.length := by omega
   rw [hk2, List.take_length, hd] at ha; refine hc_exit (then_exit (then_exit (inb_hit (then_n (hc_seq ?_))))); refine hc_draw 7 mixed (by decide) (by decide) rfl rfl ?_
   apply hb_ex _ rfl rfl rfl
   ·intro w1
    first | refine r_fieldAddr ⟨_, 0, none⟩ rfl rfl T.fa_bold_best_wayzgoose_bold_hand_0 rfl ?_ | refine r_fieldAddr _ rfl rfl T.fa_bold_best_wayzgoose_bold_hand_0 rfl ?_
    refine hl_nil ?_; exact qe_done rfl
   apply hb_ex _ rfl rfl rfl
   ·intro w1
    first | refine r_fieldAddr ⟨_, 0, none⟩ rfl rfl T.fa_bold_hand_0 rfl ?_ | refine r_fieldAddr _ rfl rfl T.fa_bold_hand_0 rfl ?_
    refine hl_nil ?_; exact qe_done rfl
   apply hb_ex _ rfl rfl rfl
   ·intro w1
    first | refine r_load rfl T.cell_ints rfl (cell_blk mB rfl) ?_ | refine r_load rfl T.cell_ints rfl (cell_own mB rfl) ?_ | refine r_load rfl T.cell_ints rfl (cell_row mB (rows_get0 (by omega) rfl)) ?_ | refine r_load rfl T.cell_ints rfl (cell_row_f mB (rows_get (by omega) rfl)) ?_ | refine r_load rfl T.cell_ints rfl (cell_rowg mB rfl) ?_
    refine hl_nil ?_; exact qe_done rfl
   apply hb_ex _ rfl rfl rfl
   ·intro w1
    first | refine r_fieldAddr ⟨_, 0, none⟩ rfl rfl T.fa_bold_best_wayzgoose_bold_hand_0 rfl ?_ | refine r_fieldAddr _ rfl rfl T.fa_bold_best_wayzgoose_bold_hand_0 rfl ?_
    refine hl_nil ?_; exact qe_done rfl
   apply hb_ex _ rfl rfl rfl
   ·intro w1
    first | refine r_fieldAddr ⟨_, 2, none⟩ rfl rfl T.fa_bold_hand_2 rfl ?_ | refine r_fieldAddr _ rfl rfl T.fa_bold_hand_2 rfl ?_
    refine hl_nil ?_; exact qe_done rfl
   apply hb_ex _ rfl rfl rfl
   ·intro w1
    first | refine r_load rfl T.cell_int rfl (cell_blk mB rfl) ?_ | refine r_load rfl T.cell_int rfl (cell_own mB rfl) ?_ | refine r_load rfl T.cell_int rfl (cell_row mB (rows_get0 (by omega) rfl)) ?_ | refine r_load rfl T.cell_int rfl (cell_row_f mB (rows_get (by omega) rfl)) ?_ | refine r_load rfl T.cell_int rfl (cell_rowg mB rfl) ?_
    refine hl_nil ?_; exact qe_done rfl
   refine hb_ex _ rfl rfl rfl (fun w1 => r_assign rfl rfl (hl_nil (qe_done rfl))) ?_; refine hb_nil ⟨rfl, ?_⟩; refine r_assign rfl rfl (r_assign rfl rfl (hl_nil (then_n (hc_ret ?_)))); have hE : fillE cs room = (y.1.l, y.2.2, 0) := by rw [fillE, if_neg (Classical.not_not.2 h0), ← ha]; rfl
   exact ret3 (y.1.a, y.1.c) rfl rfl rfl rfl (by show Value.tuple #[.slice y.1.a (fillE cs room).1.length y.1.c, int (fillE cs room).2.1, int (fillE cs room).2.2] = _; rw [hE] <;> rfl) rfl trivial (List.nil_sublist _) (by show LSub _ [Row y.1.a (rows (fillE cs room).1)]; rw [hE]; exact ⟨mB, trivial⟩)
end Go.Proofs.YtdlbbfcfahahdaaGreat
end
section
namespace Go.Proofs.YtdlbbfcfahahdaaGreat
open Go Go.W
set_option maxRecDepth 20000
attribute [local irreducible] HL HC HQ HB Row Rows2 Blk Facts
def streetsE (c : Ch) (ss : List Int) (xs : List Ad) : List Int × Int := if ¬ chkS c ss xs = 0 then ([], chkS c ss xs) else (discK c ss xs 10, 0)
def savedE (c : Ch) (ss : List Int) (xs : List Ad) : List Int × Int := if ¬ chkS c ss xs = 0 then ([], chkS c ss xs) else (numsN 57 c ss xs, 0)
def ctrC : Ch := (10, 25, 5, 40, 10, 2)
def ctrA : List Ad := [(0, 1, 1), (1, 2, 2), (2, 3, 3)]
def law_cards : List Cd := [(2, 30), (3, 50), (4, 60)]
theorem bold_Streets_meets (c : Ch) (ps : Sl Int) (qs : Sl Ad) (hn : ps.l.length ≤ 1000000) (hm : qs.l.length ≤ 1000000) : Meets Tryz.prog F.bold_Streets [saV c ps qs] { LI := saL ps qs, inv := fun x : OutC => (streetsE c ps.l qs.l).1.length ≤ x.2, val := fun x => .tuple #[.slice x.1 (streetsE c ps.l qs.l).1.length x.2, int (streetsE c ps.l qs.l).2], LO := fun x => [Row x.1 (rows (streetsE c ps.l qs.l).1)] } := by
 refine meets_intro F.bold_Streets_f rfl (Nat.le_of_ble_eq_true rfl) fun w0 => ?_; refine hc_seq (hc_region ?_); refine r_box rfl rfl fun gB => ?_; refine r_assign rfl rfl (r_assign rfl rfl (hl_nil (then_n (hc_seq (hc_seq (hc_region ?_))))))
 first | refine r_loadA rfl T.row_api_Sales T.sz_api_Sales rfl mB (by rfl) ?_ | refine r_loadB rfl T.row_api_Sales T.sz_api_Sales rfl mB (by rfl) ?_ | refine r_loadS rfl T.row_api_Sales T.sz_api_Sales rfl rfl (cells_row mB (rows_all (by omega))) ?_
 refine hl_call F.bold_Check_cb rfl rfl (bold_Check_meets c ps qs hn hm) (List.Perm.refl _) ⟨mB, mB, trivial⟩ fun _ _ => ?_; refine r_assign rfl rfl (hl_nil (then_n (hc_seq (hc_region (r_move rfl rfl (r_neq rfl rfl rfl (hl_nil (then_n ?_))))))))
 first | refine c_dec rfl (fun hb1 => ?_) (fun hb1 => ?_) | refine hc_cond rfl (fun hb1 => ?_) (fun hb1 => ?_)
 ·have hb1' := hb1; try simp at hb1'
  have hE : streetsE c ps.l qs.l = ([], chkS c ps.l qs.l) := by rw [streetsE, if_pos hb1]
  refine hc_seq (hc_region (r_move rfl rfl (r_assign rfl rfl (r_assign rfl rfl (hl_nil (then_n (hc_ret (then_ret ?_)))))))); refine hq_nilrow (α := Int) ?_; exact ret2 (none, 0) rfl rfl rfl (by show Value.tuple #[.slice none (streetsE c ps.l qs.l).1.length 0, int (streetsE c ps.l qs.l).2] = _; rw [hE]; rfl) rfl (by show (streetsE c ps.l qs.l).1.length ≤ 0; rw [hE]; exact Nat.le_refl _) (List.nil_sublist _) (by show LSub _ [Row none (rows (streetsE c ps.l qs.l).1)]; rw [hE]; exact ⟨m0, trivial⟩)
 ·have hb1' := hb1; try simp at hb1'
  have h0 : chkS c ps.l qs.l = 0 := Classical.not_not.1 hb1; have hE : streetsE c ps.l qs.l = (discK c ps.l qs.l 10, 0) := by rw [streetsE, if_neg hb1]
  have hsa := sa_ok h0; refine hc_skip (then_n (hc_seq (hc_region ?_)))
  first | refine r_loadA rfl T.row_api_Sales T.sz_api_Sales rfl mB (by rfl) ?_ | refine r_loadB rfl T.row_api_Sales T.sz_api_Sales rfl mB (by rfl) ?_ | refine r_loadS rfl T.row_api_Sales T.sz_api_Sales rfl rfl (cells_row mB (rows_all (by omega))) ?_
  refine hl_call F.bold_discounts_cb rfl rfl (bold_discounts_meets c ps qs hsa) (List.Perm.refl _) ⟨mB, mB, trivial⟩ fun x hx => ?_; obtain ⟨da, dc⟩ := x; refine r_assign rfl rfl (r_assign rfl rfl (hl_nil (then_n (hc_ret ?_)))); exact ret2 (da, dc) rfl rfl rfl (by show Value.tuple #[.slice da (streetsE c ps.l qs.l).1.length dc, int (streetsE c ps.l qs.l).2] = _; rw [hE]) rfl (by show (streetsE c ps.l qs.l).1.length ≤ dc; rw [hE]; exact hx) (List.nil_sublist _) (by show LSub _ [Row da (rows (streetsE c ps.l qs.l).1)]; rw [hE]; exact ⟨mB, trivial⟩)
theorem bold_Saved_meets (c : Ch) (ps : Sl Int) (qs : Sl Ad) (hn : ps.l.length ≤ 1000000) (hm : qs.l.length ≤ 1000000) : Meets Tryz.prog F.bold_Saved [saV c ps qs] { LI := saL ps qs, inv := fun x : OutC => (savedE c ps.l qs.l).1.length ≤ x.2, val := fun x => .tuple #[.slice x.1 (savedE c ps.l qs.l).1.length x.2, int (savedE c ps.l qs.l).2], LO := fun x => [Row x.1 (rows (savedE c ps.l qs.l).1)] } := by
 refine meets_intro F.bold_Saved_f rfl (Nat.le_of_ble_eq_true rfl) fun w0 => ?_; refine hc_seq (hc_region ?_); refine r_box rfl rfl fun gB => ?_; refine r_assign rfl rfl (r_assign rfl rfl (hl_nil (then_n (hc_seq (hc_seq (hc_region ?_))))))
 first | refine r_loadA rfl T.row_api_Sales T.sz_api_Sales rfl mB (by rfl) ?_ | refine r_loadB rfl T.row_api_Sales T.sz_api_Sales rfl mB (by rfl) ?_ | refine r_loadS rfl T.row_api_Sales T.sz_api_Sales rfl rfl (cells_row mB (rows_all (by omega))) ?_
 refine hl_call F.bold_Check_cb rfl rfl (bold_Check_meets c ps qs hn hm) (List.Perm.refl _) ⟨mB, mB, trivial⟩ fun _ _ => ?_; refine r_assign rfl rfl (hl_nil (then_n (hc_seq (hc_region (r_move rfl rfl (r_neq rfl rfl rfl (hl_nil (then_n ?_))))))))
 first | refine c_dec rfl (fun hb1 => ?_) (fun hb1 => ?_) | refine hc_cond rfl (fun hb1 => ?_) (fun hb1 => ?_)
 ·have hb1' := hb1; try simp at hb1'
  have hE : savedE c ps.l qs.l = ([], chkS c ps.l qs.l) := by rw [savedE, if_pos hb1]
  refine hc_seq (hc_region (r_move rfl rfl (r_assign rfl rfl (r_assign rfl rfl (hl_nil (then_n (hc_ret (then_ret ?_)))))))); refine hq_nilrow (α := Int) ?_; exact ret2 (none, 0) rfl rfl rfl (by show Value.tuple #[.slice none (savedE c ps.l qs.l).1.length 0, int (savedE c ps.l qs.l).2] = _; rw [hE]; rfl) rfl (by show (savedE c ps.l qs.l).1.length ≤ 0; rw [hE]; exact Nat.le_refl _) (List.nil_sublist _) (by show LSub _ [Row none (rows (savedE c ps.l qs.l).1)]; rw [hE]; exact ⟨m0, trivial⟩)
 ·have hb1' := hb1; try simp at hb1'
  have h0 : chkS c ps.l qs.l = 0 := Classical.not_not.1 hb1; have hE : savedE c ps.l qs.l = (numsN 57 c ps.l qs.l, 0) := by rw [savedE, if_neg hb1]
  have hsa := sa_ok h0; refine hc_skip (then_n (hc_seq (hc_region ?_)))
  first | refine r_loadA rfl T.row_api_Sales T.sz_api_Sales rfl mB (by rfl) ?_ | refine r_loadB rfl T.row_api_Sales T.sz_api_Sales rfl mB (by rfl) ?_ | refine r_loadS rfl T.row_api_Sales T.sz_api_Sales rfl rfl (cells_row mB (rows_all (by omega))) ?_
  refine hl_call F.bold_reckon_cb rfl rfl (bold_reckon_meets c ps qs 57 (.inl rfl) hsa) (List.Perm.refl _) ⟨mB, mB, trivial⟩ fun g _ => ?_; refine r_assign rfl rfl (r_assign rfl rfl (hl_nil (then_n (hc_ret ?_)))); refine hq_letgo (rows (numsN 57 c ps.l qs.l)) (List.prefix_refl _) ?_; exact ret2 (some ⟨g, 0, none⟩, ps.l.length) rfl rfl rfl (by show Value.tuple #[.slice (some ⟨g, 0, none⟩) (savedE c ps.l qs.l).1.length ps.l.length, int (savedE c ps.l qs.l).2] = _; rw [hE]; show Value.tuple #[.slice (some ⟨g, 0, none⟩) (numsN 57 c ps.l qs.l).length ps.l.length, int 0] = _; rw [nums_len]) rfl (by show (savedE c ps.l qs.l).1.length ≤ ps.l.length; rw [hE]; exact Nat.le_of_eq (nums_len ..)) (List.nil_sublist _) (by show LSub _ [Row (some ⟨g, 0, none⟩) (rows (savedE c ps.l qs.l).1)]; rw [hE]; exact ⟨m0, trivial⟩)
theorem law09_cards_meets : Meets Tryz.prog F.law09_cards [] { val := fun g : Nat => .slice (some ⟨g, 0, none⟩) 3 3, LO := fun g => [Row (some ⟨g, 0, none⟩) (rows law_cards)] } := by
 refine meets_intro F.law09_cards_f rfl (Nat.le_of_ble_eq_true rfl) fun w0 => ?_; refine hc_seq (hc_region (r_assign rfl rfl (hl_nil (then_n (hc_seq (hc_region ?_)))))); refine r_build _ rfl rfl (fun _ => T.bd_api_Card_0_1 ..) ?_; refine r_build _ rfl rfl (fun _ => T.bd_api_Card_0_1 ..) ?_; refine r_build _ rfl rfl (fun _ => T.bd_api_Card_0_1 ..) ?_; refine r_buildSlice _ rfl rfl (fun _ => T.bs_L_api_Card_3 ..) fun gS => ?_; refine r_assign rfl rfl (hl_nil (then_n (hc_ret ?_))); refine hq_letgo (rows law_cards) (List.prefix_refl _) ?_; exact ret1 gS rfl rfl rfl trivial (List.nil_sublist _) ⟨m0, trivial⟩
theorem law09_rates_meets : Meets Tryz.prog F.law09_rates [] { val := fun g : Nat => .slice (some ⟨g, 0, none⟩) 6 6, LO := fun g => [Row (some ⟨g, 0, none⟩) (rows ([5, 9, 4, 7, 6, 9] : List Int))] } := by
 refine meets_intro F.law09_rates_f rfl (Nat.le_of_ble_eq_true rfl) fun w0 => ?_; refine hc_seq (hc_region (r_assign rfl rfl (hl_nil (then_n (hc_seq (hc_region ?_)))))); refine r_buildSlice _ rfl rfl (fun _ => T.bs_ints_6 ..) fun gS => ?_; refine r_assign rfl rfl (hl_nil (then_n (hc_ret ?_))); refine hq_letgo (rows ([5, 9, 4, 7, 6, 9] : List Int)) (List.prefix_refl _) ?_; exact ret1 gS rfl rfl rfl trivial (List.nil_sublist _) ⟨m0, trivial⟩
end Go.Proofs.YtdlbbfcfahahdaaGreat
end
