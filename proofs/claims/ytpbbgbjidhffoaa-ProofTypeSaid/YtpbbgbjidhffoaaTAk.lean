/- Texts of this claim, one behind another. -/
import Derived.ProofKit
import Derived.OpenShut
import Derived.ShutString
import Derived.ChangeOld
import Derived.Below
import Derived.SliceStrings
import Derived.ChangeSlices
import Derived.Deep.Slices
import Derived.Test.YtpbbgbjidhffoaaTAj
import Derived.Test.YtpbbgbjidhffoaaTAi
import Derived.Test.YtpbbgbjidhffoaaTAh
set_option linter.unusedVariables false
set_option linter.unusedSimpArgs false
section
namespace Go.Proofs.Ytpbbgbjidhffoaa
open Go Go.W
set_option maxRecDepth 20000
attribute [local irreducible] HL HC HQ HB Row Rows2 Blk Facts
/-! ### What marks make -/
def Asc : List Mk → Prop
  | [] => True
  | m :: l => (∀ b ∈ l, m.2.1 < b.2.1 ∨ (m.2.1 = b.2.1 ∧ m.1 = 1)) ∧ Asc l
theorem Asc.filter {l : List Mk} (h : Asc l) (q : Mk → Bool) : Asc (l.filter q) := by
  induction l with
  | nil => exact h
  | cons m l ih =>
    by_cases hq : q m = true
    · rw [List.filter_cons_of_pos hq]
      exact ⟨fun b hb => h.1 b ((List.mem_filter.1 hb).1), ih h.2⟩
    · rw [List.filter_cons_of_neg hq]
      exact ih h.2
def finR (st : List Str × Str × Bool) : List Str := if st.2.2 = true then st.1 ++ [st.2.1] else st.1
end Go.Proofs.Ytpbbgbjidhffoaa
end
section
namespace Go.Proofs.Ytpbbgbjidhffoaa
open Go Go.W
set_option maxRecDepth 20000
attribute [local irreducible] HL HC HQ HB Row Rows2 Blk Facts
theorem words_ok : ∀ s ∈ lineWords, lineErr s = 0 := by decide +kernel
theorem firstErr_all {α : Type} {f : α → Int} : ∀ {l : List α}, (∀ a ∈ l, f a = 0) → firstErr f l = 0
  | [], _ => rfl
  | a :: l, h => by rw [firstErr, if_pos (h a (by simp))]; exact firstErr_all fun b hb => h b (by simp [hb])
/-! ### The marks of a diff -/
def finP (old : List Str) (st : List Str × Nat) : List Str := st.1 ++ old.drop st.2
structure DM (old page : List Str) (i j : Nat) (l : List Mk) : Prop where
  v : ∀ m ∈ l, (i : Int) ≤ m.2.1 ∧ m.2.1 ≤ old.length ∧ 1 ≤ m.1 ∧ m.1 ≤ 3 ∧ (m.1 = 1 ∨ m.2.1 < old.length) ∧ textErr m = 0
  a : Asc l
  f : ∀ nx, nx ≤ i → ∀ ls, finP old (l.foldl (stepP old) (ls, nx)) = ls ++ (old.take i).drop nx ++ page.drop j
/-! ### A page with itself -/
end Go.Proofs.Ytpbbgbjidhffoaa
end
section
namespace Go.Proofs.Ytpbbgbjidhffoaa
open Go Go.W
set_option maxRecDepth 20000
attribute [local irreducible] HL HC HQ HB Row Rows2 Blk Facts
theorem page_ok6 {p : List Str} (h : PageOK p) (h6 : p.length ≤ 6) : pageErr p = 0 := by
  rw [pageErr, if_neg (by omega)]; exact firstErr_all fun s hs => words_ok s (h s hs)
theorem years_ok {ps : List (Sl Str)} (h : PagesOK ps) (h4 : ps.length ≤ 4) : yearsErr (years ps) = 0 := by
  rw [yearsErr_of, if_neg (by omega)]; exact firstErr_all fun p hp => page_ok6 (h p hp).1 (h p hp).2.1
def cumN (ps : List (Sl Str)) : Nat → Nat
  | 0 => 0
  | i + 1 => cumN ps i + freshN (stockN (ps.take i)) (ps.getD i default).l
theorem cum_sum {ps : List (Sl Str)} {K : List Str} (hK : K.Nodup) (hin : ∀ s, 0 < stockN ps s → s ∈ K) : ∀ k, k ≤ ps.length → cumN ps k = sumN K (stockN (ps.take k))
  | 0, _ => (stock_none K).symm
  | k + 1, h => by rw [cumN, cum_sum hK hin k (by omega), stock_sum hK hin (by omega)]
theorem cum_le {ps : List (Sl Str)} (h : ∀ p ∈ ps, p.l.length ≤ 6) : ∀ k, k ≤ ps.length → cumN ps k ≤ k * 6
  | 0, _ => Nat.le_refl _
  | k + 1, hk => by
    have h1 := cum_le h k (by omega); have h2 := fresh_le (ps.getD k default).l (stockN (ps.take k)); have h3 := h _ (getD_mem (show k < ps.length by omega)); rw [cumN, Nat.add_mul]
    omega
theorem asc_no {l : List Ty} (h : l.Pairwise (fun x y => x.1 < y.1)) {k : Nat} (hk : k < l.length) (h0 : 0 < k) : (Op.bytesLess (l.getD k default).1 (l.getD (k - 1) default).1 || ((l.getD k default).1 == (l.getD (k - 1) default).1)) = false := by
  have h1 := List.pairwise_iff_getElem.1 h (k - 1) k (by omega) hk (by omega); rw [getD_at hk, getD_at (show k - 1 < l.length by omega), bytesLess_eq, decide_eq_false (lt_asm h1), Bool.false_or, beq_eq_false_iff_ne]; exact fun e => lt_irr _ (e ▸ h1)
theorem ty_sum {l : List Ty} {m : Nat} (h : ∀ t ∈ l, 0 ≤ t.2 ∧ t.2 ≤ 6) : ∀ k, 0 ≤ ((l.take k).map (·.2)).sum ∧ ((l.take k).map (·.2)).sum ≤ 6 * (k : Int)
  | 0 => by simp
  | k + 1 => by
    have h1 := ty_sum (m := m) h k
    rcases Nat.lt_or_ge k l.length with h2 | h2
    · have h3 := h _ (getD_mem h2)
      rw [take_succ_getD l k h2, List.map_append, List.sum_append]; simp only [List.map_cons, List.map_nil, List.sum_cons, List.sum_nil]
      omega
    · rw [List.take_of_length_le (by omega)]
      rw [List.take_of_length_le h2] at h1
      omega
theorem ty_succ {l : List Ty} {k : Nat} (h : k < l.length) : ((l.take (k + 1)).map (·.2)).sum = ((l.take k).map (·.2)).sum + (l.getD k default).2 := by
  rw [take_succ_getD l k h, List.map_append, List.sum_append]
  simp
theorem fresh_take_meets {A B : Option Addr} {ca cb : Nat} (ps : List (Sl Str)) (p : List Str) {n : Nat} (hn : n ≤ ps.length) (h1 : yearsErr (years (ps.take n)) = 0) (h2 : pageErr p = 0) : Meets Try.prog F.proof_Fresh [.slice A n ca, .slice B p.length cb] { LI := [Rows2 A (ps.take n), Row B (rows p)], val := fun _ : Unit => .tuple #[int (freshN (stockN (ps.take n)) p : Nat), int 0] } := by
  have h := proof_Fresh_meets (A := A) (ca := ca) (B := B) (cb := cb) (ps.take n) p; have ha : askedErr (years (ps.take n)) p = 0 := by rw [askedErr, if_pos h1]; exact h2
  rw [List.length_take, Nat.min_eq_left hn, freshE, if_pos ha, ha] at h; exact h
theorem fresh_ok_meets {A B : Option Addr} {ca cb : Nat} (ps : List (Sl Str)) (p : List Str) (h1 : yearsErr (years ps) = 0) (h2 : pageErr p = 0) : Meets Try.prog F.proof_Fresh [.slice A ps.length ca, .slice B p.length cb] { LI := [Rows2 A ps, Row B (rows p)], val := fun _ : Unit => .tuple #[int (freshN (stockN ps) p : Nat), int 0] } := by
  have h := proof_Fresh_meets (A := A) (ca := ca) (B := B) (cb := cb) ps p; have ha : askedErr (years ps) p = 0 := by rw [askedErr, if_pos h1]; exact h2
  rw [freshE, if_pos ha, ha] at h; exact h
set_option maxHeartbeats 2000000 in
theorem law07_ProofType_meets {N : Option Addr} {cn : Nat} (nums : List Int) (hn : nums.length ≤ 9223372036854775807) :
    Meets Try.prog F.law07_ProofType [.slice N nums.length cn] { LI := [Row N (rows nums)], val := fun _ : Unit => .bool true } := by
 refine meets_intro F.law07_ProofType_f rfl (Nat.le_of_ble_eq_true rfl) fun w0 => ?_; refine hc_seq (hc_region (r_assign rfl rfl (hl_nil (then_n (hc_seq (hc_region (r_move rfl rfl ?_))))))); refine hl_call F.kit_NewDice_cb rfl rfl (kit_NewDice_meets nums) (List.Perm.refl _) ⟨m0, trivial⟩ fun gd _ => ?_; refine r_assign rfl rfl (hl_nil (then_n (hc_seq (hc_region (r_move rfl rfl ?_))))); refine hl_call F.kit_YearsOf_cb rfl rfl (kit_YearsOf_meets 3 hn (dok0 nums) (by omega)) (.refl _) ⟨mB, trivial⟩ fun r hr => ?_; obtain ⟨s1, ps, oy⟩ := r; obtain ⟨hs1, hpsn, hpso, hpsc⟩ := hr; simp only at hpsn hpsc hpso; have hjps : (s1, ps, oy).snd.fst.length = ps.length := rfl; refine r_move rfl rfl ?_; refine hl_call F.kit_PageOf_cb rfl rfl (kit_PageOf_meets 6 hn hs1 (by omega)) (.refl _) ⟨mB, trivial⟩ fun r hr => ?_; obtain ⟨s2, x, ox⟩ := r; obtain ⟨hs2, hxn, hxo, hxc⟩ := hr; simp only at hxn hxc hxo; have hjx : (s2, x, ox).snd.fst.length = x.length := rfl; refine r_assign rfl rfl (r_assign rfl rfl (hl_nil (then_n (hc_seq ?_)))); have hye := years_ok hpso (by omega); have hpx := page_ok6 hxo (by omega); have hp6 : ∀ p ∈ ps, p.l.length ≤ 6 := fun p hp => (hpso p hp).2.1; have hyt : ∀ i, yearsErr (years (ps.take i)) = 0 := fun i => years_ok (fun p hp => hpso p (List.mem_of_mem_take hp)) (by rw [List.length_take]; omega); refine hc_outer (A := oy.1) (ps := ps) mB ?_; refine hc_region (r_assign rfl rfl (hl_nil (then_n (hc_seq (hc_seq (hc_region (r_assign rfl rfl (hl_nil (then_n (hc_block ?_)))))))))); refine hc_loop (β := Nat) ⟨fun i => i ≤ ps.length, fun i => [(3, .pointer (some ⟨gd, 0, none⟩)), (4, .slice oy.1 ps.length oy.2), (5, .slice ox.1 x.length ox.2), (6, int (cumN ps i : Nat)), (7, int i)], fun _ => [dice gd N cn nums s2], fun _ => [Row oy.1 (rows ps), Rows2 oy.1 ps, Row ox.1 (rows x), Row N (rows nums)]⟩ (fun i => ps.length - i) 0 (Nat.zero_le _) ⟨rfl, rfl, rfl, rfl, rfl, trivial⟩ (.refl _) ⟨mB, mB, mB, mB, trivial⟩ fun i hi => ?_; simp only at hi; have hcl := cum_le hp6 i hi; refine hc_seq (hc_seq (hc_region (r_move rfl rfl (r_move rfl rfl ?_)))); refine r_len_sl rfl T.u_pages rfl ?_; refine r_lss rfl rfl rfl (hl_nil (then_n ?_))
 first | refine c_dec rfl (fun hb1 => ?_) (fun hb1 => ?_) | refine hc_cond rfl (fun hb1 => ?_) (fun hb1 => ?_)
 ·have hb1' := hb1; try simp at hb1'
  have hi2 : i < ps.length := by omega
  have hpi := hpso _ (getD_mem hi2); have hpe : pageErr (ps.getD i default).l = 0 := page_ok6 hpi.1 hpi.2.1; have hz : freshN (stockN ps) (ps.getD i default).l = 0 := fresh_zero _ _ (stock_page hi2); have hfl := fresh_le (ps.getD i default).l (stockN (ps.take i)); have hcs : cumN ps (i + 1) = cumN ps i + freshN (stockN (ps.take i)) (ps.getD i default).l := rfl; refine hc_skip (then_n (hc_seq (hc_block (hc_seq ?_)))); refine hc_inner (A := oy.1) (ps := ps) (p := (ps.getD i default)) mB (getD_mem hi2) ?_; refine hc_take2 i mB ?_; refine hc_draw 12 mixed (by decide) (by decide) rfl rfl ?_; refine hb_ex _ rfl rfl rfl (fun w1 => r_move rfl rfl (hl_nil (qe_done rfl))) ?_; refine hb_ex _ rfl rfl rfl (fun w1 => r_move rfl rfl (hl_nil (qe_done rfl))) ?_; refine hb_ex _ rfl rfl rfl (fun w1 => r_slice_hi i rfl T.u_pages T.sz_strs rfl rfl rfl (by omega) (hl_nil (qe_done rfl))) ?_; refine hb_ex _ rfl rfl rfl (fun w1 => r_move rfl rfl (hl_nil (qe_done rfl))) ?_; refine hb_ex _ rfl rfl rfl (fun w1 => r_move rfl rfl (hl_nil (qe_done rfl))) ?_; refine hb_ex _ rfl rfl rfl (fun w1 => r_elem (α := Sl Str) ps i rfl T.u_pages T.sz_strs rfl rfl rfl mB rfl (by omega) (by decide) (hl_nil (qe_done rfl))) ?_; refine hb_ex _ rfl rfl rfl (fun w1 => r_load (v := .slice (ps.getD i default).a (ps.getD i default).l.length (ps.getD i default).c) rfl T.cell_strs rfl (cell_row mB (rows_get0 (by omega) rfl)) (hl_nil (qe_done rfl))) ?_; refine hb_ex _ rfl rfl rfl (fun w1 => hl_call F.proof_Fresh_cb rfl rfl (fresh_take_meets ps (ps.getD i default).l hi (hyt i) hpe) (List.Perm.refl _) ⟨mB, mB, trivial⟩ fun _ _ => (hl_nil (qe_done rfl))) ?_; refine hb_ex _ rfl rfl rfl (fun w1 => r_move rfl rfl (hl_nil (qe_done rfl))) ?_; refine hb_ex _ rfl rfl rfl (fun w1 => r_extract rfl rfl rfl (hl_nil (qe_done rfl))) ?_; refine hb_ex _ rfl rfl rfl (fun w1 => r_extract rfl rfl rfl (hl_nil (qe_done rfl))) ?_; refine hb_ex _ rfl rfl rfl (fun w1 => r_assign rfl rfl (hl_nil (qe_done rfl))) ?_; refine hb_nil ⟨rfl, ?_⟩; refine r_assign rfl rfl (hl_nil (then_n (hc_seq (hc_region (r_move rfl rfl (r_move rfl rfl (r_move rfl rfl ?_))))))); refine r_elem (α := Sl Str) ps i rfl T.u_pages T.sz_strs rfl rfl rfl mB rfl (by omega) (by decide) ?_; refine r_load (v := .slice (ps.getD i default).a (ps.getD i default).l.length (ps.getD i default).c) rfl T.cell_strs rfl (cell_row mB (rows_get0 (by omega) rfl)) ?_; have hd := fresh_ok_meets (A := oy.1) (ca := oy.2) (B := (ps.getD i default).a) (cb := (ps.getD i default).c) ps (ps.getD i default).l hye hpe; rw [hz] at hd; refine hl_call F.proof_Fresh_cb rfl rfl (hd) (hpR := [_]) (List.Perm.refl _) ⟨mB, mB, trivial⟩ fun _ _ => ?_; refine r_move rfl rfl (r_extract rfl rfl rfl (r_extract rfl rfl rfl (r_assign rfl rfl (r_assign rfl rfl (hl_nil (then_n (hc_seq (hc_seq (hc_region (r_move rfl rfl (r_neq rfl rfl rfl ?_))))))))))); refine r_move rfl rfl ?_; refine g_split rfl rfl ?_ ?_
  ·intro hg1; have hg1' := hg1; try simp at hg1'
   refine g_yes rfl rfl hg1 (r_move rfl rfl (g_yes rfl rfl hg1 (r_neq rfl rfl rfl ?_))); refine p_f rfl rfl (bf1 hg1) rfl ?_; refine r_move rfl rfl ?_; refine g_split rfl rfl ?_ ?_
   ·intro hg2; have hg2' := hg2; try simp at hg2'
    refine g_yes rfl rfl hg2 (r_move rfl rfl (g_yes rfl rfl hg2 (r_lss rfl rfl rfl ?_))); refine p_f rfl rfl (bf1 hg2) rfl ?_; refine r_move rfl rfl ?_; refine g_split rfl rfl ?_ ?_
    ·intro hg3; have hg3' := hg3; try simp at hg3'
     refine g_yes rfl rfl hg3 (r_move rfl rfl (g_yes rfl rfl hg3 (r_neq rfl rfl rfl ?_))); refine p_f rfl rfl (bf1 hg3) rfl ?_; refine hl_nil (then_n ?_)
     first | refine c_dec rfl (fun hb2 => ?_) (fun hb2 => ?_) | refine hc_cond rfl (fun hb2 => ?_) (fun hb2 => ?_)
     ·have hb2' := hb2; try simp at hb2'
     ·have hb2' := hb2; try simp at hb2'
      refine hc_skip (then_n (hc_region (r_move rfl rfl (r_move rfl rfl ?_)))); refine r_add ((cumN ps (i + 1) : Nat) : Int) rfl rfl rfl (by rw [hcs]; omega) (by rw [hcs]; unfold I64; omega) ?_; refine r_assign rfl rfl (hl_nil (inb_n (then_n (hc_region (r_move rfl rfl ?_))))); refine r_add _ rfl rfl rfl rfl (by unfold I64; omega) ?_; refine r_assign rfl rfl (hl_nil ?_); exact again _ (i + 1) (by show i + 1 ≤ ps.length; omega) (by show ps.length - (i + 1) < ps.length - i; omega) ⟨rfl, rfl, rfl, rfl, rfl, trivial⟩ (.refl _) ⟨mB, mB, mB, mB, trivial⟩
    ·intro hg3; have hg3' := hg3; try simp at hg3'
     exfalso; have h9 : ¬ ((freshN (stockN (ps.take i)) (ps.getD i default).l : Nat) : Int) < 0 := (by omega); rw [decide_eq_false h9] at hg3; cases hg3
   ·intro hg2; have hg2' := hg2; try simp at hg2'
  ·intro hg1; have hg1' := hg1; try simp at hg1'
 ·have hb1' := hb1; try simp at hb1'
  obtain rfl : i = ps.length := by omega
  refine hc_exit (then_exit (then_exit (inb_hit (then_n (hc_seq (hc_region (r_move rfl rfl ?_))))))); have hd := proof_Stock_meets (A := oy.1) (c := oy.2) ps hye; refine hl_call F.proof_Stock_cb rfl rfl (hd) (hpR := [_]) (List.Perm.refl _) ⟨mB, trivial⟩ fun y hy => ?_; obtain ⟨ts, ot⟩ := y; change StockIs ps ts at hy; have htl := hy.len hp6; have htb : ∀ t ∈ ts, 0 ≤ t.2 ∧ t.2 ≤ 6 := fun t ht => by have h1 := hy.at ht; have h2 := stock_bd hp6 t.1; omega
  refine r_move rfl rfl (r_extract rfl rfl rfl (r_extract rfl rfl rfl (r_assign rfl rfl (r_assign rfl rfl (hl_nil (then_n (hc_seq (hc_seq (hc_region (r_move rfl rfl (r_neq rfl rfl rfl ?_))))))))))); refine r_move rfl rfl ?_; refine g_split rfl rfl ?_ ?_
  ·intro hg4; have hg4' := hg4; try simp at hg4'
   refine g_yes rfl rfl hg4 (r_move rfl rfl (g_yes rfl rfl hg4 ?_)); refine r_len_sl rfl T.u_L_api_Type rfl ?_; refine g_yes rfl rfl hg4 (r_gtr rfl rfl rfl ?_); refine p_f rfl rfl (bf1 hg4) rfl ?_; refine hl_nil (then_n ?_)
   first | refine c_dec rfl (fun hb3 => ?_) (fun hb3 => ?_) | refine hc_cond rfl (fun hb3 => ?_) (fun hb3 => ?_)
   ·have hj : (ts, ot).fst.length = ts.length := rfl
    omega
   ·have hb3' := hb3; try simp at hb3'
    refine hc_skip (then_n (hc_seq (hc_region (r_assign rfl rfl (hl_nil (then_n (hc_seq (hc_seq (hc_region (r_assign rfl rfl (hl_nil ?_))))))))))); refine then_n (hc_block ?_); refine hc_loop (β := Nat) ⟨fun i => i ≤ ts.length, fun i => [(3, .pointer (some ⟨gd, 0, none⟩)), (4, .slice oy.1 ps.length oy.2), (5, .slice ox.1 x.length ox.2), (6, int (cumN ps ps.length : Nat)), (12, .slice ot.1 ts.length ot.2), (14, int ((ts.take i).map (·.2)).sum), (15, int i)], fun _ => [dice gd N cn nums s2], fun _ => Row ot.1 (rows ts) :: [Row oy.1 (rows ps), Rows2 oy.1 ps, Row ox.1 (rows x), Row N (rows nums)]⟩ (fun i => ts.length - i) 0 (Nat.zero_le _) ⟨rfl, rfl, rfl, rfl, rfl, rfl, rfl, trivial⟩ (.refl _) ⟨mB, mB, mB, mB, mB, trivial⟩ fun i hi => ?_; simp only at hi; have hsm := ty_sum (m := 0) htb i; refine hc_seq (hc_seq (hc_region (r_move rfl rfl (r_move rfl rfl ?_)))); refine r_len_sl rfl T.u_L_api_Type rfl ?_; refine r_lss rfl rfl rfl (hl_nil (then_n ?_))
    first | refine c_dec rfl (fun hb4 => ?_) (fun hb4 => ?_) | refine hc_cond rfl (fun hb4 => ?_) (fun hb4 => ?_)
    ·have hb4' := hb4; try simp at hb4'
     have hi2 : i < ts.length := by omega
     have hti := hy.at (getD_mem hi2); have htb2 := htb _ (getD_mem hi2); have hss := ty_succ hi2; refine hc_skip (then_n (hc_seq (hc_block (hc_seq (hc_seq ?_))))); refine hc_draw 21 mixed (by decide) (by decide) rfl rfl ?_; refine hb_ex _ rfl rfl rfl (fun w1 => r_move rfl rfl (hl_nil (qe_done rfl))) ?_; refine hb_ex _ rfl rfl rfl (fun w1 => r_move rfl rfl (hl_nil (qe_done rfl))) ?_; refine hb_ex _ rfl rfl rfl (fun w1 => r_elem (α := Ty) ts i rfl T.u_L_api_Type T.sz_api_Type rfl rfl rfl mB rfl (by omega) (by decide) (hl_nil (qe_done rfl))) ?_
     apply hb_ex _ rfl rfl rfl
     ·intro w1
      first | refine r_fieldAddr ⟨_, 1, none⟩ rfl rfl T.fa_api_Type_1 rfl ?_ | refine r_fieldAddr _ rfl rfl T.fa_api_Type_1 rfl ?_
      refine hl_nil ?_; exact qe_done rfl
     refine hb_ex _ rfl rfl rfl (fun w1 => r_load (v := int (ts.getD i default).2) rfl T.cell_int rfl (cell_row_f mB (rows_get (by omega) rfl)) (hl_nil (qe_done rfl))) ?_; refine hb_ex _ rfl rfl rfl (fun w1 => r_lss rfl rfl rfl (hl_nil (qe_done rfl))) ?_; refine hb_ex _ rfl rfl rfl (fun w1 => r_move rfl rfl (hl_nil (qe_done rfl))) ?_; refine hb_split (t := 93) (want := false) rfl ?_ ?_
     ·intro hg5; have hg5' := hg5; try simp at hg5'
      apply hb_ex _ rfl rfl rfl
      ·intro w1; refine g_yes rfl rfl hg5 (r_move rfl rfl (hl_nil ?_)); exact qe_done rfl
      apply hb_ex _ rfl rfl rfl
      ·intro w1; refine g_yes rfl rfl hg5 (r_gtr rfl rfl rfl (hl_nil ?_)); exact qe_done rfl
      apply hb_ex _ rfl rfl rfl
      ·intro w1; refine g_yes rfl rfl hg5 (r_move rfl rfl (hl_nil ?_)); exact qe_done rfl
      refine hb_split (t := 96) (want := true) rfl ?_ ?_
      ·intro hg6; have hg6' := hg6; try simp at hg6'
       have h0i : 0 < i := by have h9 : (0 : Int) < i := of_decide_eq_true (eq_of_beq hg6); omega
       apply hb_ex _ rfl rfl rfl
       ·intro w1; refine g_yes rfl rfl hg6 (r_move rfl rfl (hl_nil ?_)); exact qe_done rfl
       apply hb_ex _ rfl rfl rfl
       ·intro w1; refine g_yes rfl rfl hg6 (r_move rfl rfl (hl_nil ?_)); exact qe_done rfl
       apply hb_ex _ rfl rfl rfl
       ·intro w1; refine g_yes rfl rfl hg6 ?_; refine r_elem (α := Ty) ts i rfl T.u_L_api_Type T.sz_api_Type rfl rfl rfl mB rfl (by omega) (by decide) ?_; refine hl_nil ?_; exact qe_done rfl
       apply hb_ex _ rfl rfl rfl
       ·intro w1; refine g_yes rfl rfl hg6 ?_
        first | refine r_fieldAddr ⟨_, 0, none⟩ rfl rfl T.fa_api_Type_0 rfl ?_ | refine r_fieldAddr _ rfl rfl T.fa_api_Type_0 rfl ?_
        refine hl_nil ?_; exact qe_done rfl
       apply hb_ex _ rfl rfl rfl
       ·intro w1; refine g_yes rfl rfl hg6 ?_; refine r_load (v := str (ts.getD i default).1) rfl T.cell_string rfl (cell_row_f mB (rows_get (by omega) rfl)) ?_; refine hl_nil ?_; exact qe_done rfl
       apply hb_ex _ rfl rfl rfl
       ·intro w1; refine g_yes rfl rfl hg6 (r_move rfl rfl (hl_nil ?_)); exact qe_done rfl
       apply hb_ex _ rfl rfl rfl
       ·intro w1; refine g_yes rfl rfl hg6 (r_move rfl rfl (hl_nil ?_)); exact qe_done rfl
       apply hb_ex _ rfl rfl rfl
       ·intro w1; refine g_yes rfl rfl hg6 ?_; refine r_sub ((i - 1 : Nat) : Int) rfl rfl rfl (by omega) (by unfold I64; omega) ?_; refine hl_nil ?_; exact qe_done rfl
       apply hb_ex _ rfl rfl rfl
       ·intro w1; refine g_yes rfl rfl hg6 ?_; refine r_elem (α := Ty) ts (i - 1) rfl T.u_L_api_Type T.sz_api_Type rfl rfl rfl mB rfl (by omega) (by decide) ?_; refine hl_nil ?_; exact qe_done rfl
       apply hb_ex _ rfl rfl rfl
       ·intro w1; refine g_yes rfl rfl hg6 ?_
        first | refine r_fieldAddr ⟨_, 0, none⟩ rfl rfl T.fa_api_Type_0 rfl ?_ | refine r_fieldAddr _ rfl rfl T.fa_api_Type_0 rfl ?_
        refine hl_nil ?_; exact qe_done rfl
       apply hb_ex _ rfl rfl rfl
       ·intro w1; refine g_yes rfl rfl hg6 ?_; refine r_load (v := str (ts.getD (i - 1) default).1) rfl T.cell_string rfl (cell_row_f mB (rows_get (by omega) rfl)) ?_; refine hl_nil ?_; exact qe_done rfl
       refine hb_nil ⟨rfl, ?_⟩; refine g_yes rfl rfl hg6 (r_sleq rfl rfl rfl (g_yes rfl rfl hg5 ?_)); refine p_t rfl rfl (bt1 hg6) rfl ?_; refine p_f rfl rfl (bf1 hg5) rfl ?_; refine hl_nil (then_n ?_)
       first | refine c_dec rfl (fun hb5 => ?_) (fun hb5 => ?_) | refine hc_cond rfl (fun hb5 => ?_) (fun hb5 => ?_)
       ·exfalso
        rw [asc_no hy.asc hi2 h0i] at hb5
        cases hb5
       ·have hb5' := hb5; try simp at hb5'
        refine hc_skip (then_n (hc_region (r_move rfl rfl (r_move rfl rfl (r_move rfl rfl ?_))))); refine r_elem (α := Ty) ts i rfl T.u_L_api_Type T.sz_api_Type rfl rfl rfl mB rfl (by omega) (by decide) ?_
        first | refine r_fieldAddr ⟨_, 1, none⟩ rfl rfl T.fa_api_Type_1 rfl ?_ | refine r_fieldAddr _ rfl rfl T.fa_api_Type_1 rfl ?_
        refine r_load (v := int (ts.getD i default).2) rfl T.cell_int rfl (cell_row_f mB (rows_get (by omega) rfl)) ?_; refine r_add ((ts.take (i + 1)).map (·.2)).sum rfl rfl rfl hss.symm (by rw [hss]; unfold I64; omega) ?_; refine r_assign rfl rfl (hl_nil (inb_n (then_n (hc_region (r_move rfl rfl ?_))))); refine r_add _ rfl rfl rfl rfl (by unfold I64; omega) ?_; refine r_assign rfl rfl (hl_nil ?_); exact again _ (i + 1) (by show i + 1 ≤ ts.length; omega) (by show ts.length - (i + 1) < ts.length - i; omega) ⟨rfl, rfl, rfl, rfl, rfl, rfl, rfl, trivial⟩ (.refl _) ⟨mB, mB, mB, mB, mB, trivial⟩
      ·intro hg6; have hg6' := hg6; try simp at hg6'
       refine hb_ex _ rfl rfl rfl (fun w1 => g_no rfl rfl rfl rfl rfl hg6 (hl_nil (qe_done rfl))) ?_; refine hb_ex _ rfl rfl rfl (fun w1 => g_no rfl rfl rfl rfl rfl hg6 (hl_nil (qe_done rfl))) ?_; refine hb_ex _ rfl rfl rfl (fun w1 => g_no rfl rfl rfl rfl rfl hg6 (hl_nil (qe_done rfl))) ?_; refine hb_ex _ rfl rfl rfl (fun w1 => g_no rfl rfl rfl rfl rfl hg6 (hl_nil (qe_done rfl))) ?_; refine hb_ex _ rfl rfl rfl (fun w1 => g_no rfl rfl rfl rfl rfl hg6 (hl_nil (qe_done rfl))) ?_; refine hb_ex _ rfl rfl rfl (fun w1 => g_no rfl rfl rfl rfl rfl hg6 (hl_nil (qe_done rfl))) ?_; refine hb_ex _ rfl rfl rfl (fun w1 => g_no rfl rfl rfl rfl rfl hg6 (hl_nil (qe_done rfl))) ?_; refine hb_ex _ rfl rfl rfl (fun w1 => g_no rfl rfl rfl rfl rfl hg6 (hl_nil (qe_done rfl))) ?_; refine hb_ex _ rfl rfl rfl (fun w1 => g_no rfl rfl rfl rfl rfl hg6 (hl_nil (qe_done rfl))) ?_; refine hb_ex _ rfl rfl rfl (fun w1 => g_no rfl rfl rfl rfl rfl hg6 (hl_nil (qe_done rfl))) ?_; refine hb_ex _ rfl rfl rfl (fun w1 => g_no rfl rfl rfl rfl rfl hg6 (hl_nil (qe_done rfl))) ?_; refine hb_nil ⟨rfl, ?_⟩; refine g_no rfl rfl rfl rfl rfl hg6 (g_yes rfl rfl hg5 ?_); refine p_f rfl rfl (bf2 hg6) rfl ?_; refine p_f rfl rfl (bf1 hg5) rfl ?_; refine hl_nil (then_n (c_f rfl rfl (hc_skip (then_n (hc_region (r_move rfl rfl (r_move rfl rfl (r_move rfl rfl ?_)))))))); refine r_elem (α := Ty) ts i rfl T.u_L_api_Type T.sz_api_Type rfl rfl rfl mB rfl (by omega) (by decide) ?_
       first | refine r_fieldAddr ⟨_, 1, none⟩ rfl rfl T.fa_api_Type_1 rfl ?_ | refine r_fieldAddr _ rfl rfl T.fa_api_Type_1 rfl ?_
       refine r_load (v := int (ts.getD i default).2) rfl T.cell_int rfl (cell_row_f mB (rows_get (by omega) rfl)) ?_; refine r_add ((ts.take (i + 1)).map (·.2)).sum rfl rfl rfl hss.symm (by rw [hss]; unfold I64; omega) ?_; refine r_assign rfl rfl (hl_nil (inb_n (then_n (hc_region (r_move rfl rfl ?_))))); refine r_add _ rfl rfl rfl rfl (by unfold I64; omega) ?_; refine r_assign rfl rfl (hl_nil ?_); exact again _ (i + 1) (by show i + 1 ≤ ts.length; omega) (by show ts.length - (i + 1) < ts.length - i; omega) ⟨rfl, rfl, rfl, rfl, rfl, rfl, rfl, trivial⟩ (.refl _) ⟨mB, mB, mB, mB, mB, trivial⟩
     ·intro hg5; have hg5' := hg5; try simp at hg5'
      exfalso; have h9 : ¬ (ts.getD i default).2 < 1 := (by have h8 := hti.1; have h7 := hti.2; omega); rw [decide_eq_false h9] at hg5; cases hg5
    ·have hb4' := hb4; try simp at hb4'
     obtain rfl : i = ts.length := by omega
     rw [List.take_length] at *; refine hc_exit (then_exit (then_exit (inb_hit (then_n (hc_seq (hc_region (r_move rfl rfl (r_move rfl rfl ?_)))))))); refine hl_call F.proof_Fresh_cb rfl rfl (fresh_ok_meets ps x hye hpx) (hpR := [_]) (List.Perm.refl _) ⟨mB, mB, trivial⟩ fun _ _ => ?_; refine r_move rfl rfl (r_extract rfl rfl rfl (r_extract rfl rfl rfl (r_assign rfl rfl (r_assign rfl rfl (hl_nil (then_n (hc_seq (hc_region ?_)))))))); refine r_buildSlice _ rfl rfl (fun _ => T.bs_pages_0 ..) fun gS => ?_; refine r_move rfl rfl ?_; refine r_append ps.length (rows ps) T.el_pages rfl rfl rfl (Grow.new (cs := #[]) (n := 0) rfl (by decide)) (hp' := [dice gd N cn nums s2]) (List.Perm.refl _) (Src.row mB (rows_len ps) (rows_one ps) (by decide)) (Nat.zero_add _) rfl (by unfold maxLen; omega) (by omega) fun A1 c1 og1 hG1 => ?_; refine r_move rfl rfl ?_; refine hl_call F.kit_PageOf_cb rfl rfl (kit_PageOf_meets 6 hn hs2 (by omega)) (hpR := og1) List.perm_append_comm ⟨mB, trivial⟩ fun r hr => ?_; obtain ⟨s3, z, oz⟩ := r; obtain ⟨hs3, hzn, hzo, hzc⟩ := hr; simp only at hzn hzc hzo; have hjz : (s3, z, oz).snd.fst.length = z.length := rfl; refine r_buildSlice _ rfl rfl (fun _ => T.bs_pages_1 ..) fun gS => ?_; refine r_append (ps.length + 1) (rows (ps ++ [(⟨oz.1, oz.2, z⟩ : Sl Str)])) T.el_pages rfl rfl rfl hG1 (hp' := [(gS, .cells #[.slice oz.1 z.length oz.2] T.strs (0, 0)), dice gd N cn nums s3]) (show List.Perm ((gS, Obj.cells #[.slice oz.1 z.length oz.2] T.strs (0, 0)) :: ([dice gd N cn nums s3] ++ og1)) (og1 ++ [(gS, Obj.cells #[.slice oz.1 z.length oz.2] T.strs (0, 0)), dice gd N cn nums s3]) from perm_of fun q => by simp only [List.countP_append, List.countP_cons, List.countP_nil]; omega) (Src.own (cs := #[.slice oz.1 z.length oz.2]) (m := 1) (List.mem_append_right _ m0) rfl rfl) rfl (by rw [rows_append]; rfl) (by unfold maxLen; omega) (by omega) fun A2 c2 og2 hG2 => ?_; refine r_move rfl rfl ?_; have hye2 : yearsErr (years (ps ++ [(⟨oz.1, oz.2, z⟩ : Sl Str)])) = 0 := years_ok (hpso.snoc ⟨hzo, by show z.length ≤ 6; omega, by show z.length ≤ oz.2; omega⟩) (by rw [List.length_append, List.length_singleton]; omega); have hd := fresh_ok_meets (A := A2) (ca := c2) (B := ox.1) (cb := ox.2) (ps ++ [(⟨oz.1, oz.2, z⟩ : Sl Str)]) x hye2 hpx; rw [List.length_append] at hd; refine hl_grown hG2 ?_; refine hl_rows2_snoc (A := A2) (A' := oy.1) (ps := ps) (p := (⟨oz.1, oz.2, z⟩ : Sl Str)) mB mB mB ?_; refine hl_call F.proof_Fresh_cb rfl rfl (hd) (hpR := [_, _]) (List.Perm.refl _) ⟨mB, mB, trivial⟩ fun _ _ => ?_; refine r_move rfl rfl (r_extract rfl rfl rfl (r_extract rfl rfl rfl (r_assign rfl rfl (r_assign rfl rfl (hl_nil (then_n (hc_seq ?_))))))); have hKn := hy.nodup; have hcum := cum_sum hKn (fun s hs => hy.all hs) ps.length (Nat.le_refl _); rw [List.take_length] at hcum; have hsum := hy.sum; have hfx := fresh_le x (stockN ps); have hfm := fresh_mono x (stockN ps) (stockN (ps ++ [(⟨oz.1, oz.2, z⟩ : Sl Str)])) (fun s => by rw [stock_snoc]; exact Nat.le_max_left ..); refine hc_region (r_move rfl rfl (r_eql rfl rfl rfl (r_move rfl rfl ?_))); refine g_split rfl rfl ?_ ?_
     ·intro hg7; have hg7' := hg7; try simp at hg7'
      refine g_yes rfl rfl hg7 (r_move rfl rfl (g_yes rfl rfl hg7 (r_eql rfl rfl rfl ?_))); refine p_t rfl rfl (bt1 hg7) rfl ?_; refine r_move rfl rfl ?_; refine g_split rfl rfl ?_ ?_
      ·intro hg8; have hg8' := hg8; try simp at hg8'
       refine g_yes rfl rfl hg8 (r_move rfl rfl (g_yes rfl rfl hg8 (r_move rfl rfl (g_yes rfl rfl hg8 (r_eql rfl rfl rfl ?_))))); refine p_t rfl rfl (bt1 hg8) rfl ?_; refine r_move rfl rfl ?_; refine g_split rfl rfl ?_ ?_
       ·intro hg9; have hg9' := hg9; try simp at hg9'
        refine g_yes rfl rfl hg9 (r_move rfl rfl (g_yes rfl rfl hg9 (r_move rfl rfl (g_yes rfl rfl hg9 ?_)))); refine r_len_sl rfl T.u_strs rfl ?_; refine g_yes rfl rfl hg9 (r_leq rfl rfl rfl ?_); refine p_t rfl rfl (bt1 hg9) rfl ?_; refine r_move rfl rfl ?_; refine g_split rfl rfl ?_ ?_
        ·intro hg10; have hg10' := hg10; try simp at hg10'
         refine g_yes rfl rfl hg10 (r_move rfl rfl (g_yes rfl rfl hg10 (r_move rfl rfl (g_yes rfl rfl hg10 (r_leq rfl rfl rfl ?_))))); refine p_t rfl rfl (bt1 hg10) rfl ?_; refine r_move rfl rfl ?_; refine g_split rfl rfl ?_ ?_
         ·intro hg11; have hg11' := hg11; try simp at hg11'
          refine g_yes rfl rfl hg11 ?_; refine hl_call F.law07_correcting_cb rfl rfl (law07_correcting_meets) (List.Perm.refl _) trivial fun _ _ => ?_; refine p_t rfl rfl (bt1 hg11) rfl ?_; refine r_assign rfl rfl (hl_nil (then_n (hc_ret ?_))); exact ret1 () rfl rfl rfl trivial (List.nil_sublist _) trivial
         ·intro hg11; have hg11' := hg11; try simp at hg11'
          exfalso; exact of_decide_eq_false (bf2 hg11) (by omega)
        ·intro hg10; have hg10' := hg10; try simp at hg10'
         exfalso; exact of_decide_eq_false (bf2 hg10) (by omega)
       ·intro hg9; have hg9' := hg9; try simp at hg9'
        exfalso; exact of_decide_eq_false (bf2 hg9) (by rw [hcum]; first | exact hsum.symm | (rw [List.take_length]; exact hsum.symm))
      ·intro hg8; have hg8' := hg8; try simp at hg8'
     ·intro hg7; have hg7' := hg7; try simp at hg7'
  ·intro hg4; have hg4' := hg4; try simp at hg4'
end Go.Proofs.Ytpbbgbjidhffoaa
end
section
namespace Go.W
open Go Go.RowKit Go.ChangeShapes Go.WideShapes
section
variable {H : Type} {enc : TypeId × Value → H} {P : Program} {w : World} {base : Nat} {spare : Nat → Bool} {held : Bool}
theorem row_of {α : Type} [El α] (h1 : El.sz α = 1) {a : Addr} {l : List α} (h : ∀ j (hj : j < l.length), ∃ v, El.cells l[j] = [v] ∧ w.cell? (a.add j) = some v) : (Row (some a) (rows l)).P w := by
  intro j u hu; refine ⟨a, rfl, ?_⟩
  have hj : j < l.length := by
    have := (List.getElem?_eq_some_iff.1 hu).1; rw [rows_len, h1, Nat.mul_one] at this; exact this
  obtain ⟨v, hv, hc⟩ := h j hj; have h2 := rows_get (l := l) (i := j) (j := 0) (v := v) hj (by simp [List.getD_eq_getElem?_getD, hj, hv]); rw [h1] at h2; simp only [Nat.mul_one, Nat.add_zero] at h2; rw [hu] at h2
  cases h2
  exact hc
theorem in_ints {t e : TypeId} {A : Option Addr} {n c fuel : Nat} {x : DataW H × List MemPlace} (ht : P.underlying t = some (.slice e)) (he : P.underlying e = some (.int .i64)) (hc : P.cellsOf e = 1)
    (h : DataW.trod enc P w base spare held fuel t [.slice A n c] = some x) : ∃ l : List Int, n = l.length ∧ l.length ≤ c ∧ c ≤ maxLen ∧ (Row A (rows l)).P w ∧ ∀ z ∈ l, I64 z := by
  rcases open_ints ht he hc h with ⟨hcs, _⟩ | ⟨a, len, cap, zs, hcs, _, hl, hm, hlen, _, hcell, hwf⟩
  · simp at hcs
    obtain ⟨rfl, rfl, rfl⟩ := hcs; exact ⟨[], rfl, Nat.le_refl _, by unfold maxLen; omega, Row.nil _ _, by intro z hz; simp at hz⟩
  · simp at hcs
    obtain ⟨rfl, rfl, rfl⟩ := hcs; have hle : n ≤ zs.length := by rw [hlen]; split <;> omega
    have hlen2 : (zs.take n).length = n := by rw [List.length_take]; omega
    refine ⟨zs.take n, hlen2.symm, by rw [hlen2]; exact hl, hm, row_of rfl fun j hj => ?_, fun z hz => ?_⟩
    · rw [hlen2] at hj
      refine ⟨int zs[j], by simp [El.cells], ?_⟩; rw [hcell j (by omega)]
      simp [List.getD_eq_getElem?_getD, show j < zs.length by omega]
    · have := hwf z (List.mem_of_mem_take hz)
      simp [Lit.wf, IntKind.min, IntKind.max, IntKind.signed, IntKind.bits] at this
      exact ⟨by omega, by omega⟩
theorem law_calls {f : Nat} {args : List Value} {LI : List Fact} (h : Meets P f args ({ LI := LI, val := fun _ : Unit => .bool true } : Con Unit)) (hL : ∀ F ∈ LI, F.P w) : Calls P f args.toArray w fun e w' => e = .returned (.bool true) ∧ Below w.heap.size w w' := by
  refine (h w ⟨Ext.refl _ _, by simp, by simp, by simp, hL, by simp, fun F hF k hk => .inr (.inr ⟨F, hF, hk⟩)⟩).mono fun e w' hp => ?_; obtain ⟨_, rfl, _, hwi⟩ := hp; exact ⟨rfl, hwi.ext.below⟩
end
end Go.W
end
