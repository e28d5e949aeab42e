/- Trades made of numbers. -/
import Derived.Test.YtlpgheniajdkfaaPbd
namespace Go.Proofs.Ytlpgheniajdkfaa
open Go Go.W
set_option linter.unusedVariables false
set_option linter.unusedSimpArgs false
set_option maxRecDepth 20000
attribute [local irreducible] HL HC HQ HB Row Rows2 Blk Facts

abbrev trB (g : Nat) (A : Option Addr) (n c : Nat) (B : Option Addr) (m k : Nat) : Nat × Obj := (g, .cells #[.slice A n c, .slice B m k] T.api_Trades (0, 0))
abbrev hdB (g : Nat) (w : Str) (cl se : Int) (A : Option Addr) (n c : Nat) : Nat × Obj := (g, .cells #[str w, int cl, int se, .slice A n c] T.api_Head (0, 0))
abbrev TRes := List Cl × List Hd × OutC × OutC
structure TOf (m1 m2 : Nat) (x : TRes) : Prop where
  ok : checkT (trOf x.1 x.2.1) = 0
  c1 : 1 ≤ x.1.length
  c2 : x.1.length ≤ m1
  h2 : x.2.1.length ≤ m2
  ca : x.1.length ≤ x.2.2.1.2
  cb : x.2.1.length ≤ x.2.2.2.2
  ha : ∀ h ∈ x.2.1, h.2.2.2.l.length ≤ 1000000
theorem hs_ha {words : List Int} {nc n : Nat} {hs : List Hd} (hn : n ≤ 6) (h : HsMade words nc n hs) : ∀ x ∈ hs, x.2.2.2.l.length ≤ 1000000 := by
  intro x hx
  obtain ⟨i, hi, rfl⟩ := List.getElem_of_mem hx
  have ha := (h i hi).2.1
  rw [getD_at hi] at ha
  have hg := asc_ge (l := hs[i].2.2.2.l) fun k hk => ⟨(also_ok (ha k hk)).1, (also_ok (ha k hk)).2.2.2⟩
  by_cases h0 : hs[i].2.2.2.l.length = 0
  · omega
  · have h1 := hg (hs[i].2.2.2.l.length - 1) (by omega)
    have h2 := (also_ok (ha (hs[i].2.2.2.l.length - 1) (by omega))).2.1
    omega

set_option maxHeartbeats 2000000 in
theorem kit_TradesOf_meets {g : Nat} {A : Option Addr} {c : Nat} {nums : List Int} {s : Int × Int} (m1 m2 : Nat) (hn : nums.length ≤ 9223372036854775807) (hs : DOK nums s) (h1 : 2 ≤ m1 ∧ m1 ≤ 6) (h2 : m2 ≤ 6) :
    Meets Try.prog F.kit_TradesOf [.pointer (some ⟨g, 0, none⟩), int m1, int m2] (diceCon g A c nums s (TOf m1 m2) (fun x => .agg #[.slice x.2.2.1.1 x.1.length x.2.2.1.2, .slice x.2.2.2.1 x.2.1.length x.2.2.2.2]) (fun x => [Row x.2.2.1.1 (rows x.1), RowsF x.2.2.2.1 x.2.1 Hd.row])) := by
 refine meets_intro F.kit_TradesOf_f rfl (Nat.le_of_ble_eq_true rfl) fun w0 => ?_
 refine hc_seq ?_
 refine hc_region ?_
 refine r_alloc rfl (fun _ => T.al_api_Trades _) fun g6 => ?_
 refine hl_nil ?_
 refine then_n ?_
 refine hc_seq ?_
 refine hc_region ?_
 refine r_alloc rfl (fun _ => T.al_api_Trades _) fun g7 => ?_
 refine hl_nil ?_
 refine then_n ?_
 refine hc_seq ?_
 refine hc_perm (List.perm_append_comm (l₁ := [trB g7 none 0 0 none 0 0, trB g6 none 0 0 none 0 0]) (l₂ := [dice g A c nums s])) ?_
 refine hc_region ?_
 refine r_move rfl rfl ?_
 refine hl_call F.kit_sorts_cb rfl rfl (kit_sorts_meets) (List.Perm.refl _) trivial fun gs _ => ?_
 refine r_len_sl rfl T.u_strs rfl ?_
 refine hl_call F.kit_Dice_Order_cb rfl rfl (kit_Dice_Order_meets 9 hn hs (by decide)) (List.Perm.refl _) ⟨(by repeat constructor), trivial⟩ fun x hx => ?_
 obtain ⟨s1, no⟩ := x
 obtain ⟨hs1, hno⟩ := hx
 simp only at hs1
 obtain ⟨names, nA, nC⟩ := no
 obtain ⟨hP, hnc⟩ := hno
 simp only at hP hnc
 have hnl : names.length = 9 := by rw [hP.length_eq, rng_len]
 refine r_assign rfl rfl ?_
 refine hl_nil ?_
 refine then_n ?_
 refine hc_seq ?_
 refine hc_seq ?_
 refine hc_region ?_
 refine r_move rfl rfl ?_
 refine r_move rfl rfl ?_
 refine hl_call F.kit_Dice_From_cb rfl rfl (kit_Dice_From_meets 1 (m1 : Int) hn hs1 (by omega)) (List.Perm.refl _) ⟨(by repeat constructor), trivial⟩ fun x hx => ?_
 obtain ⟨s2, z⟩ := x
 obtain ⟨hs2, hz⟩ := hx
 simp only at hs2
 simp only [FromInv] at hz
 have hz2 : 1 ≤ z ∧ z ≤ m1 := ⟨hz.1, by by_cases h1 : (1 : Int) < m1; exact hz.2.1 h1; have := hz.2.2 (by omega); omega⟩
 obtain ⟨zn, rfl⟩ := Int.eq_ofNat_of_zero_le (show 0 ≤ z by omega)
 refine r_assign rfl rfl ?_
 refine hl_nil ?_
 refine then_n ?_
 refine hc_block ?_
 refine hc_loop (β := Nat × List Cl × OutC × Hp × (Int × Int)) ⟨fun x => x.2.1.length + x.1 = zn ∧ ClsMade names x.2.1 ∧ Grow T.api_Class 2 x.2.2.1.1 x.2.1.length x.2.2.1.2 (rows x.2.1) x.2.2.2.1 ∧ DOK nums x.2.2.2.2, fun x => [(0, .pointer (some ⟨g, 0, none⟩)), (2, int m2), (6, .pointer (some ⟨g6, 0, none⟩)), (7, .pointer (some ⟨g7, 0, none⟩)), (8, .slice nA names.length nC), (9, int x.1)], fun x => dice g A c nums x.2.2.2.2 :: trB g7 x.2.2.1.1 x.2.1.length x.2.2.1.2 none 0 0 :: trB g6 none 0 0 none 0 0 :: x.2.2.2.1, fun _ => [Row nA (rows names), Row A (rows nums)]⟩ (fun x => x.1) (zn, [], (none, 0), [], s2) ⟨Nat.zero_add _, fun i hi => by simp at hi, Grow.nil _ _, hs2⟩ ⟨rfl, rfl, rfl, rfl, rfl, rfl, trivial⟩ (List.Sublist.refl _) ⟨(by repeat constructor), (by repeat constructor), trivial⟩ fun x hx => ?_
 clear hs hs1 hs2 hz
 obtain ⟨r, cs, ⟨cA, cC⟩, og, s⟩ := x
 obtain ⟨hr, hC, hG, hs⟩ := hx
 simp only at hr hC hG hs
 refine hc_seq ?_
 refine hc_seq ?_
 refine hc_region ?_
 refine r_move rfl rfl ?_
 refine r_gtr rfl rfl rfl ?_
 refine hl_nil ?_
 refine then_n ?_
 first | refine c_dec rfl (fun hb1 => ?_) (fun hb1 => ?_) | refine hc_cond rfl (fun hb1 => ?_) (fun hb1 => ?_)
 ·have hb1' := hb1; try simp at hb1'
  obtain ⟨r, rfl⟩ : ∃ q, r = q + 1 := ⟨r - 1, by omega⟩
  have hcl : cs.length < 6 := by omega
  have hrg := rng_at hP (show cs.length < 9 by omega)
  obtain ⟨nm, hnm⟩ := Int.eq_ofNat_of_zero_le hrg.1
  have hnm9 : nm < 9 := by omega
  have hsn : sortsL.getD nm default = sortN names cs.length := by unfold sortN; rw [hnm, Int.toNat_natCast]
  refine hc_skip ?_
  refine then_n ?_
  refine hc_seq ?_
  refine hc_block ?_
  refine hc_drawW (dice g A c nums s :: og) ([trB g7 cA cs.length cC none 0 0, trB g6 none 0 0 none 0 0]) (perm_of fun p => by simp only [List.countP_append, List.countP_cons, List.countP_nil]; omega) 19 [16] mixed (by decide) (by decide) (by decide) rfl rfl rfl ?_
  apply hb_ex _ rfl rfl rfl
  ·intro w1
   first | refine r_fieldAddr ⟨_, 0, none⟩ rfl rfl T.fa_api_Trades_0 rfl ?_ | refine r_fieldAddr _ rfl rfl T.fa_api_Trades_0 rfl ?_
   refine hl_nil ?_
   exact qe_done rfl
  apply hb_ex _ rfl rfl rfl
  ·intro w1
   first | refine r_load rfl T.cell_L_api_Class rfl (cell_blk (by repeat constructor) rfl) ?_ | refine r_load rfl T.cell_L_api_Class rfl (cell_own (by repeat constructor) rfl) ?_ | refine r_load rfl T.cell_L_api_Class rfl (cell_row (by repeat constructor) (rows_get0 (by omega) rfl)) ?_ | refine r_load rfl T.cell_L_api_Class rfl (cell_row_f (by repeat constructor) (rows_get (by omega) rfl)) ?_ | refine r_load rfl T.cell_L_api_Class rfl (cell_rowg (by repeat constructor) rfl) ?_
   refine hl_nil ?_
   exact qe_done rfl
  refine hb_vs ⟨Nat, fun _ => True, fun g => .slice (some ⟨g, 0, none⟩) 9 9, fun g => [Row (some ⟨g, 0, none⟩) (rows sortsL)]⟩ rfl rfl rfl ?_ ?_
  ·intro w1
   refine hl_call F.kit_sorts_cb rfl rfl (kit_sorts_meets) (List.Perm.refl _) trivial fun gs2 _ => ?_
   refine hl_nil ?_
   exact qv_done gs2 trivial rfl ⟨m0, trivial⟩
  apply hb_ex _ rfl rfl rfl
  ·intro w1
   refine r_move rfl rfl ?_
   refine hl_nil ?_
   exact qe_done rfl
  apply hb_ex _ rfl rfl rfl
  ·intro w1
   first | refine r_fieldAddr ⟨_, 0, none⟩ rfl rfl T.fa_api_Trades_0 rfl ?_ | refine r_fieldAddr _ rfl rfl T.fa_api_Trades_0 rfl ?_
   refine hl_nil ?_
   exact qe_done rfl
  apply hb_ex _ rfl rfl rfl
  ·intro w1
   first | refine r_load rfl T.cell_L_api_Class rfl (cell_blk (by repeat constructor) rfl) ?_ | refine r_load rfl T.cell_L_api_Class rfl (cell_own (by repeat constructor) rfl) ?_ | refine r_load rfl T.cell_L_api_Class rfl (cell_row (by repeat constructor) (rows_get0 (by omega) rfl)) ?_ | refine r_load rfl T.cell_L_api_Class rfl (cell_row_f (by repeat constructor) (rows_get (by omega) rfl)) ?_ | refine r_load rfl T.cell_L_api_Class rfl (cell_rowg (by repeat constructor) rfl) ?_
   refine hl_nil ?_
   exact qe_done rfl
  apply hb_ex _ rfl rfl rfl
  ·intro w1
   refine r_len_sl rfl T.u_L_api_Class rfl ?_
   refine hl_nil ?_
   exact qe_done rfl
  apply hb_ex _ rfl rfl rfl
  ·intro w1
   refine r_elem (α := Int) names cs.length rfl T.u_ints T.sz_int rfl rfl rfl (by repeat constructor) rfl (by omega) (by decide) ?_
   refine hl_nil ?_
   exact qe_done rfl
  apply hb_ex _ rfl rfl rfl
  ·intro w1
   refine r_load (v := int (names.getD cs.length default)) rfl T.cell_int rfl (cell_row (by repeat constructor) (rows_get0 (by omega) rfl)) ?_
   refine hl_nil ?_
   exact qe_done rfl
  refine hb_vs ⟨Nat, fun _ => True, fun g => .pointer (some ((adr (some ⟨g, 0, none⟩)).add (nm * 1))), fun g => [Row (some ⟨g, 0, none⟩) (rows sortsL)]⟩ rfl rfl rfl ?_ ?_
  ·intro g2 _; intro w1
   refine r_elem (α := Str) sortsL nm rfl T.u_strs T.sz_string rfl rfl hnm (by repeat constructor) rfl hnm9 (by decide) ?_
   refine hl_nil ?_
   exact qv_done g2 trivial rfl ⟨(by repeat constructor), trivial⟩
  apply hb_ex _ rfl rfl rfl
  ·intro g9 _; intro w1
   refine r_load (v := str (sortN names cs.length)) rfl T.cell_string rfl (cell_row (by repeat constructor) (by rw [← hsn]; exact rows_get0 (show nm < 9 from hnm9) rfl)) ?_
   refine hl_nil ?_
   exact qe_done rfl
  apply hb_ex _ rfl rfl rfl
  ·intro w1
   refine r_move rfl rfl ?_
   refine hl_nil ?_
   exact qe_done rfl
  apply hb_ex _ rfl rfl rfl
  ·intro w1
   first | refine r_fieldAddr ⟨_, 0, none⟩ rfl rfl T.fa_api_Trades_0 rfl ?_ | refine r_fieldAddr _ rfl rfl T.fa_api_Trades_0 rfl ?_
   refine hl_nil ?_
   exact qe_done rfl
  apply hb_ex _ rfl rfl rfl
  ·intro w1
   first | refine r_load rfl T.cell_L_api_Class rfl (cell_blk (by repeat constructor) rfl) ?_ | refine r_load rfl T.cell_L_api_Class rfl (cell_own (by repeat constructor) rfl) ?_ | refine r_load rfl T.cell_L_api_Class rfl (cell_row (by repeat constructor) (rows_get0 (by omega) rfl)) ?_ | refine r_load rfl T.cell_L_api_Class rfl (cell_row_f (by repeat constructor) (rows_get (by omega) rfl)) ?_ | refine r_load rfl T.cell_L_api_Class rfl (cell_rowg (by repeat constructor) rfl) ?_
   refine hl_nil ?_
   exact qe_done rfl
  apply hb_ex _ rfl rfl rfl
  ·intro w1
   refine r_len_sl rfl T.u_L_api_Class rfl ?_
   refine hl_nil ?_
   exact qe_done rfl
  apply hb_ex _ rfl rfl rfl
  ·intro w1
   refine r_sub ((cs.length : Int) - 1) rfl rfl rfl rfl (by unfold I64; omega) ?_
   refine hl_nil ?_
   exact qe_done rfl
  refine hb_wr ⟨(Int × Int) × Int, fun x => DOK nums x.1 ∧ FromInv (-1) ((cs.length : Int) - 1) x.2, fun x => int x.2, fun _ => [], fun x => dice g A c nums x.1 :: og⟩ rfl rfl rfl ?_ ?_
  ·intro w1
   refine hl_call F.kit_Dice_From_cb rfl rfl (kit_Dice_From_meets (-1) ((cs.length : Int) - 1) hn hs (by omega)) (List.Perm.refl _) ⟨(by repeat constructor), trivial⟩ fun x hx => ?_
   obtain ⟨s3, u⟩ := x
   obtain ⟨hs3, hu⟩ := hx
   simp only at hs3
   refine hl_nil ?_
   exact qw_done (s3, u) ⟨hs3, hu⟩ (fun _ => rfl) (List.Sublist.refl _) trivial
  refine hb_vs ⟨Int, fun u => FromInv (-1) ((cs.length : Int) - 1) u, fun u => .agg #[str (sortN names cs.length), int u], fun _ => []⟩ rfl rfl rfl ?_ ?_
  ·intro x hx; intro w1
   refine r_build _ rfl rfl (fun _ => T.bd_api_Class_0_1 ..) ?_
   refine hl_nil ?_
   exact qv_done x.2 hx.2 rfl trivial
  refine hb_vs ⟨Nat × Int, fun x => FromInv (-1) ((cs.length : Int) - 1) x.2, fun x => .slice (some ⟨x.1, 0, none⟩) 1 1, fun x => [Row (some ⟨x.1, 0, none⟩) (rows [(((sortN names cs.length), x.2) : Cl)])]⟩ rfl rfl rfl ?_ ?_
  ·intro u hu; intro w1
   refine r_buildSlice _ rfl rfl (fun _ => T.bs_L_api_Class_1 ..) fun gS => ?_
   refine hl_nil ?_
   refine hq_letgo (rows [(((sortN names cs.length), u) : Cl)]) (List.prefix_refl _) ?_
   exact qv_done (gS, u) hu rfl ⟨m0, trivial⟩
  refine hb_nil ⟨rfl, ?_⟩
  intro g2 _ g9 _ x16 h16 u17 h17 x18 h18
  obtain ⟨s4, z16⟩ := x16
  obtain ⟨hs4, _⟩ := h16
  obtain ⟨g18, u⟩ := x18
  simp only at hs4
  simp only [FromInv] at h18
  have hu5 : -1 ≤ u ∧ u < (cs.length : Int) := by
    refine ⟨h18.1, ?_⟩
    by_cases h1 : (-1 : Int) < (cs.length : Int) - 1
    · have := h18.2.1 h1; omega
    · have := h18.2.2 (by omega); omega
  refine r_append (hp' := [dice g A c nums s4, trB g7 cA cs.length cC none 0 0, trB g6 none 0 0 none 0 0]) (cs.length + 1) (rows (cs ++ [(((sortN names cs.length), u) : Cl)])) T.el_L_api_Class rfl rfl rfl hG (show List.Perm (dice g A c nums s4 :: og ++ [trB g7 cA cs.length cC none 0 0, trB g6 none 0 0 none 0 0]) (og ++ [dice g A c nums s4, trB g7 cA cs.length cC none 0 0, trB g6 none 0 0 none 0 0]) from (perm_of fun p => by simp only [List.countP_append, List.countP_cons, List.countP_nil]; omega)) (Src.row (news := rows [(((sortN names cs.length), u) : Cl)]) (m := 1) (by repeat constructor) rfl (rows_one _) (by decide)) rfl (rows_append _ _).symm (by unfold maxLen; omega) (by omega) fun A4 c4 og4 hG4 => ?_
  first | refine r_fieldAddr ⟨_, 0, none⟩ rfl rfl T.fa_api_Trades_0 rfl ?_ | refine r_fieldAddr _ rfl rfl T.fa_api_Trades_0 rfl ?_
  refine r_store (hp' := og4 ++ [dice g A c nums s4, trB g6 none 0 0 none 0 0]) rfl rfl (show List.Perm (og4 ++ [dice g A c nums s4, trB g7 cA cs.length cC none 0 0, trB g6 none 0 0 none 0 0]) (trB g7 cA cs.length cC none 0 0 :: (og4 ++ [dice g A c nums s4, trB g6 none 0 0 none 0 0])) from (perm_of fun p => by simp only [List.countP_append, List.countP_cons, List.countP_nil]; omega)) T.sz_L_api_Class (by rfl) (by rfl) ?_
  refine hl_nil ?_
  refine inb_n ?_
  refine then_n ?_
  refine hc_region ?_
  refine r_move rfl rfl ?_
  refine r_sub (r : Int) rfl rfl rfl (by omega) (by unfold I64; omega) ?_
  refine r_assign rfl rfl ?_
  refine hl_nil ?_
  have hl1 : (cs ++ [(((sortN names cs.length), u) : Cl)]).length = cs.length + 1 := by simp
  refine hq_perm (show List.Perm (trB g7 A4 (cs.length + 1) c4 none 0 0 :: (og4 ++ [dice g A c nums s4, trB g6 none 0 0 none 0 0])) (dice g A c nums s4 :: trB g7 A4 (cs.length + 1) c4 none 0 0 :: trB g6 none 0 0 none 0 0 :: og4) from (perm_of fun p => by simp only [List.countP_append, List.countP_cons, List.countP_nil]; omega)) ?_
  exact again _ (r, cs ++ [(((sortN names cs.length), u) : Cl)], (A4, c4), og4, s4) ⟨by show (cs ++ [_]).length + r = zn; rw [hl1]; omega, hC.snoc hu5.1 hu5.2, by show Grow _ _ _ (cs ++ [_]).length _ _ _; rw [hl1]; exact hG4, hs4⟩ (by show r < r + 1; omega) ⟨rfl, rfl, rfl, rfl, rfl, rfl, trivial⟩ (by show List.Sublist (_ :: trB g7 A4 (cs ++ [_]).length c4 none 0 0 :: _) _; rw [hl1]; exact List.Sublist.refl _) ⟨(by repeat constructor), (by repeat constructor), trivial⟩
 ·have hb1' := hb1; try simp at hb1'
  have hr0 : r = 0 := by omega
  subst hr0
  refine hc_exit ?_
  refine then_exit ?_
  refine then_exit ?_
  refine inb_hit ?_
  refine then_n ?_
  refine hc_seq ?_
  refine hc_count (og ++ [dice g A c nums s, trB g7 cA cs.length cC none 0 0, trB g6 none 0 0 none 0 0]) (by intro p; simp only [List.countP_append, List.countP_cons, List.countP_nil]; omega) ?_
  have hCle := hG.le
  have hC1 := hC
  refine hc_grown hG ?_
  clear hG
  refine hc_region ?_
  refine r_move rfl rfl ?_
  refine hl_call F.kit_callings_cb rfl rfl (kit_callings_meets) (List.Perm.refl _) trivial fun gk _ => ?_
  refine r_len_sl rfl T.u_strs rfl ?_
  refine r_move rfl rfl ?_
  refine r_move rfl rfl ?_
  refine hl_call F.kit_Dice_To_cb rfl rfl (kit_Dice_To_meets (m2 : Int) hn hs (by omega)) (List.Perm.refl _) ⟨(by repeat constructor), trivial⟩ fun x hx => ?_
  obtain ⟨s5, z5⟩ := x
  obtain ⟨hs5, hz5⟩ := hx
  simp only at hs5
  simp only [ToInv] at hz5
  obtain ⟨zm, rfl⟩ := Int.eq_ofNat_of_zero_le hz5.1
  have hzm : zm ≤ m2 := by by_cases h1 : (1 : Int) ≤ m2; have := hz5.2.1 h1; omega; have := hz5.2.2 (by omega); omega
  refine hl_call F.kit_partOf_cb rfl rfl (kit_partOf_meets 16 zm hn hs5 ⟨by decide, by omega⟩) (List.Perm.refl _) ⟨(by repeat constructor), trivial⟩ fun x hx => ?_
  obtain ⟨s6, wo⟩ := x
  obtain ⟨hs6, hwo⟩ := hx
  simp only at hs6
  obtain ⟨words, wA, wC⟩ := wo
  obtain ⟨⟨hwp, hwi⟩, hwl, hwc⟩ := hwo
  simp only at hwp hwi hwl hwc
  refine r_assign rfl rfl ?_
  refine hl_nil ?_
  refine then_n ?_
  refine hc_seq ?_
  refine hc_region ?_
  refine r_move rfl rfl ?_
  refine r_len_sl rfl T.u_ints rfl ?_
  refine r_assign rfl rfl ?_
  refine hl_nil ?_
  refine then_n ?_
  refine hc_seq ?_
  refine hc_seq ?_
  refine hc_region ?_
  refine r_assign rfl rfl ?_
  refine hl_nil ?_
  refine then_n ?_
  refine hc_block ?_
  have hcs1 : 1 ≤ cs.length := by omega
  have hcs6 : cs.length ≤ 6 := by omega
  have hwl6 : words.length ≤ 6 := by omega
  refine hc_facts (Fs := ([] : List Hd).map Hd.row) (by intro F hF; simp at hF) ?_
  refine hc_loop (β := Nat × List Hd × OutC × Hp × (Int × Int)) ⟨fun x => x.1 ≤ words.length ∧ x.2.1.length = x.1 ∧ HsMade words cs.length words.length x.2.1 ∧ Grow T.api_Head 4 x.2.2.1.1 x.2.1.length x.2.2.1.2 (rows x.2.1) x.2.2.2.1 ∧ DOK nums x.2.2.2.2, fun x => [(0, .pointer (some ⟨g, 0, none⟩)), (6, .pointer (some ⟨g6, 0, none⟩)), (7, .pointer (some ⟨g7, 0, none⟩)), (10, .slice wA words.length wC), (11, int words.length), (12, int x.1)], fun x => dice g A c nums x.2.2.2.2 :: trB g7 cA cs.length cC x.2.2.1.1 x.2.1.length x.2.2.1.2 :: trB g6 none 0 0 none 0 0 :: x.2.2.2.1, fun x => [Row wA (rows words), Row cA (rows cs), Row A (rows nums), innersF x.2.1 Hd.row]⟩ (fun x => words.length - x.1) (0, [], (none, 0), [], s6) ⟨Nat.zero_le _, rfl, fun i hi => by simp at hi, Grow.nil _ _, hs6⟩ ⟨rfl, rfl, rfl, rfl, rfl, rfl, trivial⟩ (List.Sublist.refl _) ⟨(by repeat constructor), (by repeat constructor), (by repeat constructor), (by repeat constructor), trivial⟩ fun x hx => ?_
  clear hs hs5 hs6 hz5
  obtain ⟨i, hs, ⟨hA, hC⟩, og, s⟩ := x
  obtain ⟨hi, hhl, hH, hG, hD⟩ := hx
  simp only at hi hhl hH hG hD
  refine hc_seq ?_
  refine hc_seq ?_
  refine hc_region ?_
  refine r_move rfl rfl ?_
  refine r_move rfl rfl ?_
  refine r_lss rfl rfl rfl ?_
  refine hl_nil ?_
  refine then_n ?_
  first | refine c_dec rfl (fun hb2 => ?_) (fun hb2 => ?_) | refine hc_cond rfl (fun hb2 => ?_) (fun hb2 => ?_)
  ·have hb2' := hb2; try simp at hb2'
   have hi2 : i < words.length := by omega
   have hwi2 := hwi _ (getD_mem hi2)
   obtain ⟨wm, hwm⟩ := Int.eq_ofNat_of_zero_le hwi2.1
   have hwm16 : wm < 16 := by omega
   have hcn : callingsL.getD wm default = callN words i := by unfold callN; rw [hwm, Int.toNat_natCast]
   refine hc_skip ?_
   refine then_n ?_
   refine hc_seq ?_
   refine hc_block ?_
   refine hc_seq ?_
   refine hc_drawW ([dice g A c nums s]) (trB g7 cA cs.length cC hA hs.length hC :: trB g6 none 0 0 none 0 0 :: og) (List.Perm.refl _) 15 [12] mixed (by decide) (by decide) (by decide) rfl rfl rfl ?_
   refine hb_vs ⟨Nat, fun _ => True, fun g => .slice (some ⟨g, 0, none⟩) 16 16, fun g => [Row (some ⟨g, 0, none⟩) (rows callingsL)]⟩ rfl rfl rfl ?_ ?_
   ·intro w1
    refine hl_call F.kit_callings_cb rfl rfl (kit_callings_meets) (List.Perm.refl _) trivial fun gk2 _ => ?_
    refine hl_nil ?_
    exact qv_done gk2 trivial rfl ⟨m0, trivial⟩
   apply hb_ex _ rfl rfl rfl
   ·intro w1
    refine r_move rfl rfl ?_
    refine hl_nil ?_
    exact qe_done rfl
   apply hb_ex _ rfl rfl rfl
   ·intro w1
    refine r_move rfl rfl ?_
    refine hl_nil ?_
    exact qe_done rfl
   apply hb_ex _ rfl rfl rfl
   ·intro w1
    refine r_elem (α := Int) words i rfl T.u_ints T.sz_int rfl rfl rfl (List.mem_append_right _ (by repeat constructor)) rfl hi2 (by decide) ?_
    refine hl_nil ?_
    exact qe_done rfl
   apply hb_ex _ rfl rfl rfl
   ·intro w1
    refine r_load (v := int (words.getD i default)) rfl T.cell_int rfl (cell_row (List.mem_append_right _ (by repeat constructor)) (rows_get0 hi2 rfl)) ?_
    refine hl_nil ?_
    exact qe_done rfl
   refine hb_vs ⟨Nat, fun _ => True, fun g => .pointer (some ((adr (some ⟨g, 0, none⟩)).add (wm * 1))), fun g => [Row (some ⟨g, 0, none⟩) (rows callingsL)]⟩ rfl rfl rfl ?_ ?_
   ·intro g0 _; intro w1
    refine r_elem (α := Str) callingsL wm rfl T.u_strs T.sz_string rfl rfl hwm (by repeat constructor) rfl hwm16 (by decide) ?_
    refine hl_nil ?_
    exact qv_done g0 trivial rfl ⟨(by repeat constructor), trivial⟩
   apply hb_ex _ rfl rfl rfl
   ·intro g5 _; intro w1
    refine r_load (v := str (callN words i)) rfl T.cell_string rfl (cell_row (by repeat constructor) (by rw [← hcn]; exact rows_get0 (show wm < 16 from hwm16) rfl)) ?_
    refine hl_nil ?_
    exact qe_done rfl
   apply hb_ex _ rfl rfl rfl
   ·intro w1
    refine r_move rfl rfl ?_
    refine hl_nil ?_
    exact qe_done rfl
   apply hb_ex _ rfl rfl rfl
   ·intro w1
    first | refine r_fieldAddr ⟨_, 0, none⟩ rfl rfl T.fa_api_Trades_0 rfl ?_ | refine r_fieldAddr _ rfl rfl T.fa_api_Trades_0 rfl ?_
    refine hl_nil ?_
    exact qe_done rfl
   apply hb_ex _ rfl rfl rfl
   ·intro w1
    first | refine r_load rfl T.cell_L_api_Class rfl (cell_blk (by repeat constructor) rfl) ?_ | refine r_load rfl T.cell_L_api_Class rfl (cell_own (by repeat constructor) rfl) ?_ | refine r_load rfl T.cell_L_api_Class rfl (cell_row (by repeat constructor) (rows_get0 (by omega) rfl)) ?_ | refine r_load rfl T.cell_L_api_Class rfl (cell_row_f (by repeat constructor) (rows_get (by omega) rfl)) ?_ | refine r_load rfl T.cell_L_api_Class rfl (cell_rowg (by repeat constructor) rfl) ?_
    refine hl_nil ?_
    exact qe_done rfl
   apply hb_ex _ rfl rfl rfl
   ·intro w1
    refine r_len_sl rfl T.u_L_api_Class rfl ?_
    refine hl_nil ?_
    exact qe_done rfl
   apply hb_ex _ rfl rfl rfl
   ·intro w1
    refine r_sub ((cs.length : Int) - 1) rfl rfl rfl rfl (by unfold I64; omega) ?_
    refine hl_nil ?_
    exact qe_done rfl
   refine hb_wr ⟨(Int × Int) × Int, fun x => DOK nums x.1 ∧ ToInv ((cs.length : Int) - 1) x.2, fun x => int x.2, fun _ => [], fun x => [dice g A c nums x.1]⟩ rfl rfl rfl ?_ ?_
   ·intro w1
    refine hl_call F.kit_Dice_To_cb rfl rfl (kit_Dice_To_meets ((cs.length : Int) - 1) hn hD (by omega)) (List.Perm.refl _) ⟨(by repeat constructor), trivial⟩ fun x hx => ?_
    obtain ⟨s7, z7⟩ := x
    obtain ⟨hs7, hz7⟩ := hx
    simp only at hs7
    refine hl_nil ?_
    exact qw_done (s7, z7) ⟨hs7, hz7⟩ (fun _ => rfl) (List.sublist_append_left _ _) trivial
   refine hb_vs ⟨Int, fun z => ToInv ((cs.length : Int) - 1) z, fun z => .agg #[str (callN words i), int z, int (-1), .slice none 0 0], fun _ => []⟩ rfl rfl rfl ?_ ?_
   ·intro x hx; intro w1
    refine r_build _ rfl rfl (fun _ => T.bd_api_Head_0_1_2 ..) ?_
    refine hl_nil ?_
    exact qv_done x.2 hx.2 rfl trivial
   refine hb_ad ⟨Nat, fun _ => True, fun g => .pointer (some ⟨g, 0, none⟩), fun _ => [], fun g => [hdB g [] 0 0 none 0 0]⟩ rfl rfl rfl ?_ ?_
   ·intro w1
    refine r_alloc rfl (fun _ => T.al_api_Head _) fun g13 => ?_
    refine hl_nil ?_
    exact qw_done g13 trivial (fun _ => rfl) (List.Sublist.refl _) trivial
   refine hb_nil ⟨rfl, ?_⟩
   intro _ _ _ _ x12 h12
   refine fun (z : Int) hz => ?_
   intro g13 _
   obtain ⟨s8, _⟩ := x12
   have hs8 : DOK nums s8 := h12.1
   clear h12
   simp only [ToInv] at hz
   have hz2 : 0 ≤ z ∧ z < (cs.length : Int) := by
     refine ⟨hz.1, ?_⟩
     by_cases h1 : 1 ≤ (cs.length : Int) - 1
     · have := hz.2.1 h1; omega
     · have := hz.2.2 (by omega); omega
   refine r_storeS (cs := #[str (callN words i), int z, int (-1), .slice none 0 0]) rfl rfl (.refl _) T.sz_api_Head (by rfl) (by rfl) ?_
   refine hl_nil ?_
   refine then_n ?_
   refine hc_seq ?_
   refine hc_cut ⟨fun x : (Int × Int) × Bool => DOK nums x.1 ∧ (x.2 = true → 1 < words.length), fun x => [(0, .pointer (some ⟨g, 0, none⟩)), (6, .pointer (some ⟨g6, 0, none⟩)), (7, .pointer (some ⟨g7, 0, none⟩)), (10, .slice wA words.length wC), (11, int words.length), (12, int i), (13, .pointer (some ⟨g13, 0, none⟩)), (80, .bool x.2)], fun x => dice g A c nums x.1 :: hdB g13 (callN words i) z (-1) none 0 0 :: trB g7 cA cs.length cC hA hs.length hC :: trB g6 none 0 0 none 0 0 :: og, fun _ => [Row wA (rows words), Row cA (rows cs), Row A (rows nums), innersF hs Hd.row]⟩ ?_ ?_
   ·skip
    refine hc_region ?_
    refine r_move rfl rfl ?_
    refine r_gtr rfl rfl rfl ?_
    refine r_move rfl rfl ?_
    refine g_split rfl rfl ?_ ?_
    ·intro hg1; have hg1' := hg1; try simp at hg1'
     refine g_yes rfl rfl hg1 ?_
     refine r_move rfl rfl ?_
     refine g_yes rfl rfl hg1 ?_
     refine hl_call F.kit_Dice_Once_cb rfl rfl (kit_Dice_Once_meets 3 hn hs8 (by omega)) (List.Perm.swap _ _ _) ⟨(by repeat constructor), trivial⟩ fun x hx => ?_
     obtain ⟨s9, b9⟩ := x
     obtain ⟨hs9, hb9⟩ := hx
     simp only at hs9
     refine p_t rfl rfl (bt1 hg1) rfl ?_
     refine hl_nil ?_
     exact cut_n _ (s9, b9) ⟨hs9, fun _ => by simp at hg1; omega⟩ ⟨rfl, rfl, rfl, rfl, rfl, rfl, rfl, rfl, trivial⟩ (List.Sublist.refl _) ⟨(by repeat constructor), (by repeat constructor), (by repeat constructor), (by repeat constructor), trivial⟩
    ·intro hg1; have hg1' := hg1; try simp at hg1'
     refine g_no rfl rfl rfl rfl rfl hg1 ?_
     refine g_no rfl rfl rfl rfl rfl hg1 ?_
     refine p_f rfl rfl (bf2 hg1) rfl ?_
     refine hl_nil ?_
     refine hq_perm (List.Perm.swap _ _ _) ?_
     exact cut_n _ (s8, false) ⟨hs8, fun h => by cases h⟩ ⟨rfl, rfl, rfl, rfl, rfl, rfl, rfl, rfl, trivial⟩ (List.Sublist.refl _) ⟨(by repeat constructor), (by repeat constructor), (by repeat constructor), (by repeat constructor), trivial⟩
   ·intro x hx
    obtain ⟨s9, b9⟩ := x
    obtain ⟨hs9, hb9⟩ := hx
    simp only at hs9 hb9
    first | refine c_dec rfl (fun hb3 => ?_) (fun hb3 => ?_) | refine hc_cond rfl (fun hb3 => ?_) (fun hb3 => ?_)
    ·have hb3' := hb3; try simp at hb3'
     have h1w : 1 < words.length := hb9 hb3
     refine hc_seq ?_
     refine hc_drawW ([dice g A c nums s9, hdB g13 (callN words i) z (-1) none 0 0]) (trB g7 cA cs.length cC hA hs.length hC :: trB g6 none 0 0 none 0 0 :: og) (List.Perm.refl _) 11 [10, 5] mixed (by decide) (by decide) (by decide) rfl rfl rfl ?_
     apply hb_ex _ rfl rfl rfl
     ·intro w1
      refine r_move rfl rfl ?_
      refine hl_nil ?_
      exact qe_done rfl
     apply hb_ex _ rfl rfl rfl
     ·intro w1
      refine r_add _ rfl rfl rfl rfl (by unfold I64; omega) ?_
      refine hl_nil ?_
      exact qe_done rfl
     apply hb_ex _ rfl rfl rfl
     ·intro w1
      refine r_move rfl rfl ?_
      refine hl_nil ?_
      exact qe_done rfl
     apply hb_ex _ rfl rfl rfl
     ·intro w1
      refine r_move rfl rfl ?_
      refine hl_nil ?_
      exact qe_done rfl
     apply hb_ex _ rfl rfl rfl
     ·intro w1
      refine r_sub ((words.length : Int) - 2) rfl rfl rfl rfl (by unfold I64; omega) ?_
      refine hl_nil ?_
      exact qe_done rfl
     refine hb_wr ⟨(Int × Int) × Int, fun x => DOK nums x.1 ∧ ToInv ((words.length : Int) - 2) x.2, fun x => int x.2, fun _ => [], fun x => [dice g A c nums x.1, hdB g13 (callN words i) z (-1) none 0 0]⟩ rfl rfl rfl ?_ ?_
     ·intro w1
      refine hl_call F.kit_Dice_To_cb rfl rfl (kit_Dice_To_meets ((words.length : Int) - 2) hn hs9 (by omega)) (List.Perm.refl _) ⟨(by repeat constructor), trivial⟩ fun x hx => ?_
      obtain ⟨s10, v10⟩ := x
      obtain ⟨hs10, hv10⟩ := hx
      simp only at hs10
      refine hl_nil ?_
      exact qw_done (s10, v10) ⟨hs10, hv10⟩ (fun _ => rfl) (List.Sublist.refl _) trivial
     refine hb_vs ⟨Int, fun v => ToInv ((words.length : Int) - 2) v, fun v => int ((i : Int) + 1 + v), fun _ => []⟩ rfl rfl rfl ?_ ?_
     ·intro x hx; intro w1
      refine r_add ((i : Int) + 1 + x.2) rfl rfl rfl rfl (by have h1 := hx.2; simp only [ToInv] at h1; have h2 : x.2 ≤ 6 := (by by_cases h3 : 1 ≤ (words.length : Int) - 2; have := h1.2.1 h3; omega; have := h1.2.2 (by omega); omega); unfold I64; omega) ?_
      refine hl_nil ?_
      exact qv_done x.2 hx.2 rfl trivial
     apply hb_ex _ rfl rfl rfl
     ·intro w1
      refine r_move rfl rfl ?_
      refine hl_nil ?_
      exact qe_done rfl
     refine hb_vs ⟨Int, fun v => ToInv ((words.length : Int) - 2) v, fun v => int (((i : Int) + 1 + v).tmod words.length), fun _ => []⟩ rfl rfl rfl ?_ ?_
     ·intro v hv; intro w1
      refine r_rem rfl rfl rfl (by omega) ?_
      refine hl_nil ?_
      exact qv_done v hv rfl trivial
     apply hb_ex _ rfl rfl rfl
     ·intro w1
      first | refine r_fieldAddr ⟨_, 1, none⟩ rfl rfl T.fa_api_Head_1 rfl ?_ | refine r_fieldAddr _ rfl rfl T.fa_api_Head_1 rfl ?_
      refine hl_nil ?_
      exact qe_done rfl
     refine hb_st ⟨Int × Int, fun s => DOK nums s, fun _ => undef, fun _ => [], fun s => [hdB g13 (callN words i) (-1) (-1) none 0 0, dice g A c nums s]⟩ rfl rfl ?_ ?_
     ·intro x hx; intro w1
      refine r_store rfl rfl (.swap _ _ _) T.sz_int (by rfl) (by rfl) ?_
      refine hl_nil ?_
      exact qw_done x.1 hx.1 (fun h => by cases h) (List.Sublist.refl _) trivial
     refine hb_nil ⟨rfl, ?_⟩
     intro _ _ _ _
     refine fun (v : Int) hv => ?_
     intro s11 hs11
     have hs11 : DOK nums s11 := hs11
     simp only [ToInv] at hv
     have hv2 : 0 ≤ v ∧ v ≤ (words.length : Int) - 2 := by
       refine ⟨hv.1, ?_⟩
       by_cases h1 : 1 ≤ (words.length : Int) - 2
       · exact hv.2.1 h1
       · have := hv.2.2 (by omega); omega
     have hps := past hi2 hv2.1 hv2.2
     first | refine r_fieldAddr ⟨_, 2, none⟩ rfl rfl T.fa_api_Head_2 rfl ?_ | refine r_fieldAddr _ rfl rfl T.fa_api_Head_2 rfl ?_
     refine r_store rfl rfl (.refl _) T.sz_int (by rfl) (by rfl) ?_
     refine hl_nil ?_
     refine then_n ?_
     refine hc_seq ?_
     refine hc_region ?_
     first | refine r_fieldAddr ⟨_, 1, none⟩ rfl rfl T.fa_api_Trades_1 rfl ?_ | refine r_fieldAddr _ rfl rfl T.fa_api_Trades_1 rfl ?_
     first | refine r_load rfl T.cell_L_api_Head rfl (cell_own (by repeat constructor) rfl) ?_ | refine r_load rfl T.cell_L_api_Head rfl (cell_blk (by repeat constructor) rfl) ?_ | refine r_load rfl T.cell_L_api_Head rfl (cell_row (by repeat constructor) (rows_get0 (by omega) rfl)) ?_ | refine r_load rfl T.cell_L_api_Head rfl (cell_row_f (by repeat constructor) (rows_get (by omega) rfl)) ?_ | refine r_load rfl T.cell_L_api_Head rfl (cell_rowg (by repeat constructor) rfl) ?_
     first | refine r_loadA rfl T.row_api_Head T.sz_api_Head rfl (by repeat constructor) (by rfl) ?_ | refine r_loadB rfl T.row_api_Head T.sz_api_Head rfl (by repeat constructor) (by rfl) ?_ | refine r_loadS rfl T.row_api_Head T.sz_api_Head rfl rfl (cells_row (by repeat constructor) (rows_all (by omega))) ?_
     refine r_buildSlice _ rfl rfl (fun _ => T.bs_L_api_Head_1 ..) fun gS => ?_
     refine hl_letgo (rows [(((callN words i), -1, (((i : Int) + 1 + v).tmod words.length), ⟨none, 0, []⟩) : Hd)]) (List.prefix_refl _) ?_
     refine hl_nilrow (α := Int) ?_
     refine r_append (hp' := [hdB g13 (callN words i) (-1) (((i : Int) + 1 + v).tmod words.length) none 0 0, dice g A c nums s11, trB g7 cA cs.length cC hA hs.length hC, trB g6 none 0 0 none 0 0]) (hs.length + 1) (rows (hs ++ [(((callN words i), -1, (((i : Int) + 1 + v).tmod words.length), ⟨none, 0, []⟩) : Hd)])) T.el_L_api_Head rfl rfl rfl hG (show List.Perm (hdB g13 (callN words i) (-1) (((i : Int) + 1 + v).tmod words.length) none 0 0 :: dice g A c nums s11 :: trB g7 cA cs.length cC hA hs.length hC :: trB g6 none 0 0 none 0 0 :: og) (og ++ [hdB g13 (callN words i) (-1) (((i : Int) + 1 + v).tmod words.length) none 0 0, dice g A c nums s11, trB g7 cA cs.length cC hA hs.length hC, trB g6 none 0 0 none 0 0]) from (perm_of fun p => by simp only [List.countP_append, List.countP_cons, List.countP_nil]; omega)) (Src.row (news := rows [(((callN words i), -1, (((i : Int) + 1 + v).tmod words.length), ⟨none, 0, []⟩) : Hd)]) (m := 1) (by repeat constructor) rfl (rows_one _) (by decide)) rfl (rows_append _ _).symm (by unfold maxLen; omega) (by omega) fun A' c' og' hG' => ?_
     first | refine r_fieldAddr ⟨_, 1, none⟩ rfl rfl T.fa_api_Trades_1 rfl ?_ | refine r_fieldAddr _ rfl rfl T.fa_api_Trades_1 rfl ?_
     refine r_store (hp' := og' ++ [hdB g13 (callN words i) (-1) (((i : Int) + 1 + v).tmod words.length) none 0 0, dice g A c nums s11, trB g6 none 0 0 none 0 0]) rfl rfl (show List.Perm (og' ++ [hdB g13 (callN words i) (-1) (((i : Int) + 1 + v).tmod words.length) none 0 0, dice g A c nums s11, trB g7 cA cs.length cC hA hs.length hC, trB g6 none 0 0 none 0 0]) (trB g7 cA cs.length cC hA hs.length hC :: (og' ++ [hdB g13 (callN words i) (-1) (((i : Int) + 1 + v).tmod words.length) none 0 0, dice g A c nums s11, trB g6 none 0 0 none 0 0])) from (perm_of fun p => by simp only [List.countP_append, List.countP_cons, List.countP_nil]; omega)) T.sz_L_api_Head (by rfl) (by rfl) ?_
     refine hl_facts (innerF_snoc (ps := hs) (f := Hd.row) (p := (((callN words i), -1, (((i : Int) + 1 + v).tmod words.length), ⟨none, 0, []⟩) : Hd)) (by repeat constructor) (by repeat constructor)) ?_
     refine hl_nil ?_
     refine then_n ?_
     refine hc_exit ?_
     refine then_exit ?_
     refine inb_hit ?_
     refine then_n ?_
     refine hc_region ?_
     refine r_move rfl rfl ?_
     refine r_add _ rfl rfl rfl rfl (by unfold I64; omega) ?_
     refine r_assign rfl rfl ?_
     refine hl_nil ?_
     have hl1 : (hs ++ [(((callN words i), -1, (((i : Int) + 1 + v).tmod words.length), ⟨none, 0, []⟩) : Hd)]).length = hs.length + 1 := by simp
     refine hq_perm (show List.Perm (trB g7 cA cs.length cC A' (hs.length + 1) c' :: (og' ++ [hdB g13 (callN words i) (-1) (((i : Int) + 1 + v).tmod words.length) none 0 0, dice g A c nums s11, trB g6 none 0 0 none 0 0])) (hdB g13 (callN words i) (-1) (((i : Int) + 1 + v).tmod words.length) none 0 0 :: dice g A c nums s11 :: trB g7 cA cs.length cC A' (hs.length + 1) c' :: trB g6 none 0 0 none 0 0 :: og') from (perm_of fun p => by simp only [List.countP_append, List.countP_cons, List.countP_nil]; omega)) ?_
     exact again _ (i + 1, hs ++ [(((callN words i), -1, (((i : Int) + 1 + v).tmod words.length), ⟨none, 0, []⟩) : Hd)], (A', c'), og', s11) ⟨by show i + 1 ≤ words.length; omega, by show (hs ++ [_]).length = i + 1; rw [hl1]; omega, hH.snoc (by rw [hhl]) (by rw [hhl]; exact ⟨fun k hk => by simp at hk, .inl ⟨hps.1, hps.2.1, hps.2.2, rfl, rfl⟩⟩), by show Grow _ _ _ (hs ++ [_]).length _ _ _; rw [hl1]; exact hG', by assumption⟩ (by show words.length - (i + 1) < words.length - i; omega) ⟨rfl, rfl, rfl, rfl, rfl, rfl, trivial⟩ (by show List.Sublist (_ :: trB g7 _ _ _ _ (hs ++ [_]).length _ :: _) _; rw [hl1]; exact List.sublist_cons_self _ _) ⟨(by repeat constructor), (by repeat constructor), (by repeat constructor), (by repeat constructor), trivial⟩
    ·have hb3' := hb3; try simp at hb3'
     refine hc_skip ?_
     refine then_n ?_
     refine hc_seq ?_
     refine hc_seq ?_
     refine hc_region ?_
     refine r_assign rfl rfl ?_
     refine hl_nil ?_
     refine then_n ?_
     refine hc_block ?_
     refine hc_loop (β := Nat × List Int × OutC × Hp × (Int × Int)) ⟨fun x => x.1 ≤ words.length ∧ AscB i x.1 x.2.1 ∧ Grow T.int 1 x.2.2.1.1 x.2.1.length x.2.2.1.2 (rows x.2.1) x.2.2.2.1 ∧ DOK nums x.2.2.2.2, fun x => [(0, .pointer (some ⟨g, 0, none⟩)), (6, .pointer (some ⟨g6, 0, none⟩)), (7, .pointer (some ⟨g7, 0, none⟩)), (10, .slice wA words.length wC), (11, int words.length), (12, int i), (13, .pointer (some ⟨g13, 0, none⟩)), (14, int x.1)], fun x => dice g A c nums x.2.2.2.2 :: hdB g13 (callN words i) z (-1) x.2.2.1.1 x.2.1.length x.2.2.1.2 :: trB g7 cA cs.length cC hA hs.length hC :: trB g6 none 0 0 none 0 0 :: (x.2.2.2.1 ++ og), fun _ => [Row wA (rows words), Row cA (rows cs), Row A (rows nums), innersF hs Hd.row]⟩ (fun x => words.length - x.1) (0, [], (none, 0), [], s9) ⟨Nat.zero_le _, ⟨List.Pairwise.nil, fun x hx => by cases hx⟩, Grow.nil _ _, hs9⟩ ⟨rfl, rfl, rfl, rfl, rfl, rfl, rfl, rfl, trivial⟩ (List.Sublist.refl _) ⟨(by repeat constructor), (by repeat constructor), (by repeat constructor), (by repeat constructor), trivial⟩ fun x hx => ?_
     clear hs9
     obtain ⟨k, al, ⟨aA, aC⟩, og3, s9⟩ := x
     obtain ⟨hk, hB, hG3, hs9⟩ := hx
     simp only at hk hB hG3 hs9
     refine hc_seq ?_
     refine hc_seq ?_
     refine hc_region ?_
     refine r_move rfl rfl ?_
     refine r_move rfl rfl ?_
     refine r_lss rfl rfl rfl ?_
     refine hl_nil ?_
     refine then_n ?_
     first | refine c_dec rfl (fun hb4 => ?_) (fun hb4 => ?_) | refine hc_cond rfl (fun hb4 => ?_) (fun hb4 => ?_)
     ·have hb4' := hb4; try simp at hb4'
      have hk2 : k < words.length := by omega
      have hal := hB.len
      refine hc_skip ?_
      refine then_n ?_
      refine hc_seq ?_
      refine hc_block ?_
      refine hc_cut ⟨fun x : (Int × Int) × Bool => DOK nums x.1 ∧ (x.2 = true → ¬ k = i), fun x => [(0, .pointer (some ⟨g, 0, none⟩)), (6, .pointer (some ⟨g6, 0, none⟩)), (7, .pointer (some ⟨g7, 0, none⟩)), (10, .slice wA words.length wC), (11, int words.length), (12, int i), (13, .pointer (some ⟨g13, 0, none⟩)), (14, int k), (109, .bool x.2)], fun x => dice g A c nums x.1 :: hdB g13 (callN words i) z (-1) aA al.length aC :: trB g7 cA cs.length cC hA hs.length hC :: trB g6 none 0 0 none 0 0 :: (og3 ++ og), fun _ => [Row wA (rows words), Row cA (rows cs), Row A (rows nums), innersF hs Hd.row]⟩ ?_ ?_
      ·skip
       refine hc_region ?_
       refine r_move rfl rfl ?_
       refine r_move rfl rfl ?_
       refine r_neq rfl rfl rfl ?_
       refine r_move rfl rfl ?_
       refine g_split rfl rfl ?_ ?_
       ·intro hg2; have hg2' := hg2; try simp at hg2'
        refine g_yes rfl rfl hg2 ?_
        refine r_move rfl rfl ?_
        refine g_yes rfl rfl hg2 ?_
        refine hl_call F.kit_Dice_Once_cb rfl rfl (kit_Dice_Once_meets 4 hn hs9 (by omega)) (List.Perm.refl _) ⟨(by repeat constructor), trivial⟩ fun x hx => ?_
        obtain ⟨s12, b12⟩ := x
        obtain ⟨hs12, hb12⟩ := hx
        simp only at hs12
        refine p_t rfl rfl (bt1 hg2) rfl ?_
        refine hl_nil ?_
        exact cut_n _ (s12, b12) ⟨hs12, fun _ => by simp at hg2; omega⟩ ⟨rfl, rfl, rfl, rfl, rfl, rfl, rfl, rfl, rfl, trivial⟩ (List.Sublist.refl _) ⟨(by repeat constructor), (by repeat constructor), (by repeat constructor), (by repeat constructor), trivial⟩
       ·intro hg2; have hg2' := hg2; try simp at hg2'
        refine g_no rfl rfl rfl rfl rfl hg2 ?_
        refine g_no rfl rfl rfl rfl rfl hg2 ?_
        refine p_f rfl rfl (bf2 hg2) rfl ?_
        refine hl_nil ?_
        exact cut_n _ (s9, false) ⟨hs9, fun h => by cases h⟩ ⟨rfl, rfl, rfl, rfl, rfl, rfl, rfl, rfl, rfl, trivial⟩ (List.Sublist.refl _) ⟨(by repeat constructor), (by repeat constructor), (by repeat constructor), (by repeat constructor), trivial⟩
      ·intro x hx
       obtain ⟨s13, b13⟩ := x
       obtain ⟨hs13, hb13⟩ := hx
       simp only at hs13 hb13
       first | refine c_dec rfl (fun hb5 => ?_) (fun hb5 => ?_) | refine hc_cond rfl (fun hb5 => ?_) (fun hb5 => ?_)
       ·have hb5' := hb5; try simp at hb5'
        refine hc_region ?_
        first | refine r_fieldAddr ⟨_, 3, none⟩ rfl rfl T.fa_api_Head_3 rfl ?_ | refine r_fieldAddr _ rfl rfl T.fa_api_Head_3 rfl ?_
        first | refine r_load rfl T.cell_ints rfl (cell_own (by repeat constructor) rfl) ?_ | refine r_load rfl T.cell_ints rfl (cell_blk (by repeat constructor) rfl) ?_ | refine r_load rfl T.cell_ints rfl (cell_row (by repeat constructor) (rows_get0 (by omega) rfl)) ?_ | refine r_load rfl T.cell_ints rfl (cell_row_f (by repeat constructor) (rows_get (by omega) rfl)) ?_ | refine r_load rfl T.cell_ints rfl (cell_rowg (by repeat constructor) rfl) ?_
        refine r_move rfl rfl ?_
        refine r_buildSlice _ rfl rfl (fun _ => T.bs_ints_1 ..) fun gS => ?_
        refine hl_letgo (rows [(k : Int)]) (List.prefix_refl _) ?_
        refine r_append (hp' := dice g A c nums s13 :: hdB g13 (callN words i) z (-1) aA al.length aC :: trB g7 cA cs.length cC hA hs.length hC :: trB g6 none 0 0 none 0 0 :: og) (al.length + 1) (rows (al ++ [(k : Int)])) T.el_ints rfl rfl rfl hG3 (show List.Perm (dice g A c nums s13 :: hdB g13 (callN words i) z (-1) aA al.length aC :: trB g7 cA cs.length cC hA hs.length hC :: trB g6 none 0 0 none 0 0 :: (og3 ++ og)) (og3 ++ (dice g A c nums s13 :: hdB g13 (callN words i) z (-1) aA al.length aC :: trB g7 cA cs.length cC hA hs.length hC :: trB g6 none 0 0 none 0 0 :: og)) from (perm_of fun p => by simp only [List.countP_append, List.countP_cons, List.countP_nil]; omega)) (Src.row (news := rows [(k : Int)]) (m := 1) m0 rfl (rows_one _) (by decide)) rfl (rows_append _ _).symm (by unfold maxLen; omega) (by omega) fun A' c' og' hG' => ?_
        first | refine r_fieldAddr ⟨_, 3, none⟩ rfl rfl T.fa_api_Head_3 rfl ?_ | refine r_fieldAddr _ rfl rfl T.fa_api_Head_3 rfl ?_
        refine r_store (hp' := og' ++ (dice g A c nums s13 :: trB g7 cA cs.length cC hA hs.length hC :: trB g6 none 0 0 none 0 0 :: og)) rfl rfl (show List.Perm (og' ++ (dice g A c nums s13 :: hdB g13 (callN words i) z (-1) aA al.length aC :: trB g7 cA cs.length cC hA hs.length hC :: trB g6 none 0 0 none 0 0 :: og)) (hdB g13 (callN words i) z (-1) aA al.length aC :: (og' ++ (dice g A c nums s13 :: trB g7 cA cs.length cC hA hs.length hC :: trB g6 none 0 0 none 0 0 :: og))) from (perm_of fun p => by simp only [List.countP_append, List.countP_cons, List.countP_nil]; omega)) T.sz_ints (by rfl) (by rfl) ?_
        refine hl_nil ?_
        refine inb_n ?_
        refine then_n ?_
        refine hc_region ?_
        refine r_move rfl rfl ?_
        refine r_add _ rfl rfl rfl rfl (by unfold I64; omega) ?_
        refine r_assign rfl rfl ?_
        refine hl_nil ?_
        have hl1 : (al ++ [(k : Int)]).length = al.length + 1 := by simp
        refine hq_perm (show List.Perm (hdB g13 (callN words i) z (-1) A' (al.length + 1) c' :: (og' ++ (dice g A c nums s13 :: trB g7 cA cs.length cC hA hs.length hC :: trB g6 none 0 0 none 0 0 :: og))) (dice g A c nums s13 :: hdB g13 (callN words i) z (-1) A' (al.length + 1) c' :: trB g7 cA cs.length cC hA hs.length hC :: trB g6 none 0 0 none 0 0 :: (og' ++ og)) from (perm_of fun p => by simp only [List.countP_append, List.countP_cons, List.countP_nil]; omega)) ?_
        exact again _ (k + 1, al ++ [(k : Int)], (A', c'), og', s13) ⟨by show k + 1 ≤ words.length; omega, hB.snoc (hb13 hb5), by show Grow _ _ _ (al ++ [_]).length _ _ _; rw [hl1]; exact hG', hs13⟩ (by show words.length - (k + 1) < words.length - k; omega) ⟨rfl, rfl, rfl, rfl, rfl, rfl, rfl, rfl, trivial⟩ (by show List.Sublist (_ :: hdB g13 _ _ _ _ (al ++ [_]).length _ :: _) _; rw [hl1]; exact List.Sublist.refl _) ⟨(by repeat constructor), (by repeat constructor), (by repeat constructor), (by repeat constructor), trivial⟩
       ·have hb5' := hb5; try simp at hb5'
        refine hc_skip ?_
        refine inb_n ?_
        refine then_n ?_
        refine hc_region ?_
        refine r_move rfl rfl ?_
        refine r_add _ rfl rfl rfl rfl (by unfold I64; omega) ?_
        refine r_assign rfl rfl ?_
        refine hl_nil ?_
        exact again _ (k + 1, al, (aA, aC), og3, s13) ⟨by show k + 1 ≤ words.length; omega, hB.step, hG3, hs13⟩ (by show words.length - (k + 1) < words.length - k; omega) ⟨rfl, rfl, rfl, rfl, rfl, rfl, rfl, rfl, trivial⟩ (List.Sublist.refl _) ⟨(by repeat constructor), (by repeat constructor), (by repeat constructor), (by repeat constructor), trivial⟩
     ·have hb4' := hb4; try simp at hb4'
      have hk2 : k = words.length := by omega
      subst hk2
      have hal := hB.len
      refine hc_exit ?_
      refine then_exit ?_
      refine then_exit ?_
      refine inb_hit ?_
      refine then_n ?_
      refine hc_cut ⟨fun x : (Int × Int) × Int => DOK nums x.1 ∧ ((0 ≤ x.2 ∧ x.2 < (cs.length : Int)) ∨ (x.2 = -1 ∧ al ≠ [])), fun x => [(0, .pointer (some ⟨g, 0, none⟩)), (6, .pointer (some ⟨g6, 0, none⟩)), (7, .pointer (some ⟨g7, 0, none⟩)), (10, .slice wA words.length wC), (11, int words.length), (12, int i), (13, .pointer (some ⟨g13, 0, none⟩))], fun x => dice g A c nums x.1 :: hdB g13 (callN words i) x.2 (-1) aA al.length aC :: trB g7 cA cs.length cC hA hs.length hC :: trB g6 none 0 0 none 0 0 :: (og3 ++ og), fun _ => [Row wA (rows words), Row cA (rows cs), Row A (rows nums), innersF hs Hd.row]⟩ ?_ ?_
      ·skip
       refine hc_cut ⟨fun x : (Int × Int) × Bool => DOK nums x.1 ∧ (x.2 = true → al ≠ []), fun x => [(0, .pointer (some ⟨g, 0, none⟩)), (6, .pointer (some ⟨g6, 0, none⟩)), (7, .pointer (some ⟨g7, 0, none⟩)), (10, .slice wA words.length wC), (11, int words.length), (12, int i), (13, .pointer (some ⟨g13, 0, none⟩)), (123, .bool x.2)], fun x => dice g A c nums x.1 :: hdB g13 (callN words i) z (-1) aA al.length aC :: trB g7 cA cs.length cC hA hs.length hC :: trB g6 none 0 0 none 0 0 :: (og3 ++ og), fun _ => [Row wA (rows words), Row cA (rows cs), Row A (rows nums), innersF hs Hd.row]⟩ ?_ ?_
       ·skip
        refine hc_region ?_
        first | refine r_fieldAddr ⟨_, 3, none⟩ rfl rfl T.fa_api_Head_3 rfl ?_ | refine r_fieldAddr _ rfl rfl T.fa_api_Head_3 rfl ?_
        first | refine r_load rfl T.cell_ints rfl (cell_own (by repeat constructor) rfl) ?_ | refine r_load rfl T.cell_ints rfl (cell_blk (by repeat constructor) rfl) ?_ | refine r_load rfl T.cell_ints rfl (cell_row (by repeat constructor) (rows_get0 (by omega) rfl)) ?_ | refine r_load rfl T.cell_ints rfl (cell_row_f (by repeat constructor) (rows_get (by omega) rfl)) ?_ | refine r_load rfl T.cell_ints rfl (cell_rowg (by repeat constructor) rfl) ?_
        refine r_len_sl rfl T.u_ints rfl ?_
        refine r_gtr rfl rfl rfl ?_
        refine r_move rfl rfl ?_
        refine g_split rfl rfl ?_ ?_
        ·intro hg3; have hg3' := hg3; try simp at hg3'
         refine g_yes rfl rfl hg3 ?_
         refine r_move rfl rfl ?_
         refine g_yes rfl rfl hg3 ?_
         refine hl_call F.kit_Dice_Once_cb rfl rfl (kit_Dice_Once_meets 4 hn hs9 (by omega)) (List.Perm.refl _) ⟨(by repeat constructor), trivial⟩ fun x hx => ?_
         obtain ⟨s14, b14⟩ := x
         obtain ⟨hs14, hb14⟩ := hx
         simp only at hs14
         refine p_t rfl rfl (bt1 hg3) rfl ?_
         refine hl_nil ?_
         exact cut_n _ (s14, b14) ⟨hs14, fun _ e => by subst e; simp at hg3⟩ ⟨rfl, rfl, rfl, rfl, rfl, rfl, rfl, rfl, trivial⟩ (List.Sublist.refl _) ⟨(by repeat constructor), (by repeat constructor), (by repeat constructor), (by repeat constructor), trivial⟩
        ·intro hg3; have hg3' := hg3; try simp at hg3'
         refine g_no rfl rfl rfl rfl rfl hg3 ?_
         refine g_no rfl rfl rfl rfl rfl hg3 ?_
         refine p_f rfl rfl (bf2 hg3) rfl ?_
         refine hl_nil ?_
         exact cut_n _ (s9, false) ⟨hs9, fun h => by cases h⟩ ⟨rfl, rfl, rfl, rfl, rfl, rfl, rfl, rfl, trivial⟩ (List.Sublist.refl _) ⟨(by repeat constructor), (by repeat constructor), (by repeat constructor), (by repeat constructor), trivial⟩
       ·intro x hx
        obtain ⟨s15, b15⟩ := x
        obtain ⟨hs15, hb15⟩ := hx
        simp only at hs15 hb15
        first | refine c_dec rfl (fun hb6 => ?_) (fun hb6 => ?_) | refine hc_cond rfl (fun hb6 => ?_) (fun hb6 => ?_)
        ·have hb6' := hb6; try simp at hb6'
         refine hc_region ?_
         first | refine r_fieldAddr ⟨_, 1, none⟩ rfl rfl T.fa_api_Head_1 rfl ?_ | refine r_fieldAddr _ rfl rfl T.fa_api_Head_1 rfl ?_
         refine r_store rfl rfl (.swap _ _ _) T.sz_int (by rfl) (by rfl) ?_
         refine hl_nil ?_
         refine hq_perm (List.Perm.swap _ _ _) ?_
         exact cut_n _ (s15, -1) ⟨hs15, .inr ⟨rfl, hb15 hb6⟩⟩ ⟨rfl, rfl, rfl, rfl, rfl, rfl, rfl, trivial⟩ (List.Sublist.refl _) ⟨(by repeat constructor), (by repeat constructor), (by repeat constructor), (by repeat constructor), trivial⟩
        ·have hb6' := hb6; try simp at hb6'
         refine hc_skip ?_
         exact cut_n _ (s15, z) ⟨hs15, .inl hz2⟩ ⟨rfl, rfl, rfl, rfl, rfl, rfl, rfl, trivial⟩ (List.Sublist.refl _) ⟨(by repeat constructor), (by repeat constructor), (by repeat constructor), (by repeat constructor), trivial⟩
      ·intro x hx
       obtain ⟨s16, cl⟩ := x
       obtain ⟨hs16, hcl⟩ := hx
       simp only at hs16 hcl
       refine hc_perm (show List.Perm (dice g A c nums s16 :: hdB g13 (callN words i) cl (-1) aA al.length aC :: trB g7 cA cs.length cC hA hs.length hC :: trB g6 none 0 0 none 0 0 :: (og3 ++ og)) (og3 ++ (hdB g13 (callN words i) cl (-1) aA al.length aC :: dice g A c nums s16 :: trB g7 cA cs.length cC hA hs.length hC :: trB g6 none 0 0 none 0 0 :: og)) from (perm_of fun p => by simp only [List.countP_append, List.countP_cons, List.countP_nil]; omega)) ?_
       refine hc_grown hG3 ?_
       refine hc_region ?_
       first | refine r_fieldAddr ⟨_, 1, none⟩ rfl rfl T.fa_api_Trades_1 rfl ?_ | refine r_fieldAddr _ rfl rfl T.fa_api_Trades_1 rfl ?_
       first | refine r_load rfl T.cell_L_api_Head rfl (cell_own (by repeat constructor) rfl) ?_ | refine r_load rfl T.cell_L_api_Head rfl (cell_blk (by repeat constructor) rfl) ?_ | refine r_load rfl T.cell_L_api_Head rfl (cell_row (by repeat constructor) (rows_get0 (by omega) rfl)) ?_ | refine r_load rfl T.cell_L_api_Head rfl (cell_row_f (by repeat constructor) (rows_get (by omega) rfl)) ?_ | refine r_load rfl T.cell_L_api_Head rfl (cell_rowg (by repeat constructor) rfl) ?_
       first | refine r_loadA rfl T.row_api_Head T.sz_api_Head rfl (by repeat constructor) (by rfl) ?_ | refine r_loadB rfl T.row_api_Head T.sz_api_Head rfl (by repeat constructor) (by rfl) ?_ | refine r_loadS rfl T.row_api_Head T.sz_api_Head rfl rfl (cells_row (by repeat constructor) (rows_all (by omega))) ?_
       refine r_buildSlice _ rfl rfl (fun _ => T.bs_L_api_Head_1 ..) fun gS => ?_
       refine hl_letgo (rows [(((callN words i), cl, -1, ⟨aA, aC, al⟩) : Hd)]) (List.prefix_refl _) ?_
       refine r_append (hp' := [hdB g13 (callN words i) cl (-1) aA al.length aC, dice g A c nums s16, trB g7 cA cs.length cC hA hs.length hC, trB g6 none 0 0 none 0 0]) (hs.length + 1) (rows (hs ++ [(((callN words i), cl, -1, ⟨aA, aC, al⟩) : Hd)])) T.el_L_api_Head rfl rfl rfl hG (show List.Perm (hdB g13 (callN words i) cl (-1) aA al.length aC :: dice g A c nums s16 :: trB g7 cA cs.length cC hA hs.length hC :: trB g6 none 0 0 none 0 0 :: og) (og ++ [hdB g13 (callN words i) cl (-1) aA al.length aC, dice g A c nums s16, trB g7 cA cs.length cC hA hs.length hC, trB g6 none 0 0 none 0 0]) from (perm_of fun p => by simp only [List.countP_append, List.countP_cons, List.countP_nil]; omega)) (Src.row (news := rows [(((callN words i), cl, -1, ⟨aA, aC, al⟩) : Hd)]) (m := 1) m0 rfl (rows_one _) (by decide)) rfl (rows_append _ _).symm (by unfold maxLen; omega) (by omega) fun A' c' og' hG' => ?_
       first | refine r_fieldAddr ⟨_, 1, none⟩ rfl rfl T.fa_api_Trades_1 rfl ?_ | refine r_fieldAddr _ rfl rfl T.fa_api_Trades_1 rfl ?_
       refine r_store (hp' := og' ++ [hdB g13 (callN words i) cl (-1) aA al.length aC, dice g A c nums s16, trB g6 none 0 0 none 0 0]) rfl rfl (show List.Perm (og' ++ [hdB g13 (callN words i) cl (-1) aA al.length aC, dice g A c nums s16, trB g7 cA cs.length cC hA hs.length hC, trB g6 none 0 0 none 0 0]) (trB g7 cA cs.length cC hA hs.length hC :: (og' ++ [hdB g13 (callN words i) cl (-1) aA al.length aC, dice g A c nums s16, trB g6 none 0 0 none 0 0])) from (perm_of fun p => by simp only [List.countP_append, List.countP_cons, List.countP_nil]; omega)) T.sz_L_api_Head (by rfl) (by rfl) ?_
       refine hl_facts (innerF_snoc (ps := hs) (f := Hd.row) (p := (((callN words i), cl, -1, ⟨aA, aC, al⟩) : Hd)) (by repeat constructor) (by repeat constructor)) ?_
       refine hl_nil ?_
       refine inb_n ?_
       refine then_n ?_
       refine hc_region ?_
       refine r_move rfl rfl ?_
       refine r_add _ rfl rfl rfl rfl (by unfold I64; omega) ?_
       refine r_assign rfl rfl ?_
       refine hl_nil ?_
       have hl1 : (hs ++ [(((callN words i), cl, -1, ⟨aA, aC, al⟩) : Hd)]).length = hs.length + 1 := by simp
       refine hq_perm (show List.Perm (trB g7 cA cs.length cC A' (hs.length + 1) c' :: (og' ++ [hdB g13 (callN words i) cl (-1) aA al.length aC, dice g A c nums s16, trB g6 none 0 0 none 0 0])) (hdB g13 (callN words i) cl (-1) aA al.length aC :: dice g A c nums s16 :: trB g7 cA cs.length cC A' (hs.length + 1) c' :: trB g6 none 0 0 none 0 0 :: og') from (perm_of fun p => by simp only [List.countP_append, List.countP_cons, List.countP_nil]; omega)) ?_
       exact again _ (i + 1, hs ++ [(((callN words i), cl, -1, ⟨aA, aC, al⟩) : Hd)], (A', c'), og', s16) ⟨by show i + 1 ≤ words.length; omega, by show (hs ++ [_]).length = i + 1; rw [hl1]; omega, hH.snoc (by rw [hhl]) (by rw [hhl]; exact ⟨hB.err, hcl.elim (fun h => .inr (.inl ⟨rfl, h.1, h.2⟩)) (fun h => .inr (.inr ⟨rfl, h.1, h.2⟩))⟩), by show Grow _ _ _ (hs ++ [_]).length _ _ _; rw [hl1]; exact hG', by assumption⟩ (by show words.length - (i + 1) < words.length - i; omega) ⟨rfl, rfl, rfl, rfl, rfl, rfl, trivial⟩ (by show List.Sublist (_ :: trB g7 _ _ _ _ (hs ++ [_]).length _ :: _) _; rw [hl1]; exact List.sublist_cons_self _ _) ⟨(by repeat constructor), (by repeat constructor), (by repeat constructor), (by repeat constructor), trivial⟩
  ·have hb2' := hb2; try simp at hb2'
   have hi2 : i = words.length := by omega
   subst hi2
   refine hc_exit ?_
   refine then_exit ?_
   refine then_exit ?_
   refine inb_hit ?_
   refine then_n ?_
   refine hc_seq ?_
   refine hc_perm (show List.Perm (dice g A c nums s :: trB g7 cA cs.length cC hA hs.length hC :: trB g6 none 0 0 none 0 0 :: og) (og ++ [trB g7 cA cs.length cC hA hs.length hC, trB g6 none 0 0 none 0 0, dice g A c nums s]) from (perm_of fun p => by simp only [List.countP_append, List.countP_cons, List.countP_nil]; omega)) ?_
   have hHle := hG.le
   refine hc_grown hG ?_
   refine hc_rowsF (A := hA) (ps := hs) (f := Hd.row) (by repeat constructor) (by repeat constructor) ?_
   refine hc_region ?_
   first | refine r_loadA rfl T.row_api_Trades T.sz_api_Trades rfl (by repeat constructor) (by rfl) ?_ | refine r_loadB rfl T.row_api_Trades T.sz_api_Trades rfl (by repeat constructor) (by rfl) ?_ | refine r_loadS rfl T.row_api_Trades T.sz_api_Trades rfl rfl (cells_row (by repeat constructor) (rows_all (by omega))) ?_
   refine r_storeS (cs := #[.slice cA cs.length cC, .slice hA hs.length hC]) rfl rfl (.swap _ _ _) T.sz_api_Trades (by rfl) (by rfl) ?_
   refine hl_nil ?_
   refine then_n ?_
   refine hc_ret ?_
   refine ret_row (s, cs, hs, (cA, cC), (hA, hC)) rfl rfl T.row_api_Trades T.sz_api_Trades rfl m0 rfl rfl ⟨hD, ⟨made_ok hP hC1 hcs6 hwp hwi hhl hwl6 hH, hcs1, by show cs.length ≤ m1; omega, by show hs.length ≤ m2; omega, hCle, hHle, hs_ha hwl6 hH⟩⟩ (List.Sublist.cons _ (List.Sublist.cons _ (List.Sublist.refl _))) ⟨(by repeat constructor), (by repeat constructor), trivial⟩

end Go.Proofs.Ytlpgheniajdkfaa
