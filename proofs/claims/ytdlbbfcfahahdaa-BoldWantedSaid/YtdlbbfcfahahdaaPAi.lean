/- Texts of this claim, one behind another. -/
import Derived.Conc.LoneCalls
import Derived.Laws.CopyRow
import Derived.Laws.Tables
import Derived.Test.YtdlbbfcfahahdaaPAh
set_option linter.unusedVariables false
set_option linter.unusedSimpArgs false
section
namespace Go.Proofs.Ytdlbbfcfahahdaa
open Go Go.W
set_option maxRecDepth 20000
attribute [local irreducible] HL HC HQ HB Row Rows2 Blk Facts
abbrev trB (g : Nat) (A : Option Addr) (n c : Nat) (B : Option Addr) (m k : Nat) : Nat × Obj := (g, .cells #[.slice A n c, .slice B m k] T.api_Trades (0, 0))
abbrev hdB (g : Nat) (w : Str) (cl se : Int) (A : Option Addr) (n c : Nat) : Nat × Obj := (g, .cells #[str w, int cl, int se, .slice A n c] T.api_Head (0, 0))
abbrev TRes := List Cl × List Hd × OutC × OutC
structure TOf (m1 m2 : Nat) (x : TRes) : Prop where
  ok : checkT (trOf x.1 x.2.1) = 0
  c1 : 1 ≤ x.1.length
  c2 : x.1.length ≤ m1
  h2 : x.2.1.length ≤ m2
  ca : x.1.length ≤ x.2.2.1.2
  cb : x.2.1.length ≤ x.2.2.2.2
  ha : ∀ h ∈ x.2.1, h.2.2.2.l.length ≤ 1000000
theorem hs_ha {words : List Int} {nc n : Nat} {hs : List Hd} (hn : n ≤ 6) (h : HsMade words nc n hs) : ∀ x ∈ hs, x.2.2.2.l.length ≤ 1000000 := by
  intro x hx
  obtain ⟨i, hi, rfl⟩ := List.getElem_of_mem hx
  have ha := (h i hi).2.1
  rw [getD_at hi] at ha
  have hg := asc_ge (l := hs[i].2.2.2.l) fun k hk => ⟨(also_ok (ha k hk)).1, (also_ok (ha k hk)).2.2.2⟩
  by_cases h0 : hs[i].2.2.2.l.length = 0
  · omega
  · have h1 := hg (hs[i].2.2.2.l.length - 1) (by omega)
    have h2 := (also_ok (ha (hs[i].2.2.2.l.length - 1) (by omega))).2.1
    omega
set_option maxHeartbeats 2000000 in
theorem kit_TradesOf_meets {g : Nat} {A : Option Addr} {c : Nat} {nums : List Int} {s : Int × Int} (m1 m2 : Nat) (hn : nums.length ≤ 9223372036854775807) (hs : DOK nums s) (h1 : 2 ≤ m1 ∧ m1 ≤ 6) (h2 : m2 ≤ 6) :
    Meets Try.prog F.kit_TradesOf [.pointer (some ⟨g, 0, none⟩), int m1, int m2] (diceCon g A c nums s (TOf m1 m2) (fun x => .agg #[.slice x.2.2.1.1 x.1.length x.2.2.1.2, .slice x.2.2.2.1 x.2.1.length x.2.2.2.2]) (fun x => [Row x.2.2.1.1 (rows x.1), RowsF x.2.2.2.1 x.2.1 Hd.row])) := by
 refine meets_intro F.kit_TradesOf_f rfl (Nat.le_of_ble_eq_true rfl) fun w0 => ?_
 refine hc_seq (hc_region ?_)
 refine r_alloc rfl (fun _ => T.al_api_Trades _) fun g6 => ?_
 refine hl_nil (then_n (hc_seq (hc_region ?_)))
 refine r_alloc rfl (fun _ => T.al_api_Trades _) fun g7 => ?_
 refine hl_nil (then_n (hc_seq ?_))
 refine hc_perm (List.perm_append_comm (l₁ := [trB g7 none 0 0 none 0 0, trB g6 none 0 0 none 0 0]) (l₂ := [dice g A c nums s])) ?_
 refine hc_region (r_move rfl rfl ?_)
 refine hl_call F.kit_sorts_cb rfl rfl (kit_sorts_meets) (List.Perm.refl _) trivial fun gs _ => ?_
 refine r_len_sl rfl T.u_strs rfl ?_
 refine hl_call F.kit_Dice_Order_cb rfl rfl (kit_Dice_Order_meets 9 hn hs (by decide)) (List.Perm.refl _) ⟨mB, trivial⟩ fun x hx => ?_
 obtain ⟨s1, no⟩ := x
 obtain ⟨hs1, hno⟩ := hx
 simp only at hs1
 obtain ⟨names, nA, nC⟩ := no
 obtain ⟨hP, hnc⟩ := hno
 simp only at hP hnc
 have hnl : names.length = 9 := by rw [hP.length_eq, rng_len]
 refine r_assign rfl rfl (hl_nil (then_n (hc_seq (hc_seq (hc_region (r_move rfl rfl (r_move rfl rfl ?_)))))))
 refine hl_call F.kit_Dice_From_cb rfl rfl (kit_Dice_From_meets 1 (m1 : Int) hn hs1 (by omega)) (List.Perm.refl _) ⟨mB, trivial⟩ fun x hx => ?_
 obtain ⟨s2, z⟩ := x
 obtain ⟨hs2, hz⟩ := hx
 simp only at hs2
 simp only [FromInv] at hz
 have hz2 : 1 ≤ z ∧ z ≤ m1 := ⟨hz.1, by by_cases h1 : (1 : Int) < m1; exact hz.2.1 h1; have := hz.2.2 (by omega); omega⟩
 obtain ⟨zn, rfl⟩ := Int.eq_ofNat_of_zero_le (show 0 ≤ z by omega)
 refine r_assign rfl rfl (hl_nil (then_n (hc_block ?_)))
 refine hc_loop (β := Nat × List Cl × OutC × Hp × (Int × Int)) ⟨fun x => x.2.1.length + x.1 = zn ∧ ClsMade names x.2.1 ∧ Grow T.api_Class 2 x.2.2.1.1 x.2.1.length x.2.2.1.2 (rows x.2.1) x.2.2.2.1 ∧ DOK nums x.2.2.2.2, fun x => [(0, .pointer (some ⟨g, 0, none⟩)), (2, int m2), (6, .pointer (some ⟨g6, 0, none⟩)), (7, .pointer (some ⟨g7, 0, none⟩)), (8, .slice nA names.length nC), (9, int x.1)], fun x => dice g A c nums x.2.2.2.2 :: trB g7 x.2.2.1.1 x.2.1.length x.2.2.1.2 none 0 0 :: trB g6 none 0 0 none 0 0 :: x.2.2.2.1, fun _ => [Row nA (rows names), Row A (rows nums)]⟩ (fun x => x.1) (zn, [], (none, 0), [], s2) ⟨Nat.zero_add _, fun i hi => by simp at hi, Grow.nil _ _, hs2⟩ ⟨rfl, rfl, rfl, rfl, rfl, rfl, trivial⟩ (List.Sublist.refl _) ⟨mB, mB, trivial⟩ fun x hx => ?_
 clear hs hs1 hs2 hz
 obtain ⟨r, cs, ⟨cA, cC⟩, og, s⟩ := x
 obtain ⟨hr, hC, hG, hs⟩ := hx
 simp only at hr hC hG hs
 refine hc_seq (hc_seq (hc_region (r_move rfl rfl (r_gtr rfl rfl rfl (hl_nil (then_n ?_))))))
 refine c_dec rfl (fun hb1 => ?_) (fun hb1 => ?_)
 ·have hb1' := hb1; try simp at hb1'
  obtain ⟨r, rfl⟩ : ∃ q, r = q + 1 := ⟨r - 1, by omega⟩
  have hcl : cs.length < 6 := by omega
  have hrg := rng_at hP (show cs.length < 9 by omega)
  obtain ⟨nm, hnm⟩ := Int.eq_ofNat_of_zero_le hrg.1
  have hnm9 : nm < 9 := by omega
  have hsn : sortsL.getD nm default = sortN names cs.length := by unfold sortN; rw [hnm, Int.toNat_natCast]
  refine hc_skip (then_n (hc_seq (hc_block ?_)))
  refine hc_drawW (dice g A c nums s :: og) ([trB g7 cA cs.length cC none 0 0, trB g6 none 0 0 none 0 0]) (perm_of fun p => by simp only [List.countP_append, List.countP_cons, List.countP_nil]; omega) 19 [16] mixed (by decide) (by decide) (by decide) rfl rfl rfl ?_
  refine hb_ex _ rfl rfl rfl (fun w1 => r_fieldAddr ⟨_, 0, none⟩ rfl rfl T.fa_api_Trades_0 rfl (hl_nil (qe_done rfl))) ?_
  refine hb_ex _ rfl rfl rfl (fun w1 => r_load rfl T.cell_L_api_Class rfl (cell_blk mB rfl) (hl_nil (qe_done rfl))) ?_
  refine hb_vs ⟨Nat, fun _ => True, fun g => .slice (some ⟨g, 0, none⟩) 9 9, fun g => [Row (some ⟨g, 0, none⟩) (rows sortsL)]⟩ rfl rfl rfl ?_ ?_
  ·intro w1
   refine hl_call F.kit_sorts_cb rfl rfl (kit_sorts_meets) (List.Perm.refl _) trivial fun gs2 _ => ?_
   refine hl_nil ?_
   exact qv_done gs2 trivial rfl ⟨m0, trivial⟩
  refine hb_ex _ rfl rfl rfl (fun w1 => r_move rfl rfl (hl_nil (qe_done rfl))) ?_
  refine hb_ex _ rfl rfl rfl (fun w1 => r_fieldAddr ⟨_, 0, none⟩ rfl rfl T.fa_api_Trades_0 rfl (hl_nil (qe_done rfl))) ?_
  refine hb_ex _ rfl rfl rfl (fun w1 => r_load rfl T.cell_L_api_Class rfl (cell_blk mB rfl) (hl_nil (qe_done rfl))) ?_
  refine hb_ex _ rfl rfl rfl (fun w1 => r_len_sl rfl T.u_L_api_Class rfl (hl_nil (qe_done rfl))) ?_
  refine hb_ex _ rfl rfl rfl (fun w1 => r_elem (α := Int) names cs.length rfl T.u_ints T.sz_int rfl rfl rfl mB rfl (by omega) (by decide) (hl_nil (qe_done rfl))) ?_
  refine hb_ex _ rfl rfl rfl (fun w1 => r_load (v := int (names.getD cs.length default)) rfl T.cell_int rfl (cell_row mB (rows_get0 (by omega) rfl)) (hl_nil (qe_done rfl))) ?_
  refine hb_vs ⟨Nat, fun _ => True, fun g => .pointer (some ((adr (some ⟨g, 0, none⟩)).add (nm * 1))), fun g => [Row (some ⟨g, 0, none⟩) (rows sortsL)]⟩ rfl rfl rfl ?_ ?_
  ·intro g2 _; intro w1
   refine r_elem (α := Str) sortsL nm rfl T.u_strs T.sz_string rfl rfl hnm mB rfl hnm9 (by decide) ?_
   refine hl_nil ?_
   exact qv_done g2 trivial rfl ⟨mB, trivial⟩
  apply hb_ex _ rfl rfl rfl
  ·intro g9 _; intro w1
   refine r_load (v := str (sortN names cs.length)) rfl T.cell_string rfl (cell_row mB (by rw [← hsn]; exact rows_get0 (show nm < 9 from hnm9) rfl)) ?_
   refine hl_nil ?_
   exact qe_done rfl
  refine hb_ex _ rfl rfl rfl (fun w1 => r_move rfl rfl (hl_nil (qe_done rfl))) ?_
  refine hb_ex _ rfl rfl rfl (fun w1 => r_fieldAddr ⟨_, 0, none⟩ rfl rfl T.fa_api_Trades_0 rfl (hl_nil (qe_done rfl))) ?_
  refine hb_ex _ rfl rfl rfl (fun w1 => r_load rfl T.cell_L_api_Class rfl (cell_blk mB rfl) (hl_nil (qe_done rfl))) ?_
  refine hb_ex _ rfl rfl rfl (fun w1 => r_len_sl rfl T.u_L_api_Class rfl (hl_nil (qe_done rfl))) ?_
  refine hb_ex _ rfl rfl rfl (fun w1 => r_sub ((cs.length : Int) - 1) rfl rfl rfl rfl (by unfold I64; omega) (hl_nil (qe_done rfl))) ?_
  refine hb_wr ⟨(Int × Int) × Int, fun x => DOK nums x.1 ∧ FromInv (-1) ((cs.length : Int) - 1) x.2, fun x => int x.2, fun _ => [], fun x => dice g A c nums x.1 :: og⟩ rfl rfl rfl ?_ ?_
  ·intro w1
   refine hl_call F.kit_Dice_From_cb rfl rfl (kit_Dice_From_meets (-1) ((cs.length : Int) - 1) hn hs (by omega)) (List.Perm.refl _) ⟨mB, trivial⟩ fun x hx => ?_
   obtain ⟨s3, u⟩ := x
   obtain ⟨hs3, hu⟩ := hx
   simp only at hs3
   refine hl_nil ?_
   exact qw_done (s3, u) ⟨hs3, hu⟩ (fun _ => rfl) (List.Sublist.refl _) trivial
  refine hb_vs ⟨Int, fun u => FromInv (-1) ((cs.length : Int) - 1) u, fun u => .agg #[str (sortN names cs.length), int u], fun _ => []⟩ rfl rfl rfl ?_ ?_
  ·intro x hx; intro w1
   refine r_build _ rfl rfl (fun _ => T.bd_api_Class_0_1 ..) ?_
   refine hl_nil ?_
   exact qv_done x.2 hx.2 rfl trivial
  refine hb_vs ⟨Nat × Int, fun x => FromInv (-1) ((cs.length : Int) - 1) x.2, fun x => .slice (some ⟨x.1, 0, none⟩) 1 1, fun x => [Row (some ⟨x.1, 0, none⟩) (rows [(((sortN names cs.length), x.2) : Cl)])]⟩ rfl rfl rfl ?_ ?_
  ·intro u hu; intro w1
   refine r_buildSlice _ rfl rfl (fun _ => T.bs_L_api_Class_1 ..) fun gS => ?_
   refine hl_nil ?_
   refine hq_letgo (rows [(((sortN names cs.length), u) : Cl)]) (List.prefix_refl _) ?_
   exact qv_done (gS, u) hu rfl ⟨m0, trivial⟩
  refine hb_nil ⟨rfl, ?_⟩
  intro g2 _ g9 _ x16 h16 u17 h17 x18 h18
  obtain ⟨s4, z16⟩ := x16
  obtain ⟨hs4, _⟩ := h16
  obtain ⟨g18, u⟩ := x18
  simp only at hs4
  simp only [FromInv] at h18
  have hu5 : -1 ≤ u ∧ u < (cs.length : Int) := by
    refine ⟨h18.1, ?_⟩
    by_cases h1 : (-1 : Int) < (cs.length : Int) - 1
    · have := h18.2.1 h1; omega
    · have := h18.2.2 (by omega); omega
  refine r_append (hp' := [dice g A c nums s4, trB g7 cA cs.length cC none 0 0, trB g6 none 0 0 none 0 0]) (cs.length + 1) (rows (cs ++ [(((sortN names cs.length), u) : Cl)])) T.el_L_api_Class rfl rfl rfl hG (show List.Perm (dice g A c nums s4 :: og ++ [trB g7 cA cs.length cC none 0 0, trB g6 none 0 0 none 0 0]) (og ++ [dice g A c nums s4, trB g7 cA cs.length cC none 0 0, trB g6 none 0 0 none 0 0]) from (perm_of fun p => by simp only [List.countP_append, List.countP_cons, List.countP_nil]; omega)) (Src.row (news := rows [(((sortN names cs.length), u) : Cl)]) (m := 1) mB rfl (rows_one _) (by decide)) rfl (rows_append _ _).symm (by unfold maxLen; omega) (by omega) fun A4 c4 og4 hG4 => ?_
  refine r_fieldAddr ⟨_, 0, none⟩ rfl rfl T.fa_api_Trades_0 rfl ?_
  refine r_store (hp' := og4 ++ [dice g A c nums s4, trB g6 none 0 0 none 0 0]) rfl rfl (show List.Perm (og4 ++ [dice g A c nums s4, trB g7 cA cs.length cC none 0 0, trB g6 none 0 0 none 0 0]) (trB g7 cA cs.length cC none 0 0 :: (og4 ++ [dice g A c nums s4, trB g6 none 0 0 none 0 0])) from (perm_of fun p => by simp only [List.countP_append, List.countP_cons, List.countP_nil]; omega)) T.sz_L_api_Class (by rfl) (by rfl) ?_
  refine hl_nil (inb_n (then_n (hc_region (r_move rfl rfl ?_))))
  refine r_sub (r : Int) rfl rfl rfl (by omega) (by unfold I64; omega) ?_
  refine r_assign rfl rfl (hl_nil ?_)
  have hl1 : (cs ++ [(((sortN names cs.length), u) : Cl)]).length = cs.length + 1 := by simp
  refine hq_perm (show List.Perm (trB g7 A4 (cs.length + 1) c4 none 0 0 :: (og4 ++ [dice g A c nums s4, trB g6 none 0 0 none 0 0])) (dice g A c nums s4 :: trB g7 A4 (cs.length + 1) c4 none 0 0 :: trB g6 none 0 0 none 0 0 :: og4) from (perm_of fun p => by simp only [List.countP_append, List.countP_cons, List.countP_nil]; omega)) ?_
  exact again _ (r, cs ++ [(((sortN names cs.length), u) : Cl)], (A4, c4), og4, s4) ⟨by show (cs ++ [_]).length + r = zn; rw [hl1]; omega, hC.snoc hu5.1 hu5.2, by show Grow _ _ _ (cs ++ [_]).length _ _ _; rw [hl1]; exact hG4, hs4⟩ (by show r < r + 1; omega) ⟨rfl, rfl, rfl, rfl, rfl, rfl, trivial⟩ (by show List.Sublist (_ :: trB g7 A4 (cs ++ [_]).length c4 none 0 0 :: _) _; rw [hl1]; exact List.Sublist.refl _) ⟨mB, mB, trivial⟩
 ·have hb1' := hb1; try simp at hb1'
  have hr0 : r = 0 := by omega
  subst hr0
  refine hc_exit (then_exit (then_exit (inb_hit (then_n (hc_seq ?_)))))
  refine hc_count (og ++ [dice g A c nums s, trB g7 cA cs.length cC none 0 0, trB g6 none 0 0 none 0 0]) (by intro p; simp only [List.countP_append, List.countP_cons, List.countP_nil]; omega) ?_
  have hCle := hG.le
  have hC1 := hC
  refine hc_grown hG ?_
  clear hG
  refine hc_region (r_move rfl rfl ?_)
  refine hl_call F.kit_callings_cb rfl rfl (kit_callings_meets) (List.Perm.refl _) trivial fun gk _ => ?_
  refine r_len_sl rfl T.u_strs rfl ?_
  refine r_move rfl rfl (r_move rfl rfl ?_)
  refine hl_call F.kit_Dice_To_cb rfl rfl (kit_Dice_To_meets (m2 : Int) hn hs (by omega)) (List.Perm.refl _) ⟨mB, trivial⟩ fun x hx => ?_
  obtain ⟨s5, z5⟩ := x
  obtain ⟨hs5, hz5⟩ := hx
  simp only at hs5
  simp only [ToInv] at hz5
  obtain ⟨zm, rfl⟩ := Int.eq_ofNat_of_zero_le hz5.1
  have hzm : zm ≤ m2 := by by_cases h1 : (1 : Int) ≤ m2; have := hz5.2.1 h1; omega; have := hz5.2.2 (by omega); omega
  refine hl_call F.kit_partOf_cb rfl rfl (kit_partOf_meets 16 zm hn hs5 ⟨by decide, by omega⟩) (List.Perm.refl _) ⟨mB, trivial⟩ fun x hx => ?_
  obtain ⟨s6, wo⟩ := x
  obtain ⟨hs6, hwo⟩ := hx
  simp only at hs6
  obtain ⟨words, wA, wC⟩ := wo
  obtain ⟨⟨hwp, hwi⟩, hwl, hwc⟩ := hwo
  simp only at hwp hwi hwl hwc
  refine r_assign rfl rfl (hl_nil (then_n (hc_seq (hc_region (r_move rfl rfl ?_)))))
  refine r_len_sl rfl T.u_ints rfl ?_
  refine r_assign rfl rfl (hl_nil (then_n (hc_seq (hc_seq (hc_region (r_assign rfl rfl (hl_nil (then_n (hc_block ?_)))))))))
  have hcs1 : 1 ≤ cs.length := by omega
  have hcs6 : cs.length ≤ 6 := by omega
  have hwl6 : words.length ≤ 6 := by omega
  refine hc_facts (Fs := ([] : List Hd).map Hd.row) (by intro F hF; simp at hF) ?_
  refine hc_loop (β := Nat × List Hd × OutC × Hp × (Int × Int)) ⟨fun x => x.1 ≤ words.length ∧ x.2.1.length = x.1 ∧ HsMade words cs.length words.length x.2.1 ∧ Grow T.api_Head 4 x.2.2.1.1 x.2.1.length x.2.2.1.2 (rows x.2.1) x.2.2.2.1 ∧ DOK nums x.2.2.2.2, fun x => [(0, .pointer (some ⟨g, 0, none⟩)), (6, .pointer (some ⟨g6, 0, none⟩)), (7, .pointer (some ⟨g7, 0, none⟩)), (10, .slice wA words.length wC), (11, int words.length), (12, int x.1)], fun x => dice g A c nums x.2.2.2.2 :: trB g7 cA cs.length cC x.2.2.1.1 x.2.1.length x.2.2.1.2 :: trB g6 none 0 0 none 0 0 :: x.2.2.2.1, fun x => [Row wA (rows words), Row cA (rows cs), Row A (rows nums), innersF x.2.1 Hd.row]⟩ (fun x => words.length - x.1) (0, [], (none, 0), [], s6) ⟨Nat.zero_le _, rfl, fun i hi => by simp at hi, Grow.nil _ _, hs6⟩ ⟨rfl, rfl, rfl, rfl, rfl, rfl, trivial⟩ (List.Sublist.refl _) ⟨mB, mB, mB, mB, trivial⟩ fun x hx => ?_
  clear hs hs5 hs6 hz5
  obtain ⟨i, hs, ⟨hA, hC⟩, og, s⟩ := x
  obtain ⟨hi, hhl, hH, hG, hD⟩ := hx
  simp only at hi hhl hH hG hD
  refine hc_seq (hc_seq (hc_region (r_move rfl rfl (r_move rfl rfl (r_lss rfl rfl rfl (hl_nil (then_n ?_)))))))
  refine c_dec rfl (fun hb2 => ?_) (fun hb2 => ?_)
  ·have hb2' := hb2; try simp at hb2'
   have hi2 : i < words.length := by omega
   have hwi2 := hwi _ (getD_mem hi2)
   obtain ⟨wm, hwm⟩ := Int.eq_ofNat_of_zero_le hwi2.1
   have hwm16 : wm < 16 := by omega
   have hcn : callingsL.getD wm default = callN words i := by unfold callN; rw [hwm, Int.toNat_natCast]
   refine hc_skip (then_n (hc_seq (hc_block (hc_seq ?_))))
   refine hc_drawW ([dice g A c nums s]) (trB g7 cA cs.length cC hA hs.length hC :: trB g6 none 0 0 none 0 0 :: og) (List.Perm.refl _) 15 [12] mixed (by decide) (by decide) (by decide) rfl rfl rfl ?_
   refine hb_vs ⟨Nat, fun _ => True, fun g => .slice (some ⟨g, 0, none⟩) 16 16, fun g => [Row (some ⟨g, 0, none⟩) (rows callingsL)]⟩ rfl rfl rfl ?_ ?_
   ·intro w1
    refine hl_call F.kit_callings_cb rfl rfl (kit_callings_meets) (List.Perm.refl _) trivial fun gk2 _ => ?_
    refine hl_nil ?_
    exact qv_done gk2 trivial rfl ⟨m0, trivial⟩
   refine hb_ex _ rfl rfl rfl (fun w1 => r_move rfl rfl (hl_nil (qe_done rfl))) ?_
   refine hb_ex _ rfl rfl rfl (fun w1 => r_move rfl rfl (hl_nil (qe_done rfl))) ?_
   refine hb_ex _ rfl rfl rfl (fun w1 => r_elem (α := Int) words i rfl T.u_ints T.sz_int rfl rfl rfl (List.mem_append_right _ mB) rfl hi2 (by decide) (hl_nil (qe_done rfl))) ?_
   refine hb_ex _ rfl rfl rfl (fun w1 => r_load (v := int (words.getD i default)) rfl T.cell_int rfl (cell_row (List.mem_append_right _ mB) (rows_get0 hi2 rfl)) (hl_nil (qe_done rfl))) ?_
   refine hb_vs ⟨Nat, fun _ => True, fun g => .pointer (some ((adr (some ⟨g, 0, none⟩)).add (wm * 1))), fun g => [Row (some ⟨g, 0, none⟩) (rows callingsL)]⟩ rfl rfl rfl ?_ ?_
   ·intro g0 _; intro w1
    refine r_elem (α := Str) callingsL wm rfl T.u_strs T.sz_string rfl rfl hwm mB rfl hwm16 (by decide) ?_
    refine hl_nil ?_
    exact qv_done g0 trivial rfl ⟨mB, trivial⟩
   apply hb_ex _ rfl rfl rfl
   ·intro g5 _; intro w1
    refine r_load (v := str (callN words i)) rfl T.cell_string rfl (cell_row mB (by rw [← hcn]; exact rows_get0 (show wm < 16 from hwm16) rfl)) ?_
    refine hl_nil ?_
    exact qe_done rfl
   refine hb_ex _ rfl rfl rfl (fun w1 => r_move rfl rfl (hl_nil (qe_done rfl))) ?_
   refine hb_ex _ rfl rfl rfl (fun w1 => r_fieldAddr ⟨_, 0, none⟩ rfl rfl T.fa_api_Trades_0 rfl (hl_nil (qe_done rfl))) ?_
   refine hb_ex _ rfl rfl rfl (fun w1 => r_load rfl T.cell_L_api_Class rfl (cell_blk mB rfl) (hl_nil (qe_done rfl))) ?_
   refine hb_ex _ rfl rfl rfl (fun w1 => r_len_sl rfl T.u_L_api_Class rfl (hl_nil (qe_done rfl))) ?_
   refine hb_ex _ rfl rfl rfl (fun w1 => r_sub ((cs.length : Int) - 1) rfl rfl rfl rfl (by unfold I64; omega) (hl_nil (qe_done rfl))) ?_
   refine hb_wr ⟨(Int × Int) × Int, fun x => DOK nums x.1 ∧ ToInv ((cs.length : Int) - 1) x.2, fun x => int x.2, fun _ => [], fun x => [dice g A c nums x.1]⟩ rfl rfl rfl ?_ ?_
   ·intro w1
    refine hl_call F.kit_Dice_To_cb rfl rfl (kit_Dice_To_meets ((cs.length : Int) - 1) hn hD (by omega)) (List.Perm.refl _) ⟨mB, trivial⟩ fun x hx => ?_
    obtain ⟨s7, z7⟩ := x
    obtain ⟨hs7, hz7⟩ := hx
    simp only at hs7
    refine hl_nil ?_
    exact qw_done (s7, z7) ⟨hs7, hz7⟩ (fun _ => rfl) (List.sublist_append_left _ _) trivial
   refine hb_vs ⟨Int, fun z => ToInv ((cs.length : Int) - 1) z, fun z => .agg #[str (callN words i), int z, int (-1), .slice none 0 0], fun _ => []⟩ rfl rfl rfl ?_ ?_
   ·intro x hx; intro w1
    refine r_build _ rfl rfl (fun _ => T.bd_api_Head_0_1_2 ..) ?_
    refine hl_nil ?_
    exact qv_done x.2 hx.2 rfl trivial
   refine hb_ad ⟨Nat, fun _ => True, fun g => .pointer (some ⟨g, 0, none⟩), fun _ => [], fun g => [hdB g [] 0 0 none 0 0]⟩ rfl rfl rfl ?_ ?_
   ·intro w1
    refine r_alloc rfl (fun _ => T.al_api_Head _) fun g13 => ?_
    refine hl_nil ?_
    exact qw_done g13 trivial (fun _ => rfl) (List.Sublist.refl _) trivial
   refine hb_nil ⟨rfl, ?_⟩
   intro _ _ _ _ x12 h12
   refine fun (z : Int) hz => ?_
   intro g13 _
   obtain ⟨s8, _⟩ := x12
   have hs8 : DOK nums s8 := h12.1
   clear h12
   simp only [ToInv] at hz
   have hz2 : 0 ≤ z ∧ z < (cs.length : Int) := by
     refine ⟨hz.1, ?_⟩
     by_cases h1 : 1 ≤ (cs.length : Int) - 1
     · have := hz.2.1 h1; omega
     · have := hz.2.2 (by omega); omega
   refine r_storeS (cs := #[str (callN words i), int z, int (-1), .slice none 0 0]) rfl rfl (.refl _) T.sz_api_Head (by rfl) (by rfl) ?_
   refine hl_nil (then_n (hc_seq ?_))
   refine hc_cut ⟨fun x : (Int × Int) × Bool => DOK nums x.1 ∧ (x.2 = true → 1 < words.length), fun x => [(0, .pointer (some ⟨g, 0, none⟩)), (6, .pointer (some ⟨g6, 0, none⟩)), (7, .pointer (some ⟨g7, 0, none⟩)), (10, .slice wA words.length wC), (11, int words.length), (12, int i), (13, .pointer (some ⟨g13, 0, none⟩)), (80, .bool x.2)], fun x => dice g A c nums x.1 :: hdB g13 (callN words i) z (-1) none 0 0 :: trB g7 cA cs.length cC hA hs.length hC :: trB g6 none 0 0 none 0 0 :: og, fun _ => [Row wA (rows words), Row cA (rows cs), Row A (rows nums), innersF hs Hd.row]⟩ ?_ ?_
   ·skip
    refine hc_region (r_move rfl rfl (r_gtr rfl rfl rfl (r_move rfl rfl ?_)))
    refine g_split rfl rfl ?_ ?_
    ·intro hg1; have hg1' := hg1; try simp at hg1'
     refine g_yes rfl rfl hg1 (r_move rfl rfl (g_yes rfl rfl hg1 ?_))
     refine hl_call F.kit_Dice_Once_cb rfl rfl (kit_Dice_Once_meets 3 hn hs8 (by omega)) (List.Perm.swap _ _ _) ⟨mB, trivial⟩ fun x hx => ?_
     obtain ⟨s9, b9⟩ := x
     obtain ⟨hs9, hb9⟩ := hx
     simp only at hs9
     refine p_t rfl rfl (bt1 hg1) rfl ?_
     refine hl_nil ?_
     exact cut_n _ (s9, b9) ⟨hs9, fun _ => by simp at hg1; omega⟩ ⟨rfl, rfl, rfl, rfl, rfl, rfl, rfl, rfl, trivial⟩ (List.Sublist.refl _) ⟨mB, mB, mB, mB, trivial⟩
    ·intro hg1; have hg1' := hg1; try simp at hg1'
     refine g_no rfl rfl rfl rfl rfl hg1 (g_no rfl rfl rfl rfl rfl hg1 ?_)
     refine p_f rfl rfl (bf2 hg1) rfl ?_
     refine hl_nil ?_
     refine hq_perm (List.Perm.swap _ _ _) ?_
     exact cut_n _ (s8, false) ⟨hs8, fun h => by cases h⟩ ⟨rfl, rfl, rfl, rfl, rfl, rfl, rfl, rfl, trivial⟩ (List.Sublist.refl _) ⟨mB, mB, mB, mB, trivial⟩
   ·intro x hx
    obtain ⟨s9, b9⟩ := x
    obtain ⟨hs9, hb9⟩ := hx
    simp only at hs9 hb9
    refine hc_cond rfl (fun hb3 => ?_) (fun hb3 => ?_)
    ·have hb3' := hb3; try simp at hb3'
     have h1w : 1 < words.length := hb9 hb3
     refine hc_seq ?_
     refine hc_drawW ([dice g A c nums s9, hdB g13 (callN words i) z (-1) none 0 0]) (trB g7 cA cs.length cC hA hs.length hC :: trB g6 none 0 0 none 0 0 :: og) (List.Perm.refl _) 11 [10, 5] mixed (by decide) (by decide) (by decide) rfl rfl rfl ?_
     refine hb_ex _ rfl rfl rfl (fun w1 => r_move rfl rfl (hl_nil (qe_done rfl))) ?_
     refine hb_ex _ rfl rfl rfl (fun w1 => r_add _ rfl rfl rfl rfl (by unfold I64; omega) (hl_nil (qe_done rfl))) ?_
     refine hb_ex _ rfl rfl rfl (fun w1 => r_move rfl rfl (hl_nil (qe_done rfl))) ?_
     refine hb_ex _ rfl rfl rfl (fun w1 => r_move rfl rfl (hl_nil (qe_done rfl))) ?_
     refine hb_ex _ rfl rfl rfl (fun w1 => r_sub ((words.length : Int) - 2) rfl rfl rfl rfl (by unfold I64; omega) (hl_nil (qe_done rfl))) ?_
     refine hb_wr ⟨(Int × Int) × Int, fun x => DOK nums x.1 ∧ ToInv ((words.length : Int) - 2) x.2, fun x => int x.2, fun _ => [], fun x => [dice g A c nums x.1, hdB g13 (callN words i) z (-1) none 0 0]⟩ rfl rfl rfl ?_ ?_
     ·intro w1
      refine hl_call F.kit_Dice_To_cb rfl rfl (kit_Dice_To_meets ((words.length : Int) - 2) hn hs9 (by omega)) (List.Perm.refl _) ⟨mB, trivial⟩ fun x hx => ?_
      obtain ⟨s10, v10⟩ := x
      obtain ⟨hs10, hv10⟩ := hx
      simp only at hs10
      refine hl_nil ?_
      exact qw_done (s10, v10) ⟨hs10, hv10⟩ (fun _ => rfl) (List.Sublist.refl _) trivial
     refine hb_vs ⟨Int, fun v => ToInv ((words.length : Int) - 2) v, fun v => int ((i : Int) + 1 + v), fun _ => []⟩ rfl rfl rfl ?_ ?_
     ·intro x hx; intro w1
      refine r_add ((i : Int) + 1 + x.2) rfl rfl rfl rfl (by have h1 := hx.2; simp only [ToInv] at h1; have h2 : x.2 ≤ 6 := (by by_cases h3 : 1 ≤ (words.length : Int) - 2; have := h1.2.1 h3; omega; have := h1.2.2 (by omega); omega); unfold I64; omega) ?_
      refine hl_nil ?_
      exact qv_done x.2 hx.2 rfl trivial
     refine hb_ex _ rfl rfl rfl (fun w1 => r_move rfl rfl (hl_nil (qe_done rfl))) ?_
     refine hb_vs ⟨Int, fun v => ToInv ((words.length : Int) - 2) v, fun v => int (((i : Int) + 1 + v).tmod words.length), fun _ => []⟩ rfl rfl rfl ?_ ?_
     ·intro v hv; intro w1
      refine r_rem rfl rfl rfl (by omega) ?_
      refine hl_nil ?_
      exact qv_done v hv rfl trivial
     refine hb_ex _ rfl rfl rfl (fun w1 => r_fieldAddr ⟨_, 1, none⟩ rfl rfl T.fa_api_Head_1 rfl (hl_nil (qe_done rfl))) ?_
     refine hb_st ⟨Int × Int, fun s => DOK nums s, fun _ => undef, fun _ => [], fun s => [hdB g13 (callN words i) (-1) (-1) none 0 0, dice g A c nums s]⟩ rfl rfl ?_ ?_
     ·intro x hx; intro w1
      refine r_store rfl rfl (.swap _ _ _) T.sz_int (by rfl) (by rfl) ?_
      refine hl_nil ?_
      exact qw_done x.1 hx.1 (fun h => by cases h) (List.Sublist.refl _) trivial
     refine hb_nil ⟨rfl, ?_⟩
     intro _ _ _ _
     refine fun (v : Int) hv => ?_
     intro s11 hs11
     have hs11 : DOK nums s11 := hs11
     simp only [ToInv] at hv
     have hv2 : 0 ≤ v ∧ v ≤ (words.length : Int) - 2 := by
       refine ⟨hv.1, ?_⟩
       by_cases h1 : 1 ≤ (words.length : Int) - 2
       · exact hv.2.1 h1
       · have := hv.2.2 (by omega); omega
     have hps := past hi2 hv2.1 hv2.2
     refine r_fieldAddr ⟨_, 2, none⟩ rfl rfl T.fa_api_Head_2 rfl ?_
     refine r_store rfl rfl (.refl _) T.sz_int (by rfl) (by rfl) ?_
     refine hl_nil (then_n (hc_seq (hc_region ?_)))
     refine r_fieldAddr ⟨_, 1, none⟩ rfl rfl T.fa_api_Trades_1 rfl ?_
     refine r_load rfl T.cell_L_api_Head rfl (cell_own mB rfl) ?_
     refine r_loadA rfl T.row_api_Head T.sz_api_Head rfl mB (by rfl) ?_
     refine r_buildSlice _ rfl rfl (fun _ => T.bs_L_api_Head_1 ..) fun gS => ?_
     refine hl_letgo (rows [(((callN words i), -1, (((i : Int) + 1 + v).tmod words.length), ⟨none, 0, []⟩) : Hd)]) (List.prefix_refl _) ?_
     refine hl_nilrow (α := Int) ?_
     refine r_append (hp' := [hdB g13 (callN words i) (-1) (((i : Int) + 1 + v).tmod words.length) none 0 0, dice g A c nums s11, trB g7 cA cs.length cC hA hs.length hC, trB g6 none 0 0 none 0 0]) (hs.length + 1) (rows (hs ++ [(((callN words i), -1, (((i : Int) + 1 + v).tmod words.length), ⟨none, 0, []⟩) : Hd)])) T.el_L_api_Head rfl rfl rfl hG (show List.Perm (hdB g13 (callN words i) (-1) (((i : Int) + 1 + v).tmod words.length) none 0 0 :: dice g A c nums s11 :: trB g7 cA cs.length cC hA hs.length hC :: trB g6 none 0 0 none 0 0 :: og) (og ++ [hdB g13 (callN words i) (-1) (((i : Int) + 1 + v).tmod words.length) none 0 0, dice g A c nums s11, trB g7 cA cs.length cC hA hs.length hC, trB g6 none 0 0 none 0 0]) from (perm_of fun p => by simp only [List.countP_append, List.countP_cons, List.countP_nil]; omega)) (Src.row (news := rows [(((callN words i), -1, (((i : Int) + 1 + v).tmod words.length), ⟨none, 0, []⟩) : Hd)]) (m := 1) mB rfl (rows_one _) (by decide)) rfl (rows_append _ _).symm (by unfold maxLen; omega) (by omega) fun A' c' og' hG' => ?_
     refine r_fieldAddr ⟨_, 1, none⟩ rfl rfl T.fa_api_Trades_1 rfl ?_
     refine r_store (hp' := og' ++ [hdB g13 (callN words i) (-1) (((i : Int) + 1 + v).tmod words.length) none 0 0, dice g A c nums s11, trB g6 none 0 0 none 0 0]) rfl rfl (show List.Perm (og' ++ [hdB g13 (callN words i) (-1) (((i : Int) + 1 + v).tmod words.length) none 0 0, dice g A c nums s11, trB g7 cA cs.length cC hA hs.length hC, trB g6 none 0 0 none 0 0]) (trB g7 cA cs.length cC hA hs.length hC :: (og' ++ [hdB g13 (callN words i) (-1) (((i : Int) + 1 + v).tmod words.length) none 0 0, dice g A c nums s11, trB g6 none 0 0 none 0 0])) from (perm_of fun p => by simp only [List.countP_append, List.countP_cons, List.countP_nil]; omega)) T.sz_L_api_Head (by rfl) (by rfl) ?_
     refine hl_facts (innerF_snoc (ps := hs) (f := Hd.row) (p := (((callN words i), -1, (((i : Int) + 1 + v).tmod words.length), ⟨none, 0, []⟩) : Hd)) (by repeat constructor) (by repeat constructor)) ?_
     refine hl_nil (then_n (hc_exit (then_exit (inb_hit (then_n (hc_region (r_move rfl rfl ?_)))))))
     refine r_add _ rfl rfl rfl rfl (by unfold I64; omega) ?_
     refine r_assign rfl rfl (hl_nil ?_)
     have hl1 : (hs ++ [(((callN words i), -1, (((i : Int) + 1 + v).tmod words.length), ⟨none, 0, []⟩) : Hd)]).length = hs.length + 1 := by simp
     refine hq_perm (show List.Perm (trB g7 cA cs.length cC A' (hs.length + 1) c' :: (og' ++ [hdB g13 (callN words i) (-1) (((i : Int) + 1 + v).tmod words.length) none 0 0, dice g A c nums s11, trB g6 none 0 0 none 0 0])) (hdB g13 (callN words i) (-1) (((i : Int) + 1 + v).tmod words.length) none 0 0 :: dice g A c nums s11 :: trB g7 cA cs.length cC A' (hs.length + 1) c' :: trB g6 none 0 0 none 0 0 :: og') from (perm_of fun p => by simp only [List.countP_append, List.countP_cons, List.countP_nil]; omega)) ?_
     exact again _ (i + 1, hs ++ [(((callN words i), -1, (((i : Int) + 1 + v).tmod words.length), ⟨none, 0, []⟩) : Hd)], (A', c'), og', s11) ⟨by show i + 1 ≤ words.length; omega, by show (hs ++ [_]).length = i + 1; rw [hl1]; omega, hH.snoc (by rw [hhl]) (by rw [hhl]; exact ⟨fun k hk => by simp at hk, .inl ⟨hps.1, hps.2.1, hps.2.2, rfl, rfl⟩⟩), by show Grow _ _ _ (hs ++ [_]).length _ _ _; rw [hl1]; exact hG', by assumption⟩ (by show words.length - (i + 1) < words.length - i; omega) ⟨rfl, rfl, rfl, rfl, rfl, rfl, trivial⟩ (by show List.Sublist (_ :: trB g7 _ _ _ _ (hs ++ [_]).length _ :: _) _; rw [hl1]; exact List.sublist_cons_self _ _) ⟨mB, mB, mB, mB, trivial⟩
    ·have hb3' := hb3; try simp at hb3'
     refine hc_skip (then_n (hc_seq (hc_seq (hc_region (r_assign rfl rfl (hl_nil (then_n (hc_block ?_))))))))
     refine hc_loop (β := Nat × List Int × OutC × Hp × (Int × Int)) ⟨fun x => x.1 ≤ words.length ∧ AscB i x.1 x.2.1 ∧ Grow T.int 1 x.2.2.1.1 x.2.1.length x.2.2.1.2 (rows x.2.1) x.2.2.2.1 ∧ DOK nums x.2.2.2.2, fun x => [(0, .pointer (some ⟨g, 0, none⟩)), (6, .pointer (some ⟨g6, 0, none⟩)), (7, .pointer (some ⟨g7, 0, none⟩)), (10, .slice wA words.length wC), (11, int words.length), (12, int i), (13, .pointer (some ⟨g13, 0, none⟩)), (14, int x.1)], fun x => dice g A c nums x.2.2.2.2 :: hdB g13 (callN words i) z (-1) x.2.2.1.1 x.2.1.length x.2.2.1.2 :: trB g7 cA cs.length cC hA hs.length hC :: trB g6 none 0 0 none 0 0 :: (x.2.2.2.1 ++ og), fun _ => [Row wA (rows words), Row cA (rows cs), Row A (rows nums), innersF hs Hd.row]⟩ (fun x => words.length - x.1) (0, [], (none, 0), [], s9) ⟨Nat.zero_le _, ⟨List.Pairwise.nil, fun x hx => by cases hx⟩, Grow.nil _ _, hs9⟩ ⟨rfl, rfl, rfl, rfl, rfl, rfl, rfl, rfl, trivial⟩ (List.Sublist.refl _) ⟨mB, mB, mB, mB, trivial⟩ fun x hx => ?_
     clear hs9
     obtain ⟨k, al, ⟨aA, aC⟩, og3, s9⟩ := x
     obtain ⟨hk, hB, hG3, hs9⟩ := hx
     simp only at hk hB hG3 hs9
     refine hc_seq (hc_seq (hc_region (r_move rfl rfl (r_move rfl rfl (r_lss rfl rfl rfl (hl_nil (then_n ?_)))))))
     refine c_dec rfl (fun hb4 => ?_) (fun hb4 => ?_)
     ·have hb4' := hb4; try simp at hb4'
      have hk2 : k < words.length := by omega
      have hal := hB.len
      refine hc_skip (then_n (hc_seq (hc_block ?_)))
      refine hc_cut ⟨fun x : (Int × Int) × Bool => DOK nums x.1 ∧ (x.2 = true → ¬ k = i), fun x => [(0, .pointer (some ⟨g, 0, none⟩)), (6, .pointer (some ⟨g6, 0, none⟩)), (7, .pointer (some ⟨g7, 0, none⟩)), (10, .slice wA words.length wC), (11, int words.length), (12, int i), (13, .pointer (some ⟨g13, 0, none⟩)), (14, int k), (109, .bool x.2)], fun x => dice g A c nums x.1 :: hdB g13 (callN words i) z (-1) aA al.length aC :: trB g7 cA cs.length cC hA hs.length hC :: trB g6 none 0 0 none 0 0 :: (og3 ++ og), fun _ => [Row wA (rows words), Row cA (rows cs), Row A (rows nums), innersF hs Hd.row]⟩ ?_ ?_
      ·skip
       refine hc_region (r_move rfl rfl (r_move rfl rfl (r_neq rfl rfl rfl (r_move rfl rfl ?_))))
       refine g_split rfl rfl ?_ ?_
       ·intro hg2; have hg2' := hg2; try simp at hg2'
        refine g_yes rfl rfl hg2 (r_move rfl rfl (g_yes rfl rfl hg2 ?_))
        refine hl_call F.kit_Dice_Once_cb rfl rfl (kit_Dice_Once_meets 4 hn hs9 (by omega)) (List.Perm.refl _) ⟨mB, trivial⟩ fun x hx => ?_
        obtain ⟨s12, b12⟩ := x
        obtain ⟨hs12, hb12⟩ := hx
        simp only at hs12
        refine p_t rfl rfl (bt1 hg2) rfl ?_
        refine hl_nil ?_
        exact cut_n _ (s12, b12) ⟨hs12, fun _ => by simp at hg2; omega⟩ ⟨rfl, rfl, rfl, rfl, rfl, rfl, rfl, rfl, rfl, trivial⟩ (List.Sublist.refl _) ⟨mB, mB, mB, mB, trivial⟩
       ·intro hg2; have hg2' := hg2; try simp at hg2'
        refine g_no rfl rfl rfl rfl rfl hg2 (g_no rfl rfl rfl rfl rfl hg2 ?_)
        refine p_f rfl rfl (bf2 hg2) rfl ?_
        refine hl_nil ?_
        exact cut_n _ (s9, false) ⟨hs9, fun h => by cases h⟩ ⟨rfl, rfl, rfl, rfl, rfl, rfl, rfl, rfl, rfl, trivial⟩ (List.Sublist.refl _) ⟨mB, mB, mB, mB, trivial⟩
      ·intro x hx
       obtain ⟨s13, b13⟩ := x
       obtain ⟨hs13, hb13⟩ := hx
       simp only at hs13 hb13
       refine hc_cond rfl (fun hb5 => ?_) (fun hb5 => ?_)
       ·have hb5' := hb5; try simp at hb5'
        refine hc_region ?_
        refine r_fieldAddr ⟨_, 3, none⟩ rfl rfl T.fa_api_Head_3 rfl ?_
        refine r_load rfl T.cell_ints rfl (cell_own mB rfl) ?_
        refine r_move rfl rfl ?_
        refine r_buildSlice _ rfl rfl (fun _ => T.bs_ints_1 ..) fun gS => ?_
        refine hl_letgo (rows [(k : Int)]) (List.prefix_refl _) ?_
        refine r_append (hp' := dice g A c nums s13 :: hdB g13 (callN words i) z (-1) aA al.length aC :: trB g7 cA cs.length cC hA hs.length hC :: trB g6 none 0 0 none 0 0 :: og) (al.length + 1) (rows (al ++ [(k : Int)])) T.el_ints rfl rfl rfl hG3 (show List.Perm (dice g A c nums s13 :: hdB g13 (callN words i) z (-1) aA al.length aC :: trB g7 cA cs.length cC hA hs.length hC :: trB g6 none 0 0 none 0 0 :: (og3 ++ og)) (og3 ++ (dice g A c nums s13 :: hdB g13 (callN words i) z (-1) aA al.length aC :: trB g7 cA cs.length cC hA hs.length hC :: trB g6 none 0 0 none 0 0 :: og)) from (perm_of fun p => by simp only [List.countP_append, List.countP_cons, List.countP_nil]; omega)) (Src.row (news := rows [(k : Int)]) (m := 1) m0 rfl (rows_one _) (by decide)) rfl (rows_append _ _).symm (by unfold maxLen; omega) (by omega) fun A' c' og' hG' => ?_
        refine r_fieldAddr ⟨_, 3, none⟩ rfl rfl T.fa_api_Head_3 rfl ?_
        refine r_store (hp' := og' ++ (dice g A c nums s13 :: trB g7 cA cs.length cC hA hs.length hC :: trB g6 none 0 0 none 0 0 :: og)) rfl rfl (show List.Perm (og' ++ (dice g A c nums s13 :: hdB g13 (callN words i) z (-1) aA al.length aC :: trB g7 cA cs.length cC hA hs.length hC :: trB g6 none 0 0 none 0 0 :: og)) (hdB g13 (callN words i) z (-1) aA al.length aC :: (og' ++ (dice g A c nums s13 :: trB g7 cA cs.length cC hA hs.length hC :: trB g6 none 0 0 none 0 0 :: og))) from (perm_of fun p => by simp only [List.countP_append, List.countP_cons, List.countP_nil]; omega)) T.sz_ints (by rfl) (by rfl) ?_
        refine hl_nil (inb_n (then_n (hc_region (r_move rfl rfl ?_))))
        refine r_add _ rfl rfl rfl rfl (by unfold I64; omega) ?_
        refine r_assign rfl rfl (hl_nil ?_)
        have hl1 : (al ++ [(k : Int)]).length = al.length + 1 := by simp
        refine hq_perm (show List.Perm (hdB g13 (callN words i) z (-1) A' (al.length + 1) c' :: (og' ++ (dice g A c nums s13 :: trB g7 cA cs.length cC hA hs.length hC :: trB g6 none 0 0 none 0 0 :: og))) (dice g A c nums s13 :: hdB g13 (callN words i) z (-1) A' (al.length + 1) c' :: trB g7 cA cs.length cC hA hs.length hC :: trB g6 none 0 0 none 0 0 :: (og' ++ og)) from (perm_of fun p => by simp only [List.countP_append, List.countP_cons, List.countP_nil]; omega)) ?_
        exact again _ (k + 1, al ++ [(k : Int)], (A', c'), og', s13) ⟨by show k + 1 ≤ words.length; omega, hB.snoc (hb13 hb5), by show Grow _ _ _ (al ++ [_]).length _ _ _; rw [hl1]; exact hG', hs13⟩ (by show words.length - (k + 1) < words.length - k; omega) ⟨rfl, rfl, rfl, rfl, rfl, rfl, rfl, rfl, trivial⟩ (by show List.Sublist (_ :: hdB g13 _ _ _ _ (al ++ [_]).length _ :: _) _; rw [hl1]; exact List.Sublist.refl _) ⟨mB, mB, mB, mB, trivial⟩
       ·have hb5' := hb5; try simp at hb5'
        refine hc_skip (inb_n (then_n (hc_region (r_move rfl rfl ?_))))
        refine r_add _ rfl rfl rfl rfl (by unfold I64; omega) ?_
        refine r_assign rfl rfl (hl_nil ?_)
        exact again _ (k + 1, al, (aA, aC), og3, s13) ⟨by show k + 1 ≤ words.length; omega, hB.step, hG3, hs13⟩ (by show words.length - (k + 1) < words.length - k; omega) ⟨rfl, rfl, rfl, rfl, rfl, rfl, rfl, rfl, trivial⟩ (List.Sublist.refl _) ⟨mB, mB, mB, mB, trivial⟩
     ·have hb4' := hb4; try simp at hb4'
      have hk2 : k = words.length := by omega
      subst hk2
      have hal := hB.len
      refine hc_exit (then_exit (then_exit (inb_hit (then_n ?_))))
      refine hc_cut ⟨fun x : (Int × Int) × Int => DOK nums x.1 ∧ ((0 ≤ x.2 ∧ x.2 < (cs.length : Int)) ∨ (x.2 = -1 ∧ al ≠ [])), fun x => [(0, .pointer (some ⟨g, 0, none⟩)), (6, .pointer (some ⟨g6, 0, none⟩)), (7, .pointer (some ⟨g7, 0, none⟩)), (10, .slice wA words.length wC), (11, int words.length), (12, int i), (13, .pointer (some ⟨g13, 0, none⟩))], fun x => dice g A c nums x.1 :: hdB g13 (callN words i) x.2 (-1) aA al.length aC :: trB g7 cA cs.length cC hA hs.length hC :: trB g6 none 0 0 none 0 0 :: (og3 ++ og), fun _ => [Row wA (rows words), Row cA (rows cs), Row A (rows nums), innersF hs Hd.row]⟩ ?_ ?_
      ·skip
       refine hc_cut ⟨fun x : (Int × Int) × Bool => DOK nums x.1 ∧ (x.2 = true → al ≠ []), fun x => [(0, .pointer (some ⟨g, 0, none⟩)), (6, .pointer (some ⟨g6, 0, none⟩)), (7, .pointer (some ⟨g7, 0, none⟩)), (10, .slice wA words.length wC), (11, int words.length), (12, int i), (13, .pointer (some ⟨g13, 0, none⟩)), (123, .bool x.2)], fun x => dice g A c nums x.1 :: hdB g13 (callN words i) z (-1) aA al.length aC :: trB g7 cA cs.length cC hA hs.length hC :: trB g6 none 0 0 none 0 0 :: (og3 ++ og), fun _ => [Row wA (rows words), Row cA (rows cs), Row A (rows nums), innersF hs Hd.row]⟩ ?_ ?_
       ·skip
        refine hc_region ?_
        refine r_fieldAddr ⟨_, 3, none⟩ rfl rfl T.fa_api_Head_3 rfl ?_
        refine r_load rfl T.cell_ints rfl (cell_own mB rfl) ?_
        refine r_len_sl rfl T.u_ints rfl ?_
        refine r_gtr rfl rfl rfl (r_move rfl rfl ?_)
        refine g_split rfl rfl ?_ ?_
        ·intro hg3; have hg3' := hg3; try simp at hg3'
         refine g_yes rfl rfl hg3 (r_move rfl rfl (g_yes rfl rfl hg3 ?_))
         refine hl_call F.kit_Dice_Once_cb rfl rfl (kit_Dice_Once_meets 4 hn hs9 (by omega)) (List.Perm.refl _) ⟨mB, trivial⟩ fun x hx => ?_
         obtain ⟨s14, b14⟩ := x
         obtain ⟨hs14, hb14⟩ := hx
         simp only at hs14
         refine p_t rfl rfl (bt1 hg3) rfl ?_
         refine hl_nil ?_
         exact cut_n _ (s14, b14) ⟨hs14, fun _ e => by subst e; simp at hg3⟩ ⟨rfl, rfl, rfl, rfl, rfl, rfl, rfl, rfl, trivial⟩ (List.Sublist.refl _) ⟨mB, mB, mB, mB, trivial⟩
        ·intro hg3; have hg3' := hg3; try simp at hg3'
         refine g_no rfl rfl rfl rfl rfl hg3 (g_no rfl rfl rfl rfl rfl hg3 ?_)
         refine p_f rfl rfl (bf2 hg3) rfl ?_
         refine hl_nil ?_
         exact cut_n _ (s9, false) ⟨hs9, fun h => by cases h⟩ ⟨rfl, rfl, rfl, rfl, rfl, rfl, rfl, rfl, trivial⟩ (List.Sublist.refl _) ⟨mB, mB, mB, mB, trivial⟩
       ·intro x hx
        obtain ⟨s15, b15⟩ := x
        obtain ⟨hs15, hb15⟩ := hx
        simp only at hs15 hb15
        refine hc_cond rfl (fun hb6 => ?_) (fun hb6 => ?_)
        ·have hb6' := hb6; try simp at hb6'
         refine hc_region ?_
         refine r_fieldAddr ⟨_, 1, none⟩ rfl rfl T.fa_api_Head_1 rfl ?_
         refine r_store rfl rfl (.swap _ _ _) T.sz_int (by rfl) (by rfl) ?_
         refine hl_nil ?_
         refine hq_perm (List.Perm.swap _ _ _) ?_
         exact cut_n _ (s15, -1) ⟨hs15, .inr ⟨rfl, hb15 hb6⟩⟩ ⟨rfl, rfl, rfl, rfl, rfl, rfl, rfl, trivial⟩ (List.Sublist.refl _) ⟨mB, mB, mB, mB, trivial⟩
        ·have hb6' := hb6; try simp at hb6'
         refine hc_skip ?_
         exact cut_n _ (s15, z) ⟨hs15, .inl hz2⟩ ⟨rfl, rfl, rfl, rfl, rfl, rfl, rfl, trivial⟩ (List.Sublist.refl _) ⟨mB, mB, mB, mB, trivial⟩
      ·intro x hx
       obtain ⟨s16, cl⟩ := x
       obtain ⟨hs16, hcl⟩ := hx
       simp only at hs16 hcl
       refine hc_perm (show List.Perm (dice g A c nums s16 :: hdB g13 (callN words i) cl (-1) aA al.length aC :: trB g7 cA cs.length cC hA hs.length hC :: trB g6 none 0 0 none 0 0 :: (og3 ++ og)) (og3 ++ (hdB g13 (callN words i) cl (-1) aA al.length aC :: dice g A c nums s16 :: trB g7 cA cs.length cC hA hs.length hC :: trB g6 none 0 0 none 0 0 :: og)) from (perm_of fun p => by simp only [List.countP_append, List.countP_cons, List.countP_nil]; omega)) ?_
       refine hc_grown hG3 (hc_region ?_)
       refine r_fieldAddr ⟨_, 1, none⟩ rfl rfl T.fa_api_Trades_1 rfl ?_
       refine r_load rfl T.cell_L_api_Head rfl (cell_own mB rfl) ?_
       refine r_loadA rfl T.row_api_Head T.sz_api_Head rfl mB (by rfl) ?_
       refine r_buildSlice _ rfl rfl (fun _ => T.bs_L_api_Head_1 ..) fun gS => ?_
       refine hl_letgo (rows [(((callN words i), cl, -1, ⟨aA, aC, al⟩) : Hd)]) (List.prefix_refl _) ?_
       refine r_append (hp' := [hdB g13 (callN words i) cl (-1) aA al.length aC, dice g A c nums s16, trB g7 cA cs.length cC hA hs.length hC, trB g6 none 0 0 none 0 0]) (hs.length + 1) (rows (hs ++ [(((callN words i), cl, -1, ⟨aA, aC, al⟩) : Hd)])) T.el_L_api_Head rfl rfl rfl hG (show List.Perm (hdB g13 (callN words i) cl (-1) aA al.length aC :: dice g A c nums s16 :: trB g7 cA cs.length cC hA hs.length hC :: trB g6 none 0 0 none 0 0 :: og) (og ++ [hdB g13 (callN words i) cl (-1) aA al.length aC, dice g A c nums s16, trB g7 cA cs.length cC hA hs.length hC, trB g6 none 0 0 none 0 0]) from (perm_of fun p => by simp only [List.countP_append, List.countP_cons, List.countP_nil]; omega)) (Src.row (news := rows [(((callN words i), cl, -1, ⟨aA, aC, al⟩) : Hd)]) (m := 1) m0 rfl (rows_one _) (by decide)) rfl (rows_append _ _).symm (by unfold maxLen; omega) (by omega) fun A' c' og' hG' => ?_
       refine r_fieldAddr ⟨_, 1, none⟩ rfl rfl T.fa_api_Trades_1 rfl ?_
       refine r_store (hp' := og' ++ [hdB g13 (callN words i) cl (-1) aA al.length aC, dice g A c nums s16, trB g6 none 0 0 none 0 0]) rfl rfl (show List.Perm (og' ++ [hdB g13 (callN words i) cl (-1) aA al.length aC, dice g A c nums s16, trB g7 cA cs.length cC hA hs.length hC, trB g6 none 0 0 none 0 0]) (trB g7 cA cs.length cC hA hs.length hC :: (og' ++ [hdB g13 (callN words i) cl (-1) aA al.length aC, dice g A c nums s16, trB g6 none 0 0 none 0 0])) from (perm_of fun p => by simp only [List.countP_append, List.countP_cons, List.countP_nil]; omega)) T.sz_L_api_Head (by rfl) (by rfl) ?_
       refine hl_facts (innerF_snoc (ps := hs) (f := Hd.row) (p := (((callN words i), cl, -1, ⟨aA, aC, al⟩) : Hd)) (by repeat constructor) (by repeat constructor)) ?_
       refine hl_nil (inb_n (then_n (hc_region (r_move rfl rfl ?_))))
       refine r_add _ rfl rfl rfl rfl (by unfold I64; omega) ?_
       refine r_assign rfl rfl (hl_nil ?_)
       have hl1 : (hs ++ [(((callN words i), cl, -1, ⟨aA, aC, al⟩) : Hd)]).length = hs.length + 1 := by simp
       refine hq_perm (show List.Perm (trB g7 cA cs.length cC A' (hs.length + 1) c' :: (og' ++ [hdB g13 (callN words i) cl (-1) aA al.length aC, dice g A c nums s16, trB g6 none 0 0 none 0 0])) (hdB g13 (callN words i) cl (-1) aA al.length aC :: dice g A c nums s16 :: trB g7 cA cs.length cC A' (hs.length + 1) c' :: trB g6 none 0 0 none 0 0 :: og') from (perm_of fun p => by simp only [List.countP_append, List.countP_cons, List.countP_nil]; omega)) ?_
       exact again _ (i + 1, hs ++ [(((callN words i), cl, -1, ⟨aA, aC, al⟩) : Hd)], (A', c'), og', s16) ⟨by show i + 1 ≤ words.length; omega, by show (hs ++ [_]).length = i + 1; rw [hl1]; omega, hH.snoc (by rw [hhl]) (by rw [hhl]; exact ⟨hB.err, hcl.elim (fun h => .inr (.inl ⟨rfl, h.1, h.2⟩)) (fun h => .inr (.inr ⟨rfl, h.1, h.2⟩))⟩), by show Grow _ _ _ (hs ++ [_]).length _ _ _; rw [hl1]; exact hG', by assumption⟩ (by show words.length - (i + 1) < words.length - i; omega) ⟨rfl, rfl, rfl, rfl, rfl, rfl, trivial⟩ (by show List.Sublist (_ :: trB g7 _ _ _ _ (hs ++ [_]).length _ :: _) _; rw [hl1]; exact List.sublist_cons_self _ _) ⟨mB, mB, mB, mB, trivial⟩
  ·have hb2' := hb2; try simp at hb2'
   have hi2 : i = words.length := by omega
   subst hi2
   refine hc_exit (then_exit (then_exit (inb_hit (then_n (hc_seq ?_)))))
   refine hc_perm (show List.Perm (dice g A c nums s :: trB g7 cA cs.length cC hA hs.length hC :: trB g6 none 0 0 none 0 0 :: og) (og ++ [trB g7 cA cs.length cC hA hs.length hC, trB g6 none 0 0 none 0 0, dice g A c nums s]) from (perm_of fun p => by simp only [List.countP_append, List.countP_cons, List.countP_nil]; omega)) ?_
   have hHle := hG.le
   refine hc_grown hG ?_
   refine hc_rowsF (A := hA) (ps := hs) (f := Hd.row) mB mB ?_
   refine hc_region ?_
   refine r_loadA rfl T.row_api_Trades T.sz_api_Trades rfl mB (by rfl) ?_
   refine r_storeS (cs := #[.slice cA cs.length cC, .slice hA hs.length hC]) rfl rfl (.swap _ _ _) T.sz_api_Trades (by rfl) (by rfl) ?_
   refine hl_nil (then_n (hc_ret ?_))
   refine ret_row (s, cs, hs, (cA, cC), (hA, hC)) rfl rfl T.row_api_Trades T.sz_api_Trades rfl m0 rfl rfl ⟨hD, ⟨made_ok hP hC1 hcs6 hwp hwi hhl hwl6 hH, hcs1, by show cs.length ≤ m1; omega, by show hs.length ≤ m2; omega, hCle, hHle, hs_ha hwl6 hH⟩⟩ (List.Sublist.cons _ (List.Sublist.cons _ (List.Sublist.refl _))) ⟨mB, mB, trivial⟩
end Go.Proofs.Ytdlbbfcfahahdaa
end
section
namespace Go.Proofs.Ytdlbbfcfahahdaa
open Go Go.W
set_option maxRecDepth 20000
attribute [local irreducible] HL HC HQ HB Row Rows2 Blk Facts
theorem dok0 (nums : List Int) : DOK nums (0, 11400714819323198485) := ⟨by decide, by show (0 : Int) ≤ nums.length; omega, by decide, by decide⟩
end Go.Proofs.Ytdlbbfcfahahdaa
end
section
namespace Go.Proofs.Ytdlbbfcfahahdaa
open Go Go.W
set_option maxRecDepth 20000
attribute [local irreducible] HL HC HQ HB Row Rows2 Blk Facts
theorem ask_one {t : Tr} {h : Int} (h0 : checkT t = 0) (h1 : 0 ≤ h ∧ h ≤ (t.hs.length : Int) - 1) : askE t [h] = 0 := by
  unfold askE
  rw [if_neg (by rw [Classical.not_not]; exact h0)]
  simp [h1]
end Go.Proofs.Ytdlbbfcfahahdaa
end
section
namespace Go.W
open Go Go.RowKit Go.Conc
section
/-! ### The words of a walk that communicates: the same as of any other -/
def kw (c : Cx) (x : Code) (Q : Exit → Act → World → Prop) : Act → World → Prop := cw c x Q
def KC (c : Cx) (x : Code) (Q : Exit → Act → World → Prop) (fr : Fr) (hp : Hp) (L : List Fact) : Prop := HC c x Q fr hp L
def KL (c : Cx) (ops : Array Oper) (Q : Exit → Act → World → Prop) (l : List Nat) (fr : Fr) (hp : Hp) (L : List Fact) : Prop := ∀ a w, Ok c a fr → WI c.b w hp L → wpI c.P ops Q l a w
variable {c : Cx} {Q : Exit → Act → World → Prop} {fr : Fr} {hp : Hp} {L : List Fact} {ops : Array Oper}
theorem kc_seq {x y : Code} (h : KC c x (Exit.then (kw c y Q) Q) fr hp L) : KC c (.seq x y) Q fr hp L := hc_seq h
theorem kthen_n {y : Code} (h : KC c y Q fr hp L) : HQ c (Exit.then (kw c y Q) Q) .normal fr hp L := fun a w ha hw => h a w ha hw
theorem kc_region {P : Program} {n : Nat} {b : Bx} {D : List Deferred} {id : Nat} {l : List Oper} (h : HL ⟨P, n, b, D, none⟩ l.toArray Q l fr hp L) : KC ⟨P, n, b, D, none⟩ (.region id l.toArray false) Q fr hp L := hc_region h
theorem kc_skip (h : HQ c Q .normal fr hp L) : KC c .skip Q fr hp L := hc_skip h
theorem kc_exit {id : Nat} (h : HQ c Q (.exit id) fr hp L) : KC c (.exit id) Q fr hp L := hc_exit h
theorem kc_ret (h : HQ c Q .ret fr hp L) : KC c .ret Q fr hp L := hc_ret h
theorem kc_block {id : Nat} {x : Code} (h : KC c x (Exit.inBlock id Q) fr hp L) : KC c (.block id x) Q fr hp L := hc_block h
theorem kc_cond {x : Operand} {b : Bool} {thn els : Code} (hx : ev fr x = some (.bool b)) (ht : b = true → KC c thn Q fr hp L) (hf : b = false → KC c els Q fr hp L) : KC c (.cond x thn els) Q fr hp L := hc_cond hx ht hf
theorem k_dec {x : Operand} {p : Prop} [Decidable p] {thn els : Code} (hx : ev fr x = some (.bool (decide p))) (ht : p → KC c thn Q fr hp L) (hf : ¬ p → KC c els Q fr hp L) : KC c (.cond x thn els) Q fr hp L :=
  kc_cond hx (fun h => ht (of_decide_eq_true h)) (fun h => hf (of_decide_eq_false h))
theorem kc_loop {β : Type} (s : Sta β) (μ : β → Nat) {body : Code} (z0 : β) (hz0 : s.inv z0) (h1 : FrSub fr (s.fr z0)) (h2 : (s.hp z0).Sublist hp) (h3 : LSub L (s.L z0))
    (round : ∀ z, s.inv z → KC c body (Exit.then (AgainQ s μ (μ z) c) Q) (s.fr z) (s.hp z) (s.L z)) : KC c (.loop body) Q fr hp L := hc_loop s μ z0 hz0 h1 h2 h3 round
theorem kmeets_intro {β : Type} {P : Program} {f : Nat} {args : List Value} {k : Con β} {fn : Func} {code : Code} (hf : P.funcs[f]? = some fn) (hb : fn.body = some code) (hn : args.length ≤ fn.ntmps)
    (h : ∀ w, KC ⟨P, fn.ntmps, k.entry w, [], none⟩ code (postB P fn (k.post w)) (argFr 0 args) k.hpI k.LI) : Meets P f args k := meets_intro hf hb hn h
theorem kc_comm {id : Nat} {l : List Oper} (h : KL c l.toArray Q (List.range l.length) fr hp L) : KC c (.region id l.toArray false) Q fr hp L := fun a w ha hw => by
  intro b k cs Goal hk hc
  refine co_ctl rfl (fun _ => stepG_region) (co_idx hk hc _ a w ?_)
  simpa using h a w ha hw
theorem kl_nil (h : HQ c Q .normal fr hp L) : KL c ops Q [] fr hp L := fun a w ha hw => h a w ha hw
variable {i : Nat} {rest : List Nat} {d : Tmp} {ty : TypeId} {pos : String} {af : Array Edge}
theorem kl_op {o : Oper} (hi : ops[i]? = some o) (hg : o.guard = none) (h : ∀ a w, Ok c a fr → WI c.b w hp L → owp c.P o a w (wpI c.P ops Q rest) Q) : KL c ops Q (i :: rest) fr hp L := by
  intro a w ha hw
  show wpO c.P ops Q i (wpI c.P ops Q rest) a w
  unfold wpO
  simp only [hi]
  rw [if_pos (by simp [Region.wanted, hg])]
  exact h a w ha hw
theorem kl_val {o : Oper} (v : Value) (hi : ops[i]? = some o) (ho : o.dst = some d) (hg : o.guard = none) (hd : Nat.blt d c.n = true)
    (hr : ∀ a w, Ok c a fr → WI c.b w hp L → (execOp a.eval o).run c.P w = .ok (.value v) w) (k : KL c ops Q rest ((d, v) :: fr) hp L) (hok : okOp o = true := by exact rfl) : KL c ops Q (i :: rest) fr hp L := by
  refine kl_op hi hg fun a w ha hw d0 => ⟨calm_exec hok _, ?_⟩
  rw [hr a _ ha (hw.at d0), uponB_value, ho]
  exact k _ _ (ha.put (by simpa using hd) v) (hw.at d0)
theorem kl_move {x : Operand} {v : Value} (hi : ops[i]? = some ⟨some d, .move x, ty, pos, af, none⟩) (hd : Nat.blt d c.n = true) (hx : ev fr x = some v) (k : KL c ops Q rest ((d, v) :: fr) hp L) : KL c ops Q (i :: rest) fr hp L :=
  kl_val v hi rfl rfl hd (fun a w ha _ => by show Result.ok (Next.value (a.eval x)) w = _; rw [ha.ev hx]) k
theorem kl_assign {x : Operand} {v : Value} (hi : ops[i]? = some ⟨some d, .assign x, ty, pos, af, none⟩) (hd : Nat.blt d c.n = true) (hx : ev fr x = some v) (k : KL c ops Q rest ((d, v) :: fr) hp L) : KL c ops Q (i :: rest) fr hp L :=
  kl_val v hi rfl rfl hd (fun a w ha _ => by show Result.ok (Next.value (a.eval x)) w = _; rw [ha.ev hx]) k
abbrev chanO (cap : Nat) (buf : List Value) (s r : Nat) : Obj := .chan cap buf.toArray false s r false
theorem wi_chan {b : Bx} {w : World} {g cap s' r' : Nat} {buf' : Array Value} {o : Obj} (h : WI b w ((g, o) :: hp) L) : WI b { w with heap := w.heap.setIfInBounds g (.chan cap buf' false s' r' false) } ((g, .chan cap buf' false s' r' false) :: hp) L := by
  have hg := h.own (g, o) (by simp)
  have hlt : g < w.heap.size := lt_of_own hg
  refine h.write ⟨rfl, rfl, rfl, by simp, fun k hk hn => ?_, Nat.le_refl _⟩ (by simp [hlt])
  simp only
  rw [Array.getElem?_setIfInBounds_ne (fun e => hn (by rw [e]; simp))]
theorem kl_send {x y : Operand} {v : Value} {g cap s r : Nat} {buf : List Value} {hp' : Hp} (hi : ops[i]? = some ⟨none, .send x y, ty, pos, af, none⟩) (hx : ev fr x = some (.chan (some g))) (hy : ev fr y = some v) (hpp : hp.Perm ((g, chanO cap buf s r) :: hp')) (hroom : buf.length < cap)
    (k : KL c ops Q rest fr ((g, chanO cap (buf ++ [v]) (s + 1) r) :: hp') L) : KL c ops Q (i :: rest) fr hp L := by
  refine kl_op hi rfl fun a w ha hw d0 => ⟨calm_exec rfl _, ?_⟩
  have hw' := (hw.at d0).perm hpp
  have hg := hw'.own (g, chanO cap buf s r) (by simp)
  have hrun : (execOp a.eval (⟨none, .send x y, ty, pos, af, none⟩ : Oper)).run c.P (w.at d0) = .ok (.comm #[scase g v (.tuple #[])] true .send) (w.at d0) := by
    simp [execOp, scase, ha.ev hx, ha.ev hy]
  rw [hrun, uponB_comm]
  refine .inl ⟨g, v, .tuple #[], cap, buf.toArray, s, r, false, rfl, rfl, hg, by simpa using hroom, ?_⟩
  refine k a _ ha ?_
  have h2 := wi_chan (cap := cap) (s' := s + 1) (r' := r) (buf' := buf.toArray.push v) hw'
  have e : (buf ++ [v]).toArray = buf.toArray.push v := by simp
  show WI c.b _ ((g, .chan cap (buf ++ [v]).toArray false (s + 1) r false) :: hp') L
  rw [e]
  exact h2
theorem kl_recv {t e : TypeId} {dir : ChanDir} {x : Operand} {v z : Value} {g cap s r : Nat} {buf : List Value} {hp' : Hp} (hi : ops[i]? = some ⟨some d, .recv t x false, ty, pos, af, none⟩) (hd : Nat.blt d c.n = true) (ht : c.P.underlying t = some (.chan dir e)) (hz : ∀ w, (zeroValue e).run c.P w = .ok z w)
    (hx : ev fr x = some (.chan (some g))) (hpp : hp.Perm ((g, chanO cap (v :: buf) s r) :: hp'))
    (k : KL c ops Q rest ((d, v) :: fr) ((g, chanO cap buf s (r + 1)) :: hp') L) : KL c ops Q (i :: rest) fr hp L := by
  refine kl_op hi rfl fun a w ha hw d0 => ⟨calm_exec rfl _, ?_⟩
  have hw' := (hw.at d0).perm hpp
  have hg := hw'.own (g, chanO cap (v :: buf) s r) (by simp)
  have hrun : (execOp a.eval (⟨some d, .recv t x false, ty, pos, af, none⟩ : Oper)).run c.P (w.at d0) = .ok (.comm #[rcase g z] true (.recv false)) (w.at d0) := by
    simp [execOp, Sem.run_bind, run_underlying ht, hz, rcase, ha.ev hx]
  rw [hrun, uponB_comm]
  refine .inr ⟨g, z, false, cap, (v :: buf).toArray, false, s, r, false, rfl, rfl, hg, by simp, ?_⟩
  refine k _ _ (ha.put (by simpa using hd) v) ?_
  have h2 := wi_chan (cap := cap) (s' := s) (r' := r + 1) (buf' := (v :: buf).toArray.extract 1 (v :: buf).toArray.size) hw'
  have e : (v :: buf).toArray.extract 1 (v :: buf).toArray.size = buf.toArray := by simp
  rw [e] at h2 ⊢
  exact h2
end
section
variable {c : Cx} {Q : Exit → Act → World → Prop} {fr : Fr} {hp : Hp} {L : List Fact} {ops : Array Oper} {rest : List Oper}
variable {d : Tmp} {ty : TypeId} {pos : String} {af : Array Edge}
theorem r_makeChan {t e : TypeId} {dir : ChanDir} {x : Operand} {n : Nat} {z : TypeInfo} (hd : Nat.blt d c.n = true) (ht : c.P.underlying t = some (.chan dir e)) (hi : c.P.info? e = some z) (hx : ev fr x = some (int (n : Int))) (h63 : (n : Int) ≤ 9223372036854775807) (hb : (z.bytes : Int) * n ≤ 281474976710544)
    (k : ∀ g, HL c ops Q rest ((d, .chan (some g)) :: fr) ((g, chanO n [] 0 0) :: hp) L) : HL c ops Q (⟨some d, .makeChan t x, ty, pos, af, none⟩ :: rest) fr hp L :=
  hl_gen rfl rfl hd fun a w ha hw => by
    refine ⟨.chan (some w.heap.size), _, _, L, ?_, hw.alloc _, k w.heap.size⟩
    simp only [execOp, Sem.run_bind, Sem.run_pure, Result.andThen_ok, ha.ev hx, run_makeChan ht hi .i64 n h63 hb]
theorem r_copy {dT sT e : TypeId} {x y : Operand} {g off dLen dCap sLen sCap : Nat} {ad : Addr} {cur : Array Value} {cs : List Value} {hp' : Hp} (hd : Nat.blt d c.n = true) (ht : c.P.underlying dT = some (.slice e)) (hz : Sz c.P e 1)
    (hx : ev fr x = some (.slice (some ⟨g, off, none⟩) dLen dCap)) (hy : ev fr y = some (.slice (some ad) sLen sCap)) (hpp : hp.Perm ((g, .cells cur e (0, 0)) :: hp')) (hn : cs.length = Nat.min sLen dLen) (hs : Cells c.b ((g, .cells cur e (0, 0)) :: hp') L ad cs)
    (hfit : off + cs.length ≤ cur.size) (h1 : ∀ v ∈ cs, v.oneCell' = true)
    (k : HL c ops Q rest ((d, int cs.length) :: fr) ((g, .cells (cur.toList.take off ++ cs ++ cur.toList.drop (off + cs.length)).toArray e (0, 0)) :: hp') L) :
    HL c ops Q (⟨some d, .call ⟨.builtin .copy, #[x, y], #[dT, sT]⟩, ty, pos, af, none⟩ :: rest) fr hp L :=
  hl_gen rfl rfl hd fun a w ha hw => by
    have hw' := hw.perm hpp
    have hg := hw'.own (g, .cells cur e (0, 0)) (by simp)
    simp only at hg
    have hrun := run_copy_row (P := c.P) w dT sT ty e g off dLen dCap ad sLen sCap cur e cs ht hz hg hn (hs w hw') hfit h1
    refine ⟨int cs.length, w.setRow g (cur.toList.take off ++ cs ++ cur.toList.drop (off + cs.length)).toArray, _, L, ?_, hw'.write (o' := .cells (cur.toList.take off ++ cs ++ cur.toList.drop (off + cs.length)).toArray e (0, 0)) ⟨rfl, rfl, rfl, by simp [World.setRow], fun k hk hn => setRow_other w g k _ (fun e => hn (by rw [e]; simp)), Nat.le_refl _⟩ (setRow_heap w g cur _ e (0, 0) hg), k⟩
    simp only [execOp, resolve, invoke, builtin, Sem.run_bind, Sem.run_pure, Result.andThen_ok, List.map_toArray, List.map_cons, List.map_nil, ha.ev hx, ha.ev hy, hrun]
    rfl
theorem r_makeN {t e : TypeId} {x y : Operand} {n sz bytes : Nat} {m m' : Int} (el : ElT c.P t e sz bytes) (hd : Nat.blt d c.n = true) (hx : ev fr x = some (int m')) (hy : ev fr y = some (int m)) (hm' : m' = (n : Int)) (hm : m = (n : Int)) (hb : bytes * n ≤ 140737488355328) (hn : n ≤ 140737488355328)
    (k : ∀ g (cur : Array Value), cur.size = n * sz → HL c ops Q rest ((d, .slice (some ⟨g, 0, none⟩) n n) :: fr) ((g, .cells cur e (0, 0)) :: hp) L) : HL c ops Q (⟨some d, .makeSlice t x y, ty, pos, af, none⟩ :: rest) fr hp L := by
  obtain ⟨i, z, hi, hz, hsz, hby, hzs⟩ := el.i
  refine hl_new (.cells (madeCells z.cells (n * i.size)) e (0, 0)) (fun g => .slice (some ⟨g, 0, none⟩) n n) rfl rfl hd (fun a w ha _ => ?_) (fun g => k g _ ?_)
  · subst hm
    subst hm'
    have hb' : (i.bytes : Int) * (n : Int) ≤ 281474976710656 := by
      have h : ((i.bytes * n : Nat) : Int) ≤ 281474976710656 := by rw [hby]; omega
      rwa [Int.natCast_mul] at h
    have hr := run_make (P := c.P) w t e i z el.u hi hz .i64 .i64 (n : Int) n (by omega) (by omega) hb' (by omega)
    simp only [Int.toNat_natCast] at hr
    simp only [execOp, ha.ev hx, ha.ev hy, Sem.run_bind, hr, Result.andThen_ok, Sem.run_pure]
  · rw [← hsz]
    simp [madeCells]
end
/-! ### Slices that grow from nothing, whose cells are written -/
section
def GrowE (e : TypeId) (sz : Nat) (A : Option Addr) (n cap : Nat) (xs : List Value) (og : Hp) : Prop := Grow e sz A n cap xs og ∨ (n = 0 ∧ cap = 0 ∧ xs = [] ∧ og = [])
theorem GrowE.grow {e : TypeId} {sz n cap : Nat} {A : Option Addr} {xs : List Value} {og : Hp} (h : GrowE e sz A n cap xs og) (hn : 0 < n) : Grow e sz A n cap xs og := by
  rcases h with h | ⟨h, _⟩
  · exact h
  · omega
theorem GrowE.le {e : TypeId} {sz n cap : Nat} {A : Option Addr} {xs : List Value} {og : Hp} (h : GrowE e sz A n cap xs og) : n ≤ cap := by
  rcases h with h | ⟨h, h2, _⟩
  · exact h.le
  · omega
theorem GrowE.blk {e : TypeId} {sz n cap : Nat} {A : Option Addr} {xs : List Value} {og : Hp} (h : GrowE e sz A n cap xs og) (hn : 0 < n) : ∃ g cur, A = some ⟨g, 0, none⟩ ∧ og = [(g, .cells cur e (0, 0))] ∧ n ≤ cap ∧ cap ≤ maxLen ∧ cur.size = cap * sz ∧ cur.toList.take (n * sz) = xs := by
  rcases (h.grow hn).2 with ⟨_, h1, _⟩ | h1
  · omega
  · exact h1
variable {c : Cx} {Q : Exit → Act → World → Prop} {fr : Fr} {hp : Hp} {L : List Fact} {ops : Array Oper} {rest : List Oper}
variable {d : Tmp} {ty : TypeId} {pos : String} {af : Array Edge}
/-! ### Cells of rows that are written -/
theorem rows_setf {α : Type} [El α] {v : Value} {a : α} {f : Nat} (hf : f < El.sz α) : ∀ {l : List α} {k : Nat}, k < l.length → El.cells a = (El.cells (l.getD k default)).set f v → (rows l).set (k * El.sz α + f) v = rows (l.set k a)
  | [], k, hk, _ => by simp at hk
  | b :: l, 0, _, hc => by
    show (El.cells b ++ rows l).set _ v = El.cells a ++ rows l
    rw [Nat.zero_mul, Nat.zero_add, List.set_append_left _ _ (by rw [El.len]; exact hf), hc]
    rfl
  | b :: l, k + 1, hk, hc => by
    have ih := rows_setf hf (l := l) (k := k) (by simpa using hk) (by simpa using hc)
    show (El.cells b ++ rows l).set _ v = El.cells b ++ rows (l.set k a)
    rw [List.set_append_right _ _ (by rw [El.len, Nat.add_mul]; omega), El.len, ← ih]
    congr 2
    rw [Nat.add_mul]; omega
end
section
variable {c : Cx} {Q : Exit → Act → World → Prop} {fr : Fr} {hp : Hp} {L : List Fact} {ops : Array Oper} {rest : List Oper} {ty : TypeId} {pos : String} {af : Array Edge}
theorem r_storeR {t : TypeId} {x y : Operand} {g o : Nat} {old cs : Array Value} {e : TypeId} {hp' : Hp} (hx : ev fr x = some (.pointer (some ⟨g, o, none⟩))) (hy : ev fr y = some (.agg cs)) (hpp : hp.Perm ((g, .cells old e (0, 0)) :: hp'))
    (hz : Sz c.P t cs.size) (ho : o + cs.size ≤ old.size) (h1 : cs.toList.all (·.oneCell') = true)
    (k : HL c ops Q rest fr ((g, .cells (old.toList.take o ++ cs.toList ++ old.toList.drop (o + cs.size)).toArray e (0, 0)) :: hp') L) : HL c ops Q (⟨none, .store t x y, ty, pos, af, none⟩ :: rest) fr hp L :=
  hl_unit rfl rfl fun a w ha hw => by
    have hw' := hw.perm hpp
    have hg := hw'.own (g, .cells old e (0, 0)) (by simp)
    simp only at hg
    have hst := run_storeCells_at (P := c.P) g o e cs.toList 0 old w hg (by simpa using ho) (fun v hv => List.all_eq_true.1 h1 v hv)
    simp only [Nat.add_zero, Array.length_toList] at hst
    have hrun : (storeVar t ⟨g, o, none⟩ (.agg cs)).run c.P w = .ok () (w.setRow g (old.toList.take o ++ cs.toList ++ old.toList.drop (o + cs.size)).toArray) := by
      unfold Sz at hz
      cases hq : c.P.info? t with
      | none => simp [hq] at hz
      | some i =>
        have hs : cs.size = i.size := by simp [hq] at hz; omega
        simp [storeVar, sizeOf, typeInfo, hq, Value.cells, hs, hst]
    refine ⟨w.setRow g (old.toList.take o ++ cs.toList ++ old.toList.drop (o + cs.size)).toArray, _, L, ?_, hw'.write (ext_setRow _) (setRow_heap w g old _ e (0, 0) hg), k⟩
    simp only [execOp, ha.ev hx, ha.ev hy, Instr.storeAt, Instr.sureAddr, Sem.run_bind, Sem.run_pure, Result.andThen_ok, hrun]
end
end Go.W
end
section
namespace Go.Proofs.Ytdlbbfcfahahdaa
open Go Go.W
set_option maxRecDepth 20000
attribute [local irreducible] HL HC HQ HB Row Rows2 Blk Facts
theorem math_bits_Mul64_m0 : Meets Try.prog F.math_bits_Mul64 [.int .u64 1, .int .u64 0] { val := fun _ : Unit => .tuple #[.int .u64 0, .int .u64 0] } := by
 refine meets_intro F.math_bits_Mul64_f rfl (Nat.le_of_ble_eq_true rfl) fun w0 => ?_
 refine hc_seq (hc_region (r_assign rfl rfl (r_assign rfl rfl (hl_nil (then_n (hc_seq (hc_region (r_move rfl rfl ?_))))))))
 refine r_bin _ rfl rfl rfl (fun _ => rfl) (fun _ => rfl) ?_
 refine r_assign rfl rfl (hl_nil (then_n (hc_seq (hc_region (r_move rfl rfl ?_)))))
 refine r_bin _ rfl rfl rfl (fun _ => rfl) (fun _ => rfl) ?_
 refine r_assign rfl rfl (hl_nil (then_n (hc_seq (hc_region (r_move rfl rfl ?_)))))
 refine r_bin _ rfl rfl rfl (fun _ => rfl) (fun _ => rfl) ?_
 refine r_assign rfl rfl (hl_nil (then_n (hc_seq (hc_region (r_move rfl rfl ?_)))))
 refine r_bin _ rfl rfl rfl (fun _ => rfl) (fun _ => rfl) ?_
 refine r_assign rfl rfl (hl_nil (then_n (hc_seq (hc_region (r_move rfl rfl (r_move rfl rfl ?_))))))
 refine r_bin _ rfl rfl rfl (fun _ => rfl) (fun _ => rfl) ?_
 refine r_assign rfl rfl (hl_nil (then_n (hc_seq (hc_region (r_move rfl rfl (r_move rfl rfl ?_))))))
 refine r_bin _ rfl rfl rfl (fun _ => rfl) (fun _ => rfl) ?_
 refine r_move rfl rfl ?_
 refine r_bin _ rfl rfl rfl (fun _ => rfl) (fun _ => rfl) ?_
 refine r_bin _ rfl rfl rfl (fun _ => rfl) (fun _ => rfl) ?_
 refine r_assign rfl rfl (hl_nil (then_n (hc_seq (hc_region (r_move rfl rfl ?_)))))
 refine r_bin _ rfl rfl rfl (fun _ => rfl) (fun _ => rfl) ?_
 refine r_assign rfl rfl (hl_nil (then_n (hc_seq (hc_region (r_move rfl rfl ?_)))))
 refine r_bin _ rfl rfl rfl (fun _ => rfl) (fun _ => rfl) ?_
 refine r_assign rfl rfl (hl_nil (then_n (hc_seq (hc_region (r_move rfl rfl (r_move rfl rfl (r_move rfl rfl ?_)))))))
 refine r_bin _ rfl rfl rfl (fun _ => rfl) (fun _ => rfl) ?_
 refine r_bin _ rfl rfl rfl (fun _ => rfl) (fun _ => rfl) ?_
 refine r_assign rfl rfl (hl_nil (then_n (hc_seq (hc_region (r_move rfl rfl (r_move rfl rfl ?_))))))
 refine r_bin _ rfl rfl rfl (fun _ => rfl) (fun _ => rfl) ?_
 refine r_move rfl rfl ?_
 refine r_bin _ rfl rfl rfl (fun _ => rfl) (fun _ => rfl) ?_
 refine r_move rfl rfl ?_
 refine r_bin _ rfl rfl rfl (fun _ => rfl) (fun _ => rfl) ?_
 refine r_bin _ rfl rfl rfl (fun _ => rfl) (fun _ => rfl) ?_
 refine r_assign rfl rfl (hl_nil (then_n (hc_seq (hc_region (r_move rfl rfl (r_move rfl rfl ?_))))))
 refine r_bin _ rfl rfl rfl (fun _ => rfl) (fun _ => rfl) ?_
 refine r_assign rfl rfl (hl_nil (then_n (hc_ret ?_)))
 exact ret2 () rfl rfl rfl rfl rfl trivial (List.nil_sublist _) trivial
theorem math_bits_Mul64_m1 : Meets Try.prog F.math_bits_Mul64 [.int .u64 1, .int .u64 1] { val := fun _ : Unit => .tuple #[.int .u64 0, .int .u64 1] } := by
 refine meets_intro F.math_bits_Mul64_f rfl (Nat.le_of_ble_eq_true rfl) fun w0 => ?_
 refine hc_seq (hc_region (r_assign rfl rfl (r_assign rfl rfl (hl_nil (then_n (hc_seq (hc_region (r_move rfl rfl ?_))))))))
 refine r_bin _ rfl rfl rfl (fun _ => rfl) (fun _ => rfl) ?_
 refine r_assign rfl rfl (hl_nil (then_n (hc_seq (hc_region (r_move rfl rfl ?_)))))
 refine r_bin _ rfl rfl rfl (fun _ => rfl) (fun _ => rfl) ?_
 refine r_assign rfl rfl (hl_nil (then_n (hc_seq (hc_region (r_move rfl rfl ?_)))))
 refine r_bin _ rfl rfl rfl (fun _ => rfl) (fun _ => rfl) ?_
 refine r_assign rfl rfl (hl_nil (then_n (hc_seq (hc_region (r_move rfl rfl ?_)))))
 refine r_bin _ rfl rfl rfl (fun _ => rfl) (fun _ => rfl) ?_
 refine r_assign rfl rfl (hl_nil (then_n (hc_seq (hc_region (r_move rfl rfl (r_move rfl rfl ?_))))))
 refine r_bin _ rfl rfl rfl (fun _ => rfl) (fun _ => rfl) ?_
 refine r_assign rfl rfl (hl_nil (then_n (hc_seq (hc_region (r_move rfl rfl (r_move rfl rfl ?_))))))
 refine r_bin _ rfl rfl rfl (fun _ => rfl) (fun _ => rfl) ?_
 refine r_move rfl rfl ?_
 refine r_bin _ rfl rfl rfl (fun _ => rfl) (fun _ => rfl) ?_
 refine r_bin _ rfl rfl rfl (fun _ => rfl) (fun _ => rfl) ?_
 refine r_assign rfl rfl (hl_nil (then_n (hc_seq (hc_region (r_move rfl rfl ?_)))))
 refine r_bin _ rfl rfl rfl (fun _ => rfl) (fun _ => rfl) ?_
 refine r_assign rfl rfl (hl_nil (then_n (hc_seq (hc_region (r_move rfl rfl ?_)))))
 refine r_bin _ rfl rfl rfl (fun _ => rfl) (fun _ => rfl) ?_
 refine r_assign rfl rfl (hl_nil (then_n (hc_seq (hc_region (r_move rfl rfl (r_move rfl rfl (r_move rfl rfl ?_)))))))
 refine r_bin _ rfl rfl rfl (fun _ => rfl) (fun _ => rfl) ?_
 refine r_bin _ rfl rfl rfl (fun _ => rfl) (fun _ => rfl) ?_
 refine r_assign rfl rfl (hl_nil (then_n (hc_seq (hc_region (r_move rfl rfl (r_move rfl rfl ?_))))))
 refine r_bin _ rfl rfl rfl (fun _ => rfl) (fun _ => rfl) ?_
 refine r_move rfl rfl ?_
 refine r_bin _ rfl rfl rfl (fun _ => rfl) (fun _ => rfl) ?_
 refine r_move rfl rfl ?_
 refine r_bin _ rfl rfl rfl (fun _ => rfl) (fun _ => rfl) ?_
 refine r_bin _ rfl rfl rfl (fun _ => rfl) (fun _ => rfl) ?_
 refine r_assign rfl rfl (hl_nil (then_n (hc_seq (hc_region (r_move rfl rfl (r_move rfl rfl ?_))))))
 refine r_bin _ rfl rfl rfl (fun _ => rfl) (fun _ => rfl) ?_
 refine r_assign rfl rfl (hl_nil (then_n (hc_ret ?_)))
 exact ret2 () rfl rfl rfl rfl rfl trivial (List.nil_sublist _) trivial
theorem math_bits_Mul64_m2 : Meets Try.prog F.math_bits_Mul64 [.int .u64 1, .int .u64 2] { val := fun _ : Unit => .tuple #[.int .u64 0, .int .u64 2] } := by
 refine meets_intro F.math_bits_Mul64_f rfl (Nat.le_of_ble_eq_true rfl) fun w0 => ?_
 refine hc_seq (hc_region (r_assign rfl rfl (r_assign rfl rfl (hl_nil (then_n (hc_seq (hc_region (r_move rfl rfl ?_))))))))
 refine r_bin _ rfl rfl rfl (fun _ => rfl) (fun _ => rfl) ?_
 refine r_assign rfl rfl (hl_nil (then_n (hc_seq (hc_region (r_move rfl rfl ?_)))))
 refine r_bin _ rfl rfl rfl (fun _ => rfl) (fun _ => rfl) ?_
 refine r_assign rfl rfl (hl_nil (then_n (hc_seq (hc_region (r_move rfl rfl ?_)))))
 refine r_bin _ rfl rfl rfl (fun _ => rfl) (fun _ => rfl) ?_
 refine r_assign rfl rfl (hl_nil (then_n (hc_seq (hc_region (r_move rfl rfl ?_)))))
 refine r_bin _ rfl rfl rfl (fun _ => rfl) (fun _ => rfl) ?_
 refine r_assign rfl rfl (hl_nil (then_n (hc_seq (hc_region (r_move rfl rfl (r_move rfl rfl ?_))))))
 refine r_bin _ rfl rfl rfl (fun _ => rfl) (fun _ => rfl) ?_
 refine r_assign rfl rfl (hl_nil (then_n (hc_seq (hc_region (r_move rfl rfl (r_move rfl rfl ?_))))))
 refine r_bin _ rfl rfl rfl (fun _ => rfl) (fun _ => rfl) ?_
 refine r_move rfl rfl ?_
 refine r_bin _ rfl rfl rfl (fun _ => rfl) (fun _ => rfl) ?_
 refine r_bin _ rfl rfl rfl (fun _ => rfl) (fun _ => rfl) ?_
 refine r_assign rfl rfl (hl_nil (then_n (hc_seq (hc_region (r_move rfl rfl ?_)))))
 refine r_bin _ rfl rfl rfl (fun _ => rfl) (fun _ => rfl) ?_
 refine r_assign rfl rfl (hl_nil (then_n (hc_seq (hc_region (r_move rfl rfl ?_)))))
 refine r_bin _ rfl rfl rfl (fun _ => rfl) (fun _ => rfl) ?_
 refine r_assign rfl rfl (hl_nil (then_n (hc_seq (hc_region (r_move rfl rfl (r_move rfl rfl (r_move rfl rfl ?_)))))))
 refine r_bin _ rfl rfl rfl (fun _ => rfl) (fun _ => rfl) ?_
 refine r_bin _ rfl rfl rfl (fun _ => rfl) (fun _ => rfl) ?_
 refine r_assign rfl rfl (hl_nil (then_n (hc_seq (hc_region (r_move rfl rfl (r_move rfl rfl ?_))))))
 refine r_bin _ rfl rfl rfl (fun _ => rfl) (fun _ => rfl) ?_
 refine r_move rfl rfl ?_
 refine r_bin _ rfl rfl rfl (fun _ => rfl) (fun _ => rfl) ?_
 refine r_move rfl rfl ?_
 refine r_bin _ rfl rfl rfl (fun _ => rfl) (fun _ => rfl) ?_
 refine r_bin _ rfl rfl rfl (fun _ => rfl) (fun _ => rfl) ?_
 refine r_assign rfl rfl (hl_nil (then_n (hc_seq (hc_region (r_move rfl rfl (r_move rfl rfl ?_))))))
 refine r_bin _ rfl rfl rfl (fun _ => rfl) (fun _ => rfl) ?_
 refine r_assign rfl rfl (hl_nil (then_n (hc_ret ?_)))
 exact ret2 () rfl rfl rfl rfl rfl trivial (List.nil_sublist _) trivial
theorem math_bits_Mul64_m3 : Meets Try.prog F.math_bits_Mul64 [.int .u64 1, .int .u64 3] { val := fun _ : Unit => .tuple #[.int .u64 0, .int .u64 3] } := by
 refine meets_intro F.math_bits_Mul64_f rfl (Nat.le_of_ble_eq_true rfl) fun w0 => ?_
 refine hc_seq (hc_region (r_assign rfl rfl (r_assign rfl rfl (hl_nil (then_n (hc_seq (hc_region (r_move rfl rfl ?_))))))))
 refine r_bin _ rfl rfl rfl (fun _ => rfl) (fun _ => rfl) ?_
 refine r_assign rfl rfl (hl_nil (then_n (hc_seq (hc_region (r_move rfl rfl ?_)))))
 refine r_bin _ rfl rfl rfl (fun _ => rfl) (fun _ => rfl) ?_
 refine r_assign rfl rfl (hl_nil (then_n (hc_seq (hc_region (r_move rfl rfl ?_)))))
 refine r_bin _ rfl rfl rfl (fun _ => rfl) (fun _ => rfl) ?_
 refine r_assign rfl rfl (hl_nil (then_n (hc_seq (hc_region (r_move rfl rfl ?_)))))
 refine r_bin _ rfl rfl rfl (fun _ => rfl) (fun _ => rfl) ?_
 refine r_assign rfl rfl (hl_nil (then_n (hc_seq (hc_region (r_move rfl rfl (r_move rfl rfl ?_))))))
 refine r_bin _ rfl rfl rfl (fun _ => rfl) (fun _ => rfl) ?_
 refine r_assign rfl rfl (hl_nil (then_n (hc_seq (hc_region (r_move rfl rfl (r_move rfl rfl ?_))))))
 refine r_bin _ rfl rfl rfl (fun _ => rfl) (fun _ => rfl) ?_
 refine r_move rfl rfl ?_
 refine r_bin _ rfl rfl rfl (fun _ => rfl) (fun _ => rfl) ?_
 refine r_bin _ rfl rfl rfl (fun _ => rfl) (fun _ => rfl) ?_
 refine r_assign rfl rfl (hl_nil (then_n (hc_seq (hc_region (r_move rfl rfl ?_)))))
 refine r_bin _ rfl rfl rfl (fun _ => rfl) (fun _ => rfl) ?_
 refine r_assign rfl rfl (hl_nil (then_n (hc_seq (hc_region (r_move rfl rfl ?_)))))
 refine r_bin _ rfl rfl rfl (fun _ => rfl) (fun _ => rfl) ?_
 refine r_assign rfl rfl (hl_nil (then_n (hc_seq (hc_region (r_move rfl rfl (r_move rfl rfl (r_move rfl rfl ?_)))))))
 refine r_bin _ rfl rfl rfl (fun _ => rfl) (fun _ => rfl) ?_
 refine r_bin _ rfl rfl rfl (fun _ => rfl) (fun _ => rfl) ?_
 refine r_assign rfl rfl (hl_nil (then_n (hc_seq (hc_region (r_move rfl rfl (r_move rfl rfl ?_))))))
 refine r_bin _ rfl rfl rfl (fun _ => rfl) (fun _ => rfl) ?_
 refine r_move rfl rfl ?_
 refine r_bin _ rfl rfl rfl (fun _ => rfl) (fun _ => rfl) ?_
 refine r_move rfl rfl ?_
 refine r_bin _ rfl rfl rfl (fun _ => rfl) (fun _ => rfl) ?_
 refine r_bin _ rfl rfl rfl (fun _ => rfl) (fun _ => rfl) ?_
 refine r_assign rfl rfl (hl_nil (then_n (hc_seq (hc_region (r_move rfl rfl (r_move rfl rfl ?_))))))
 refine r_bin _ rfl rfl rfl (fun _ => rfl) (fun _ => rfl) ?_
 refine r_assign rfl rfl (hl_nil (then_n (hc_ret ?_)))
 exact ret2 () rfl rfl rfl rfl rfl trivial (List.nil_sublist _) trivial
theorem math_bits_Mul64_m4 : Meets Try.prog F.math_bits_Mul64 [.int .u64 1, .int .u64 4] { val := fun _ : Unit => .tuple #[.int .u64 0, .int .u64 4] } := by
 refine meets_intro F.math_bits_Mul64_f rfl (Nat.le_of_ble_eq_true rfl) fun w0 => ?_
 refine hc_seq (hc_region (r_assign rfl rfl (r_assign rfl rfl (hl_nil (then_n (hc_seq (hc_region (r_move rfl rfl ?_))))))))
 refine r_bin _ rfl rfl rfl (fun _ => rfl) (fun _ => rfl) ?_
 refine r_assign rfl rfl (hl_nil (then_n (hc_seq (hc_region (r_move rfl rfl ?_)))))
 refine r_bin _ rfl rfl rfl (fun _ => rfl) (fun _ => rfl) ?_
 refine r_assign rfl rfl (hl_nil (then_n (hc_seq (hc_region (r_move rfl rfl ?_)))))
 refine r_bin _ rfl rfl rfl (fun _ => rfl) (fun _ => rfl) ?_
 refine r_assign rfl rfl (hl_nil (then_n (hc_seq (hc_region (r_move rfl rfl ?_)))))
 refine r_bin _ rfl rfl rfl (fun _ => rfl) (fun _ => rfl) ?_
 refine r_assign rfl rfl (hl_nil (then_n (hc_seq (hc_region (r_move rfl rfl (r_move rfl rfl ?_))))))
 refine r_bin _ rfl rfl rfl (fun _ => rfl) (fun _ => rfl) ?_
 refine r_assign rfl rfl (hl_nil (then_n (hc_seq (hc_region (r_move rfl rfl (r_move rfl rfl ?_))))))
 refine r_bin _ rfl rfl rfl (fun _ => rfl) (fun _ => rfl) ?_
 refine r_move rfl rfl ?_
 refine r_bin _ rfl rfl rfl (fun _ => rfl) (fun _ => rfl) ?_
 refine r_bin _ rfl rfl rfl (fun _ => rfl) (fun _ => rfl) ?_
 refine r_assign rfl rfl (hl_nil (then_n (hc_seq (hc_region (r_move rfl rfl ?_)))))
 refine r_bin _ rfl rfl rfl (fun _ => rfl) (fun _ => rfl) ?_
 refine r_assign rfl rfl (hl_nil (then_n (hc_seq (hc_region (r_move rfl rfl ?_)))))
 refine r_bin _ rfl rfl rfl (fun _ => rfl) (fun _ => rfl) ?_
 refine r_assign rfl rfl (hl_nil (then_n (hc_seq (hc_region (r_move rfl rfl (r_move rfl rfl (r_move rfl rfl ?_)))))))
 refine r_bin _ rfl rfl rfl (fun _ => rfl) (fun _ => rfl) ?_
 refine r_bin _ rfl rfl rfl (fun _ => rfl) (fun _ => rfl) ?_
 refine r_assign rfl rfl (hl_nil (then_n (hc_seq (hc_region (r_move rfl rfl (r_move rfl rfl ?_))))))
 refine r_bin _ rfl rfl rfl (fun _ => rfl) (fun _ => rfl) ?_
 refine r_move rfl rfl ?_
 refine r_bin _ rfl rfl rfl (fun _ => rfl) (fun _ => rfl) ?_
 refine r_move rfl rfl ?_
 refine r_bin _ rfl rfl rfl (fun _ => rfl) (fun _ => rfl) ?_
 refine r_bin _ rfl rfl rfl (fun _ => rfl) (fun _ => rfl) ?_
 refine r_assign rfl rfl (hl_nil (then_n (hc_seq (hc_region (r_move rfl rfl (r_move rfl rfl ?_))))))
 refine r_bin _ rfl rfl rfl (fun _ => rfl) (fun _ => rfl) ?_
 refine r_assign rfl rfl (hl_nil (then_n (hc_ret ?_)))
 exact ret2 () rfl rfl rfl rfl rfl trivial (List.nil_sublist _) trivial
theorem math_bits_Mul64_m5 : Meets Try.prog F.math_bits_Mul64 [.int .u64 1, .int .u64 5] { val := fun _ : Unit => .tuple #[.int .u64 0, .int .u64 5] } := by
 refine meets_intro F.math_bits_Mul64_f rfl (Nat.le_of_ble_eq_true rfl) fun w0 => ?_
 refine hc_seq (hc_region (r_assign rfl rfl (r_assign rfl rfl (hl_nil (then_n (hc_seq (hc_region (r_move rfl rfl ?_))))))))
 refine r_bin _ rfl rfl rfl (fun _ => rfl) (fun _ => rfl) ?_
 refine r_assign rfl rfl (hl_nil (then_n (hc_seq (hc_region (r_move rfl rfl ?_)))))
 refine r_bin _ rfl rfl rfl (fun _ => rfl) (fun _ => rfl) ?_
 refine r_assign rfl rfl (hl_nil (then_n (hc_seq (hc_region (r_move rfl rfl ?_)))))
 refine r_bin _ rfl rfl rfl (fun _ => rfl) (fun _ => rfl) ?_
 refine r_assign rfl rfl (hl_nil (then_n (hc_seq (hc_region (r_move rfl rfl ?_)))))
 refine r_bin _ rfl rfl rfl (fun _ => rfl) (fun _ => rfl) ?_
 refine r_assign rfl rfl (hl_nil (then_n (hc_seq (hc_region (r_move rfl rfl (r_move rfl rfl ?_))))))
 refine r_bin _ rfl rfl rfl (fun _ => rfl) (fun _ => rfl) ?_
 refine r_assign rfl rfl (hl_nil (then_n (hc_seq (hc_region (r_move rfl rfl (r_move rfl rfl ?_))))))
 refine r_bin _ rfl rfl rfl (fun _ => rfl) (fun _ => rfl) ?_
 refine r_move rfl rfl ?_
 refine r_bin _ rfl rfl rfl (fun _ => rfl) (fun _ => rfl) ?_
 refine r_bin _ rfl rfl rfl (fun _ => rfl) (fun _ => rfl) ?_
 refine r_assign rfl rfl (hl_nil (then_n (hc_seq (hc_region (r_move rfl rfl ?_)))))
 refine r_bin _ rfl rfl rfl (fun _ => rfl) (fun _ => rfl) ?_
 refine r_assign rfl rfl (hl_nil (then_n (hc_seq (hc_region (r_move rfl rfl ?_)))))
 refine r_bin _ rfl rfl rfl (fun _ => rfl) (fun _ => rfl) ?_
 refine r_assign rfl rfl (hl_nil (then_n (hc_seq (hc_region (r_move rfl rfl (r_move rfl rfl (r_move rfl rfl ?_)))))))
 refine r_bin _ rfl rfl rfl (fun _ => rfl) (fun _ => rfl) ?_
 refine r_bin _ rfl rfl rfl (fun _ => rfl) (fun _ => rfl) ?_
 refine r_assign rfl rfl (hl_nil (then_n (hc_seq (hc_region (r_move rfl rfl (r_move rfl rfl ?_))))))
 refine r_bin _ rfl rfl rfl (fun _ => rfl) (fun _ => rfl) ?_
 refine r_move rfl rfl ?_
 refine r_bin _ rfl rfl rfl (fun _ => rfl) (fun _ => rfl) ?_
 refine r_move rfl rfl ?_
 refine r_bin _ rfl rfl rfl (fun _ => rfl) (fun _ => rfl) ?_
 refine r_bin _ rfl rfl rfl (fun _ => rfl) (fun _ => rfl) ?_
 refine r_assign rfl rfl (hl_nil (then_n (hc_seq (hc_region (r_move rfl rfl (r_move rfl rfl ?_))))))
 refine r_bin _ rfl rfl rfl (fun _ => rfl) (fun _ => rfl) ?_
 refine r_assign rfl rfl (hl_nil (then_n (hc_ret ?_)))
 exact ret2 () rfl rfl rfl rfl rfl trivial (List.nil_sublist _) trivial
theorem math_bits_Mul64_m6 : Meets Try.prog F.math_bits_Mul64 [.int .u64 1, .int .u64 6] { val := fun _ : Unit => .tuple #[.int .u64 0, .int .u64 6] } := by
 refine meets_intro F.math_bits_Mul64_f rfl (Nat.le_of_ble_eq_true rfl) fun w0 => ?_
 refine hc_seq (hc_region (r_assign rfl rfl (r_assign rfl rfl (hl_nil (then_n (hc_seq (hc_region (r_move rfl rfl ?_))))))))
 refine r_bin _ rfl rfl rfl (fun _ => rfl) (fun _ => rfl) ?_
 refine r_assign rfl rfl (hl_nil (then_n (hc_seq (hc_region (r_move rfl rfl ?_)))))
 refine r_bin _ rfl rfl rfl (fun _ => rfl) (fun _ => rfl) ?_
 refine r_assign rfl rfl (hl_nil (then_n (hc_seq (hc_region (r_move rfl rfl ?_)))))
 refine r_bin _ rfl rfl rfl (fun _ => rfl) (fun _ => rfl) ?_
 refine r_assign rfl rfl (hl_nil (then_n (hc_seq (hc_region (r_move rfl rfl ?_)))))
 refine r_bin _ rfl rfl rfl (fun _ => rfl) (fun _ => rfl) ?_
 refine r_assign rfl rfl (hl_nil (then_n (hc_seq (hc_region (r_move rfl rfl (r_move rfl rfl ?_))))))
 refine r_bin _ rfl rfl rfl (fun _ => rfl) (fun _ => rfl) ?_
 refine r_assign rfl rfl (hl_nil (then_n (hc_seq (hc_region (r_move rfl rfl (r_move rfl rfl ?_))))))
 refine r_bin _ rfl rfl rfl (fun _ => rfl) (fun _ => rfl) ?_
 refine r_move rfl rfl ?_
 refine r_bin _ rfl rfl rfl (fun _ => rfl) (fun _ => rfl) ?_
 refine r_bin _ rfl rfl rfl (fun _ => rfl) (fun _ => rfl) ?_
 refine r_assign rfl rfl (hl_nil (then_n (hc_seq (hc_region (r_move rfl rfl ?_)))))
 refine r_bin _ rfl rfl rfl (fun _ => rfl) (fun _ => rfl) ?_
 refine r_assign rfl rfl (hl_nil (then_n (hc_seq (hc_region (r_move rfl rfl ?_)))))
 refine r_bin _ rfl rfl rfl (fun _ => rfl) (fun _ => rfl) ?_
 refine r_assign rfl rfl (hl_nil (then_n (hc_seq (hc_region (r_move rfl rfl (r_move rfl rfl (r_move rfl rfl ?_)))))))
 refine r_bin _ rfl rfl rfl (fun _ => rfl) (fun _ => rfl) ?_
 refine r_bin _ rfl rfl rfl (fun _ => rfl) (fun _ => rfl) ?_
 refine r_assign rfl rfl (hl_nil (then_n (hc_seq (hc_region (r_move rfl rfl (r_move rfl rfl ?_))))))
 refine r_bin _ rfl rfl rfl (fun _ => rfl) (fun _ => rfl) ?_
 refine r_move rfl rfl ?_
 refine r_bin _ rfl rfl rfl (fun _ => rfl) (fun _ => rfl) ?_
 refine r_move rfl rfl ?_
 refine r_bin _ rfl rfl rfl (fun _ => rfl) (fun _ => rfl) ?_
 refine r_bin _ rfl rfl rfl (fun _ => rfl) (fun _ => rfl) ?_
 refine r_assign rfl rfl (hl_nil (then_n (hc_seq (hc_region (r_move rfl rfl (r_move rfl rfl ?_))))))
 refine r_bin _ rfl rfl rfl (fun _ => rfl) (fun _ => rfl) ?_
 refine r_assign rfl rfl (hl_nil (then_n (hc_ret ?_)))
 exact ret2 () rfl rfl rfl rfl rfl trivial (List.nil_sublist _) trivial
theorem math_bits_Mul64_meets (n : Nat) (hn : n ≤ 6) : Meets Try.prog F.math_bits_Mul64 [.int .u64 1, .int .u64 (n : Int)] { val := fun _ : Unit => .tuple #[.int .u64 0, .int .u64 (n : Int)] } := by
  match n, hn with
  | 0, _ => exact math_bits_Mul64_m0
  | 1, _ => exact math_bits_Mul64_m1
  | 2, _ => exact math_bits_Mul64_m2
  | 3, _ => exact math_bits_Mul64_m3
  | 4, _ => exact math_bits_Mul64_m4
  | 5, _ => exact math_bits_Mul64_m5
  | 6, _ => exact math_bits_Mul64_m6
theorem wrapu {n : Nat} (h : n ≤ 1000000) : IntKind.u64.wrap (n : Int) = n := IntWalk.u64_in _ (by omega)
theorem wrapi {n : Nat} (h : n ≤ 1000000) : IntKind.i64.wrap (n : Int) = n := IntWalk.i64_in _ (by omega)
theorem rep_take {m k : Nat} {v : Value} {l : List Value} (h : l.take k = List.replicate k v) (hm : k + m ≤ l.length) : (l.take k ++ List.replicate m v ++ l.drop (k + m)).take (k + m) = List.replicate (k + m) v := by
  rw [h, List.replicate_append_replicate]
  exact List.take_left' (by simp)
theorem rep_get {k m : Nat} {v : Value} {cu : Array Value} (h : cu.toList.take k = List.replicate k v) (hm : m ≤ k) (i : Nat) (u : Value) (hu : (List.replicate m v)[i]? = some u) : cu[0 + i]? = some u := by
  rw [List.getElem?_replicate] at hu
  split at hu
  · rename_i hi
    cases hu
    have h2 : (cu.toList.take k)[i]? = some v := by rw [h, List.getElem?_replicate, if_pos (by omega)]
    rw [List.getElem?_take, if_pos (by omega)] at h2
    rw [Nat.zero_add]
    simpa using h2
  · cases hu
theorem cut_k {g n k : Nat} (h : k < n) : cutA (some ⟨g, 0, none⟩) n k 1 = some ⟨g, k, none⟩ := by
  rw [cutA, if_neg (by omega)]
  simp [Addr.add]
  omega
theorem rows_rep (x : Int) : ∀ n : Nat, rows (List.replicate n x) = List.replicate n (int x)
  | 0 => rfl
  | n + 1 => by
    rw [List.replicate_succ, List.replicate_succ, ← rows_rep x n]
    rfl
theorem math_bits_Mul_meets (n : Nat) (hn : n ≤ 6) : Meets Try.prog F.math_bits_Mul [.int .u64 1, .int .u64 (n : Int)] { val := fun _ : Unit => .tuple #[.int .u64 0, .int .u64 (n : Int)] } := by
 refine meets_intro F.math_bits_Mul_f rfl (Nat.le_of_ble_eq_true rfl) fun w0 => ?_
 refine hc_seq (hc_region (r_assign rfl rfl (r_assign rfl rfl (hl_nil (then_n (hc_seq (c_f rfl rfl (hc_skip (then_n (hc_seq (hc_region ?_)))))))))))
 refine r_move rfl rfl (r_move rfl rfl ?_)
 refine hl_call F.math_bits_Mul64_cb rfl rfl (math_bits_Mul64_meets n hn) (List.Perm.refl _) trivial fun _ _ => ?_
 refine r_move rfl rfl (r_extract rfl rfl rfl (r_extract rfl rfl rfl (r_assign rfl rfl (r_assign rfl rfl (hl_nil (then_n (hc_seq (hc_region (r_move rfl rfl (r_move rfl rfl (r_assign rfl rfl ?_)))))))))))
 refine r_assign rfl rfl (hl_nil (then_n (hc_ret ?_)))
 exact ret2 () rfl rfl rfl rfl rfl trivial (List.nil_sublist _) trivial
set_option maxHeartbeats 1000000 in
theorem slices_Repeat_ints_meets {b0 cb : Nat} (x : Int) (n : Nat) (h0 : 0 < n) (hn : n ≤ 6) : Meets Try.prog F.slices_Repeat_ints [.slice (some ⟨b0, 0, none⟩) 1 cb, int n] { LI := [Row (some ⟨b0, 0, none⟩) (rows [x])], val := fun g : Nat => .slice (some ⟨g, 0, none⟩) n n, hpO := fun g => [(g, .cells (rows (List.replicate n x)).toArray T.int (0, 0))] } := by
 refine meets_intro F.slices_Repeat_ints_f rfl (Nat.le_of_ble_eq_true rfl) fun w0 => ?_
 refine hc_seq (hc_region (r_assign rfl rfl (hl_nil (then_n (hc_seq (hc_seq (hc_region (r_move rfl rfl (r_lss rfl rfl rfl (hl_nil (then_n ?_)))))))))))
 first | refine c_dec rfl (fun hb1 => ?_) (fun hb1 => ?_) | refine hc_cond rfl (fun hb1 => ?_) (fun hb1 => ?_)
 ·exact absurd hb1 (by omega)
 ·have hb1' := hb1; try simp at hb1'
  refine hc_skip (then_n (hc_seq (hc_region (r_move rfl rfl ?_))))
  refine r_len_sl rfl T.u_ints rfl ?_
  refine r_conv 1 rfl T.u_int T.u_uint rfl (wrapu (n := 1) (by decide)) ?_
  refine r_move rfl rfl ?_
  refine r_conv (n : Int) rfl T.u_int T.u_uint rfl (wrapu (by omega)) ?_
  refine hl_call F.math_bits_Mul_cb rfl rfl (math_bits_Mul_meets n hn) (List.Perm.refl _) trivial fun _ _ => ?_
  refine r_move rfl rfl (r_extract rfl rfl rfl (r_extract rfl rfl rfl (r_assign rfl rfl (r_assign rfl rfl (hl_nil (then_n (hc_seq (hc_seq (hc_region (r_move rfl rfl (r_gtr rfl rfl rfl ?_)))))))))))
  refine r_move rfl rfl ?_
  refine g_split rfl rfl ?_ ?_
  ·intro hg1; have hg1' := hg1; try simp at hg1'
   refine g_yes rfl rfl hg1 (r_move rfl rfl (g_yes rfl rfl hg1 (r_gtr rfl rfl rfl ?_)))
   refine p_f rfl rfl (bf1 hg1) rfl ?_
   refine hl_nil (then_n ?_)
   first | refine c_dec rfl (fun hb2 => ?_) (fun hb2 => ?_) | refine hc_cond rfl (fun hb2 => ?_) (fun hb2 => ?_)
   ·exact absurd hb2 (by omega)
   ·have hb2' := hb2; try simp at hb2'
    refine hc_skip (then_n (hc_seq (hc_region (r_move rfl rfl ?_))))
    refine r_conv (n : Int) rfl T.u_uint T.u_int rfl (wrapi (by omega)) ?_
    refine r_makeN (n := n) T.el_ints rfl rfl rfl rfl rfl (by omega) (by omega) fun gM cur hcs => ?_
    refine r_assign rfl rfl (hl_nil (then_n (hc_seq (hc_region (r_move rfl rfl (r_move rfl rfl ?_))))))
    refine r_copy (cs := [int x]) (off := 0) rfl T.u_ints T.sz_int rfl rfl (List.Perm.refl _) (show 1 = Nat.min 1 n from (Nat.min_eq_left h0).symm) (cells_row (cs := [int x]) (j := 0) mB (fun i u hu => by rw [Nat.zero_add]; exact hu)) (by simp; omega) (by intro v hv; rw [List.mem_singleton.1 hv]; rfl) ?_
    refine r_assign rfl rfl (hl_nil (then_n (hc_seq (hc_block ?_))))
    refine hc_loop (β := Nat × Array Value) ⟨fun y => 1 ≤ y.1 ∧ y.1 ≤ n ∧ y.2.size = n ∧ y.2.toList.take y.1 = List.replicate y.1 (int x), fun y => [(7, .slice (some ⟨gM, 0, none⟩) n n), (8, int y.1)], fun y => [(gM, .cells y.2 T.int (0, 0))], fun _ => []⟩ (fun y => n - y.1) (1, _) ⟨Nat.le_refl _, h0, by simp; omega, by simp⟩ ⟨rfl, rfl, trivial⟩ (List.Sublist.refl _) trivial fun y hy => ?_
    obtain ⟨k, cu⟩ := y
    obtain ⟨h1, hk, hcu, ht⟩ := hy
    simp only at h1 hk hcu ht
    refine hc_seq (hc_seq (hc_region (r_move rfl rfl (r_move rfl rfl ?_))))
    refine r_len_sl rfl T.u_ints rfl ?_
    refine r_lss rfl rfl rfl (hl_nil (then_n ?_))
    first | refine c_dec rfl (fun hb3 => ?_) (fun hb3 => ?_) | refine hc_cond rfl (fun hb3 => ?_) (fun hb3 => ?_)
    ·have hb3' := hb3; try simp at hb3'
     have hk2 : k < n := by omega
     obtain ⟨m, hm, hm1, hm2, hm3⟩ : ∃ m, m = Nat.min k (n - k) ∧ 1 ≤ m ∧ m ≤ k ∧ m ≤ n - k := ⟨min k (n - k), rfl, by omega, by omega, by omega⟩
     refine hc_skip (then_n (hc_block ?_))
     refine hc_drawW ([(gM, .cells cu T.int (0, 0))]) ([]) (List.Perm.refl _) 8 [7] mixed (by decide) (by decide) (by decide) rfl rfl rfl ?_
     refine hb_ex _ rfl rfl rfl (fun w1 => r_move rfl rfl (hl_nil (qe_done rfl))) ?_
     refine hb_ex _ rfl rfl rfl (fun w1 => r_move rfl rfl (hl_nil (qe_done rfl))) ?_
     refine hb_ex _ rfl rfl rfl (fun w1 => r_move rfl rfl (hl_nil (qe_done rfl))) ?_
     refine hb_ex _ rfl rfl rfl (fun w1 => r_slice_lo k rfl T.u_ints T.sz_int rfl rfl rfl (by omega) (hl_nil (qe_done rfl))) ?_
     refine hb_ex _ rfl rfl rfl (fun w1 => r_move rfl rfl (hl_nil (qe_done rfl))) ?_
     refine hb_ex _ rfl rfl rfl (fun w1 => r_move rfl rfl (hl_nil (qe_done rfl))) ?_
     refine hb_ex _ rfl rfl rfl (fun w1 => r_slice_hi k rfl T.u_ints T.sz_int rfl rfl rfl (by omega) (hl_nil (qe_done rfl))) ?_
     refine hb_wr ⟨Array Value, fun c2 => c2.size = n ∧ c2.toList.take (k + m) = List.replicate (k + m) (int x), fun _ => int (m : Int), fun _ => [], fun c2 => [(gM, Obj.cells c2 T.int (0, 0))]⟩ rfl rfl rfl ?_ ?_
     ·intro w1
      refine r_copy (g := gM) (off := k) (ad := ⟨gM, 0, none⟩) (cs := List.replicate m (int x)) rfl T.u_ints T.sz_int (show ev _ _ = some (.slice (some ⟨gM, k, none⟩) (n - k) (n - k)) from congrArg (fun A => some (Value.slice A (n - k) (n - k))) (cut_k hk2)) rfl (List.Perm.refl _) (by rw [List.length_replicate]; exact hm) (cells_own (List.mem_cons_self ..) (rep_get ht hm2)) (by rw [List.length_replicate]; omega) (by intro v hv; rw [List.eq_of_mem_replicate hv]; rfl) ?_
      refine hl_nil ?_
      exact qw_done _ ⟨by simp; omega, by rw [List.length_replicate]; exact rep_take ht (by simp; omega)⟩ (fun _ => congrArg (fun z : Nat => some (int (z : Int))) List.length_replicate) (.refl _) trivial
     refine hb_nil ⟨rfl, ?_⟩
     intro c2 hc2
     refine r_add _ rfl rfl rfl rfl (by unfold I64; omega) ?_
     refine r_assign rfl rfl (hl_nil (inb_n ?_))
     exact again _ (k + m, c2) ⟨by show 1 ≤ k + m; omega, by show k + m ≤ n; omega, hc2.1, hc2.2⟩ (by show n - (k + m) < n - k; omega) ⟨rfl, rfl, trivial⟩ (List.Sublist.refl _) trivial
    ·have hb3' := hb3; try simp at hb3'
     obtain rfl : k = n := by omega
     obtain rfl : cu = (rows (List.replicate k x)).toArray := by
       rw [rows_rep, ← ht, List.take_of_length_le (by simp; omega)]
     refine hc_exit (then_exit (then_exit (inb_hit (then_n (hc_seq (hc_region (r_move rfl rfl (r_assign rfl rfl (hl_nil (then_n (hc_ret ?_)))))))))))
     exact ret1 gM rfl rfl rfl trivial (List.Sublist.refl _) trivial
  ·intro hg1; have hg1' := hg1; try simp at hg1'
end Go.Proofs.Ytdlbbfcfahahdaa
end
