/- Texts of this claim, one behind another. -/
import Derived.ProofKit
import Derived.OpenShut
import Derived.ShutString
import Derived.ChangeOld
import Derived.Below
import Derived.SliceStrings
import Derived.ChangeSlices
import Derived.Deep.Slices
import Derived.Conc.LeavingOf
import Derived.Test.YtdlbbfcfahahdaaLAo
import Derived.Test.YtdlbbfcfahahdaaLAf
import Derived.Test.YtdlbbfcfahahdaaLAa
section
namespace Go.Proofs.Ytdlbbfcfahahdaa
open Go Go.W
set_option linter.unusedVariables false
set_option linter.unusedSimpArgs false
set_option maxRecDepth 20000
attribute [local irreducible] HL HC HQ HB Row Rows2 Blk Facts
theorem pay_bills : billsE ctrC [0, 0, 3] ctrA = ([9, 27, 120], 0) := by kernel_rfl
theorem pay_worth : worthE ctrC [0, 0, 3] someA (1, 1, 1) = (8, 0) := by kernel_rfl
theorem pay_fill : fillE law_cards 5 = ([0, 1], 80, 0) := by kernel_rfl
theorem pay_sheets : sheetsE 100 12 4 = (3, 44, 0) := by kernel_rfl
theorem pay_found (g1 g2 : Nat) : foundE shopsC (shopsH g1 g2) [5, 9, 4, 7, 6, 9] [1, 2] 1 = ([2, 3], 11, 0) := by kernel_rfl
theorem ex_bills (x : Nat × Nat) : Meets Try.prog F.bold_Bills [saV ctrC (ctrP x.1) (ctrQ x.2)] { LI := saL (ctrP x.1) (ctrQ x.2), inv := fun y : OutC => 3 ≤ y.2, val := fun y => .tuple #[.slice y.1 3 y.2, int 0], LO := fun y => [Row y.1 (rows ([9, 27, 120] : List Int))] } := by
  have h := bold_Bills_meets ctrC (ctrP x.1) (ctrQ x.2) (show 3 ≤ 1000000 by decide) (show 3 ≤ 1000000 by decide)
  rw [show billsE ctrC (ctrP x.1).l (ctrQ x.2).l = ([9, 27, 120], 0) from pay_bills] at h
  exact h
theorem ex_worth (x : Nat × Nat) : Meets Try.prog F.bold_Worth [saV ctrC (ctrP x.1) (someQ x.2), adV (1, 1, 1)] { LI := saL (ctrP x.1) (someQ x.2), val := fun _ : Unit => .tuple #[int 8, int 0] } := by
  have h := bold_Worth_meets ctrC (ctrP x.1) (someQ x.2) (1, 1, 1) (show 3 ≤ 1000000 by decide) (show 2 ≤ 1000000 by decide) (Nat.le_refl 2)
  rw [show worthE ctrC (ctrP x.1).l (someQ x.2).l (1, 1, 1) = (8, 0) from pay_worth] at h
  exact h
theorem ex_fill (g : Nat) : Meets Try.prog F.bold_Fill [.slice (some ⟨g, 0, none⟩) 3 3, int 5] { LI := [Row (some ⟨g, 0, none⟩) (rows law_cards)], val := fun y : OutC => .tuple #[.slice y.1 2 y.2, int 80, int 0], LO := fun y => [Row y.1 (rows ([0, 1] : List Int))] } := by
  have h := bold_Fill_meets (A := some ⟨g, 0, none⟩) (ca := 3) law_cards 5 (by decide)
  rw [pay_fill] at h
  exact h
theorem ex_sheets : Meets Try.prog F.bold_Sheets [int 100, int 12, int 4] { val := fun _ : Unit => .tuple #[int 3, int 44, int 0] } := by
  have h := bold_Sheets_meets 100 12 4
  rw [pay_sheets] at h
  exact h
theorem ex_found (x : Nat × Nat × Nat × Nat) (g h : Nat) : Meets Try.prog F.bold_Found [.agg #[.slice (some ⟨x.1, 0, none⟩) 4 4, .slice (some ⟨x.2.1, 0, none⟩) 6 6], .slice (some ⟨g, 0, none⟩) 6 6, .slice (some ⟨h, 0, none⟩) 2 2, int 1] { LI := [Row (some ⟨x.1, 0, none⟩) (rows shopsC), RowsF (some ⟨x.2.1, 0, none⟩) (shopsH x.2.2.1 x.2.2.2) Hd.row, Row (some ⟨g, 0, none⟩) (rows ([5, 9, 4, 7, 6, 9] : List Int)), Row (some ⟨h, 0, none⟩) (rows ([1, 2] : List Int))], val := fun y : OutC => .tuple #[.slice y.1 2 y.2, int 11, int 0], LO := fun y => [Row y.1 (rows ([2, 3] : List Int))] } := by
  have h := bold_Found_meets (A := some ⟨x.1, 0, none⟩) (B := some ⟨x.2.1, 0, none⟩) (PA := some ⟨g, 0, none⟩) (WA := some ⟨h, 0, none⟩) (ca := 4) (cb := 6) (pc := 6) (wc := 2) shopsC (shopsH x.2.2.1 x.2.2.2) [5, 9, 4, 7, 6, 9] [1, 2] 1 (by decide) (Nat.le_refl 6) (by intro h hh; simp only [shopsH, List.mem_cons, List.not_mem_nil, or_false] at hh; rcases hh with rfl | rfl | rfl | rfl | rfl | rfl <;> first | decide | exact (show 1 ≤ 1000000 by decide)) (by decide) (by decide)
  rw [pay_found] at h
  exact h
theorem ex_ints3 {A B : Option Addr} {ca cb : Nat} : Meets Try.prog F.kit_EqInts [.slice A 3 ca, .slice B 3 cb] { LI := [Row A (rows ([9, 27, 120] : List Int)), Row B (rows ([9, 27, 120] : List Int))], val := fun _ : Unit => .bool true } := by
  have h := kit_EqInts_meets (A := A) (B := B) (ca := ca) (cb := cb) [9, 27, 120] [9, 27, 120] (by decide)
  rw [decide_eq_true rfl] at h
  exact h
theorem ex_ints2 {A B : Option Addr} {ca cb : Nat} (a b : Int) : Meets Try.prog F.kit_EqInts [.slice A 2 ca, .slice B 2 cb] { LI := [Row A (rows [a, b]), Row B (rows [a, b])], val := fun _ : Unit => .bool true } := by
  have h := kit_EqInts_meets (A := A) (B := B) (ca := ca) (cb := cb) [a, b] [a, b] (show 2 ≤ 9223372036854775806 by decide)
  rw [decide_eq_true rfl] at h
  exact h
set_option maxHeartbeats 1000000 in
theorem law09_paying_meets : Meets Try.prog F.law09_paying [] { val := fun _ : Unit => .bool true } := by
 refine meets_intro F.law09_paying_f rfl (Nat.le_of_ble_eq_true rfl) fun w0 => ?_
 refine hc_seq (hc_region (r_assign rfl rfl (hl_nil (then_n (hc_seq (hc_region ?_))))))
 refine hl_call F.law09_counter_cb rfl rfl (law09_counter_meets) (List.Perm.refl _) trivial fun x1 _ => ?_
 refine hl_call F.bold_Bills_cb rfl rfl (ex_bills x1) (List.Perm.refl _) ⟨mB, mB, trivial⟩ fun y1 _ => ?_
 refine r_move rfl rfl (r_extract rfl rfl rfl (r_extract rfl rfl rfl (r_assign rfl rfl (r_assign rfl rfl (hl_nil (then_n (hc_seq (hc_region ?_))))))))
 refine hl_call F.law09_some_cb rfl rfl (law09_some_meets) (List.Perm.refl _) trivial fun x2 _ => ?_
 refine r_build _ rfl rfl (fun _ => T.bd_api_Advert_0_1_2 ..) ?_
 refine hl_call F.bold_Worth_cb rfl rfl (ex_worth x2) (List.Perm.refl _) ⟨mB, mB, trivial⟩ fun _ _ => ?_
 refine r_move rfl rfl (r_extract rfl rfl rfl (r_extract rfl rfl rfl (r_assign rfl rfl (r_assign rfl rfl (hl_nil (then_n (hc_seq (hc_region ?_))))))))
 refine hl_call F.law09_cards_cb rfl rfl (law09_cards_meets) (List.Perm.refl _) trivial fun x3 _ => ?_
 refine hl_call F.bold_Fill_cb rfl rfl (ex_fill x3) (List.Perm.refl _) ⟨mB, trivial⟩ fun y3 _ => ?_
 refine r_move rfl rfl (r_extract rfl rfl rfl (r_extract rfl rfl rfl (r_extract rfl rfl rfl (r_assign rfl rfl (r_assign rfl rfl (r_assign rfl rfl (hl_nil (then_n (hc_seq (hc_region ?_))))))))))
 refine hl_call F.law09_shops_cb rfl rfl (law09_shops_meets) (List.Perm.refl _) trivial fun x4 _ => ?_
 refine hl_call F.law09_rates_cb rfl rfl (law09_rates_meets) (List.Perm.refl _) trivial fun x5 _ => ?_
 refine r_buildSlice _ rfl rfl (fun _ => T.bs_ints_2 ..) fun gw => ?_
 refine hl_letgo (rows ([1, 2] : List Int)) (List.prefix_refl _) ?_
 refine hl_call F.bold_Found_cb rfl rfl (ex_found x4 x5 gw) (List.Perm.refl _) ⟨mB, mB, mB, mB, trivial⟩ fun y4 _ => ?_
 refine r_move rfl rfl (r_extract rfl rfl rfl (r_extract rfl rfl rfl (r_extract rfl rfl rfl (r_assign rfl rfl (r_assign rfl rfl (r_assign rfl rfl (hl_nil (then_n (hc_seq (hc_region ?_))))))))))
 refine hl_call F.bold_Sheets_cb rfl rfl (ex_sheets) (List.Perm.refl _) trivial fun _ _ => ?_
 refine r_move rfl rfl (r_extract rfl rfl rfl (r_extract rfl rfl rfl (r_extract rfl rfl rfl (r_assign rfl rfl (r_assign rfl rfl (r_assign rfl rfl (hl_nil (then_n (hc_seq (hc_region (r_move rfl rfl ?_)))))))))))
 refine r_eql rfl rfl rfl (r_move rfl rfl ?_)
 refine g_split rfl rfl ?_ ?_
 ·intro hg1; have hg1' := hg1; try simp at hg1'
  refine g_yes rfl rfl hg1 (r_move rfl rfl (g_yes rfl rfl hg1 (r_eql rfl rfl rfl ?_)))
  refine p_t rfl rfl (bt1 hg1) rfl ?_
  refine r_move rfl rfl ?_
  refine g_split rfl rfl ?_ ?_
  ·intro hg2; have hg2' := hg2; try simp at hg2'
   refine g_yes rfl rfl hg2 (r_move rfl rfl (g_yes rfl rfl hg2 (r_eql rfl rfl rfl ?_)))
   refine p_t rfl rfl (bt1 hg2) rfl ?_
   refine r_move rfl rfl ?_
   refine g_split rfl rfl ?_ ?_
   ·intro hg3; have hg3' := hg3; try simp at hg3'
    refine g_yes rfl rfl hg3 (r_move rfl rfl (g_yes rfl rfl hg3 (r_eql rfl rfl rfl ?_)))
    refine p_t rfl rfl (bt1 hg3) rfl ?_
    refine r_move rfl rfl ?_
    refine g_split rfl rfl ?_ ?_
    ·intro hg4; have hg4' := hg4; try simp at hg4'
     refine g_yes rfl rfl hg4 (r_move rfl rfl (g_yes rfl rfl hg4 (r_eql rfl rfl rfl ?_)))
     refine p_t rfl rfl (bt1 hg4) rfl ?_
     refine r_move rfl rfl ?_
     refine g_split rfl rfl ?_ ?_
     ·intro hg5; have hg5' := hg5; try simp at hg5'
      refine g_yes rfl rfl hg5 (r_move rfl rfl (g_yes rfl rfl hg5 (r_eql rfl rfl rfl ?_)))
      refine p_t rfl rfl (bt1 hg5) rfl ?_
      refine r_move rfl rfl ?_
      refine g_split rfl rfl ?_ ?_
      ·intro hg6; have hg6' := hg6; try simp at hg6'
       refine g_yes rfl rfl hg6 (r_move rfl rfl (g_yes rfl rfl hg6 (r_eql rfl rfl rfl ?_)))
       refine p_t rfl rfl (bt1 hg6) rfl ?_
       refine r_move rfl rfl ?_
       refine g_split rfl rfl ?_ ?_
       ·intro hg7; have hg7' := hg7; try simp at hg7'
        refine g_yes rfl rfl hg7 (r_move rfl rfl (g_yes rfl rfl hg7 (r_eql rfl rfl rfl ?_)))
        refine p_t rfl rfl (bt1 hg7) rfl ?_
        refine r_move rfl rfl ?_
        refine g_split rfl rfl ?_ ?_
        ·intro hg8; have hg8' := hg8; try simp at hg8'
         refine g_yes rfl rfl hg8 (r_move rfl rfl (g_yes rfl rfl hg8 (r_eql rfl rfl rfl ?_)))
         refine p_t rfl rfl (bt1 hg8) rfl ?_
         refine r_move rfl rfl ?_
         refine g_split rfl rfl ?_ ?_
         ·intro hg9; have hg9' := hg9; try simp at hg9'
          refine g_yes rfl rfl hg9 (r_move rfl rfl (g_yes rfl rfl hg9 (r_eql rfl rfl rfl ?_)))
          refine p_t rfl rfl (bt1 hg9) rfl ?_
          refine r_move rfl rfl ?_
          refine g_split rfl rfl ?_ ?_
          ·intro hg10; have hg10' := hg10; try simp at hg10'
           refine g_yes rfl rfl hg10 (r_move rfl rfl (g_yes rfl rfl hg10 ?_))
           refine r_buildSlice _ rfl rfl (fun _ => T.bs_ints_3 ..) fun g40 => ?_
           refine hl_letgo (rows ([9, 27, 120] : List Int)) (List.prefix_refl _) ?_
           refine g_yes rfl rfl hg10 ?_
           refine hl_call F.kit_EqInts_cb rfl rfl (ex_ints3) (List.Perm.refl _) ⟨mB, mB, trivial⟩ fun _ _ => ?_
           refine p_t rfl rfl (bt1 hg10) rfl ?_
           refine r_move rfl rfl ?_
           refine g_split rfl rfl ?_ ?_
           ·intro hg11; have hg11' := hg11; try simp at hg11'
            refine g_yes rfl rfl hg11 (r_move rfl rfl (g_yes rfl rfl hg11 ?_))
            refine r_buildSlice _ rfl rfl (fun _ => T.bs_ints_2 ..) fun g45 => ?_
            refine hl_letgo (rows ([0, 1] : List Int)) (List.prefix_refl _) ?_
            refine g_yes rfl rfl hg11 ?_
            refine hl_call F.kit_EqInts_cb rfl rfl (ex_ints2 0 1) (List.Perm.refl _) ⟨mB, mB, trivial⟩ fun _ _ => ?_
            refine p_t rfl rfl (bt1 hg11) rfl ?_
            refine r_move rfl rfl ?_
            refine g_split rfl rfl ?_ ?_
            ·intro hg12; have hg12' := hg12; try simp at hg12'
             refine g_yes rfl rfl hg12 (r_move rfl rfl (g_yes rfl rfl hg12 ?_))
             refine r_buildSlice _ rfl rfl (fun _ => T.bs_ints_2 ..) fun g50 => ?_
             refine hl_letgo (rows ([2, 3] : List Int)) (List.prefix_refl _) ?_
             refine g_yes rfl rfl hg12 ?_
             refine hl_call F.kit_EqInts_cb rfl rfl (ex_ints2 2 3) (List.Perm.refl _) ⟨mB, mB, trivial⟩ fun _ _ => ?_
             refine p_t rfl rfl (bt1 hg12) rfl ?_
             refine r_assign rfl rfl (hl_nil (then_n (hc_ret ?_)))
             exact ret1 () rfl rfl rfl trivial (List.nil_sublist _) trivial
            ·intro hg12; have hg12' := hg12; try simp at hg12'
           ·intro hg11; have hg11' := hg11; try simp at hg11'
          ·intro hg10; have hg10' := hg10; try simp at hg10'
         ·intro hg9; have hg9' := hg9; try simp at hg9'
        ·intro hg8; have hg8' := hg8; try simp at hg8'
       ·intro hg7; have hg7' := hg7; try simp at hg7'
      ·intro hg6; have hg6' := hg6; try simp at hg6'
     ·intro hg5; have hg5' := hg5; try simp at hg5'
    ·intro hg4; have hg4' := hg4; try simp at hg4'
   ·intro hg3; have hg3' := hg3; try simp at hg3'
  ·intro hg2; have hg2' := hg2; try simp at hg2'
 ·intro hg1; have hg1' := hg1; try simp at hg1'
end Go.Proofs.Ytdlbbfcfahahdaa
end
section
namespace Go.Proofs.Ytdlbbfcfahahdaa
open Go Go.W
set_option linter.unusedVariables false
set_option linter.unusedSimpArgs false
set_option maxRecDepth 20000
attribute [local irreducible] HL HC HQ HB Row Rows2 Blk Facts
theorem to_bd {m z : Int} (h : ToInv m z) (hm : 0 ≤ m) : 0 ≤ z ∧ z ≤ m := by
  simp only [ToInv] at h
  refine ⟨h.1, ?_⟩
  by_cases h1 : 1 ≤ m
  · exact h.2.1 h1
  · have := h.2.2 (by omega); omega
theorem from_bd {lo hi z : Int} (h : FromInv lo hi z) (hm : lo ≤ hi) : lo ≤ z ∧ z ≤ hi := by
  simp only [FromInv] at h
  refine ⟨h.1, ?_⟩
  by_cases h1 : lo < hi
  · exact h.2.1 h1
  · have := h.2.2 (by omega); omega
theorem forall_snoc {α : Type} {p : α → Prop} {l : List α} {x : α} (h : ∀ y ∈ l, p y) (hx : p x) : ∀ y ∈ l ++ [x], p y := fun y hy => (List.mem_append.1 hy).elim (h y) fun hy => by rw [List.mem_singleton.1 hy]; exact hx
theorem kit_Dice_One_meets {g : Nat} {A B : Option Addr} {c cb : Nat} {nums : List Int} {s : Int × Int} (l : List Int) (hn : nums.length ≤ 9223372036854775807) (hs : DOK nums s) (hl : 0 < l.length) (hl2 : l.length ≤ 1000) :
    Meets Try.prog F.kit_Dice_One [.pointer (some ⟨g, 0, none⟩), .slice B l.length cb] { diceCon g A c nums s (fun x : Int => x ∈ l) (fun z => int z) (fun _ => []) with LI := [Row A (rows nums), Row B (rows l)] } := by
 refine meets_intro F.kit_Dice_One_f rfl (Nat.le_of_ble_eq_true rfl) fun w0 => ?_
 refine hc_seq (hc_region (r_assign rfl rfl (hl_nil (then_n (hc_seq (hc_region (r_move rfl rfl (r_move rfl rfl (r_move rfl rfl ?_)))))))))
 refine r_len_sl rfl T.u_ints rfl ?_
 refine r_sub _ rfl rfl rfl rfl (by unfold I64; omega) ?_
 refine hl_call F.kit_Dice_To_cb rfl rfl (kit_Dice_To_meets ((l.length : Int) - 1) hn hs (by omega)) (List.Perm.refl _) ⟨mB, trivial⟩ fun xs1 hs1 => ?_
 obtain ⟨s1, z⟩ := xs1
 obtain ⟨hs1, hz⟩ := hs1
 simp only at hs1
 have hz := to_bd hz (by omega)
 obtain ⟨zn, rfl⟩ := Int.eq_ofNat_of_zero_le hz.1
 have hzl : zn < l.length := by omega
 refine r_elem (α := Int) _ _ rfl T.u_ints T.sz_int rfl rfl rfl mB rfl (by omega) (by decide) ?_
 refine r_load rfl T.cell_int rfl (cell_row mB (rows_get0 (by omega) rfl)) ?_
 refine r_assign rfl rfl (hl_nil (then_n (hc_ret ?_)))
 exact ret1 (s1, l.getD zn default) rfl rfl rfl ⟨hs1, getD_mem hzl⟩ (.refl _) trivial
theorem kit_CardsOf_meets {g : Nat} {A : Option Addr} {c : Nat} {nums : List Int} {s : Int × Int} (most : Nat) (hn : nums.length ≤ 9223372036854775807) (hs : DOK nums s) (hm : most ≤ 100) :
    Meets Try.prog F.kit_CardsOf [.pointer (some ⟨g, 0, none⟩), int most] (diceCon g A c nums s (fun x : List Cd × OutC => x.1.length ≤ most ∧ (∀ y ∈ x.1, (1 ≤ y.1 ∧ y.1 ≤ 9) ∧ (0 ≤ y.2 ∧ y.2 ≤ 90)) ∧ x.1.length ≤ x.2.2) (fun x => .slice x.2.1 x.1.length x.2.2) (fun x => [Row x.2.1 (rows x.1)])) := by
 refine meets_intro F.kit_CardsOf_f rfl (Nat.le_of_ble_eq_true rfl) fun w0 => ?_
 refine hc_seq (hc_region (r_assign rfl rfl (hl_nil (then_n (hc_seq (hc_region (r_assign rfl rfl (hl_nil (then_n (hc_seq (hc_seq ?_)))))))))))
 refine hc_region (r_move rfl rfl (r_move rfl rfl ?_))
 refine hl_call F.kit_Dice_To_cb rfl rfl (kit_Dice_To_meets (most) hn hs (by omega)) (List.Perm.refl _) ⟨mB, trivial⟩ fun xs1 hs1 => ?_
 obtain ⟨s1, zn⟩ := xs1
 obtain ⟨hs1, hzn⟩ := hs1
 simp only at hs1
 have hzn : 0 ≤ zn ∧ zn ≤ most := to_bd hzn (by omega)
 obtain ⟨zn, rfl⟩ := Int.eq_ofNat_of_zero_le hzn.1
 refine r_assign rfl rfl (hl_nil (then_n (hc_block ?_)))
 refine hc_loop (β := List Cd × OutC × Hp × Nat × (Int × Int)) ⟨fun ⟨l, o, og, i, s⟩ => Grow T.api_Card 2 o.1 l.length o.2 (rows l) og ∧ l.length + i ≤ most ∧ (∀ y ∈ l, (1 ≤ y.1 ∧ y.1 ≤ 9) ∧ (0 ≤ y.2 ∧ y.2 ≤ 90)) ∧ DOK nums s, fun ⟨l, o, og, i, s⟩ => [(0, .pointer (some ⟨g, 0, none⟩)), (5, .slice o.1 l.length o.2), (6, int i)], fun ⟨l, o, og, i, s⟩ => og ++ [dice g A c nums s], fun _ => [Row A (rows nums)]⟩ (fun ⟨l, o, og, i, s⟩ => i) ([], (none, 0), [], zn, s1) ⟨Grow.nil _ _, by rw [List.length_nil]; omega, by intro s h; simp at h, hs1⟩ ⟨rfl, rfl, rfl, trivial⟩ (.refl _) ⟨mB, trivial⟩ fun z hz => ?_
 obtain ⟨l, o, og, i, s⟩ := z
 obtain ⟨hG, hli, hok, hs⟩ := hz
 refine hc_seq (hc_seq (hc_region (r_move rfl rfl (r_gtr rfl rfl rfl (hl_nil (then_n ?_))))))
 first | refine c_dec rfl (fun hb1 => ?_) (fun hb1 => ?_) | refine hc_cond rfl (fun hb1 => ?_) (fun hb1 => ?_)
 ·have hb1' := hb1; try simp at hb1'
  have hi0 : 0 < i := by omega
  refine hc_skip (then_n (hc_seq (hc_block (hc_region (r_move rfl rfl (r_move rfl rfl ?_))))))
  refine hl_call F.kit_Dice_From_cb rfl rfl (kit_Dice_From_meets (1) (9) hn hs (by omega)) (List.perm_append_comm) ⟨mB, trivial⟩ fun xs2 hs2 => ?_
  obtain ⟨s2, z2⟩ := xs2
  obtain ⟨hs2, hz2⟩ := hs2
  simp only at hs2
  have hz2 : 1 ≤ z2 ∧ z2 ≤ 9 := from_bd hz2 (by omega)
  refine r_move rfl rfl (r_move rfl rfl ?_)
  refine hl_call F.kit_Dice_To_cb rfl rfl (kit_Dice_To_meets (30) hn hs2 (by omega)) (List.Perm.refl _) ⟨mB, trivial⟩ fun xs3 hs3 => ?_
  obtain ⟨s3, z3⟩ := xs3
  obtain ⟨hs3, hz3⟩ := hs3
  simp only at hs3
  have hz3 : 0 ≤ z3 ∧ z3 ≤ 30 := to_bd hz3 (by omega)
  refine r_move rfl rfl ?_
  refine hl_call F.kit_Dice_To_cb rfl rfl (kit_Dice_To_meets (90) hn hs3 (by omega)) (List.Perm.refl _) ⟨mB, trivial⟩ fun xs4 hs4 => ?_
  obtain ⟨s4, z4⟩ := xs4
  obtain ⟨hs4, hz4⟩ := hs4
  simp only at hs4
  have hz4 : 0 ≤ z4 ∧ z4 ≤ 90 := to_bd hz4 (by omega)
  refine r_buildSlice _ rfl rfl (fun _ => T.bs_ints_4 ..) fun gS => ?_
  refine hl_letgo (rows ([0, 10, z3, z4] : List Int)) (List.prefix_refl _) ?_
  refine hl_call F.kit_Dice_One_cb rfl rfl (kit_Dice_One_meets ([0, 10, z3, z4]) hn hs4 (show 0 < 4 by decide) (show 4 ≤ 1000 by decide)) (List.Perm.refl _) ⟨mB, mB, trivial⟩ fun xs5 hs5 => ?_
  obtain ⟨s5, z5⟩ := xs5
  obtain ⟨hs5, hz5⟩ := hs5
  simp only at hs5
  have hz5 : 0 ≤ z5 ∧ z5 ≤ 90 := by
    have hm := hz5
    simp only [List.mem_cons, List.not_mem_nil, or_false] at hm; rcases hm with rfl | rfl | rfl | rfl <;> omega
  refine r_build _ rfl rfl (fun _ => T.bd_api_Card_0_1 ..) ?_
  refine r_buildSlice _ rfl rfl (fun _ => T.bs_L_api_Card_1 ..) fun gS => ?_
  refine hl_letgo (rows [((z2, z5) : Cd)]) (List.prefix_refl _) ?_
  refine r_append (hp' := [dice g A c nums s5]) (l.length + 1) (rows (l ++ [((z2, z5) : Cd)])) T.el_L_api_Card rfl rfl rfl hG (show List.Perm (dice g A c nums s5 :: og) (og ++ [dice g A c nums s5]) from (perm_of fun p => by simp only [List.countP_append, List.countP_cons, List.countP_nil]; omega)) (Src.row (news := rows [((z2, z5) : Cd)]) (m := 1) mB rfl (rows_one _) (by decide)) rfl (rows_append _ _).symm (by unfold maxLen; omega) (by omega) fun A4 c4 og4 hG4 => ?_
  refine r_assign rfl rfl (hl_nil (inb_n (then_n (hc_region (r_move rfl rfl ?_)))))
  refine r_sub ((i - 1 : Nat) : Int) rfl rfl rfl (by omega) (by unfold I64; omega) ?_
  refine r_assign rfl rfl (hl_nil ?_)
  have e1 : (l ++ [((z2, z5) : Cd)]).length = l.length + 1 := List.length_append
  exact again _ (l ++ [((z2, z5) : Cd)], (A4, c4), og4, i - 1, s5) ⟨by show Grow _ _ _ (l ++ [_]).length _ _ _; rw [e1]; exact hG4, by rw [e1]; omega, forall_snoc hok ⟨hz2, hz5⟩, hs5⟩ (by show i - 1 < i; omega) ⟨rfl, by rw [e1]; rfl, rfl, trivial⟩ (.refl _) ⟨mB, trivial⟩
 ·have hb1' := hb1; try simp at hb1'
  refine hc_exit (then_exit (then_exit (inb_hit (then_n (hc_seq (hc_region (r_move rfl rfl (r_assign rfl rfl (hl_nil (then_n (hc_ret ?_)))))))))))
  refine hq_grown hG ?_
  exact ret1 (s, l, o) rfl rfl rfl ⟨hs, by show l.length ≤ most; omega, hok, hG.le⟩ (.refl _) ⟨m0, trivial⟩
end Go.Proofs.Ytdlbbfcfahahdaa
end
section
namespace Go.W
open Go Go.RowKit
set_option linter.unusedVariables false
set_option linter.unusedSimpArgs false
end Go.W
end
section
namespace Go.Proofs.Ytdlbbfcfahahdaa
open Go Go.W
set_option linter.unusedVariables false
set_option linter.unusedSimpArgs false
set_option maxRecDepth 20000
attribute [local irreducible] HL HC HQ HB Row Rows2 Blk Facts
abbrev lsts (ps : List (Sl Int)) : List (List Int) := ps.map (·.l)
theorem lsts_len (ps : List (Sl Int)) : (lsts ps).length = ps.length := List.length_map ..
theorem lsts_at (ps : List (Sl Int)) {k : Nat} (hk : k < ps.length) : (lsts ps).getD k [] = (ps.getD k default).l := by
  rw [getD_at hk]
  simp [List.getD_eq_getElem?_getD, hk]
theorem combos_none {α : Type} : ∀ (k : Nat) (l : List α), l.length < k → combos k l = []
  | 0, l, h => by omega
  | k + 1, [], _ => rfl
  | k + 1, x :: l, h => by
    rw [List.length_cons] at h
    rw [combos, combos_none k l (by omega), combos_none (k + 1) l (by omega)]
    rfl
abbrev OutSL := List (Sl Int) × OutC
def upI (f n : Nat) : List Int := (List.range' f (n - f)).map fun i : Nat => (i : Int)
theorem upI_len (f n : Nat) : (upI f n).length = n - f := by rw [upI, List.length_map, List.length_range']
theorem upI_cons {f n : Nat} (h : f < n) : upI f n = (f : Int) :: upI (f + 1) n := by
  obtain ⟨k, e⟩ : ∃ k, n - f = k + 1 := ⟨n - f - 1, by omega⟩
  have e2 : n - (f + 1) = k := by omega
  unfold upI
  rw [e, e2, List.range'_succ]
  rfl
theorem combos_pow {α : Type} : ∀ (l : List α) (k : Nat), (combos k l).length ≤ 2 ^ l.length
  | l, 0 => by
    rw [combos]
    exact Nat.one_le_two_pow
  | [], k + 1 => Nat.zero_le _
  | x :: l, k + 1 => by
    have h1 := combos_pow l k
    have h2 := combos_pow l (k + 1)
    rw [combos, List.length_append, List.length_map, List.length_cons, Nat.pow_succ]
    omega
theorem combos_size {α : Type} : ∀ {k : Nat} {l c : List α}, c ∈ combos k l → c.length = k
  | 0, l, c, h => by
    rw [combos, List.mem_singleton] at h
    rw [h]
    rfl
  | k + 1, [], c, h => by rw [combos] at h; cases h
  | k + 1, x :: l, c, h => by
    rw [combos, List.mem_append] at h
    rcases h with h | h
    · obtain ⟨d, hd, rfl⟩ := List.mem_map.1 h
      rw [List.length_cons, combos_size hd]
    · exact combos_size h
theorem combos_sub {α : Type} : ∀ {k : Nat} {l c : List α}, c ∈ combos k l → c.Sublist l
  | 0, l, c, h => by
    rw [combos, List.mem_singleton] at h
    rw [h]
    exact List.nil_sublist _
  | k + 1, [], c, h => by rw [combos] at h; cases h
  | k + 1, x :: l, c, h => by
    rw [combos, List.mem_append] at h
    rcases h with h | h
    · obtain ⟨d, hd, rfl⟩ := List.mem_map.1 h
      exact List.Sublist.cons_cons _ (combos_sub hd)
    · exact List.Sublist.cons _ (combos_sub h)
def subK (m f n k : Nat) : List (List Int) := ((List.range' f (k - f)).map fun i : Nat => (combos m (upI (i + 1) n)).map ((i : Int) :: ·)).flatten
theorem subK_succ {m f n k : Nat} (h : f ≤ k) : subK m f n (k + 1) = subK m f n k ++ (combos m (upI (k + 1) n)).map ((k : Int) :: ·) := by
  have e : k + 1 - f = (k - f) + 1 := by omega
  unfold subK
  rw [e, List.range'_1_concat, List.map_append, List.flatten_append, show f + (k - f) = k by omega]
  simp
theorem subK_cut {m n : Nat} : ∀ (d f k : Nat), k - f = d → f ≤ k → k ≤ n → combos (m + 1) (upI f n) = subK m f n k ++ combos (m + 1) (upI k n)
  | 0, f, k, hd, h, _ => by
    obtain rfl : f = k := by omega
    unfold subK
    rw [Nat.sub_self]
    rfl
  | d + 1, f, k, hd, h, hk => by
    rw [subK_cut d f (k - 1) (by omega) (by omega) (by omega)]
    obtain ⟨j, rfl⟩ : ∃ j, k = j + 1 := ⟨k - 1, by omega⟩
    rw [Nat.add_sub_cancel, subK_succ (by omega), upI_cons (show j < n by omega), combos, List.append_assoc]
theorem subK_end {m f n k : Nat} (h : f ≤ k) (hk : k ≤ n) (hn : n < k + (m + 1)) : combos (m + 1) (upI f n) = subK m f n k := by
  rw [subK_cut _ f k rfl h hk, combos_none (m + 1) (upI k n) (by rw [upI_len]; omega), List.append_nil]
theorem subK_len {m f n k : Nat} (h : f ≤ k) (hk : k ≤ n) (hn : n ≤ 16) : (subK m f n k).length ≤ 65536 := by
  have h1 := combos_pow (upI f n) (m + 1)
  rw [subK_cut _ f k rfl h hk, List.length_append, upI_len] at h1
  have h2 : 2 ^ (n - f) ≤ 2 ^ 16 := Nat.pow_le_pow_right (by decide) (by omega)
  omega
set_option maxHeartbeats 1000000 in
theorem kit_subsets_meets (n : Nat) (hn16 : n ≤ 16) : ∀ (many f : Nat), f ≤ n → many ≤ 20 → Meets Try.prog F.kit_subsets [int (f : Int), int (n : Int), int (many : Int)] { inv := fun x : OutSL => lsts x.1 = combos many (upI f n), val := fun x => .slice x.2.1 x.1.length x.2.2, LO := fun x => [Rows2 x.2.1 x.1] } := by
 intro many
 induction many using Nat.strongRecOn
 rename_i many ih
 intro f hf hm20
 refine meets_intro F.kit_subsets_f rfl (Nat.le_of_ble_eq_true rfl) fun w0 => ?_
 refine hc_seq (hc_region (r_assign rfl rfl (hl_nil (then_n (hc_seq (hc_seq (hc_region (r_move rfl rfl (r_eql rfl rfl rfl (hl_nil (then_n ?_)))))))))))
 first | refine c_dec rfl (fun hb1 => ?_) (fun hb1 => ?_) | refine hc_cond rfl (fun hb1 => ?_) (fun hb1 => ?_)
 ·have hb1' := hb1; try simp at hb1'
  obtain rfl : many = 0 := by omega
  refine hc_seq (hc_region ?_)
  refine r_buildSlice _ rfl rfl (fun _ => T.bs_intss_1 ..) fun gS => ?_
  refine r_assign rfl rfl (hl_nil (then_n (hc_ret (then_ret ?_))))
  refine hq_letgo (rows [(⟨none, 0, []⟩ : Sl Int)]) (List.prefix_refl _) ?_
  refine hq_nilrow (α := Int) ?_
  refine hq_rows2 (A := some ⟨gS, 0, none⟩) (ps := [(⟨none, 0, []⟩ : Sl Int)]) mB (by intro p hp; rw [List.mem_singleton.1 hp]; exact mB) ?_
  exact ret1 ([(⟨none, 0, []⟩ : Sl Int)], (some ⟨gS, 0, none⟩, 1)) rfl rfl rfl (by show lsts [(⟨none, 0, []⟩ : Sl Int)] = _; rw [combos]; rfl) (List.nil_sublist _) ⟨m0, trivial⟩
 ·have hb1' := hb1; try simp at hb1'
  obtain ⟨m, rfl⟩ : ∃ q, many = q + 1 := ⟨many - 1, by omega⟩
  refine hc_skip (then_n (hc_seq (hc_region (r_assign rfl rfl (hl_nil (then_n (hc_seq (hc_seq (hc_region (r_move rfl rfl (r_assign rfl rfl ?_)))))))))))
  refine hl_nil (then_n (hc_block ?_))
  refine hc_facts (Fs := ([] : List (Sl Int)).map (fun p : Sl Int => Row p.a (rows p.l))) (by intro F hF; simp at hF) ?_
  refine hc_loop (β := Nat × List (Sl Int) × OutC × Hp) ⟨fun x => f ≤ x.1 ∧ x.1 ≤ n ∧ Grow T.ints 1 x.2.2.1.1 x.2.1.length x.2.2.1.2 (rows x.2.1) x.2.2.2 ∧ lsts x.2.1 = subK m f n x.1, fun x => [(1, int (n : Int)), (2, int ((m + 1 : Nat) : Int)), (7, .slice x.2.2.1.1 x.2.1.length x.2.2.1.2), (8, int x.1)], fun x => x.2.2.2, fun x => [innersF x.2.1 (fun p : Sl Int => Row p.a (rows p.l))]⟩ (fun x => n + 1 - x.1) (f, [], (none, 0), []) ⟨Nat.le_refl _, hf, Grow.nil _ _, by show [] = subK m f n f; unfold subK; rw [Nat.sub_self]; rfl⟩ ⟨rfl, rfl, rfl, rfl, trivial⟩ (List.nil_sublist _) ⟨mB, trivial⟩ fun x hx => ?_
  obtain ⟨i, ps, ⟨na, nc⟩, og⟩ := x
  obtain ⟨hif, hi, hG, hps⟩ := hx
  simp only at hif hi hG hps
  refine hc_seq (hc_seq (hc_region (r_move rfl rfl (r_move rfl rfl ?_))))
  refine r_add ((i + (m + 1) : Nat) : Int) rfl rfl rfl (by show (i : Int) + ((m + 1 : Nat) : Int) = ((i + (m + 1) : Nat) : Int); omega) (by unfold I64; omega) ?_
  refine r_move rfl rfl (r_leq rfl rfl rfl (hl_nil (then_n ?_)))
  first | refine c_dec rfl (fun hb2 => ?_) (fun hb2 => ?_) | refine hc_cond rfl (fun hb2 => ?_) (fun hb2 => ?_)
  ·have hb2' := hb2; try simp at hb2'
   have hi2 : i + (m + 1) ≤ n := by omega
   refine hc_skip (then_n (hc_seq (hc_block (hc_seq (hc_region (r_move rfl rfl ?_))))))
   refine r_add ((i + 1 : Nat) : Int) rfl rfl rfl (by show (i : Int) + 1 = ((i + 1 : Nat) : Int); omega) (by unfold I64; omega) ?_
   refine r_move rfl rfl (r_move rfl rfl ?_)
   refine r_sub ((m : Nat) : Int) rfl rfl rfl (by show ((m + 1 : Nat) : Int) - 1 = (m : Int); omega) (by unfold I64; omega) ?_
   refine hl_call F.kit_subsets_cb rfl rfl (ih m (by omega) (i + 1) (by omega) (by omega)) (hpR := og) (List.Perm.refl _) trivial fun y hy => ?_
   refine r_assign rfl rfl (hl_nil (then_n (hc_seq (hc_region (r_assign rfl rfl (hl_nil (then_n (hc_block ?_))))))))
   have hyl : y.1.length = (combos m (upI (i + 1) n)).length := by have h9 := congrArg List.length hy; rw [lsts_len] at h9; exact h9
   have hyat : ∀ k, k < y.1.length → (y.1.getD k default).l = (combos m (upI (i + 1) n)).getD k default := fun k hk => by rw [← lsts_at y.1 hk, show lsts y.1 = _ from hy]; rfl
   have hsn := subK_succ (m := m) (n := n) hif
   have hsl := subK_len (m := m) (n := n) (show f ≤ i + 1 by omega) (by omega) hn16
   rw [hsn, List.length_append, List.length_map] at hsl
   refine hc_loop (β := Nat × List (Sl Int) × OutC × Hp) ⟨fun x => x.1 ≤ y.1.length ∧ Grow T.ints 1 x.2.2.1.1 x.2.1.length x.2.2.1.2 (rows x.2.1) x.2.2.2 ∧ lsts x.2.1 = subK m f n i ++ (((combos m (upI (i + 1) n)).take x.1).map ((i : Int) :: ·)), fun x => [(1, int (n : Int)), (2, int ((m + 1 : Nat) : Int)), (7, .slice x.2.2.1.1 x.2.1.length x.2.2.1.2), (8, int i), (9, .slice y.2.1 y.1.length y.2.2), (10, int x.1)], fun x => x.2.2.2, fun x => [innersF x.2.1 (fun p : Sl Int => Row p.a (rows p.l)), Rows2 y.2.1 y.1]⟩ (fun x => y.1.length - x.1) (0, ps, (na, nc), og) ⟨Nat.zero_le _, hG, by show lsts ps = _; rw [hps, List.take_zero, List.map_nil, List.append_nil]⟩ ⟨rfl, rfl, rfl, rfl, rfl, rfl, trivial⟩ (List.Sublist.refl _) ⟨mB, mB, trivial⟩ fun x hx => ?_
   clear hG hps
   obtain ⟨k, ps, ⟨na, nc⟩, og⟩ := x
   obtain ⟨hk, hG, hps⟩ := hx
   simp only at hk hG hps
   have hpl : ps.length ≤ 65536 := by have h9 := congrArg List.length hps; rw [lsts_len, List.length_append, List.length_map, List.length_take] at h9; omega
   refine hc_seq (hc_seq (hc_region (r_move rfl rfl (r_move rfl rfl ?_))))
   refine r_len_sl rfl T.u_intss rfl ?_
   refine r_lss rfl rfl rfl (hl_nil (then_n ?_))
   first | refine c_dec rfl (fun hb3 => ?_) (fun hb3 => ?_) | refine hc_cond rfl (fun hb3 => ?_) (fun hb3 => ?_)
   ·have hb3' := hb3; try simp at hb3'
    have hk2 : k < y.1.length := by omega
    have hyk := hyat k hk2
    have hyc : (y.1.getD k default).l.length = m := by rw [hyk]; exact combos_size (getD_mem (by omega))
    refine hc_skip (then_n (hc_seq (hc_block (hc_region (r_move rfl rfl (r_move rfl rfl ?_))))))
    refine r_buildSlice _ rfl rfl (fun _ => T.bs_ints_1 ..) fun gS => ?_
    refine r_move rfl rfl (r_move rfl rfl ?_)
    refine hl_outer (A := y.2.1) (ps := y.1) mB ?_
    refine r_elem (α := Sl Int) y.1 k rfl T.u_intss T.sz_ints rfl rfl rfl mB rfl hk2 (by decide) ?_
    refine r_load (v := .slice (y.1.getD k default).a (y.1.getD k default).l.length (y.1.getD k default).c) rfl T.cell_ints rfl (cell_row mB (rows_get0 hk2 rfl)) ?_
    refine hl_inner (A := y.2.1) (ps := y.1) (p := (y.1.getD k default)) mB (getD_mem hk2) ?_
    refine r_append (hp' := og) ((y.1.getD k default).l.length + 1) (rows ((i : Int) :: (y.1.getD k default).l)) T.el_ints rfl rfl rfl (Grow.new (cs := #[int (i : Int)]) (n := 1) rfl (by decide)) (List.Perm.refl _) (Src.row mB (rows_len (y.1.getD k default).l) (rows_one (y.1.getD k default).l) (by decide)) (Nat.add_comm _ _) rfl (by unfold maxLen; omega) (by omega) fun A' c' og' hG' => ?_
    refine hl_grown hG' ?_
    refine r_buildSlice _ rfl rfl (fun _ => T.bs_intss_1 ..) fun gS2 => ?_
    refine hl_letgo (rows [(⟨A', c', (i : Int) :: (y.1.getD k default).l⟩ : Sl Int)]) (List.prefix_refl _) ?_
    refine r_append (ps.length + 1) (rows (ps ++ [(⟨A', c', (i : Int) :: (y.1.getD k default).l⟩ : Sl Int)])) T.el_intss rfl rfl rfl hG (hp' := []) (by first | (rw [List.append_nil]; done) | (rw [List.append_nil]; exact List.Perm.refl _)) (Src.row (news := rows [(⟨A', c', (i : Int) :: (y.1.getD k default).l⟩ : Sl Int)]) (m := 1) m0 rfl (rows_one _) (by decide)) rfl (rows_append _ _).symm (by unfold maxLen; omega) (by omega) fun A2 c2 og2 hG2 => ?_
    refine r_assign rfl rfl (hl_nil (inb_n (then_n (hc_region (r_move rfl rfl ?_)))))
    refine r_add _ rfl rfl rfl rfl (by unfold I64; omega) ?_
    refine r_assign rfl rfl (hl_nil ?_)
    refine hq_facts (innerF_snoc (ps := ps) (f := (fun p : Sl Int => Row p.a (rows p.l))) (p := (⟨A', c', (i : Int) :: (y.1.getD k default).l⟩ : Sl Int)) mB mB) ?_
    exact again _ (k + 1, ps ++ [(⟨A', c', (i : Int) :: (y.1.getD k default).l⟩ : Sl Int)], (A2, c2), og2) ⟨by show k + 1 ≤ y.1.length; omega, by show Grow _ _ _ (ps ++ [_]).length _ _ _; rw [List.length_append]; exact hG2, by show lsts (ps ++ [_]) = _ ++ (((combos m (upI (i + 1) n)).take (k + 1)).map ((i : Int) :: ·)); rw [take_succ_getD _ k (by omega), List.map_append, ← List.append_assoc, ← hps, lsts, List.map_append, ← hyk]; rfl⟩ (by show y.1.length - (k + 1) < y.1.length - k; omega) ⟨rfl, rfl, by show some (Value.slice A2 (ps.length + 1) c2) = some (Value.slice A2 (ps ++ [_]).length c2); rw [List.length_append]; rfl, rfl, rfl, rfl, trivial⟩ (by first | exact List.Sublist.refl _ | (rw [List.append_nil]; exact List.Sublist.refl _)) ⟨mB, mB, trivial⟩
   ·have hb3' := hb3; try simp at hb3'
    obtain rfl : k = y.1.length := by omega
    rw [hyl, List.take_length, ← hsn] at hps
    refine hc_exit (then_exit (then_exit (inb_hit (inb_n (then_n (hc_region (r_move rfl rfl ?_)))))))
    refine r_add _ rfl rfl rfl rfl (by unfold I64; omega) ?_
    refine r_assign rfl rfl (hl_nil ?_)
    exact again _ (i + 1, ps, (na, nc), og) ⟨by show f ≤ i + 1; omega, by show i + 1 ≤ n; omega, hG, hps⟩ (by show n + 1 - (i + 1) < n + 1 - i; omega) ⟨rfl, rfl, rfl, rfl, trivial⟩ (List.Sublist.refl _) ⟨mB, trivial⟩
  ·have hb2' := hb2; try simp at hb2'
   have hi2 : n < i + (m + 1) := by omega
   refine hc_exit (then_exit (then_exit (inb_hit (then_n (hc_seq (hc_region (r_move rfl rfl (r_assign rfl rfl (hl_nil (then_n (hc_ret ?_)))))))))))
   refine hq_grown0 hG ?_
   refine hq_rows2F (A := na) (ps := ps) mB mB ?_
   exact ret1 (ps, (na, nc)) rfl rfl rfl (by show lsts ps = _; rw [subK_end hif hi hi2]; exact hps) (List.nil_sublist _) ⟨m0, trivial⟩
theorem kit_Subsets_meets (n many : Nat) (hn16 : n ≤ 16) (hm20 : many ≤ 20) : Meets Try.prog F.kit_Subsets [int (n : Int), int (many : Int)] { inv := fun x : OutSL => lsts x.1 = combos many (upI 0 n), val := fun x => .slice x.2.1 x.1.length x.2.2, LO := fun x => [Rows2 x.2.1 x.1] } := by
 refine meets_intro F.kit_Subsets_f rfl (Nat.le_of_ble_eq_true rfl) fun w0 => ?_
 refine hc_seq (hc_region (r_assign rfl rfl (hl_nil (then_n (hc_seq (hc_region (r_move rfl rfl (r_move rfl rfl ?_))))))))
 refine hl_call F.kit_subsets_cb rfl rfl (kit_subsets_meets n hn16 many 0 (by omega) hm20) (hpR := []) (List.Perm.refl _) trivial fun y hy => ?_
 refine r_assign rfl rfl (hl_nil (then_n (hc_ret ?_)))
 exact ret1 y rfl rfl rfl hy (List.nil_sublist _) ⟨m0, trivial⟩
theorem combos_mem {α : Type} : ∀ {c l : List α}, c.Sublist l → c ∈ combos c.length l
  | [], l, _ => by
    show [] ∈ combos 0 l
    rw [combos]; exact List.mem_singleton.2 rfl
  | x :: c, l, h => by
    induction l with
    | nil => cases h
    | cons y l ih =>
      show x :: c ∈ combos (c.length + 1) (y :: l)
      rw [combos, List.mem_append]
      cases h with
      | cons _ h => exact .inr (ih h)
      | cons_cons _ h => exact .inl (List.mem_map.2 ⟨c, combos_mem h, rfl⟩)
theorem upI_snoc (n : Nat) : upI 0 (n + 1) = upI 0 n ++ [(n : Int)] := by
  unfold upI
  rw [Nat.sub_zero, Nat.sub_zero, ← List.range_eq_range', ← List.range_eq_range', List.range_succ, List.map_append]; rfl
theorem pick_sub (s : Nat) : ∀ n, (pickK s n).Sublist (upI 0 n)
  | 0 => .refl _
  | n + 1 => by
    rw [pickK_succ, upI_snoc]
    split
    · exact (pick_sub s n).append (.refl _)
    · exact (pick_sub s n).trans (List.sublist_append_left _ _)
theorem pick_congr {s t n : Nat} (h : ∀ i, i < n → s.testBit i = t.testBit i) : pickK s n = pickK t n := by
  unfold pickK
  refine congrArg _ (List.filter_congr fun i hi => h i (List.mem_range.1 hi))
theorem sub_one {a : Int} : ∀ {l : List Int}, l.Sublist [a] → l = [] ∨ l = [a]
  | _, .cons _ h => .inl (List.sublist_nil.1 h)
  | _, .cons_cons _ h => .inr (by rw [List.sublist_nil.1 h])
theorem pick_all : ∀ {n : Nat} {c : List Int}, c.Sublist (upI 0 n) → ∃ s, s < 2 ^ n ∧ pickK s n = c
  | 0, c, h => ⟨0, by decide, by
    have : c = [] := List.sublist_nil.1 h
    rw [this]; rfl⟩
  | n + 1, c, h => by
    rw [upI_snoc] at h
    obtain ⟨c1, c2, rfl, h1, h2⟩ := List.sublist_append_iff.1 h
    obtain ⟨s, hs, rfl⟩ := pick_all h1
    have hsb : s.testBit n = false := Nat.testBit_lt_two_pow hs
    have hp : 2 ^ (n + 1) = 2 * 2 ^ n := by rw [Nat.pow_succ]; omega
    rcases sub_one h2 with rfl | rfl
    · exact ⟨s, by omega, by rw [pickK_succ, hsb, List.append_nil]; rfl⟩
    · refine ⟨s ||| 2 ^ n, Nat.or_lt_two_pow (by omega) (by omega), ?_⟩
      rw [pickK_succ, Nat.testBit_or, hsb, Nat.testBit_two_pow_self, Bool.or_true, if_pos rfl]
      rw [pick_congr (t := s) fun i hi => by rw [Nat.testBit_or, Nat.testBit_two_pow, show decide (n = i) = false from decide_eq_false (by omega), Bool.or_false]]
-- ---- orders
theorem cmpI_lt (a b : Int) : cmpI a b < 0 ↔ a < b := by
  unfold cmpI
  split
  · omega
  · split <;> omega
theorem cmpI_eq (a b : Int) : cmpI a b = 0 ↔ a = b := by
  unfold cmpI
  split
  · omega
  · split <;> omega
theorem cmpIs_nil (a : List Int) : ¬ cmpIs a [] < 0 := by cases a <;> simp [cmpIs]
theorem cmpIs_cons (a b : Int) (l l' : List Int) : cmpIs (a :: l) (b :: l') < 0 ↔ a < b ∨ (a = b ∧ cmpIs l l' < 0) := by
  rw [cmpIs]
  split
  · rename_i e
    rw [cmpI_lt]
    have := mt (cmpI_eq a b).2 e
    omega
  · rename_i e
    have := (cmpI_eq a b).1 (Classical.not_not.1 e)
    omega
theorem cmpIs_trans : ∀ {a b c : List Int}, cmpIs a b < 0 → cmpIs b c < 0 → cmpIs a c < 0
  | [], [], c, h, _ => absurd h (cmpIs_nil _)
  | [], y :: b, [], _, h2 => absurd h2 (cmpIs_nil _)
  | [], y :: b, z :: c, _, _ => by simp [cmpIs]
  | x :: a, [], c, h, _ => absurd h (cmpIs_nil _)
  | x :: a, y :: b, [], _, h2 => absurd h2 (cmpIs_nil _)
  | x :: a, y :: b, z :: c, h, h2 => by
    rw [cmpIs_cons] at *
    rcases h with h | ⟨h, h3⟩ <;> rcases h2 with h2 | ⟨h2, h4⟩
    · exact .inl (by omega)
    · exact .inl (by omega)
    · exact .inl (by omega)
    · exact .inr ⟨by omega, cmpIs_trans h3 h4⟩
theorem cmpIs_irr : ∀ a : List Int, ¬ cmpIs a a < 0
  | [] => by simp [cmpIs]
  | x :: a => by rw [cmpIs_cons]; have := cmpIs_irr a; omega
theorem cmpIs_total : ∀ {a b : List Int}, ¬ a = b → cmpIs a b < 0 ∨ cmpIs b a < 0
  | [], [], h => absurd rfl h
  | [], y :: b, _ => .inl (by simp [cmpIs])
  | x :: a, [], _ => .inr (by simp [cmpIs])
  | x :: a, y :: b, h => by
    rw [cmpIs_cons, cmpIs_cons]
    by_cases e : x = y
    · subst e
      have := cmpIs_total (a := a) (b := b) (fun e => h (by rw [e]))
      omega
    · omega
theorem orL2 (a b : Int) : orL [a, b] < 0 ↔ a < 0 ∨ (a = 0 ∧ b < 0) := by
  simp only [orL]
  split
  · omega
  · split <;> omega
theorem orL3 (a b c : Int) : orL [a, b, c] < 0 ↔ a < 0 ∨ (a = 0 ∧ (b < 0 ∨ (b = 0 ∧ c < 0))) := by
  simp only [orL]
  split
  · omega
  · split
    · omega
    · split <;> omega
theorem ordF_lt (x y : Hn) : ordF x y < 0 ↔ y.2.2 < x.2.2 ∨ (y.2.2 = x.2.2 ∧ (y.2.1 < x.2.1 ∨ (y.2.1 = x.2.1 ∧ cmpIs x.1 y.1 < 0))) := by
  unfold ordF
  rw [orL3, cmpI_lt, cmpI_lt, cmpI_eq, cmpI_eq]
theorem ordX_lt (x y : Hn) : ordX x y < 0 ↔ x.1.length < y.1.length ∨ (x.1.length = y.1.length ∧ cmpIs x.1 y.1 < 0) := by
  unfold ordX
  rw [orL2, cmpI_lt, cmpI_eq]; omega
/-- An order of hands that tells any two apart that have other cards. -/
structure Tot (o : Hn → Hn → Int) : Prop where
  tr : ∀ {x y z}, o x y < 0 → o y z < 0 → o x z < 0
  to : ∀ {x y}, ¬ x.1 = y.1 → o x y < 0 ∨ o y x < 0
  ir : ∀ {x y}, x.1 = y.1 → x.2 = y.2 → ¬ o x y < 0
theorem tot_F : Tot ordF := ⟨fun {x y z} h1 h2 => by
    rw [ordF_lt] at *
    rcases h1 with h1 | ⟨h1, h1 | ⟨h3, h5⟩⟩ <;> rcases h2 with h2 | ⟨h2, h2 | ⟨h4, h6⟩⟩ <;> first | omega | exact .inr ⟨by omega, .inr ⟨by omega, cmpIs_trans h5 h6⟩⟩,
  fun {x y} h => by
    rw [ordF_lt, ordF_lt]
    have := cmpIs_total h
    omega,
  fun {x y} h h2 => by
    rw [ordF_lt, h, h2]
    have := cmpIs_irr y.1
    omega⟩
theorem tot_X : Tot ordX := ⟨fun {x y z} h1 h2 => by
    rw [ordX_lt] at *
    rcases h1 with h1 | ⟨h1, h3⟩ <;> rcases h2 with h2 | ⟨h2, h4⟩ <;> first | omega | exact .inr ⟨by omega, cmpIs_trans h3 h4⟩,
  fun {x y} h => by
    rw [ordX_lt, ordX_lt]
    have := cmpIs_total h
    omega,
  fun {x y} h h2 => by
    rw [ordX_lt, h]
    have := cmpIs_irr y.1
    omega⟩
/-- The best of some hands. -/
def BestIs (o : Hn → Hn → Int) (S : Hn → Prop) (b : Hn) : Prop := S b ∧ ∀ x, S x → ¬ o x b < 0
theorem best_step {o : Hn → Hn → Int} (ho : Tot o) {S : Hn → Prop} {b x : Hn} (h : BestIs o S b) (hs : x.1 = b.1 → x = b) : BestIs o (fun y => S y ∨ y = x) (if o x b < 0 then x else b) := by
  split
  · rename_i e
    refine ⟨.inr rfl, fun y hy => ?_⟩
    rcases hy with hy | rfl
    · exact fun e2 => h.2 y hy (ho.tr e2 e)
    · exact ho.ir rfl rfl
  · rename_i e
    refine ⟨.inl h.1, fun y hy => ?_⟩
    rcases hy with hy | rfl
    · exact h.2 y hy
    · exact e
theorem best_uniq {o : Hn → Hn → Int} (ho : Tot o) {S S' : Hn → Prop} {b b' : Hn} (h : BestIs o S b) (h' : BestIs o S' b') (hS : ∀ x, S x ↔ S' x) (hf : ∀ x y, S x → S y → x.1 = y.1 → x = y) : b = b' := by
  refine hf _ _ h.1 ((hS _).2 h'.1) (Classical.byContradiction fun e => ?_)
  rcases ho.to e with h1 | h1
  · exact h'.2 _ ((hS _).1 h.1) h1
  · exact h.2 _ ((hS _).2 h'.1) h1
/-- The program's best hand is the best. -/
theorem bestL_is {o : Hn → Hn → Int} (ho : Tot o) : ∀ {l : List Hn}, (∀ x ∈ l, ∀ y ∈ l, x.1 = y.1 → x = y) → ((bestL o l).2 = false ∧ l = []) ∨ ((bestL o l).2 = true ∧ BestIs o (· ∈ l) (bestL o l).1) := by
  intro l
  rw [← List.reverse_reverse l]
  generalize l.reverse = r
  induction r with
  | nil => intro _; exact .inl ⟨rfl, rfl⟩
  | cons x r ih =>
    intro hf
    rw [List.reverse_cons] at hf ⊢
    right
    rw [best_snoc]
    have ih := ih fun x hx y hy => hf x (List.mem_append_left _ hx) y (List.mem_append_left _ hy)
    unfold offS
    rcases ih with ⟨h1, h2⟩ | ⟨h1, h2⟩
    · rw [if_pos (.inl h1), h2]
      exact ⟨rfl, List.mem_singleton.2 rfl, fun y hy => by rw [List.mem_singleton.1 hy]; exact ho.ir rfl rfl⟩
    · have h3 := best_step ho (x := x) h2 (fun e => hf x (List.mem_append_right _ (List.mem_singleton.2 rfl)) _ (List.mem_append_left _ h2.1) e)
      have h4 : ∀ b, BestIs o (fun y => y ∈ r.reverse ∨ y = x) b → BestIs o (· ∈ r.reverse ++ [x]) b := fun b hb => ⟨by show b ∈ r.reverse ++ [x]; rw [List.mem_append, List.mem_singleton]; exact hb.1, fun y hy => hb.2 y (by have hy : y ∈ r.reverse ++ [x] := hy; rw [List.mem_append, List.mem_singleton] at hy; exact hy)⟩
      by_cases e : o x (bestL o r.reverse).1 < 0
      · rw [if_pos (.inr e)]
        rw [if_pos e] at h3
        exact ⟨rfl, h4 _ h3⟩
      · rw [if_neg (by rw [h1]; intro h; exact h.elim (fun h => by cases h) e)]
        rw [if_neg e] at h3
        exact ⟨h1, h4 _ h3⟩
end Go.Proofs.Ytdlbbfcfahahdaa
end
section
namespace Go.Proofs.Ytdlbbfcfahahdaa
open Go Go.W
set_option linter.unusedVariables false
set_option linter.unusedSimpArgs false
set_option maxRecDepth 20000
attribute [local irreducible] HL HC HQ HB Row Rows2 Blk Facts
abbrev saB (g : Nat) (c : Ch) (sA : Option Addr) (sn sC : Nat) (aA : Option Addr) (an aC : Nat) : Nat × Obj := (g, .cells #[int c.1, int c.2.1, int c.2.2.1, int c.2.2.2.1, int c.2.2.2.2.1, int c.2.2.2.2.2, .slice sA sn sC, .slice aA an aC] T.api_Sales (0, 0))
abbrev SRes := Ch × Sl Int × Sl Ad
/-- Sales as the kit makes them. -/
structure SOf (m : Nat) (x : SRes) : Prop where
  ok : chkS x.1 x.2.1.l x.2.2.l = 0
  x8 : x.2.2.l.length ≤ m
  ca : x.2.1.l.length ≤ x.2.1.c
  cb : x.2.2.l.length ≤ x.2.2.c
end Go.Proofs.Ytdlbbfcfahahdaa
end
section
namespace Go.Proofs.Ytdlbbfcfahahdaa
open Go Go.W
set_option linter.unusedVariables false
set_option linter.unusedSimpArgs false
set_option maxRecDepth 20000
attribute [local irreducible] HL HC HQ HB Row Rows2 Blk Facts
end Go.Proofs.Ytdlbbfcfahahdaa
end
section
namespace Go.Proofs.Ytdlbbfcfahahdaa
open Go Go.W
set_option linter.unusedVariables false
set_option linter.unusedSimpArgs false
set_option maxRecDepth 20000
attribute [local irreducible] HL HC HQ HB Row Rows2 Blk Facts
theorem law09_sums_meets {A B : Option Addr} {ca cb n : Nat} (cs : List Cd) (ks : List Int) (hc : ∀ x ∈ cs, cdB x) (hk : ∀ v ∈ ks, 0 ≤ v ∧ v < (cs.length : Int)) (hn : ks.length ≤ 1000) (e : ks.length = n) : Meets Try.prog F.law09_sums [.slice A cs.length ca, .slice B n cb] { LI := [Row A (rows cs), Row B (rows ks)], val := fun _ : Unit => .tuple #[int (linL cs ks).sum, int (priL cs ks).sum] } := by
 subst e
 refine meets_intro F.law09_sums_f rfl (Nat.le_of_ble_eq_true rfl) fun w0 => ?_
 refine hc_seq (hc_region (r_assign rfl rfl (r_assign rfl rfl (hl_nil (then_n (hc_seq (hc_region (r_assign rfl rfl (r_assign rfl rfl (hl_nil (then_n ?_)))))))))))
 refine hc_seq (hc_seq (hc_region (r_assign rfl rfl (hl_nil (then_n (hc_block ?_))))))
 refine hc_loop (β := Nat) ⟨fun k => k ≤ ks.length, fun k => [(0, .slice A cs.length ca), (1, .slice B ks.length cb), (6, int ((linL cs ks).take k).sum), (7, int ((priL cs ks).take k).sum), (8, int k)], fun _ => [], fun _ => [Row A (rows cs), Row B (rows ks)]⟩ (fun k => ks.length - k) 0 (Nat.zero_le _) ⟨rfl, rfl, rfl, rfl, rfl, trivial⟩ (.refl _) ⟨mB, mB, trivial⟩ fun k hkk => ?_
 simp only at hkk
 have hb0 := sum_bd (lin_bd hc hk) k
 have hb1 := sum_bd (pri_bd hc hk) k
 refine hc_seq (hc_seq (hc_region (r_move rfl rfl (r_move rfl rfl ?_))))
 refine r_len_sl rfl T.u_ints rfl ?_
 refine r_lss rfl rfl rfl (hl_nil (then_n ?_))
 first | refine c_dec rfl (fun hb1 => ?_) (fun hb1 => ?_) | refine hc_cond rfl (fun hb1 => ?_) (fun hb1 => ?_)
 ·have hb1' := hb1; try simp at hb1'
  have hk2 : k < ks.length := by omega
  have hkv := hk _ (getD_mem hk2)
  obtain ⟨m, hme⟩ := Int.eq_ofNat_of_zero_le hkv.1
  have hm2 : m < cs.length := by omega
  have hcm := hc _ (getD_mem hm2)
  have hcm1 := hcm.1
  have hcm2 := hcm.2
  have hla := lin_at (cs := cs) hk2
  have hpa := pri_at (cs := cs) hk2
  rw [hme, Int.toNat_natCast] at hla hpa
  refine hc_skip (then_n (hc_seq (hc_block ?_)))
  refine hc_draw 21 mixed (by decide) (by decide) rfl rfl ?_
  refine hb_ex _ rfl rfl rfl (fun w1 => r_move rfl rfl (hl_nil (qe_done rfl))) ?_
  refine hb_ex _ rfl rfl rfl (fun w1 => r_move rfl rfl (hl_nil (qe_done rfl))) ?_
  refine hb_ex _ rfl rfl rfl (fun w1 => r_move rfl rfl (hl_nil (qe_done rfl))) ?_
  refine hb_ex _ rfl rfl rfl (fun w1 => r_move rfl rfl (hl_nil (qe_done rfl))) ?_
  refine hb_ex _ rfl rfl rfl (fun w1 => r_elem (α := Int) ks k rfl T.u_ints T.sz_int rfl rfl rfl mB rfl (hk2) (by decide) (hl_nil (qe_done rfl))) ?_
  refine hb_ex _ rfl rfl rfl (fun w1 => r_load (v := int ((m : Int))) rfl T.cell_int rfl (cell_row mB (by rw [← hme]; exact rows_get0 (hk2) rfl)) (hl_nil (qe_done rfl))) ?_
  refine hb_ex _ rfl rfl rfl (fun w1 => r_elem (α := Cd) cs m rfl T.u_L_api_Card T.sz_api_Card rfl rfl rfl mB rfl (hm2) (by decide) (hl_nil (qe_done rfl))) ?_
  apply hb_ex _ rfl rfl rfl
  ·intro w1
   first | refine r_fieldAddr ⟨_, 0, none⟩ rfl rfl T.fa_api_Card_0 rfl ?_ | refine r_fieldAddr _ rfl rfl T.fa_api_Card_0 rfl ?_
   refine hl_nil ?_
   exact qe_done rfl
  refine hb_ex _ rfl rfl rfl (fun w1 => r_load rfl T.cell_int rfl (cell_row mB (rows_get0 (by omega) rfl)) (hl_nil (qe_done rfl))) ?_
  refine hb_ex _ rfl rfl rfl (fun w1 => r_add _ rfl rfl rfl rfl (by unfold I64; omega) (hl_nil (qe_done rfl))) ?_
  refine hb_ex _ rfl rfl rfl (fun w1 => r_move rfl rfl (hl_nil (qe_done rfl))) ?_
  refine hb_ex _ rfl rfl rfl (fun w1 => r_move rfl rfl (hl_nil (qe_done rfl))) ?_
  refine hb_ex _ rfl rfl rfl (fun w1 => r_move rfl rfl (hl_nil (qe_done rfl))) ?_
  refine hb_ex _ rfl rfl rfl (fun w1 => r_move rfl rfl (hl_nil (qe_done rfl))) ?_
  refine hb_ex _ rfl rfl rfl (fun w1 => r_elem (α := Int) ks k rfl T.u_ints T.sz_int rfl rfl rfl mB rfl (hk2) (by decide) (hl_nil (qe_done rfl))) ?_
  refine hb_ex _ rfl rfl rfl (fun w1 => r_load (v := int ((m : Int))) rfl T.cell_int rfl (cell_row mB (by rw [← hme]; exact rows_get0 (hk2) rfl)) (hl_nil (qe_done rfl))) ?_
  refine hb_ex _ rfl rfl rfl (fun w1 => r_elem (α := Cd) cs m rfl T.u_L_api_Card T.sz_api_Card rfl rfl rfl mB rfl (hm2) (by decide) (hl_nil (qe_done rfl))) ?_
  apply hb_ex _ rfl rfl rfl
  ·intro w1
   first | refine r_fieldAddr ⟨_, 1, none⟩ rfl rfl T.fa_api_Card_1 rfl ?_ | refine r_fieldAddr _ rfl rfl T.fa_api_Card_1 rfl ?_
   refine hl_nil ?_
   exact qe_done rfl
  refine hb_ex _ rfl rfl rfl (fun w1 => r_load rfl T.cell_int rfl (cell_row_f mB (rows_get (by omega) rfl)) (hl_nil (qe_done rfl))) ?_
  refine hb_ex _ rfl rfl rfl (fun w1 => r_add _ rfl rfl rfl rfl (by unfold I64; omega) (hl_nil (qe_done rfl))) ?_
  refine hb_ex _ rfl rfl rfl (fun w1 => r_assign rfl rfl (hl_nil (qe_done rfl))) ?_
  refine hb_nil ⟨rfl, ?_⟩
  refine r_assign rfl rfl (hl_nil (inb_n (then_n (hc_region (r_move rfl rfl ?_)))))
  refine r_add _ rfl rfl rfl rfl (by unfold I64; omega) ?_
  refine r_assign rfl rfl (hl_nil ?_)
  exact again _ (k + 1) (by show k + 1 ≤ ks.length; omega) (by show ks.length - (k + 1) < ks.length - k; omega) ⟨rfl, rfl, congrArg (fun z => some (int z)) (show _ = ((linL cs ks).take (k + 1)).sum by rw [sum_take (by rw [lin_len]; exact hk2), hla]), congrArg (fun z => some (int z)) (show _ = ((priL cs ks).take (k + 1)).sum by rw [sum_take (by rw [pri_len]; exact hk2), hpa]), rfl, trivial⟩ (.refl _) ⟨mB, mB, trivial⟩
 ·have hb1' := hb1; try simp at hb1'
  obtain rfl : k = ks.length := by omega
  refine hc_exit (then_exit (then_exit (inb_hit (then_n (hc_seq (hc_region (r_move rfl rfl (r_move rfl rfl (r_assign rfl rfl (r_assign rfl rfl (hl_nil ?_)))))))))))
  refine then_n (hc_ret ?_)
  exact ret2 () rfl rfl rfl (by show Value.tuple #[int (linL cs ks).sum, int (priL cs ks).sum] = _; rw [List.take_of_length_le (Nat.le_of_eq (lin_len ..)), List.take_of_length_le (Nat.le_of_eq (pri_len ..))]) rfl trivial (List.nil_sublist _) trivial
theorem nil_less {a : Nat} {b : List Int} (h : a ≤ b.length) : cmpIs [] (b.drop a) < 0 ↔ a < b.length := by
  rcases Nat.lt_or_ge a b.length with h1 | h1
  · rw [drop_getD h1]; simp [cmpIs, h1]
  · rw [show a = b.length by omega, List.drop_length]; simp [cmpIs]
theorem kit_Less_meets {A B : Option Addr} {ca cb n m : Nat} (a b : List Int) (ha : a.length ≤ 1000000) (hb : b.length ≤ 1000000) (ea : a.length = n) (eb : b.length = m) : Meets Try.prog F.kit_Less [.slice A n ca, .slice B m cb] { LI := [Row A (rows a), Row B (rows b)], val := fun _ : Unit => .bool (decide (cmpIs a b < 0)) } := by
 subst ea
 subst eb
 refine meets_intro F.kit_Less_f rfl (Nat.le_of_ble_eq_true rfl) fun w0 => ?_
 refine hc_seq (hc_region (r_assign rfl rfl (hl_nil (then_n (hc_seq (hc_seq (hc_region (r_assign rfl rfl (hl_nil (then_n (hc_block ?_)))))))))))
 refine hc_loop (β := Nat) ⟨fun k => (k ≤ a.length ∧ k ≤ b.length) ∧ (cmpIs a b < 0 ↔ cmpIs (a.drop k) (b.drop k) < 0), fun k => [(0, .slice A a.length ca), (1, .slice B b.length cb), (5, int k)], fun _ => [], fun _ => [Row A (rows a), Row B (rows b)]⟩ (fun k => a.length - k) 0 ⟨⟨Nat.zero_le _, Nat.zero_le _⟩, Iff.rfl⟩ ⟨rfl, rfl, rfl, trivial⟩ (.refl _) ⟨mB, mB, trivial⟩ fun k hk => ?_
 obtain ⟨hk, ht⟩ := hk
 refine hc_seq (hc_seq (hc_region (r_move rfl rfl (r_move rfl rfl ?_))))
 refine r_len_sl rfl T.u_ints rfl ?_
 refine r_lss rfl rfl rfl (r_move rfl rfl ?_)
 refine g_split rfl rfl ?_ ?_
 ·intro hg1; have hg1' := hg1; try simp at hg1'
  have hk2 : k < a.length := by simpa using hg1
  refine g_yes rfl rfl hg1 (r_move rfl rfl (g_yes rfl rfl hg1 (r_move rfl rfl (g_yes rfl rfl hg1 ?_))))
  refine r_len_sl rfl T.u_ints rfl ?_
  refine g_yes rfl rfl hg1 (r_lss rfl rfl rfl ?_)
  refine p_t rfl rfl (bt1 hg1) rfl ?_
  refine hl_nil (then_n ?_)
  first | refine c_dec rfl (fun hb1 => ?_) (fun hb1 => ?_) | refine hc_cond rfl (fun hb1 => ?_) (fun hb1 => ?_)
  ·have hb1' := hb1; try simp at hb1'
   have hk3 : k < b.length := by omega
   rw [drop_getD hk2, drop_getD hk3, cmpIs_cons] at ht
   refine hc_skip (then_n (hc_seq (hc_block (hc_seq ?_))))
   refine hc_draw 8 mixed (by decide) (by decide) rfl rfl ?_
   refine hb_ex _ rfl rfl rfl (fun w1 => r_move rfl rfl (hl_nil (qe_done rfl))) ?_
   refine hb_ex _ rfl rfl rfl (fun w1 => r_move rfl rfl (hl_nil (qe_done rfl))) ?_
   refine hb_ex _ rfl rfl rfl (fun w1 => r_elem (α := Int) _ _ rfl T.u_ints T.sz_int rfl rfl rfl mB rfl (by omega) (by decide) (hl_nil (qe_done rfl))) ?_
   refine hb_ex _ rfl rfl rfl (fun w1 => r_load rfl T.cell_int rfl (cell_row mB (rows_get0 (by omega) rfl)) (hl_nil (qe_done rfl))) ?_
   refine hb_ex _ rfl rfl rfl (fun w1 => r_move rfl rfl (hl_nil (qe_done rfl))) ?_
   refine hb_ex _ rfl rfl rfl (fun w1 => r_move rfl rfl (hl_nil (qe_done rfl))) ?_
   refine hb_ex _ rfl rfl rfl (fun w1 => r_elem (α := Int) _ _ rfl T.u_ints T.sz_int rfl rfl rfl mB rfl (by omega) (by decide) (hl_nil (qe_done rfl))) ?_
   refine hb_ex _ rfl rfl rfl (fun w1 => r_load rfl T.cell_int rfl (cell_row mB (rows_get0 (by omega) rfl)) (hl_nil (qe_done rfl))) ?_
   refine hb_nil ⟨rfl, ?_⟩
   refine r_neq rfl rfl rfl (hl_nil (then_n ?_))
   first | refine c_dec rfl (fun hb2 => ?_) (fun hb2 => ?_) | refine hc_cond rfl (fun hb2 => ?_) (fun hb2 => ?_)
   ·have hb2' := hb2; try simp at hb2'
    refine hc_seq ?_
    refine hc_draw 8 mixed (by decide) (by decide) rfl rfl ?_
    refine hb_ex _ rfl rfl rfl (fun w1 => r_move rfl rfl (hl_nil (qe_done rfl))) ?_
    refine hb_ex _ rfl rfl rfl (fun w1 => r_move rfl rfl (hl_nil (qe_done rfl))) ?_
    refine hb_ex _ rfl rfl rfl (fun w1 => r_elem (α := Int) _ _ rfl T.u_ints T.sz_int rfl rfl rfl mB rfl (by omega) (by decide) (hl_nil (qe_done rfl))) ?_
    refine hb_ex _ rfl rfl rfl (fun w1 => r_load rfl T.cell_int rfl (cell_row mB (rows_get0 (by omega) rfl)) (hl_nil (qe_done rfl))) ?_
    refine hb_ex _ rfl rfl rfl (fun w1 => r_move rfl rfl (hl_nil (qe_done rfl))) ?_
    refine hb_ex _ rfl rfl rfl (fun w1 => r_move rfl rfl (hl_nil (qe_done rfl))) ?_
    refine hb_ex _ rfl rfl rfl (fun w1 => r_elem (α := Int) _ _ rfl T.u_ints T.sz_int rfl rfl rfl mB rfl (by omega) (by decide) (hl_nil (qe_done rfl))) ?_
    refine hb_ex _ rfl rfl rfl (fun w1 => r_load rfl T.cell_int rfl (cell_row mB (rows_get0 (by omega) rfl)) (hl_nil (qe_done rfl))) ?_
    refine hb_nil ⟨rfl, ?_⟩
    refine r_lss rfl rfl rfl (r_assign rfl rfl (hl_nil (then_n (hc_ret (inb_ret (then_ret (then_ret (inb_ret (then_ret ?_)))))))))
    exact ret1 () rfl (congrArg (fun b => some (Value.bool b)) (decide_eq_decide.2 (by rw [ht]; omega))) rfl trivial (List.nil_sublist _) trivial
   ·have hb2' := hb2; try simp at hb2'
    refine hc_skip (inb_n (then_n (hc_region (r_move rfl rfl ?_))))
    refine r_add _ rfl rfl rfl rfl (by unfold I64; omega) ?_
    refine r_assign rfl rfl (hl_nil ?_)
    exact again _ (k + 1) ⟨⟨by show k + 1 ≤ a.length; omega, by show k + 1 ≤ b.length; omega⟩, by rw [ht]; exact ⟨fun h => h.elim (fun e => by omega) fun e => e.2, fun h => .inr ⟨by omega, h⟩⟩⟩ (by show a.length - (k + 1) < a.length - k; omega) ⟨rfl, rfl, rfl, trivial⟩ (.refl _) ⟨mB, mB, trivial⟩
  ·have hb1' := hb1; try simp at hb1'
   have hk3 : k = b.length := by omega
   refine hc_exit (then_exit (then_exit (inb_hit (then_n (hc_seq (hc_region (r_move rfl rfl ?_)))))))
   refine r_len_sl rfl T.u_ints rfl ?_
   refine r_move rfl rfl ?_
   refine r_len_sl rfl T.u_ints rfl ?_
   refine r_lss rfl rfl rfl (r_assign rfl rfl (hl_nil (then_n (hc_ret ?_))))
   exact ret1 () rfl (congrArg (fun b => some (Value.bool b)) (decide_eq_decide.2 (by rw [ht, hk3, List.drop_length]; have := cmpIs_nil (a.drop b.length); omega))) rfl trivial (List.nil_sublist _) trivial
 ·intro hg1; have hg1' := hg1; try simp at hg1'
  have hk2 : k = a.length := by have h9 : ¬ k < a.length := (by simpa using hg1); omega
  refine g_no rfl rfl rfl rfl rfl hg1 (g_no rfl rfl rfl rfl rfl hg1 (g_no rfl rfl rfl rfl rfl hg1 (g_no rfl rfl rfl rfl rfl hg1 ?_)))
  refine p_f rfl rfl (bf2 hg1) rfl ?_
  refine hl_nil (then_n (c_f rfl rfl (hc_exit (then_exit (then_exit (inb_hit (then_n (hc_seq (hc_region (r_move rfl rfl ?_))))))))))
  refine r_len_sl rfl T.u_ints rfl ?_
  refine r_move rfl rfl ?_
  refine r_len_sl rfl T.u_ints rfl ?_
  refine r_lss rfl rfl rfl (r_assign rfl rfl (hl_nil (then_n (hc_ret ?_))))
  exact ret1 () rfl (congrArg (fun b => some (Value.bool b)) (decide_eq_decide.2 (by rw [ht, hk2, List.drop_length]; have := nil_less (a := a.length) (b := b) (by omega); omega))) rfl trivial (List.nil_sublist _) trivial
def handL (cs : List Cd) (ks : List Int) : Hn := (ks, (linL cs ks).sum, (priL cs ks).sum)
theorem handL_inj {cs : List Cd} {a b : List Int} (h : (handL cs a).1 = (handL cs b).1) : handL cs a = handL cs b := congrArg (handL cs) h
def fillS (cs : List Cd) (room : Int) (st : Hn) (x : List Int) : Hn := if (handL cs x).2.1 ≤ room ∧ ordF (handL cs x) st < 0 then handL cs x else st
def fillO (cs : List Cd) (room : Int) : Nat → Hn
  | 0 => handL cs []
  | m + 1 => (combos (m + 1) (upI 0 cs.length)).foldl (fillS cs room) (fillO cs room m)
theorem fold_best {cs : List Cd} {room : Int} : ∀ (l : List (List Int)) {st : Hn} {S : Hn → Prop}, BestIs ordF S st → (∀ x, S x → ∃ c, x = handL cs c) → BestIs ordF (fun x => S x ∨ ∃ c ∈ l, x = handL cs c ∧ (handL cs c).2.1 ≤ room) (l.foldl (fillS cs room) st)
  | [], st, S, h, _ => ⟨.inl h.1, fun x hx => h.2 x (hx.elim id fun ⟨c, hc, _⟩ => by cases hc)⟩
  | y :: l, st, S, h, hS => by
    rw [List.foldl_cons]
    by_cases e : (handL cs y).2.1 ≤ room
    · have h1 := best_step tot_F (x := handL cs y) h (fun e2 => by obtain ⟨c, hc⟩ := hS _ h.1; rw [hc] at e2 ⊢; exact handL_inj e2)
      have e2 : fillS cs room st y = if ordF (handL cs y) st < 0 then handL cs y else st := by
        unfold fillS
        by_cases e3 : ordF (handL cs y) st < 0
        · rw [if_pos ⟨e, e3⟩, if_pos e3]
        · rw [if_neg (fun h => e3 h.2), if_neg e3]
      rw [e2]
      have h2 := fold_best l (room := room) h1 (fun x hx => hx.elim (hS x) fun hx => ⟨y, hx⟩)
      refine ⟨?_, fun x hx => h2.2 x ?_⟩
      · rcases h2.1 with (h3 | h3) | ⟨c, hc, h3⟩
        · exact .inl h3
        · exact .inr ⟨y, List.mem_cons_self .., h3, e⟩
        · exact .inr ⟨c, List.mem_cons_of_mem _ hc, h3⟩
      · rcases hx with h3 | ⟨c, hc, h3, h4⟩
        · exact .inl (.inl h3)
        · rcases List.mem_cons.1 hc with rfl | hc
          · exact .inl (.inr h3)
          · exact .inr ⟨c, hc, h3, h4⟩
    · have e2 : fillS cs room st y = st := if_neg (fun h => e h.1)
      rw [e2]
      have h2 := fold_best l (room := room) h hS
      refine ⟨?_, fun x hx => h2.2 x ?_⟩
      · rcases h2.1 with h3 | ⟨c, hc, h3⟩
        · exact .inl h3
        · exact .inr ⟨c, List.mem_cons_of_mem _ hc, h3⟩
      · rcases hx with h3 | ⟨c, hc, h3, h4⟩
        · exact .inl h3
        · rcases List.mem_cons.1 hc with rfl | hc
          · exact absurd h4 e
          · exact .inr ⟨c, hc, h3, h4⟩
/-- All hands that have room. -/
def FitS (cs : List Cd) (room : Int) (x : Hn) : Prop := ∃ c, c.Sublist (upI 0 cs.length) ∧ x = handL cs c ∧ (handL cs c).2.1 ≤ room
theorem fillO_best {cs : List Cd} {room : Int} (hr : 0 ≤ room) : ∀ m, BestIs ordF (fun x => ∃ c, c.Sublist (upI 0 cs.length) ∧ c.length ≤ m ∧ x = handL cs c ∧ (handL cs c).2.1 ≤ room) (fillO cs room m)
  | 0 => ⟨⟨[], List.nil_sublist _, Nat.le_refl _, rfl, hr⟩, fun x ⟨c, _, h2, h3, _⟩ => by
      obtain rfl : c = [] := List.eq_nil_of_length_eq_zero (by omega)
      rw [h3]; exact tot_F.ir rfl rfl⟩
  | m + 1 => by
    have h1 := fold_best (cs := cs) (room := room) (combos (m + 1) (upI 0 cs.length)) (fillO_best hr m) (fun x hx => by obtain ⟨c, _, _, h, _⟩ := hx; exact ⟨c, h⟩)
    have hb : fillO cs room (m + 1) = (combos (m + 1) (upI 0 cs.length)).foldl (fillS cs room) (fillO cs room m) := rfl
    rw [hb]
    refine ⟨?_, fun x hx => h1.2 x ?_⟩
    · rcases h1.1 with ⟨c, h2, h3, h4⟩ | ⟨c, hc, h4⟩
      · exact ⟨c, h2, by omega, h4⟩
      · exact ⟨c, combos_sub hc, Nat.le_of_eq (combos_size hc), h4⟩
    · obtain ⟨c, h2, h3, h4⟩ := hx
      by_cases e : c.length ≤ m
      · exact .inl ⟨c, h2, e, h4⟩
      · have h5 := combos_mem h2
        rw [show c.length = m + 1 by omega] at h5
        exact .inr ⟨c, h5, h4⟩
theorem hand_fit {cs : List Cd} {room : Int} {x : Hn} : x ∈ handsK cs room (2 ^ cs.length) ↔ FitS cs room x := by
  unfold handsK
  rw [List.mem_filter, List.mem_map]
  constructor
  · rintro ⟨⟨s, hs, rfl⟩, h⟩
    exact ⟨pickK s cs.length, pick_sub s _, rfl, of_decide_eq_true h⟩
  · rintro ⟨c, h1, rfl, h2⟩
    obtain ⟨s, hs, rfl⟩ := pick_all h1
    exact ⟨⟨s, List.mem_range.2 hs, rfl⟩, decide_eq_true h2⟩
theorem fit_inj {cs : List Cd} {room : Int} {x y : Hn} (hx : FitS cs room x) (hy : FitS cs room y) (h : x.1 = y.1) : x = y := by
  obtain ⟨c, _, rfl, _⟩ := hx
  obtain ⟨d, _, rfl, _⟩ := hy
  exact handL_inj h
def fillB (cs : List Cd) (room : Int) : Hn := (bestL ordF (handsK cs room (2 ^ cs.length))).1
theorem fillB_best {cs : List Cd} {room : Int} (hr : 0 ≤ room) : BestIs ordF (FitS cs room) (fillB cs room) := by
  rcases bestL_is tot_F (l := handsK cs room (2 ^ cs.length)) (fun x hx y hy => fit_inj (hand_fit.1 hx) (hand_fit.1 hy)) with ⟨_, h⟩ | ⟨_, h⟩
  · have h1 : handL cs [] ∈ handsK cs room (2 ^ cs.length) := hand_fit.2 ⟨[], List.nil_sublist _, rfl, hr⟩
    rw [h] at h1; cases h1
  · exact ⟨hand_fit.1 h.1, fun x hx => h.2 x (hand_fit.2 hx)⟩
theorem fill_same {cs : List Cd} {room : Int} (hr : 0 ≤ room) : fillO cs room cs.length = fillB cs room := by
  refine best_uniq tot_F (fillO_best hr cs.length) (fillB_best hr) (fun x => ⟨fun ⟨c, h1, _, h2⟩ => ⟨c, h1, h2⟩, fun ⟨c, h1, h2⟩ => ⟨c, h1, by have := h1.length_le; rw [upI_len] at this; omega, h2⟩⟩) fun x y hx hy => fit_inj (by obtain ⟨c, h1, _, h2⟩ := hx; exact ⟨c, h1, h2⟩) (by obtain ⟨c, h1, _, h2⟩ := hy; exact ⟨c, h1, h2⟩)
theorem fill_dear {cs : List Cd} {room : Int} (hr : 0 ≤ room) {x : Hn} (hx : FitS cs room x) : x.2.2 ≤ (fillB cs room).2.2 := by
  have h := (fillB_best hr).2 x hx
  rw [ordF_lt] at h
  omega
theorem fill_room {cs : List Cd} {room r2 : Int} (hr : 0 ≤ room) (h : room ≤ r2) : (fillB cs room).2.2 ≤ (fillB cs r2).2.2 := by
  obtain ⟨c, h1, h2, h3⟩ := (fillB_best (cs := cs) hr).1
  exact fill_dear (by omega) ⟨c, h1, h2, by omega⟩
theorem upI_mem {f n : Nat} {z : Int} (h : z ∈ upI f n) : (f : Int) ≤ z ∧ z < (n : Int) := by
  obtain ⟨i, hi, rfl⟩ := List.mem_map.1 h
  have h1 := List.mem_range'_1.1 hi
  omega
theorem upI_more (n : Nat) : ∀ k, (upI 0 n).Sublist (upI 0 (n + k))
  | 0 => .refl _
  | k + 1 => by rw [← Nat.add_assoc, upI_snoc]; exact (upI_more n k).trans (List.sublist_append_left _ _)
theorem handL_app {cs l2 : List Cd} {c : List Int} (h : c.Sublist (upI 0 cs.length)) : handL (cs ++ l2) c = handL cs c := by
  have e : ∀ v ∈ c, (cs ++ l2).getD v.toNat default = cs.getD v.toNat default := fun v hv => by
    have h1 := upI_mem (h.subset hv)
    rw [getD_at (by rw [List.length_append]; omega), getD_at (show v.toNat < cs.length by omega), List.getElem_append_left (by omega)]
  have e1 : linL (cs ++ l2) c = linL cs c := List.map_congr_left fun v hv => by rw [e v hv]
  have e2 : priL (cs ++ l2) c = priL cs c := List.map_congr_left fun v hv => by rw [e v hv]
  unfold handL; rw [e1, e2]
theorem fill_more {cs l2 : List Cd} {room : Int} (hr : 0 ≤ room) : (fillB cs room).2.2 ≤ (fillB (cs ++ l2) room).2.2 := by
  obtain ⟨c, h1, h2, h3⟩ := (fillB_best (cs := cs) hr).1
  refine fill_dear hr ⟨c, ?_, ?_, ?_⟩
  · rw [List.length_append]; exact h1.trans (upI_more _ _)
  · rw [handL_app h1]; exact h2
  · rw [handL_app h1]; exact h3
theorem cards_e {cs : List Cd} {room : Int} (h8 : cs.length ≤ 8) (hc : ∀ x ∈ cs, cdB x) (hr : 0 ≤ room ∧ room ≤ 60) : cardsE cs room = 0 := by
  unfold cardsE
  rw [if_neg (by omega), if_neg (Classical.not_not.2 hc), if_neg (Classical.not_not.2 hr)]
theorem fill_is {A : Option Addr} {ca n : Nat} (cs : List Cd) (room : Int) (h8 : cs.length ≤ 8) (hc : ∀ x ∈ cs, cdB x) (hr : 0 ≤ room ∧ room ≤ 60) (e : cs.length = n) : Meets Try.prog F.bold_Fill [.slice A n ca, int room] { LI := [Row A (rows cs)], val := fun x : OutC => .tuple #[.slice x.1 (fillB cs room).1.length x.2, int (fillB cs room).2.2, int 0], LO := fun x => [Row x.1 (rows (fillB cs room).1)] } := by
  subst e
  have h := bold_Fill_meets (A := A) (ca := ca) cs room (by omega)
  rw [show fillE cs room = ((fillB cs room).1, (fillB cs room).2.2, 0) from if_neg (fun e => e (cards_e h8 hc hr))] at h
  exact h
theorem made_cd {l : List Cd} (h : ∀ y ∈ l, (1 ≤ y.1 ∧ y.1 ≤ 9) ∧ (0 ≤ y.2 ∧ y.2 ≤ 90)) : ∀ x ∈ l, cdB x := fun x hx => by
  have := h x hx
  exact ⟨by omega, by omega⟩
theorem fits_iff {cs : List Cd} {room : Int} {st : Hn} {ks : List Int} : ((handL cs ks).2.1 ≤ room ∧ ordF (handL cs ks) st < 0) ↔ ((linL cs ks).sum ≤ room ∧ (st.2.2 < (priL cs ks).sum ∨ (st.2.2 = (priL cs ks).sum ∧ (st.2.1 < (linL cs ks).sum ∨ (st.2.1 = (linL cs ks).sum ∧ cmpIs ks st.1 < 0))))) := by
  rw [ordF_lt]; exact Iff.rfl
theorem fillO_len {cs : List Cd} {room : Int} (hr : 0 ≤ room) (m : Nat) : (fillO cs room m).1.length ≤ cs.length := by
  obtain ⟨c, h1, _, h2, _⟩ := (fillO_best (cs := cs) hr m).1
  rw [h2]
  have := h1.length_le
  rw [upI_len] at this
  show c.length ≤ _
  omega
set_option maxHeartbeats 2000000 in
theorem law09_BoldFilled_meets {A : Option Addr} {cn : Nat} (nums : List Int) (hn : nums.length ≤ 9223372036854775807) : Meets Try.prog F.law09_BoldFilled [.slice A nums.length cn] { LI := [Row A (rows nums)], val := fun _ : Unit => .bool true } := by
 refine meets_intro F.law09_BoldFilled_f rfl (Nat.le_of_ble_eq_true rfl) fun w0 => ?_
 refine hc_seq (hc_region (r_assign rfl rfl (hl_nil (then_n (hc_seq (hc_region (r_move rfl rfl ?_)))))))
 refine hl_call F.kit_NewDice_cb rfl rfl (kit_NewDice_meets nums) (List.Perm.refl _) ⟨mB, trivial⟩ fun g _ => ?_
 refine r_assign rfl rfl (hl_nil (then_n (hc_seq (hc_region (r_move rfl rfl ?_)))))
 refine hl_call F.kit_CardsOf_cb rfl rfl (kit_CardsOf_meets 6 hn (dok0 nums) (by decide)) (List.Perm.refl _) ⟨mB, trivial⟩ fun xs1 hs1 => ?_
 obtain ⟨s1, y⟩ := xs1
 obtain ⟨hs1, hy⟩ := hs1
 simp only at hs1
 obtain ⟨cs, cA, cC⟩ := y
 obtain ⟨h6, hcs, hcap⟩ := hy
 simp only at h6 hcs hcap
 have hcd := made_cd hcs
 clear hcs
 refine r_move rfl rfl ?_
 refine hl_call F.kit_Dice_To_cb rfl rfl (kit_Dice_To_meets (20) hn hs1 (by omega)) (List.Perm.refl _) ⟨mB, trivial⟩ fun xs2 hs2 => ?_
 obtain ⟨s2, z⟩ := xs2
 obtain ⟨hs2, hz⟩ := hs2
 simp only at hs2
 have hz : 0 ≤ z ∧ z ≤ 20 := to_bd hz (by omega)
 refine r_assign rfl rfl (r_assign rfl rfl (hl_nil (then_n (hc_seq (hc_region (r_move rfl rfl (r_move rfl rfl ?_)))))))
 refine hl_call F.bold_Fill_cb rfl rfl (fill_is cs z (by omega) hcd (by omega) rfl) (List.Perm.refl _) ⟨mB, trivial⟩ fun x1 _ => ?_
 obtain ⟨a1, c1⟩ := x1
 refine r_move rfl rfl (r_extract rfl rfl rfl (r_extract rfl rfl rfl (r_extract rfl rfl rfl (r_assign rfl rfl (r_assign rfl rfl (r_assign rfl rfl (hl_nil (then_n (hc_seq (hc_region (r_assign rfl rfl ?_)))))))))))
 refine hl_nil (then_n (hc_seq (hc_region (r_assign rfl rfl (r_assign rfl rfl (hl_nil (then_n (hc_seq (hc_seq (hc_region (r_assign rfl rfl ?_)))))))))))
 refine hl_nil (then_n (hc_block ?_))
 refine hc_nilrow (α := Int) ?_
 refine hc_loop (β := Nat × OutC) ⟨fun x => x.1 ≤ cs.length, fun x => [(3, .pointer (some ⟨g, 0, none⟩)), (4, .slice cA cs.length cC), (5, int z), (6, .slice a1 (fillB cs z).1.length c1), (7, int (fillB cs z).2.2), (8, int 0), (9, .slice x.2.1 (fillO cs z x.1).1.length x.2.2), (10, int (fillO cs z x.1).2.1), (11, int (fillO cs z x.1).2.2), (12, int (x.1 + 1 : Nat))], fun _ => [dice g A cn nums s2], fun x => [Row x.2.1 (rows (fillO cs z x.1).1), Row a1 (rows (fillB cs z).1), Row cA (rows cs), Row A (rows nums)]⟩ (fun x => cs.length - x.1) (0, (none, 0)) (Nat.zero_le _) ⟨rfl, rfl, rfl, rfl, rfl, rfl, rfl, rfl, rfl, rfl, trivial⟩ (.refl _) ⟨mB, mB, mB, mB, trivial⟩ fun x hm => ?_
 obtain ⟨m, o⟩ := x
 simp only at hm
 have hml := fillO_len (cs := cs) (room := z) (by omega) m
 refine hc_seq (hc_seq (hc_region (r_move rfl rfl (r_move rfl rfl ?_))))
 refine r_len_sl rfl T.u_L_api_Card rfl ?_
 refine r_leq rfl rfl rfl (hl_nil (then_n ?_))
 first | refine c_dec rfl (fun hb1 => ?_) (fun hb1 => ?_) | refine hc_cond rfl (fun hb1 => ?_) (fun hb1 => ?_)
 ·have hb1' := hb1; try simp at hb1'
  have hm2 : m < cs.length := by omega
  refine hc_skip (then_n (hc_seq (hc_block (hc_seq (hc_region (r_move rfl rfl ?_))))))
  refine r_len_sl rfl T.u_L_api_Card rfl ?_
  refine r_move rfl rfl ?_
  refine hl_call F.kit_Subsets_cb rfl rfl (kit_Subsets_meets cs.length (m + 1) (by omega) (by omega)) (List.Perm.refl _) trivial fun y hz => ?_
  obtain ⟨zp, ZA, zc⟩ := y
  change lsts zp = _ at hz
  have hzl : zp.length = (combos (m + 1) (upI 0 cs.length)).length := by rw [← lsts_len, hz]
  have hzb : zp.length ≤ 64 := by have h9 := combos_pow (upI 0 cs.length) (m + 1); rw [upI_len] at h9; have h8 : 2 ^ (cs.length - 0) ≤ 2 ^ 6 := Nat.pow_le_pow_right (by decide) (by omega); omega
  refine r_assign rfl rfl (hl_nil (then_n (hc_seq (hc_region (r_assign rfl rfl (hl_nil (then_n (hc_block ?_))))))))
  refine hc_loop (β := Nat × OutC) ⟨fun x => x.1 ≤ zp.length ∧ (((combos (m + 1) (upI 0 cs.length)).take x.1).foldl (fillS cs z) (fillO cs z m)).1.length ≤ cs.length, fun x => [(3, .pointer (some ⟨g, 0, none⟩)), (4, .slice cA cs.length cC), (5, int z), (6, .slice a1 (fillB cs z).1.length c1), (7, int (fillB cs z).2.2), (8, int 0), (9, .slice x.2.1 (((combos (m + 1) (upI 0 cs.length)).take x.1).foldl (fillS cs z) (fillO cs z m)).1.length x.2.2), (10, int (((combos (m + 1) (upI 0 cs.length)).take x.1).foldl (fillS cs z) (fillO cs z m)).2.1), (11, int (((combos (m + 1) (upI 0 cs.length)).take x.1).foldl (fillS cs z) (fillO cs z m)).2.2), (12, int (m + 1 : Nat)), (13, .slice ZA zp.length zc), (14, int x.1)], fun _ => [dice g A cn nums s2], fun x => [Row x.2.1 (rows (((combos (m + 1) (upI 0 cs.length)).take x.1).foldl (fillS cs z) (fillO cs z m)).1), Rows2 ZA zp, Row a1 (rows (fillB cs z).1), Row cA (rows cs), Row A (rows nums)]⟩ (fun x => zp.length - x.1) (0, o) ⟨Nat.zero_le _, hml⟩ ⟨rfl, rfl, rfl, rfl, rfl, rfl, rfl, rfl, rfl, rfl, rfl, rfl, trivial⟩ (.refl _) ⟨mB, mB, mB, mB, mB, trivial⟩ fun x hx => ?_
  obtain ⟨i, o⟩ := x
  obtain ⟨hi, hsl⟩ := hx
  simp only at hi hsl
  refine hc_seq (hc_seq (hc_region (r_move rfl rfl (r_move rfl rfl ?_))))
  refine r_len_sl rfl T.u_intss rfl ?_
  refine r_lss rfl rfl rfl (hl_nil (then_n ?_))
  first | refine c_dec rfl (fun hb2 => ?_) (fun hb2 => ?_) | refine hc_cond rfl (fun hb2 => ?_) (fun hb2 => ?_)
  ·have hb2' := hb2; try simp at hb2'
   have hi2 : i < zp.length := by omega
   have hcl : i < (combos (m + 1) (upI 0 cs.length)).length := by omega
   have hpl : (zp.getD i default).l = (combos (m + 1) (upI 0 cs.length)).getD i default := by rw [← lsts_at zp hi2, hz]; rfl
   have hpc : (zp.getD i default).l ∈ combos (m + 1) (upI 0 cs.length) := by rw [hpl]; exact getD_mem hcl
   have hps := combos_sub hpc
   have hpb : ∀ v ∈ (zp.getD i default).l, 0 ≤ v ∧ v < (cs.length : Int) := fun v hv => by have := upI_mem (hps.subset hv); omega
   have hplen : (zp.getD i default).l.length ≤ cs.length := by have := hps.length_le; rw [upI_len] at this; omega
   refine hc_skip (then_n (hc_seq (hc_block (hc_seq (hc_region (r_move rfl rfl (r_move rfl rfl (r_move rfl rfl ?_))))))))
   refine hl_outer (A := ZA) (ps := zp) mB ?_
   refine r_elem (α := Sl Int) zp i rfl T.u_intss T.sz_ints rfl rfl rfl mB rfl hi2 (by decide) ?_
   refine r_load (v := .slice (zp.getD i default).a (zp.getD i default).l.length (zp.getD i default).c) rfl T.cell_ints rfl (cell_row mB (rows_get0 hi2 rfl)) ?_
   refine hl_inner (A := ZA) (ps := zp) (p := (zp.getD i default)) mB (getD_mem hi2) ?_
   refine hl_call F.law09_sums_cb rfl rfl (law09_sums_meets cs (zp.getD i default).l hcd hpb (by omega) rfl) (List.Perm.refl _) ⟨mB, mB, trivial⟩ fun _ _ => ?_
   refine r_move rfl rfl (r_extract rfl rfl rfl (r_extract rfl rfl rfl (r_assign rfl rfl (r_assign rfl rfl (hl_nil (then_n ?_))))))
   refine hc_cut ⟨fun x : Bool => x = decide ((linL cs (zp.getD i default).l).sum ≤ z ∧ ((((combos (m + 1) (upI 0 cs.length)).take i).foldl (fillS cs z) (fillO cs z m)).2.2 < (priL cs (zp.getD i default).l).sum ∨ ((((combos (m + 1) (upI 0 cs.length)).take i).foldl (fillS cs z) (fillO cs z m)).2.2 = (priL cs (zp.getD i default).l).sum ∧ ((((combos (m + 1) (upI 0 cs.length)).take i).foldl (fillS cs z) (fillO cs z m)).2.1 < (linL cs (zp.getD i default).l).sum ∨ ((((combos (m + 1) (upI 0 cs.length)).take i).foldl (fillS cs z) (fillO cs z m)).2.1 = (linL cs (zp.getD i default).l).sum ∧ cmpIs (zp.getD i default).l (((combos (m + 1) (upI 0 cs.length)).take i).foldl (fillS cs z) (fillO cs z m)).1 < 0))))), fun x => [(3, .pointer (some ⟨g, 0, none⟩)), (4, .slice cA cs.length cC), (5, int z), (6, .slice a1 (fillB cs z).1.length c1), (7, int (fillB cs z).2.2), (8, int 0), (9, .slice o.1 (((combos (m + 1) (upI 0 cs.length)).take i).foldl (fillS cs z) (fillO cs z m)).1.length o.2), (10, int (((combos (m + 1) (upI 0 cs.length)).take i).foldl (fillS cs z) (fillO cs z m)).2.1), (11, int (((combos (m + 1) (upI 0 cs.length)).take i).foldl (fillS cs z) (fillO cs z m)).2.2), (12, int (m + 1 : Nat)), (13, .slice ZA zp.length zc), (14, int i), (15, int (linL cs (zp.getD i default).l).sum), (16, int (priL cs (zp.getD i default).l).sum), (91, .bool x)], fun _ => [dice g A cn nums s2], fun _ => [Row o.1 (rows (((combos (m + 1) (upI 0 cs.length)).take i).foldl (fillS cs z) (fillO cs z m)).1), Row (zp.getD i default).a (rows (zp.getD i default).l), Rows2 ZA zp, Row a1 (rows (fillB cs z).1), Row cA (rows cs), Row A (rows nums)]⟩ ?_ ?_
   ·skip
    refine hc_region (r_move rfl rfl (r_move rfl rfl (r_leq rfl rfl rfl (r_move rfl rfl ?_))))
    refine g_split rfl rfl ?_ ?_
    ·intro hg1; have hg1' := hg1; try simp at hg1'
     have q4 : ((linL cs (zp.getD i default).l).sum ≤ z) := by simpa using hg1
     refine g_yes rfl rfl hg1 (r_move rfl rfl (g_yes rfl rfl hg1 (r_move rfl rfl (g_yes rfl rfl hg1 (r_gtr rfl rfl rfl (g_yes rfl rfl hg1 (r_move rfl rfl ?_)))))))
     refine g_split rfl rfl ?_ ?_
     ·intro hg2; have hg2' := hg2; try simp at hg2'
      have q8 : ¬ ((((combos (m + 1) (upI 0 cs.length)).take i).foldl (fillS cs z) (fillO cs z m)).2.2 < (priL cs (zp.getD i default).l).sum) := by simpa using hg2
      refine g_yes rfl rfl hg2 (r_move rfl rfl (g_yes rfl rfl hg2 (r_move rfl rfl (g_yes rfl rfl hg2 (r_eql rfl rfl rfl (g_yes rfl rfl hg2 (r_move rfl rfl ?_)))))))
      refine g_split rfl rfl ?_ ?_
      ·intro hg3; have hg3' := hg3; try simp at hg3'
       have q12 : ((priL cs (zp.getD i default).l).sum = (((combos (m + 1) (upI 0 cs.length)).take i).foldl (fillS cs z) (fillO cs z m)).2.2) := by simpa using hg3
       refine g_yes rfl rfl hg3 (r_move rfl rfl (g_yes rfl rfl hg3 (r_move rfl rfl (g_yes rfl rfl hg3 (r_gtr rfl rfl rfl (g_yes rfl rfl hg3 (r_move rfl rfl ?_)))))))
       refine g_split rfl rfl ?_ ?_
       ·intro hg4; have hg4' := hg4; try simp at hg4'
        have q16 : ¬ ((((combos (m + 1) (upI 0 cs.length)).take i).foldl (fillS cs z) (fillO cs z m)).2.1 < (linL cs (zp.getD i default).l).sum) := by simpa using hg4
        refine g_yes rfl rfl hg4 (r_move rfl rfl (g_yes rfl rfl hg4 (r_move rfl rfl (g_yes rfl rfl hg4 (r_eql rfl rfl rfl (g_yes rfl rfl hg4 (r_move rfl rfl ?_)))))))
        refine g_split rfl rfl ?_ ?_
        ·intro hg5; have hg5' := hg5; try simp at hg5'
         have q20 : ((linL cs (zp.getD i default).l).sum = (((combos (m + 1) (upI 0 cs.length)).take i).foldl (fillS cs z) (fillO cs z m)).2.1) := by simpa using hg5
         refine g_yes rfl rfl hg5 (r_move rfl rfl (g_yes rfl rfl hg5 (r_move rfl rfl (g_yes rfl rfl hg5 ?_))))
         refine hl_outer (A := ZA) (ps := zp) mB ?_
         refine r_elem (α := Sl Int) zp i rfl T.u_intss T.sz_ints rfl rfl rfl mB rfl hi2 (by decide) ?_
         refine g_yes rfl rfl hg5 ?_
         refine r_load (v := .slice (zp.getD i default).a (zp.getD i default).l.length (zp.getD i default).c) rfl T.cell_ints rfl (cell_row mB (rows_get0 hi2 rfl)) ?_
         refine g_yes rfl rfl hg5 (r_move rfl rfl (g_yes rfl rfl hg5 ?_))
         refine hl_call F.kit_Less_cb rfl rfl (kit_Less_meets (zp.getD i default).l (((combos (m + 1) (upI 0 cs.length)).take i).foldl (fillS cs z) (fillO cs z m)).1 (by omega) (by omega) rfl rfl) (List.Perm.refl _) ⟨mB, mB, trivial⟩ fun _ _ => ?_
         refine g_yes rfl rfl hg4 ?_
         refine p_t rfl rfl (bt1 hg5) rfl ?_
         refine g_yes rfl rfl hg3 ?_
         refine p_f rfl rfl (bf1 hg4) rfl ?_
         refine g_yes rfl rfl hg2 ?_
         refine p_t rfl rfl (bt1 hg3) rfl ?_
         refine g_yes rfl rfl hg1 ?_
         refine p_f rfl rfl (bf1 hg2) rfl ?_
         refine p_t rfl rfl (bt1 hg1) rfl ?_
         refine hl_nil ?_
         exact cut_n _ (decide (cmpIs (zp.getD i default).l (((combos (m + 1) (upI 0 cs.length)).take i).foldl (fillS cs z) (fillO cs z m)).1 < 0)) (decide_eq_decide.2 (by omega)) ⟨rfl, rfl, rfl, rfl, rfl, rfl, rfl, rfl, rfl, rfl, rfl, rfl, rfl, rfl, rfl, trivial⟩ (.refl _) ⟨mB, mB, mB, mB, mB, mB, trivial⟩
        ·intro hg5; have hg5' := hg5; try simp at hg5'
         have q20 : ¬ ((linL cs (zp.getD i default).l).sum = (((combos (m + 1) (upI 0 cs.length)).take i).foldl (fillS cs z) (fillO cs z m)).2.1) := by simpa using hg5
         refine g_no rfl rfl rfl rfl rfl hg5 (g_no rfl rfl rfl rfl rfl hg5 (g_no rfl rfl rfl rfl rfl hg5 (g_no rfl rfl rfl rfl rfl hg5 (g_no rfl rfl rfl rfl rfl hg5 (g_no rfl rfl rfl rfl rfl hg5 (g_yes rfl rfl hg4 ?_))))))
         refine p_f rfl rfl (bf2 hg5) rfl ?_
         refine g_yes rfl rfl hg3 ?_
         refine p_f rfl rfl (bf1 hg4) rfl ?_
         refine g_yes rfl rfl hg2 ?_
         refine p_t rfl rfl (bt1 hg3) rfl ?_
         refine g_yes rfl rfl hg1 ?_
         refine p_f rfl rfl (bf1 hg2) rfl ?_
         refine p_t rfl rfl (bt1 hg1) rfl ?_
         refine hl_nil ?_
         exact cut_n _ (false) ((decide_eq_false (by omega)).symm) ⟨rfl, rfl, rfl, rfl, rfl, rfl, rfl, rfl, rfl, rfl, rfl, rfl, rfl, rfl, rfl, trivial⟩ (.refl _) ⟨mB, mB, mB, mB, mB, mB, trivial⟩
       ·intro hg4; have hg4' := hg4; try simp at hg4'
        have q16 : ((((combos (m + 1) (upI 0 cs.length)).take i).foldl (fillS cs z) (fillO cs z m)).2.1 < (linL cs (zp.getD i default).l).sum) := by simpa using hg4
        refine g_no rfl rfl rfl rfl rfl hg4 (g_no rfl rfl rfl rfl rfl hg4 (g_no rfl rfl rfl rfl rfl hg4 (g_no rfl rfl rfl rfl rfl hg4 (g_und rfl rfl rfl rfl rfl rfl (g_und rfl rfl rfl rfl rfl rfl (g_und rfl rfl rfl rfl rfl rfl (g_und rfl rfl rfl rfl rfl rfl (g_und rfl rfl rfl rfl rfl rfl (g_und rfl rfl rfl rfl rfl rfl (g_no rfl rfl rfl rfl rfl hg4 (g_yes rfl rfl hg3 ?_)))))))))))
        refine p_t rfl rfl (bt2 hg4) rfl ?_
        refine g_yes rfl rfl hg2 ?_
        refine p_t rfl rfl (bt1 hg3) rfl ?_
        refine g_yes rfl rfl hg1 ?_
        refine p_f rfl rfl (bf1 hg2) rfl ?_
        refine p_t rfl rfl (bt1 hg1) rfl ?_
        refine hl_nil ?_
        exact cut_n _ (true) ((decide_eq_true (by omega)).symm) ⟨rfl, rfl, rfl, rfl, rfl, rfl, rfl, rfl, rfl, rfl, rfl, rfl, rfl, rfl, rfl, trivial⟩ (.refl _) ⟨mB, mB, mB, mB, mB, mB, trivial⟩
      ·intro hg3; have hg3' := hg3; try simp at hg3'
       have q12 : ¬ ((priL cs (zp.getD i default).l).sum = (((combos (m + 1) (upI 0 cs.length)).take i).foldl (fillS cs z) (fillO cs z m)).2.2) := by simpa using hg3
       refine g_no rfl rfl rfl rfl rfl hg3 (g_no rfl rfl rfl rfl rfl hg3 (g_no rfl rfl rfl rfl rfl hg3 (g_no rfl rfl rfl rfl rfl hg3 (g_und rfl rfl rfl rfl rfl rfl (g_und rfl rfl rfl rfl rfl rfl (g_und rfl rfl rfl rfl rfl rfl (g_und rfl rfl rfl rfl rfl rfl (g_und rfl rfl rfl rfl rfl rfl (g_und rfl rfl rfl rfl rfl rfl (g_und rfl rfl rfl rfl rfl rfl (g_und rfl rfl rfl rfl rfl rfl ?_)))))))))))
       refine g_und rfl rfl rfl rfl rfl rfl (g_und rfl rfl rfl rfl rfl rfl (g_und rfl rfl rfl rfl rfl rfl (g_no rfl rfl rfl rfl rfl hg3 (g_yes rfl rfl hg2 ?_))))
       refine p_f rfl rfl (bf2 hg3) rfl ?_
       refine g_yes rfl rfl hg1 ?_
       refine p_f rfl rfl (bf1 hg2) rfl ?_
       refine p_t rfl rfl (bt1 hg1) rfl ?_
       refine hl_nil ?_
       exact cut_n _ (false) ((decide_eq_false (by omega)).symm) ⟨rfl, rfl, rfl, rfl, rfl, rfl, rfl, rfl, rfl, rfl, rfl, rfl, rfl, rfl, rfl, trivial⟩ (.refl _) ⟨mB, mB, mB, mB, mB, mB, trivial⟩
     ·intro hg2; have hg2' := hg2; try simp at hg2'
      have q8 : ((((combos (m + 1) (upI 0 cs.length)).take i).foldl (fillS cs z) (fillO cs z m)).2.2 < (priL cs (zp.getD i default).l).sum) := by simpa using hg2
      refine g_no rfl rfl rfl rfl rfl hg2 (g_no rfl rfl rfl rfl rfl hg2 (g_no rfl rfl rfl rfl rfl hg2 (g_no rfl rfl rfl rfl rfl hg2 (g_und rfl rfl rfl rfl rfl rfl (g_und rfl rfl rfl rfl rfl rfl (g_und rfl rfl rfl rfl rfl rfl (g_und rfl rfl rfl rfl rfl rfl (g_und rfl rfl rfl rfl rfl rfl (g_und rfl rfl rfl rfl rfl rfl (g_und rfl rfl rfl rfl rfl rfl (g_und rfl rfl rfl rfl rfl rfl ?_)))))))))))
      refine g_und rfl rfl rfl rfl rfl rfl (g_und rfl rfl rfl rfl rfl rfl (g_und rfl rfl rfl rfl rfl rfl (g_und rfl rfl rfl rfl rfl rfl (g_und rfl rfl rfl rfl rfl rfl (g_und rfl rfl rfl rfl rfl rfl (g_und rfl rfl rfl rfl rfl rfl (g_und rfl rfl rfl rfl rfl rfl (g_no rfl rfl rfl rfl rfl hg2 (g_yes rfl rfl hg1 ?_)))))))))
      refine p_t rfl rfl (bt2 hg2) rfl ?_
      refine p_t rfl rfl (bt1 hg1) rfl ?_
      refine hl_nil ?_
      exact cut_n _ (true) ((decide_eq_true (by omega)).symm) ⟨rfl, rfl, rfl, rfl, rfl, rfl, rfl, rfl, rfl, rfl, rfl, rfl, rfl, rfl, rfl, trivial⟩ (.refl _) ⟨mB, mB, mB, mB, mB, mB, trivial⟩
    ·intro hg1; have hg1' := hg1; try simp at hg1'
     have q4 : ¬ ((linL cs (zp.getD i default).l).sum ≤ z) := by simpa using hg1
     refine g_no rfl rfl rfl rfl rfl hg1 (g_no rfl rfl rfl rfl rfl hg1 (g_no rfl rfl rfl rfl rfl hg1 (g_no rfl rfl rfl rfl rfl hg1 (g_und rfl rfl rfl rfl rfl rfl (g_und rfl rfl rfl rfl rfl rfl (g_und rfl rfl rfl rfl rfl rfl (g_und rfl rfl rfl rfl rfl rfl (g_und rfl rfl rfl rfl rfl rfl (g_und rfl rfl rfl rfl rfl rfl (g_und rfl rfl rfl rfl rfl rfl (g_und rfl rfl rfl rfl rfl rfl ?_)))))))))))
     refine g_und rfl rfl rfl rfl rfl rfl (g_und rfl rfl rfl rfl rfl rfl (g_und rfl rfl rfl rfl rfl rfl (g_und rfl rfl rfl rfl rfl rfl (g_und rfl rfl rfl rfl rfl rfl (g_und rfl rfl rfl rfl rfl rfl (g_und rfl rfl rfl rfl rfl rfl (g_und rfl rfl rfl rfl rfl rfl (g_und rfl rfl rfl rfl rfl rfl (g_und rfl rfl rfl rfl rfl rfl (g_und rfl rfl rfl rfl rfl rfl (g_und rfl rfl rfl rfl rfl rfl ?_)))))))))))
     refine g_und rfl rfl rfl rfl rfl rfl (g_no rfl rfl rfl rfl rfl hg1 ?_)
     refine p_f rfl rfl (bf2 hg1) rfl ?_
     refine hl_nil ?_
     exact cut_n _ (false) ((decide_eq_false (by omega)).symm) ⟨rfl, rfl, rfl, rfl, rfl, rfl, rfl, rfl, rfl, rfl, rfl, rfl, rfl, rfl, rfl, trivial⟩ (.refl _) ⟨mB, mB, mB, mB, mB, mB, trivial⟩
   ·rintro x rfl
    first | refine c_dec rfl (fun hb3 => ?_) (fun hb3 => ?_) | refine hc_cond rfl (fun hb3 => ?_) (fun hb3 => ?_)
    ·have hb3' := hb3; try simp at hb3'
     refine hc_region (r_move rfl rfl (r_move rfl rfl ?_))
     refine hl_outer (A := ZA) (ps := zp) mB ?_
     refine r_elem (α := Sl Int) zp i rfl T.u_intss T.sz_ints rfl rfl rfl mB rfl hi2 (by decide) ?_
     refine r_load (v := .slice (zp.getD i default).a (zp.getD i default).l.length (zp.getD i default).c) rfl T.cell_ints rfl (cell_row mB (rows_get0 hi2 rfl)) ?_
     refine r_move rfl rfl (r_move rfl rfl (r_assign rfl rfl (r_assign rfl rfl (r_assign rfl rfl (hl_nil (inb_n (then_n (hc_region (r_move rfl rfl ?_)))))))))
     refine r_add _ rfl rfl rfl rfl (by unfold I64; omega) ?_
     refine r_assign rfl rfl (hl_nil ?_)
     have hst : (((combos (m + 1) (upI 0 cs.length)).take (i + 1)).foldl (fillS cs z) (fillO cs z m)) = handL cs (zp.getD i default).l := by rw [take_succ_getD _ i hcl, List.foldl_append, ← hpl]; exact if_pos (fits_iff.2 hb3)
     exact again _ (i + 1, ((zp.getD i default).a, (zp.getD i default).c)) ⟨by show i + 1 ≤ zp.length; omega, by show (((combos (m + 1) (upI 0 cs.length)).take (i + 1)).foldl (fillS cs z) (fillO cs z m)).1.length ≤ _; rw [hst]; exact hplen⟩ (by show zp.length - (i + 1) < zp.length - i; omega) ⟨rfl, rfl, rfl, rfl, rfl, rfl, congrArg (fun h : Hn => some (Value.slice (((zp.getD i default).a, (zp.getD i default).c)).1 h.1.length (((zp.getD i default).a, (zp.getD i default).c)).2)) hst.symm, congrArg (fun h : Hn => some (int h.2.1)) hst.symm, congrArg (fun h : Hn => some (int h.2.2)) hst.symm, rfl, rfl, rfl, trivial⟩ (.refl _) ⟨by show Row (((zp.getD i default).a, (zp.getD i default).c)).1 (rows (((combos (m + 1) (upI 0 cs.length)).take (i + 1)).foldl (fillS cs z) (fillO cs z m)).1) ∈ _; rw [hst]; exact mB, mB, mB, mB, mB, trivial⟩
    ·have hb3' := hb3; try simp at hb3'
     refine hc_skip (inb_n (then_n (hc_region (r_move rfl rfl ?_))))
     refine r_add _ rfl rfl rfl rfl (by unfold I64; omega) ?_
     refine r_assign rfl rfl (hl_nil ?_)
     have hst : (((combos (m + 1) (upI 0 cs.length)).take (i + 1)).foldl (fillS cs z) (fillO cs z m)) = (((combos (m + 1) (upI 0 cs.length)).take i).foldl (fillS cs z) (fillO cs z m)) := by rw [take_succ_getD _ i hcl, List.foldl_append, ← hpl]; exact if_neg (fun h => hb3 (fits_iff.1 h))
     exact again _ (i + 1, o) ⟨by show i + 1 ≤ zp.length; omega, by show (((combos (m + 1) (upI 0 cs.length)).take (i + 1)).foldl (fillS cs z) (fillO cs z m)).1.length ≤ _; rw [hst]; exact hsl⟩ (by show zp.length - (i + 1) < zp.length - i; omega) ⟨rfl, rfl, rfl, rfl, rfl, rfl, congrArg (fun h : Hn => some (Value.slice (o).1 h.1.length (o).2)) hst.symm, congrArg (fun h : Hn => some (int h.2.1)) hst.symm, congrArg (fun h : Hn => some (int h.2.2)) hst.symm, rfl, rfl, rfl, trivial⟩ (.refl _) ⟨by show Row (o).1 (rows (((combos (m + 1) (upI 0 cs.length)).take (i + 1)).foldl (fillS cs z) (fillO cs z m)).1) ∈ _; rw [hst]; exact mB, mB, mB, mB, mB, trivial⟩
  ·have hb2' := hb2; try simp at hb2'
   obtain rfl : i = zp.length := by omega
   refine hc_exit (then_exit (then_exit (inb_hit (inb_n (then_n (hc_region (r_move rfl rfl ?_)))))))
   refine r_add _ rfl rfl rfl rfl (by unfold I64; omega) ?_
   refine r_assign rfl rfl (hl_nil ?_)
   have hfo : (fillO cs z (m + 1)) = (((combos (m + 1) (upI 0 cs.length)).take zp.length).foldl (fillS cs z) (fillO cs z m)) := by rw [hzl, List.take_length]; rfl
   exact again _ (m + 1, o) (by show m + 1 ≤ cs.length; omega) (by show cs.length - (m + 1) < cs.length - m; omega) ⟨rfl, rfl, rfl, rfl, rfl, rfl, congrArg (fun h : Hn => some (Value.slice o.1 h.1.length o.2)) hfo.symm, congrArg (fun h : Hn => some (int h.2.1)) hfo.symm, congrArg (fun h : Hn => some (int h.2.2)) hfo.symm, rfl, trivial⟩ (.refl _) ⟨by show Row o.1 (rows (fillO cs z (m + 1)).1) ∈ _; rw [hfo]; exact mB, mB, mB, mB, trivial⟩
 ·have hb1' := hb1; try simp at hb1'
  obtain rfl : m = cs.length := by omega
  have hfs := fill_same (cs := cs) (room := z) (by omega)
  have hf2 : (fillO cs z cs.length).2.2 = (fillB cs z).2.2 := by rw [hfs]
  refine hc_exit (then_exit (then_exit (inb_hit (then_n (hc_seq (hc_seq (hc_region (r_move rfl rfl (r_neq rfl rfl rfl (r_move rfl rfl ?_))))))))))
  refine g_split rfl rfl ?_ ?_
  ·intro hg6; have hg6' := hg6; try simp at hg6'
   refine g_yes rfl rfl hg6 (r_move rfl rfl (g_yes rfl rfl hg6 (r_move rfl rfl (g_yes rfl rfl hg6 (r_neq rfl rfl rfl ?_)))))
   refine p_f rfl rfl (bf1 hg6) rfl ?_
   refine r_move rfl rfl ?_
   refine g_split rfl rfl ?_ ?_
   ·intro hg7; have hg7' := hg7; try simp at hg7'
    refine g_yes rfl rfl hg7 (r_move rfl rfl (g_yes rfl rfl hg7 (r_move rfl rfl (g_yes rfl rfl hg7 ?_))))
    refine hl_call F.kit_EqInts_cb rfl rfl (kit_EqInts_meets (fillB cs z).1 (fillO cs z cs.length).1 (by rw [← hfs]; omega)) (List.Perm.refl _) ⟨mB, mB, trivial⟩ fun _ _ => ?_
    rw [decide_eq_true (congrArg (fun h : Hn => h.1) hfs.symm)]
    refine g_yes rfl rfl hg7 (r_not rfl rfl ?_)
    refine p_f rfl rfl (bf1 hg7) rfl ?_
    refine hl_nil (then_n ?_)
    first | refine c_dec rfl (fun hb4 => ?_) (fun hb4 => ?_) | refine hc_cond rfl (fun hb4 => ?_) (fun hb4 => ?_)
    ·all_goals (first | exact absurd rfl hb4 | cases hb4)
    ·have hb4' := hb4; try simp at hb4'
     refine hc_skip (then_n (hc_seq (hc_region (r_move rfl rfl (r_move rfl rfl (r_move rfl rfl ?_))))))
     refine hl_call F.kit_Dice_To_cb rfl rfl (kit_Dice_To_meets (5) hn hs2 (by omega)) (List.Perm.refl _) ⟨mB, trivial⟩ fun xs3 hs3 => ?_
     obtain ⟨s3, z5⟩ := xs3
     obtain ⟨hs3, hz5⟩ := hs3
     simp only at hs3
     have hz5 : 0 ≤ z5 ∧ z5 ≤ 5 := to_bd hz5 (by omega)
     refine r_add _ rfl rfl rfl rfl (by unfold I64; omega) ?_
     refine hl_call F.bold_Fill_cb rfl rfl (fill_is cs (z + z5) (by omega) hcd (by omega) rfl) (List.Perm.refl _) ⟨mB, trivial⟩ fun x2 _ => ?_
     obtain ⟨a2, c2⟩ := x2
     refine r_move rfl rfl (r_extract rfl rfl rfl (r_extract rfl rfl rfl (r_extract rfl rfl rfl (r_assign rfl rfl (r_assign rfl rfl (r_assign rfl rfl (hl_nil (then_n (hc_seq (hc_region ?_))))))))))
     refine r_buildSlice _ rfl rfl (fun _ => T.bs_L_api_Card_0 ..) fun gS => ?_
     refine r_move rfl rfl ?_
     refine r_append (hp' := [dice g A cn nums s3]) cs.length (rows cs) T.el_L_api_Card rfl rfl rfl (Grow.new (cs := #[]) (n := 0) rfl (Nat.zero_le _)) (.refl _) (Src.row (news := rows cs) (m := cs.length) mB (rows_len _) (rows_one _) (by decide)) (by omega) rfl (by unfold maxLen; omega) (by omega) fun A3 c3 og3 hG3 => ?_
     refine r_move rfl rfl ?_
     refine hl_call F.kit_CardsOf_cb rfl rfl (kit_CardsOf_meets 2 hn hs3 (by decide)) (List.perm_append_comm) ⟨mB, trivial⟩ fun xs4 hs4 => ?_
     obtain ⟨s4, y⟩ := xs4
     obtain ⟨hs4, hy⟩ := hs4
     simp only at hs4
     obtain ⟨l2, lA, lC⟩ := y
     obtain ⟨h2, hls, hlc⟩ := hy
     simp only at h2 hls hlc
     have hld := made_cd hls
     clear hls
     refine r_append (hp' := [dice g A cn nums s4]) (cs.length + l2.length) (rows (cs ++ l2)) T.el_L_api_Card rfl rfl rfl hG3 (show List.Perm (dice g A cn nums s4 :: og3) (og3 ++ [dice g A cn nums s4]) from (perm_of fun p => by simp only [List.countP_append, List.countP_cons, List.countP_nil]; omega)) (Src.row (news := rows l2) (m := l2.length) mB (rows_len _) (rows_one _) (by decide)) rfl (rows_append _ _).symm (by unfold maxLen; omega) (by omega) fun A4 c4 og4 hG4 => ?_
     refine hl_grown hG4 (r_move rfl rfl ?_)
     refine hl_call F.bold_Fill_cb rfl rfl (fill_is (cs ++ l2) z (by rw [List.length_append]; omega) (fun x hx => (List.mem_append.1 hx).elim (hcd x) (hld x)) (by omega) List.length_append) (List.Perm.refl _) ⟨mB, trivial⟩ fun x3 _ => ?_
     obtain ⟨a3, c3b⟩ := x3
     refine r_move rfl rfl (r_extract rfl rfl rfl (r_extract rfl rfl rfl (r_extract rfl rfl rfl (r_assign rfl rfl (r_assign rfl rfl (r_assign rfl rfl (hl_nil (then_n (hc_seq ?_)))))))))
     have hfr := fill_room (cs := cs) (room := z) (r2 := z + z5) (by omega) (by omega)
     have hfm := fill_more (cs := cs) (l2 := l2) (room := z) (by omega)
     refine hc_region (r_move rfl rfl (r_eql rfl rfl rfl (r_move rfl rfl ?_)))
     refine g_split rfl rfl ?_ ?_
     ·intro hg8; have hg8' := hg8; try simp at hg8'
      refine g_yes rfl rfl hg8 (r_move rfl rfl (g_yes rfl rfl hg8 (r_eql rfl rfl rfl ?_)))
      refine p_t rfl rfl (bt1 hg8) rfl ?_
      refine r_move rfl rfl ?_
      refine g_split rfl rfl ?_ ?_
      ·intro hg9; have hg9' := hg9; try simp at hg9'
       refine g_yes rfl rfl hg9 (r_move rfl rfl (g_yes rfl rfl hg9 (r_move rfl rfl (g_yes rfl rfl hg9 (r_geq rfl rfl rfl ?_)))))
       refine p_t rfl rfl (bt1 hg9) rfl ?_
       refine r_move rfl rfl ?_
       refine g_split rfl rfl ?_ ?_
       ·intro hg10; have hg10' := hg10; try simp at hg10'
        refine g_yes rfl rfl hg10 (r_move rfl rfl (g_yes rfl rfl hg10 (r_move rfl rfl (g_yes rfl rfl hg10 (r_geq rfl rfl rfl ?_)))))
        refine p_t rfl rfl (bt1 hg10) rfl ?_
        refine r_move rfl rfl ?_
        refine g_split rfl rfl ?_ ?_
        ·intro hg11; have hg11' := hg11; try simp at hg11'
         refine g_yes rfl rfl hg11 ?_
         refine hl_call F.law09_paying_cb rfl rfl (law09_paying_meets) (List.Perm.refl _) trivial fun _ _ => ?_
         refine p_t rfl rfl (bt1 hg11) rfl ?_
         refine r_assign rfl rfl (hl_nil (then_n (hc_ret ?_)))
         exact ret1 () rfl rfl rfl trivial (List.nil_sublist _) trivial
        ·intro hg11; have hg11' := hg11; try simp at hg11'
         all_goals omega
       ·intro hg10; have hg10' := hg10; try simp at hg10'
        all_goals omega
      ·intro hg9; have hg9' := hg9; try simp at hg9'
     ·intro hg8; have hg8' := hg8; try simp at hg8'
   ·intro hg7; have hg7' := hg7; try simp at hg7'
    all_goals omega
  ·intro hg6; have hg6' := hg6; try simp at hg6'
end Go.Proofs.Ytdlbbfcfahahdaa
end
section
namespace Go.W
open Go Go.RowKit Go.ChangeShapes Go.WideShapes
set_option linter.unusedVariables false
set_option linter.unusedSimpArgs false
section
variable {H : Type} {enc : TypeId × Value → H} {P : Program} {w : World} {base : Nat} {spare : Nat → Bool} {held : Bool}
/-- A row of elements of one cell each. -/
theorem row_of {α : Type} [El α] (h1 : El.sz α = 1) {a : Addr} {l : List α} (h : ∀ j (hj : j < l.length), ∃ v, El.cells l[j] = [v] ∧ w.cell? (a.add j) = some v) : (Row (some a) (rows l)).P w := by
  intro j u hu
  refine ⟨a, rfl, ?_⟩
  have hj : j < l.length := by
    have := (List.getElem?_eq_some_iff.1 hu).1
    rw [rows_len, h1, Nat.mul_one] at this
    exact this
  obtain ⟨v, hv, hc⟩ := h j hj
  have h2 := rows_get (l := l) (i := j) (j := 0) (v := v) hj (by simp [List.getD_eq_getElem?_getD, hj, hv])
  rw [h1] at h2
  simp only [Nat.mul_one, Nat.add_zero] at h2
  rw [hu] at h2
  cases h2
  exact hc
theorem in_ints {t e : TypeId} {A : Option Addr} {n c fuel : Nat} {x : DataW H × List MemPlace} (ht : P.underlying t = some (.slice e)) (he : P.underlying e = some (.int .i64)) (hc : P.cellsOf e = 1)
    (h : DataW.trod enc P w base spare held fuel t [.slice A n c] = some x) : ∃ l : List Int, n = l.length ∧ l.length ≤ c ∧ c ≤ maxLen ∧ (Row A (rows l)).P w ∧ ∀ z ∈ l, I64 z := by
  rcases open_ints ht he hc h with ⟨hcs, _⟩ | ⟨a, len, cap, zs, hcs, _, hl, hm, hlen, _, hcell, hwf⟩
  · simp at hcs
    obtain ⟨rfl, rfl, rfl⟩ := hcs
    exact ⟨[], rfl, Nat.le_refl _, by unfold maxLen; omega, Row.nil _ _, by intro z hz; simp at hz⟩
  · simp at hcs
    obtain ⟨rfl, rfl, rfl⟩ := hcs
    have hle : n ≤ zs.length := by rw [hlen]; split <;> omega
    have hlen2 : (zs.take n).length = n := by rw [List.length_take]; omega
    refine ⟨zs.take n, hlen2.symm, by rw [hlen2]; exact hl, hm, row_of rfl fun j hj => ?_, fun z hz => ?_⟩
    · rw [hlen2] at hj
      refine ⟨int zs[j], by simp [El.cells], ?_⟩
      rw [hcell j (by omega)]
      simp [List.getD_eq_getElem?_getD, show j < zs.length by omega]
    · have := hwf z (List.mem_of_mem_take hz)
      simp [Lit.wf, IntKind.min, IntKind.max, IntKind.signed, IntKind.bits] at this
      exact ⟨by omega, by omega⟩
/-- A law's contract, as the row wants it. -/
theorem law_calls {f : Nat} {args : List Value} {LI : List Fact} (h : Meets P f args ({ LI := LI, val := fun _ : Unit => .bool true } : Con Unit)) (hL : ∀ F ∈ LI, F.P w) : CallsB P f args.toArray w fun v w' => v = .bool true ∧ Below w.heap.size w w' := by
  refine (h w ⟨Ext.refl _ _, by simp, by simp, by simp, hL, by simp, fun F hF k hk => .inr (.inr ⟨F, hF, hk⟩)⟩).mono fun v w' hp => ?_
  obtain ⟨_, rfl, _, hwi⟩ := hp
  exact ⟨rfl, hwi.ext.below⟩
end
end Go.W
end
section
namespace Go.W
open Go Go.Conc
set_option linter.unusedVariables false
theorem Lv.at {P : Program} {fr : Frame} {w : World} {v : Value} (h : Lv P fr w v) (d : Nat) : Lv P fr (w.at d) v :=
  ⟨h.1, h.2.1, h.2.2.1, h.2.2.2.elim fun fn x => ⟨fn, x.1, fun d' => x.2 d'⟩⟩
theorem run_of {P : Program} {f : FuncId} {fn : Func} {t : Tmp} {args : Array Value} {W : World} {R : Value → World → Prop} (hf : P.funcs[f]? = some fn) (hres : fn.results = #[.tmp t]) (hin : P.inits.idxOf? f = none)
    (h : CallsB P f args W R) (hat : ∀ v w d, R v w → R v (w.at d)) :
    ∃ M last o w' t', runNT P (M + 1) (solo (G (Frame.enter P f args .normal) []) W) #[] = (.ended o w', t') ∧ runN P M (solo (G (Frame.enter P f args .normal) []) W) = .next last ∧ step P last = .ended o w' ∧ Conc.Good P R last o w' t' := by
  have hco := h [] (fun g w => ∃ v fr, g = G fr [] ∧ fr.fn = f ∧ Lv P fr w v ∧ R v w) (fun fr v w' hfr hR hl => co_done fun d => ⟨v, fr, rfl, hfr, hl.at d, hat _ _ _ hR⟩)
  obtain ⟨N, gs, g, w, sl, t0, q, B, r, h0, hL, hP, v, fr, rfl, hfr, hl, hR⟩ := hco W.drawn #[G (Frame.enter P f args .normal) []] none #[] (fun _ => 0) 0 rfl (leavers_one P _) past_nil
  have hG : Goes P true AtRel (fun _ _ es => ∀ e ∈ es, EvL noS B e) (AtEnd P noS B R) 0 (G fr []) w := by
    rintro w₁ ⟨d, rfl⟩
    refine ⟨rfl, v, #[], ?_, by simp, hat _ _ _ hR⟩
    obtain ⟨hm, hd, hn, fn', hf', hr⟩ := hl.at d
    rw [hfr, hf] at hf'
    obtain rfl := Option.some.inj hf'
    have hf2 : P.funcs[fr.fn]? = some fn := by rw [hfr]; exact hf
    have hin2 : P.inits.idxOf? fr.fn = none := by rw [hfr]; exact hin
    have he : (results fn fr.tmps).events P (w.at d) #[] = #[] := events_results_tmp hres _ _
    have hr0 : (results fn fr.tmps).run P (w.at d) = .ok v (w.at d) := hr d
    simp [G, stepG, unwind, doReturn, hn, hd, hm, hf2, hr0, he, hin2, GStep.after, seen]
  obtain ⟨M, last, o, w', t', e1, e2, e3, e4⟩ := beside_ends (P := P) (Post := R) (sl := sl) (fun _ _ _ h => h) h0 hL hP hG
  have hrun : runNT P N (solo (G (Frame.enter P f args .normal) []) W) #[] = (.next (crowd gs w sl), t0) := r
  refine ⟨N + M, last, o, w', t', ?_, ?_, e3, e4⟩
  · rw [Nat.add_assoc, runNT_two hrun]; exact e1
  · rw [runN_add, ← runNT_fst P _ _ #[], hrun]; exact e2
end Go.W
end
