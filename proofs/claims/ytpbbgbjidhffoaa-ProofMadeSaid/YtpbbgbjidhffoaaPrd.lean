/- The walk of the statement ProofMade. -/
import Derived.Test.YtpbbgbjidhffoaaPrb
import Derived.Test.YtpbbgbjidhffoaaPqc
namespace Go.Proofs.Ytpbbgbjidhffoaa
open Go Go.W
set_option linter.unusedVariables false
set_option linter.unusedSimpArgs false
set_option maxRecDepth 20000
attribute [local irreducible] HL HC HQ HB Row Rows2 Blk Facts


set_option maxHeartbeats 2000000 in
theorem law07_ProofMade_meets {N : Option Addr} {cn : Nat} (nums : List Int) (hn : nums.length ≤ 9223372036854775807) :
    Meets Try.prog F.law07_ProofMade [.slice N nums.length cn] { LI := [Row N (rows nums)], val := fun _ : Unit => .bool true } := by
  refine meets_intro F.law07_ProofMade_f rfl (Nat.le_of_ble_eq_true rfl) fun w0 => ?_
  refine hc_seq ?_
  refine hc_region ?_
  refine r_assign rfl rfl ?_
  refine hl_nil ?_
  refine then_n ?_
  refine hc_seq ?_
  refine hc_region ?_
  refine r_move rfl rfl ?_
  refine hl_call F.kit_NewDice_cb rfl rfl (kit_NewDice_meets nums) (List.Perm.refl _) ⟨m0, trivial⟩ fun gd _ => ?_
  refine r_assign rfl rfl ?_
  refine hl_nil ?_
  refine then_n ?_
  refine hc_seq ?_
  refine hc_region ?_
  refine r_move rfl rfl ?_
  refine hl_call F.kit_PageOf_cb rfl rfl (kit_PageOf_meets 6 hn (dok0 nums) (by omega)) (.refl _) ⟨m0, trivial⟩ fun r hr => ?_
  obtain ⟨s1, x, ox⟩ := r
  obtain ⟨hs1, hx6, hxo, hxc⟩ := hr
  simp only at hx6 hxc hxo
  refine r_move rfl rfl ?_
  refine hl_call F.kit_PageOf_cb rfl rfl (kit_PageOf_meets 6 hn hs1 (by omega)) (.refl _) ⟨m1, trivial⟩ fun r hr => ?_
  obtain ⟨s2, y, oy⟩ := r
  obtain ⟨hs2, hy6, hyo, hyc⟩ := hr
  simp only at hy6 hyc hyo
  have hpx := page_ok hxo (by omega)
  have hpy := page_ok hyo (by omega)
  have hde := diffE_ok (diffP x y 0 0).2 hpx hpy
  have hap := diff_makes hpx hpy (page_lines hyo)
  have hds := diffE_ok (diffP x x 0 0).2 hpx hpx
  rw [diff_self x _ 0 (Nat.le_refl _) (Nat.zero_le _)] at hds
  refine r_assign rfl rfl ?_
  refine r_assign rfl rfl ?_
  refine hl_nil ?_
  refine then_n ?_
  refine hc_seq ?_
  refine hc_region ?_
  refine r_move rfl rfl ?_
  refine r_move rfl rfl ?_
  have hd1 := proof_Diff_meets (A := ox.1) (ca := ox.2) (B := oy.1) (cb := oy.2) x y
  rw [hde] at hd1
  refine hl_call F.proof_Diff_cb rfl rfl hd1 (List.Perm.refl _) ⟨(by repeat constructor), (by repeat constructor), trivial⟩ fun z3 _ => ?_
  refine r_move rfl rfl ?_
  refine r_extract rfl rfl rfl ?_
  refine r_extract rfl rfl rfl ?_
  refine r_assign rfl rfl ?_
  refine r_assign rfl rfl ?_
  refine hl_nil ?_
  refine then_n ?_
  refine hc_seq ?_
  refine hc_region ?_
  refine r_move rfl rfl ?_
  refine r_move rfl rfl ?_
  have hd2 := proof_Apply_meets (A := ox.1) (ca := ox.2) (B := z3.1) (cb := z3.2) x (diffP x y 0 0).2 hxc
  rw [hap] at hd2
  refine hl_call F.proof_Apply_cb rfl rfl hd2 (List.Perm.refl _) ⟨(by repeat constructor), (by repeat constructor), trivial⟩ fun z4 _ => ?_
  refine r_move rfl rfl ?_
  refine r_extract rfl rfl rfl ?_
  refine r_extract rfl rfl rfl ?_
  refine r_assign rfl rfl ?_
  refine r_assign rfl rfl ?_
  refine hl_nil ?_
  refine then_n ?_
  refine hc_seq ?_
  refine hc_region ?_
  refine r_move rfl rfl ?_
  refine r_move rfl rfl ?_
  refine hl_call F.kit_DupStrings_cb rfl rfl (kit_DupStrings_meets x (by omega)) (List.Perm.refl _) ⟨(by repeat constructor), trivial⟩ fun z5 _ => ?_
  have hd3 := proof_Diff_meets (A := ox.1) (ca := ox.2) (B := z5.1) (cb := z5.2) x x
  rw [diff_self x _ 0 (Nat.le_refl _) (Nat.zero_le _), hds] at hd3
  refine hl_call F.proof_Diff_cb rfl rfl hd3 (List.Perm.refl _) ⟨(by repeat constructor), (by repeat constructor), trivial⟩ fun z6 _ => ?_
  refine r_move rfl rfl ?_
  refine r_extract rfl rfl rfl ?_
  refine r_extract rfl rfl rfl ?_
  refine r_assign rfl rfl ?_
  refine r_assign rfl rfl ?_
  refine hl_nil ?_
  refine then_n ?_
  refine hc_seq ?_
  refine hc_region ?_
  refine r_move rfl rfl ?_
  refine r_eql rfl rfl rfl ?_
  refine r_move rfl rfl ?_
  refine g_split rfl rfl ?_ ?_
  · intro hg1; have hg1' := hg1; try simp at hg1'
    refine g_yes rfl rfl (by first | rfl | assumption | exact gy (by assumption) | exact gy2 (by assumption)) ?_
    refine r_move rfl rfl ?_
    refine g_yes rfl rfl (by first | rfl | assumption | exact gy (by assumption) | exact gy2 (by assumption)) ?_
    refine r_eql rfl rfl rfl ?_
    refine p_t rfl rfl (by first | rfl | assumption | exact bt1 (by assumption) | exact bt2 (by assumption)) rfl ?_
    refine r_move rfl rfl ?_
    refine g_split rfl rfl ?_ ?_
    · intro hg2; have hg2' := hg2; try simp at hg2'
      refine g_yes rfl rfl (by first | rfl | assumption | exact gy (by assumption) | exact gy2 (by assumption)) ?_
      refine r_move rfl rfl ?_
      refine g_yes rfl rfl (by first | rfl | assumption | exact gy (by assumption) | exact gy2 (by assumption)) ?_
      refine r_eql rfl rfl rfl ?_
      refine p_t rfl rfl (by first | rfl | assumption | exact bt1 (by assumption) | exact bt2 (by assumption)) rfl ?_
      refine r_move rfl rfl ?_
      refine g_split rfl rfl ?_ ?_
      · intro hg3; have hg3' := hg3; try simp at hg3'
        refine g_yes rfl rfl (by first | rfl | assumption | exact gy (by assumption) | exact gy2 (by assumption)) ?_
        refine r_move rfl rfl ?_
        refine g_yes rfl rfl (by first | rfl | assumption | exact gy (by assumption) | exact gy2 (by assumption)) ?_
        refine r_len_sl rfl T.u_L_api_Mark rfl ?_
        refine g_yes rfl rfl (by first | rfl | assumption | exact gy (by assumption) | exact gy2 (by assumption)) ?_
        refine r_eql rfl rfl rfl ?_
        refine p_t rfl rfl (by first | rfl | assumption | exact bt1 (by assumption) | exact bt2 (by assumption)) rfl ?_
        refine r_move rfl rfl ?_
        refine g_split rfl rfl ?_ ?_
        · intro hg4; have hg4' := hg4; try simp at hg4'
          refine g_yes rfl rfl (by first | rfl | assumption | exact gy (by assumption) | exact gy2 (by assumption)) ?_
          refine r_move rfl rfl ?_
          refine g_yes rfl rfl (by first | rfl | assumption | exact gy (by assumption) | exact gy2 (by assumption)) ?_
          refine r_move rfl rfl ?_
          refine g_yes rfl rfl (by first | rfl | assumption | exact gy (by assumption) | exact gy2 (by assumption)) ?_
          refine hl_call F.kit_EqStrings_cb rfl rfl (kit_EqStrings_meets y y (by omega)) (List.Perm.refl _) ⟨(by repeat constructor), (by repeat constructor), trivial⟩ fun _ _ => ?_
          refine p_t rfl rfl (by first | rfl | assumption | exact bt1 (by assumption) | exact bt2 (by assumption)) rfl ?_
          refine r_move rfl rfl ?_
          refine g_split rfl rfl ?_ ?_
          · intro hg5; have hg5' := hg5; try simp at hg5'
            refine g_yes rfl rfl (by first | rfl | assumption | exact gy (by assumption) | exact gy2 (by assumption)) ?_
            refine hl_call F.law07_correcting_cb rfl rfl (law07_correcting_meets) (List.Perm.refl _) trivial fun _ _ => ?_
            refine p_t rfl rfl (by first | rfl | assumption | exact bt1 (by assumption) | exact bt2 (by assumption)) rfl ?_
            refine r_assign rfl rfl ?_
            refine hl_nil ?_
            refine then_n ?_
            refine hc_ret ?_
            exact ret1 () rfl rfl rfl trivial (List.nil_sublist _) trivial
          · intro hg5; have hg5' := hg5; try simp at hg5'
        · intro hg4; have hg4' := hg4; try simp at hg4'
      · intro hg3; have hg3' := hg3; try simp at hg3'
    · intro hg2; have hg2' := hg2; try simp at hg2'
  · intro hg1; have hg1' := hg1; try simp at hg1'

end Go.Proofs.Ytpbbgbjidhffoaa
