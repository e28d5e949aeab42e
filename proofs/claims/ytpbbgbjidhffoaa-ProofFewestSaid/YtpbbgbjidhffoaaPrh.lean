/- The walk of the statement ProofFewest. -/
import Derived.Test.YtpbbgbjidhffoaaPrg
import Derived.Test.YtpbbgbjidhffoaaPqg
import Derived.Test.YtpbbgbjidhffoaaWn
namespace Go.Proofs.Ytpbbgbjidhffoaa
open Go Go.W
set_option linter.unusedVariables false
set_option linter.unusedSimpArgs false
set_option maxRecDepth 20000
attribute [local irreducible] HL HC HQ HB Row Rows2 Blk Facts

theorem PageOK.take {l : List Str} {k : Nat} (h : PageOK l) : PageOK (l.take k) := fun s hs => h s (List.mem_of_mem_take hs)


set_option maxHeartbeats 2000000 in
theorem law07_ProofFewest_meets {N : Option Addr} {cn : Nat} (nums : List Int) (hn : nums.length ≤ 9223372036854775807) :
    Meets Try.prog F.law07_ProofFewest [.slice N nums.length cn] { LI := [Row N (rows nums)], val := fun _ : Unit => .bool true } := by
  refine meets_intro F.law07_ProofFewest_f rfl (Nat.le_of_ble_eq_true rfl) fun w0 => ?_
  refine hc_seq ?_
  refine hc_region ?_
  refine r_assign rfl rfl ?_
  refine hl_nil ?_
  refine then_n ?_
  refine hc_seq ?_
  refine hc_region ?_
  refine r_move rfl rfl ?_
  refine hl_call F.kit_NewDice_cb rfl rfl (kit_NewDice_meets nums) (List.Perm.refl _) ⟨m0, trivial⟩ fun gd _ => ?_
  refine r_assign rfl rfl ?_
  refine hl_nil ?_
  refine then_n ?_
  refine hc_seq ?_
  refine hc_region ?_
  refine r_move rfl rfl ?_
  refine hl_call F.kit_PageOf_cb rfl rfl (kit_PageOf_meets 6 hn (dok0 nums) (by omega)) (.refl _) ⟨(by repeat constructor), trivial⟩ fun r hr => ?_
  obtain ⟨s1, x, ox⟩ := r
  obtain ⟨hs1, hxn, hxo, hxc⟩ := hr
  simp only at hxn hxc hxo
  have hjx : (s1, x, ox).snd.fst.length = x.length := rfl
  have hkx : (s1, x, ox).snd.snd.snd = ox.2 := rfl
  refine r_move rfl rfl ?_
  refine hl_call F.kit_PageOf_cb rfl rfl (kit_PageOf_meets 6 hn hs1 (by omega)) (.refl _) ⟨(by repeat constructor), trivial⟩ fun r hr => ?_
  obtain ⟨s2, y, oy⟩ := r
  obtain ⟨hs2, hyn, hyo, hyc⟩ := hr
  simp only at hyn hyc hyo
  have hjy : (s2, y, oy).snd.fst.length = y.length := rfl
  have hky : (s2, y, oy).snd.snd.snd = oy.2 := rfl
  have hpx := page_ok hxo (by omega)
  have hpy := page_ok hyo (by omega)
  have hb1 := common_bd x y
  refine r_assign rfl rfl ?_
  refine r_assign rfl rfl ?_
  refine hl_nil ?_
  refine then_n ?_
  refine hc_seq ?_
  refine hc_region ?_
  refine r_move rfl rfl ?_
  refine r_move rfl rfl ?_
  have hd1 := proof_Diff_meets (A := ox.1) (ca := ox.2) (B := oy.1) (cb := oy.2) x y
  rw [diffE_ok (diffP x y 0 0).2 hpx hpy] at hd1
  refine hl_call F.proof_Diff_cb rfl rfl (hd1) (List.Perm.refl _) ⟨(by repeat constructor), (by repeat constructor), trivial⟩ fun z3 _ => ?_
  refine r_move rfl rfl ?_
  refine r_extract rfl rfl rfl ?_
  refine r_extract rfl rfl rfl ?_
  refine r_assign rfl rfl ?_
  refine r_assign rfl rfl ?_
  refine hl_nil ?_
  refine then_n ?_
  refine hc_seq ?_
  refine hc_region ?_
  refine r_move rfl rfl ?_
  refine r_move rfl rfl ?_
  have hd2 := proof_Cost_meets (A := ox.1) (ca := ox.2) (B := z3.1) (cb := z3.2) x (diffP x y 0 0).2
  rw [diff_cost hpx hpy (page_lines hyo)] at hd2
  refine hl_call F.proof_Cost_cb rfl rfl (hd2) (List.Perm.refl _) ⟨(by repeat constructor), (by repeat constructor), trivial⟩ fun _ _ => ?_
  refine r_move rfl rfl ?_
  refine r_extract rfl rfl rfl ?_
  refine r_extract rfl rfl rfl ?_
  refine r_assign rfl rfl ?_
  refine r_assign rfl rfl ?_
  refine hl_nil ?_
  refine then_n ?_
  refine hc_seq ?_
  refine hc_seq ?_
  refine hc_region ?_
  refine r_move rfl rfl ?_
  refine r_neq rfl rfl rfl ?_
  refine r_move rfl rfl ?_
  refine g_split rfl rfl ?_ ?_
  · intro hg1; have hg1' := hg1; try simp at hg1'
    refine g_yes rfl rfl (by first | rfl | assumption | exact gy (by assumption) | exact gy2 (by assumption)) ?_
    refine r_move rfl rfl ?_
    refine g_yes rfl rfl (by first | rfl | assumption | exact gy (by assumption) | exact gy2 (by assumption)) ?_
    refine r_neq rfl rfl rfl ?_
    refine p_f rfl rfl (by first | rfl | assumption | exact bf1 (by assumption) | exact bf2 (by assumption)) rfl ?_
    refine r_move rfl rfl ?_
    refine g_split rfl rfl ?_ ?_
    · intro hg2; have hg2' := hg2; try simp at hg2'
      refine g_yes rfl rfl (by first | rfl | assumption | exact gy (by assumption) | exact gy2 (by assumption)) ?_
      refine r_move rfl rfl ?_
      refine g_yes rfl rfl (by first | rfl | assumption | exact gy (by assumption) | exact gy2 (by assumption)) ?_
      refine r_move rfl rfl ?_
      refine g_yes rfl rfl (by first | rfl | assumption | exact gy (by assumption) | exact gy2 (by assumption)) ?_
      refine r_len_sl rfl T.u_strs rfl ?_
      refine g_yes rfl rfl (by first | rfl | assumption | exact gy (by assumption) | exact gy2 (by assumption)) ?_
      refine r_move rfl rfl ?_
      refine g_yes rfl rfl (by first | rfl | assumption | exact gy (by assumption) | exact gy2 (by assumption)) ?_
      refine r_move rfl rfl ?_
      refine g_yes rfl rfl (by first | rfl | assumption | exact gy (by assumption) | exact gy2 (by assumption)) ?_
      refine hl_call F.kit_Common_cb rfl rfl (kit_Common_meets x y (by omega) (by omega)) (List.Perm.refl _) ⟨(by repeat constructor), (by repeat constructor), trivial⟩ fun _ _ => ?_
      refine g_yes rfl rfl (by first | rfl | assumption | exact gy (by assumption) | exact gy2 (by assumption)) ?_
      refine r_sub _ rfl rfl rfl rfl (by unfold I64; omega) ?_
      refine g_yes rfl rfl (by first | rfl | assumption | exact gy (by assumption) | exact gy2 (by assumption)) ?_
      refine r_neq rfl rfl rfl ?_
      refine p_f rfl rfl (by first | rfl | assumption | exact bf1 (by assumption) | exact bf2 (by assumption)) rfl ?_
      refine hl_nil ?_
      refine then_n ?_
      first | refine c_dec rfl (fun hb1 => ?_) (fun hb1 => ?_) | refine hc_cond rfl (fun hb1 => ?_) (fun hb1 => ?_)
      · have hb1' := hb1; try simp at hb1'
      · have hb1' := hb1; try simp at hb1'
        refine hc_skip ?_
        refine then_n ?_
        refine hc_seq ?_
        refine hc_draw 11 mixed (by decide) (by decide) rfl rfl ?_
        apply hb_ex _ rfl rfl rfl
        · intro w1
          refine r_move rfl rfl ?_
          refine hl_nil ?_
          exact qe_done rfl
        apply hb_ex _ rfl rfl rfl
        · intro w1
          refine r_move rfl rfl ?_
          refine hl_nil ?_
          exact qe_done rfl
        apply hb_ex _ rfl rfl rfl
        · intro w1
          refine r_len_sl rfl T.u_strs rfl ?_
          refine hl_nil ?_
          exact qe_done rfl
        apply hb_ex _ rfl rfl rfl
        · intro w1
          refine r_min ((min 3 x.length : Nat) : Int) rfl rfl rfl (by split <;> omega) ?_
          refine hl_nil ?_
          exact qe_done rfl
        apply hb_ex _ rfl rfl rfl
        · intro w1
          refine r_slice_hi (min 3 x.length) rfl T.u_strs T.sz_string rfl rfl rfl (by omega) ?_
          refine hl_nil ?_
          exact qe_done rfl
        apply hb_ex _ rfl rfl rfl
        · intro w1
          refine r_move rfl rfl ?_
          refine hl_nil ?_
          exact qe_done rfl
        apply hb_ex _ rfl rfl rfl
        · intro w1
          refine r_move rfl rfl ?_
          refine hl_nil ?_
          exact qe_done rfl
        apply hb_ex _ rfl rfl rfl
        · intro w1
          refine r_len_sl rfl T.u_strs rfl ?_
          refine hl_nil ?_
          exact qe_done rfl
        apply hb_ex _ rfl rfl rfl
        · intro w1
          refine r_min ((min 3 y.length : Nat) : Int) rfl rfl rfl (by split <;> omega) ?_
          refine hl_nil ?_
          exact qe_done rfl
        apply hb_ex _ rfl rfl rfl
        · intro w1
          refine r_slice_hi (min 3 y.length) rfl T.u_strs T.sz_string rfl rfl rfl (by omega) ?_
          refine hl_nil ?_
          exact qe_done rfl
        apply hb_ex _ rfl rfl rfl
        · intro w1
          refine r_assign rfl rfl ?_
          refine hl_nil ?_
          exact qe_done rfl
        refine hb_nil ⟨rfl, ?_⟩
        refine r_assign rfl rfl ?_
        refine hl_nil ?_
        refine then_n ?_
        refine hc_seq ?_
        refine hc_cutrow (p := x) (ca := ox.2) 0 (min 3 x.length) (by repeat constructor) hxc ?_
        refine hc_cutrow (p := y) (ca := oy.2) 0 (min 3 y.length) (by repeat constructor) hyc ?_
        rw [cutA_zero, cutA_zero, List.drop_zero, List.drop_zero]
        have hax : (x.take (min 3 x.length)).length = min 3 x.length := by rw [List.length_take]; omega
        have hay : (y.take (min 3 y.length)).length = min 3 y.length := by rw [List.length_take]; omega
        have hpx2 := page_ok (hxo.take (k := min 3 x.length)) (by omega)
        have hpy2 := page_ok (hyo.take (k := min 3 y.length)) (by omega)
        generalize hX : x.take (min 3 x.length) = X at *
        generalize hY : y.take (min 3 y.length) = Y at *
        refine hc_nilrow (α := Mk) ?_
        refine hc_region ?_
        refine r_alloc rfl (fun _ => T.al_L_api_Mark _) fun gm => ?_
        refine hl_nil ?_
        refine then_n ?_
        refine hc_seq ?_
        refine hc_region ?_
        refine r_alloc rfl (fun _ => T.al_bool _) fun gs => ?_
        refine r_store rfl rfl (by first | exact .refl _ | exact perm2 _ _ _ | exact perm3 _ _ _ _ | exact perm4 _ _ _ _ _) T.sz_bool (by rfl) (by rfl) ?_
        refine hl_nil ?_
        refine then_n ?_
        refine hc_seq ?_
        refine hc_region ?_
        refine r_move rfl rfl ?_
        refine r_move rfl rfl ?_
        have hl := law07_lists_meets (A := ox.1) (B := oy.1) (ca := ox.2) (cb := oy.2) (gm := gm) (gs := gs) X Y (by omega) (by omega) 6 0 0 [] none 0 (none, (none, 0)) (by omega) (by omega) (by omega) (by simp only [List.length_nil]; omega) (Nat.zero_le _) (by intro b h; cases h)
        rw [hax, hay, pick_all X Y 6 (by omega)] at hl
        refine hl_call (vs := [.slice ox.1 (min 3 x.length) ox.2, .slice oy.1 (min 3 y.length) oy.2, int (0 : Nat), int (0 : Nat), .slice none 0 0, ptrM gm, ptrM gs]) F.law07_lists_cb rfl rfl hl (hpR := [_]) (.swap _ _ _) ⟨(by repeat constructor), (by repeat constructor), (by repeat constructor), (by repeat constructor), trivial⟩ fun u hu => ?_
        obtain ⟨uo, uc⟩ := u
        obtain ⟨hu, _⟩ := hu
        simp only at hu
        subst hu
        have hdl := diffR_len X Y _ 0 0 (Nat.le_refl _)
        refine hl_nil ?_
        refine then_n ?_
        refine hc_seq ?_
        refine hc_region ?_
        refine r_move rfl rfl ?_
        refine r_move rfl rfl ?_
        have hd3 := proof_Diff_meets (A := ox.1) (ca := ox.2) (B := oy.1) (cb := oy.2) X Y
        rw [diffE_ok (diffP X Y 0 0).2 hpx2 hpy2, diff_same, hax, hay] at hd3
        refine hl_call F.proof_Diff_cb rfl rfl (hd3) (hpR := lhp gm gs (some (diffR X Y 0 0), uc) ++ [dice gd N cn nums s2]) (List.Perm.refl _) ⟨(by repeat constructor), (by repeat constructor), trivial⟩ fun z6 _ => ?_
        refine r_move rfl rfl ?_
        refine r_extract rfl rfl rfl ?_
        refine r_extract rfl rfl rfl ?_
        refine r_assign rfl rfl ?_
        refine r_assign rfl rfl ?_
        refine hl_nil ?_
        refine then_n ?_
        refine hc_seq ?_
        refine hc_perm (hp' := [cellM gm (lval (some (diffR X Y 0 0), uc)), cellB gs true, dice gd N cn nums s2]) (.refl _) ?_
        refine hc_region ?_
        refine r_move rfl rfl ?_
        refine r_eql rfl rfl rfl ?_
        refine r_move rfl rfl ?_
        refine g_split rfl rfl ?_ ?_
        · intro hg3; have hg3' := hg3; try simp at hg3'
          refine g_yes rfl rfl (by first | rfl | assumption | exact gy (by assumption) | exact gy2 (by assumption)) ?_
          refine r_move rfl rfl ?_
          refine g_yes rfl rfl (by first | rfl | assumption | exact gy (by assumption) | exact gy2 (by assumption)) ?_
          first | refine r_load rfl T.cell_L_api_Mark rfl (cell_own (by repeat constructor) rfl) ?_ | refine r_load rfl T.cell_L_api_Mark rfl (cell_blk (by repeat constructor) rfl) ?_ | refine r_load rfl T.cell_L_api_Mark rfl (cell_row (by repeat constructor) (rows_get0 (by omega) rfl)) ?_ | refine r_load rfl T.cell_L_api_Mark rfl (cell_row_f (by repeat constructor) (rows_get (by omega) rfl)) ?_
          refine g_yes rfl rfl (by first | rfl | assumption | exact gy (by assumption) | exact gy2 (by assumption)) ?_
          refine hl_call F.kit_EqMarks_cb rfl rfl (kit_EqMarks_meets (diffR X Y 0 0) ((some (diffR X Y 0 0)).getD []) (by omega)) (List.Perm.refl _) ⟨(by repeat constructor), (by repeat constructor), trivial⟩ fun _ _ => ?_
          refine p_t rfl rfl (by first | rfl | assumption | exact bt1 (by assumption) | exact bt2 (by assumption)) rfl ?_
          refine r_move rfl rfl ?_
          refine g_split rfl rfl ?_ ?_
          · intro hg4; have hg4' := hg4; try simp at hg4'
            refine g_yes rfl rfl (by first | rfl | assumption | exact gy (by assumption) | exact gy2 (by assumption)) ?_
            refine hl_call F.law07_correcting_cb rfl rfl (law07_correcting_meets) (List.Perm.refl _) trivial fun _ _ => ?_
            refine p_t rfl rfl (by first | rfl | assumption | exact bt1 (by assumption) | exact bt2 (by assumption)) rfl ?_
            refine r_assign rfl rfl ?_
            refine hl_nil ?_
            refine then_n ?_
            refine hc_ret ?_
            exact ret1 () rfl rfl rfl trivial (List.nil_sublist _) trivial
          · intro hg4; have hg4' := hg4; try simp at hg4'
        · intro hg3; have hg3' := hg3; try simp at hg3'
    · intro hg2; have hg2' := hg2; try simp at hg2'
  · intro hg1; have hg1' := hg1; try simp at hg1'

end Go.Proofs.Ytpbbgbjidhffoaa
