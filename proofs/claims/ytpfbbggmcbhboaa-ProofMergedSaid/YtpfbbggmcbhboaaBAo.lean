/- Texts. -/
import Derived.ProofKit
import Derived.OpenShut
import Derived.ShutString
import Derived.ChangeOld
import Derived.Below
import Derived.SliceStrings
import Derived.ChangeSlices
import Derived.Deep.Slices
import Derived.Conc.LeavingOf
import Derived.Test.YtpfbbggmcbhboaaBAn
import Derived.Test.YtpfbbggmcbhboaaBAf
import Derived.Test.YtpfbbggmcbhboaaBAa
set_option linter.unusedVariables false
set_option linter.unusedSimpArgs false
section
namespace Go.Proofs.Ytpfbbggmcbhboaa
open Go Go.W
set_option maxRecDepth 20000
attribute [local irreducible] HL HC HQ HB Row Rows2 Blk Facts
set_option maxHeartbeats 4000000 in
theorem law07_ProofMerged_meets {N : Option Addr} {cn : Nat} (nums : List Int) (hn : nums.length ≤ 9223372036854775807) :
    Meets Try.prog F.law07_ProofMerged [.slice N nums.length cn] { LI := [Row N (rows nums)], val := fun _ : Unit => .bool true } := by
 refine meets_intro F.law07_ProofMerged_f rfl (Nat.le_of_ble_eq_true rfl) fun w0 => ?_; refine hc_seq (hc_region (r_assign rfl rfl (hl_nil (then_n (hc_seq (hc_region (r_move rfl rfl ?_))))))); refine hl_call F.kit_NewDice_cb rfl rfl (kit_NewDice_meets nums) (List.Perm.refl _) ⟨m0, trivial⟩ fun gd _ => ?_; refine r_assign rfl rfl (hl_nil (then_n (hc_seq (hc_region (r_move rfl rfl ?_))))); refine hl_call F.kit_PageOf_cb rfl rfl (kit_PageOf_meets 6 hn (dok0 nums) (by omega)) (.refl _) ⟨m0, trivial⟩ fun r hr => ?_; obtain ⟨s1, x, ox⟩ := r; obtain ⟨hs1, hx6, hxo, hxc⟩ := hr; simp only at hx6 hxc hxo; refine r_assign rfl rfl (hl_nil (then_n (hc_seq (hc_region (r_move rfl rfl (r_move rfl rfl ?_)))))); refine r_len_sl rfl T.u_strs rfl ?_; refine hl_call F.kit_MarksOf_cb rfl rfl (kit_MarksOf_meets x.length 6 hn hs1 (by omega)) (.refl _) ⟨m1, trivial⟩ fun r hr => ?_; obtain ⟨s2, y, oy⟩ := r; obtain ⟨hs2, hy6, hyo, hyc⟩ := hr; simp only at hy6 hyc hyo; refine r_move rfl rfl (r_move rfl rfl ?_); refine r_len_sl rfl T.u_strs rfl ?_; refine hl_call F.kit_MarksOf_cb rfl rfl (kit_MarksOf_meets x.length 6 hn hs2 (by omega)) (.refl _) ⟨m2, trivial⟩ fun r hr => ?_; obtain ⟨s3, w, ow⟩ := r; obtain ⟨hs3, hw6, hwo, hwc⟩ := hr; simp only at hw6 hwc hwo; refine r_assign rfl rfl (r_assign rfl rfl (hl_nil (then_n (hc_seq ?_)))); have hpx := page_ok hxo (by omega); obtain ⟨e1, e2, e3⟩ := merge_nil hpx hyo (by omega); refine hc_region (r_move rfl rfl (r_move rfl rfl ?_)); refine hl_nilrow (α := Mk) ?_; have hd := proof_Merge_meets (A := ox.1) (ca := ox.2) (B := oy.1) (cb := oy.2) (C := none) (cc := 0) x y []; rw [e1] at hd; refine hl_call (vs := [.slice ox.1 x.length ox.2, .slice oy.1 y.length oy.2, .slice none 0 0]) F.proof_Merge_cb rfl rfl (hd) (List.Perm.refl _) ⟨mB, mB, mB, trivial⟩ fun u1 _ => ?_; refine r_move rfl rfl (r_extract rfl rfl rfl (r_extract rfl rfl rfl (r_assign rfl rfl (r_assign rfl rfl (hl_nil (then_n (hc_seq (hc_region (r_move rfl rfl (r_move rfl rfl ?_)))))))))); refine hl_nilrow (α := Mk) ?_; have hd := proof_Merge_meets (A := ox.1) (ca := ox.2) (B := none) (cb := 0) (C := oy.1) (cc := oy.2) x [] y; rw [e2] at hd; refine hl_call (vs := [.slice ox.1 x.length ox.2, .slice none 0 0, .slice oy.1 y.length oy.2]) F.proof_Merge_cb rfl rfl (hd) (List.Perm.refl _) ⟨mB, mB, mB, trivial⟩ fun u2 _ => ?_; refine r_move rfl rfl (r_extract rfl rfl rfl (r_extract rfl rfl rfl (r_assign rfl rfl (r_assign rfl rfl (hl_nil (then_n (hc_seq (hc_region (r_move rfl rfl (r_move rfl rfl (r_move rfl rfl ?_))))))))))); have hd := proof_Merge_meets (A := ox.1) (ca := ox.2) (B := oy.1) (cb := oy.2) (C := oy.1) (cc := oy.2) x y y; rw [e3] at hd; refine hl_call F.proof_Merge_cb rfl rfl (hd) (List.Perm.refl _) ⟨mB, mB, mB, trivial⟩ fun u3 _ => ?_; refine r_move rfl rfl (r_extract rfl rfl rfl (r_extract rfl rfl rfl (r_assign rfl rfl (r_assign rfl rfl (hl_nil (then_n (hc_seq (hc_seq (hc_region (r_move rfl rfl (r_neq rfl rfl rfl ?_))))))))))); refine r_move rfl rfl ?_; refine g_split rfl rfl ?_ ?_
 ·intro hg1; have hg1' := hg1; try simp at hg1'
  refine g_yes rfl rfl hg1 (r_move rfl rfl (g_yes rfl rfl hg1 (r_neq rfl rfl rfl ?_))); refine p_f rfl rfl (bf1 hg1) rfl ?_; refine r_move rfl rfl ?_; refine g_split rfl rfl ?_ ?_
  ·intro hg2; have hg2' := hg2; try simp at hg2'
   refine g_yes rfl rfl hg2 (r_move rfl rfl (g_yes rfl rfl hg2 (r_neq rfl rfl rfl ?_))); refine p_f rfl rfl (bf1 hg2) rfl ?_; refine r_move rfl rfl ?_; refine g_split rfl rfl ?_ ?_
   ·intro hg3; have hg3' := hg3; try simp at hg3'
    refine g_yes rfl rfl hg3 (r_move rfl rfl (g_yes rfl rfl hg3 (r_move rfl rfl (g_yes rfl rfl hg3 ?_)))); refine hl_call F.kit_EqMarks_cb rfl rfl (kit_EqMarks_meets y y (by omega)) (List.Perm.refl _) ⟨mB, mB, trivial⟩ fun _ _ => ?_; refine g_yes rfl rfl hg3 (r_not rfl rfl ?_); refine p_f rfl rfl (bf1 hg3) rfl ?_; refine r_move rfl rfl ?_; refine g_split rfl rfl ?_ ?_
    ·intro hg4; have hg4' := hg4; try simp at hg4'
     refine g_yes rfl rfl hg4 (r_move rfl rfl (g_yes rfl rfl hg4 (r_move rfl rfl (g_yes rfl rfl hg4 ?_)))); refine hl_call F.kit_EqMarks_cb rfl rfl (kit_EqMarks_meets y y (by omega)) (List.Perm.refl _) ⟨mB, mB, trivial⟩ fun _ _ => ?_; refine g_yes rfl rfl hg4 (r_not rfl rfl ?_); refine p_f rfl rfl (bf1 hg4) rfl ?_; refine r_move rfl rfl ?_; refine g_split rfl rfl ?_ ?_
     ·intro hg5; have hg5' := hg5; try simp at hg5'
      refine g_yes rfl rfl hg5 (r_move rfl rfl (g_yes rfl rfl hg5 (r_move rfl rfl (g_yes rfl rfl hg5 ?_)))); refine hl_call F.kit_EqMarks_cb rfl rfl (kit_EqMarks_meets y y (by omega)) (List.Perm.refl _) ⟨mB, mB, trivial⟩ fun _ _ => ?_; refine g_yes rfl rfl hg5 (r_not rfl rfl ?_); refine p_f rfl rfl (bf1 hg5) rfl ?_; refine hl_nil (then_n ?_)
      first | refine c_dec rfl (fun hb1 => ?_) (fun hb1 => ?_) | refine hc_cond rfl (fun hb1 => ?_) (fun hb1 => ?_)
      ·have hb1' := hb1; try simp at hb1'
      ·have hb1' := hb1; try simp at hb1'
       refine hc_skip (then_n (hc_seq (hc_region (r_assign rfl rfl (r_assign rfl rfl (hl_nil (then_n ?_))))))); refine hc_cut ⟨fun _ : Unit => True, fun _ => [(4, .slice ox.1 x.length ox.2), (5, .slice oy.1 y.length oy.2), (6, .slice ow.1 w.length ow.2), (13, .bool (apF y w)), (14, .bool (clF y w))], fun _ => [], fun _ => [Row ox.1 (rows x), Row oy.1 (rows y), Row ow.1 (rows w)]⟩ ?_ ?_
       ·skip
        refine hc_seq (hc_region (r_assign rfl rfl (hl_nil (then_n (hc_block ?_))))); refine hc_loop (β := Nat) ⟨fun i => i ≤ y.length, fun i => [(4, .slice ox.1 x.length ox.2), (5, .slice oy.1 y.length oy.2), (6, .slice ow.1 w.length ow.2), (13, .bool (apF (y.take i) w)), (14, .bool (clF (y.take i) w)), (15, int i)], fun _ => [], fun _ => [Row ox.1 (rows x), Row oy.1 (rows y), Row ow.1 (rows w)]⟩ (fun i => y.length - i) 0 (Nat.zero_le _) ⟨rfl, rfl, rfl, rfl, rfl, rfl, trivial⟩ (List.nil_sublist _) ⟨mB, mB, mB, trivial⟩ fun i hi => ?_; simp only at hi; refine hc_seq (hc_seq (hc_region (r_move rfl rfl (r_move rfl rfl ?_)))); refine r_len_sl rfl T.u_L_api_Mark rfl ?_; refine r_lss rfl rfl rfl (hl_nil (then_n ?_))
        first | refine c_dec rfl (fun hb2 => ?_) (fun hb2 => ?_) | refine hc_cond rfl (fun hb2 => ?_) (fun hb2 => ?_)
        ·have hb2' := hb2; try simp at hb2'
         have hi2 : i < y.length := by omega
         refine hc_skip (then_n ?_); refine hc_cut ⟨fun _ : Unit => True, fun _ => [(4, .slice ox.1 x.length ox.2), (5, .slice oy.1 y.length oy.2), (6, .slice ow.1 w.length ow.2), (13, .bool (apF (y.take (i + 1)) w)), (14, .bool (clF (y.take (i + 1)) w)), (15, int i)], fun _ => [], fun _ => [Row ox.1 (rows x), Row oy.1 (rows y), Row ow.1 (rows w)]⟩ ?_ ?_
         ·skip
          refine hc_block (hc_seq (hc_region (r_assign rfl rfl (hl_nil (then_n (hc_block ?_)))))); refine hc_loop (β := Nat) ⟨fun k => k ≤ w.length, fun k => [(4, .slice ox.1 x.length ox.2), (5, .slice oy.1 y.length oy.2), (6, .slice ow.1 w.length ow.2), (13, .bool (apK y w i k)), (14, .bool (clK y w i k)), (15, int i), (16, int k)], fun _ => [], fun _ => [Row ox.1 (rows x), Row oy.1 (rows y), Row ow.1 (rows w)]⟩ (fun k => w.length - k) 0 (Nat.zero_le _) ⟨rfl, rfl, rfl, congrArg (fun b => some (Value.bool b)) (apK_zero y w i), congrArg (fun b => some (Value.bool b)) (clK_zero y w i), rfl, rfl, trivial⟩ (List.nil_sublist _) ⟨mB, mB, mB, trivial⟩ fun k hk => ?_; simp only at hk; refine hc_seq (hc_seq (hc_region (r_move rfl rfl (r_move rfl rfl ?_)))); refine r_len_sl rfl T.u_L_api_Mark rfl ?_; refine r_lss rfl rfl rfl (hl_nil (then_n ?_))
          first | refine c_dec rfl (fun hb3 => ?_) (fun hb3 => ?_) | refine hc_cond rfl (fun hb3 => ?_) (fun hb3 => ?_)
          ·have hb3' := hb3; try simp at hb3'
           have hk2 : k < w.length := by omega
           have hap := apK_succ y i hk2; have hcl := clK_succ y i hk2; refine hc_skip (then_n (hc_seq (hc_block (hc_seq ?_)))); refine hc_draw 12 mixed (by decide) (by decide) rfl rfl ?_; refine hb_ex _ rfl rfl rfl (fun w1 => r_move rfl rfl (hl_nil (qe_done rfl))) ?_; refine hb_ex _ rfl rfl rfl (fun w1 => r_move rfl rfl (hl_nil (qe_done rfl))) ?_; refine hb_split (t := 94) (want := true) rfl ?_ ?_
           ·intro hg6; have hg6' := hg6; try simp at hg6'
            rw [bt1 hg6, Bool.true_and] at hap
            apply hb_ex _ rfl rfl rfl
            ·intro w1; refine g_yes rfl rfl hg6 (r_move rfl rfl (hl_nil ?_)); exact qe_done rfl
            apply hb_ex _ rfl rfl rfl
            ·intro w1; refine g_yes rfl rfl hg6 (r_move rfl rfl (hl_nil ?_)); exact qe_done rfl
            apply hb_ex _ rfl rfl rfl
            ·intro w1; refine g_yes rfl rfl hg6 ?_; refine r_elem (α := Mk) _ _ rfl T.u_L_api_Mark T.sz_api_Mark rfl rfl rfl mB rfl (by omega) (by decide) ?_; refine hl_nil ?_; exact qe_done rfl
            apply hb_ex _ rfl rfl rfl
            ·intro w1; refine g_yes rfl rfl hg6 ?_
             first | refine r_fieldAddr ⟨_, 1, none⟩ rfl rfl T.fa_api_Mark_1 rfl ?_ | refine r_fieldAddr _ rfl rfl T.fa_api_Mark_1 rfl ?_
             refine hl_nil ?_; exact qe_done rfl
            apply hb_ex _ rfl rfl rfl
            ·intro w1; refine g_yes rfl rfl hg6 ?_; refine r_load rfl T.cell_int rfl (cell_row_f mB (rows_get (by omega) rfl)) ?_; refine hl_nil ?_; exact qe_done rfl
            apply hb_ex _ rfl rfl rfl
            ·intro w1; refine g_yes rfl rfl hg6 (r_move rfl rfl (hl_nil ?_)); exact qe_done rfl
            apply hb_ex _ rfl rfl rfl
            ·intro w1; refine g_yes rfl rfl hg6 (r_move rfl rfl (hl_nil ?_)); exact qe_done rfl
            apply hb_ex _ rfl rfl rfl
            ·intro w1; refine g_yes rfl rfl hg6 ?_; refine r_elem (α := Mk) _ _ rfl T.u_L_api_Mark T.sz_api_Mark rfl rfl rfl mB rfl (by omega) (by decide) ?_; refine hl_nil ?_; exact qe_done rfl
            apply hb_ex _ rfl rfl rfl
            ·intro w1; refine g_yes rfl rfl hg6 ?_
             first | refine r_fieldAddr ⟨_, 1, none⟩ rfl rfl T.fa_api_Mark_1 rfl ?_ | refine r_fieldAddr _ rfl rfl T.fa_api_Mark_1 rfl ?_
             refine hl_nil ?_; exact qe_done rfl
            apply hb_ex _ rfl rfl rfl
            ·intro w1; refine g_yes rfl rfl hg6 ?_; refine r_load rfl T.cell_int rfl (cell_row_f mB (rows_get (by omega) rfl)) ?_; refine hl_nil ?_; exact qe_done rfl
            refine hb_nil ⟨rfl, ?_⟩; refine g_yes rfl rfl hg6 (r_neq rfl rfl rfl ?_); refine p_t rfl rfl (bt1 hg6) rfl ?_; refine r_assign rfl rfl (hl_nil (then_n ?_)); refine hc_draw 38 mixed (by decide) (by decide) rfl rfl ?_; refine hb_ex _ rfl rfl rfl (fun w1 => r_move rfl rfl (hl_nil (qe_done rfl))) ?_; refine hb_ex _ rfl rfl rfl (fun w1 => r_move rfl rfl (hl_nil (qe_done rfl))) ?_; refine hb_split (t := 108) (want := false) rfl ?_ ?_
            ·intro hg7; have hg7' := hg7; try simp at hg7'
             rw [bf1 hg7, Bool.false_or] at hcl
             apply hb_ex _ rfl rfl rfl
             ·intro w1; refine g_yes rfl rfl hg7 (r_move rfl rfl (hl_nil ?_)); exact qe_done rfl
             apply hb_ex _ rfl rfl rfl
             ·intro w1; refine g_yes rfl rfl hg7 (r_move rfl rfl (hl_nil ?_)); exact qe_done rfl
             apply hb_ex _ rfl rfl rfl
             ·intro w1; refine g_yes rfl rfl hg7 ?_; refine r_elem (α := Mk) _ _ rfl T.u_L_api_Mark T.sz_api_Mark rfl rfl rfl mB rfl (by omega) (by decide) ?_; refine hl_nil ?_; exact qe_done rfl
             apply hb_ex _ rfl rfl rfl
             ·intro w1; refine g_yes rfl rfl hg7 ?_
              first | refine r_fieldAddr ⟨_, 1, none⟩ rfl rfl T.fa_api_Mark_1 rfl ?_ | refine r_fieldAddr _ rfl rfl T.fa_api_Mark_1 rfl ?_
              refine hl_nil ?_; exact qe_done rfl
             apply hb_ex _ rfl rfl rfl
             ·intro w1; refine g_yes rfl rfl hg7 ?_; refine r_load rfl T.cell_int rfl (cell_row_f mB (rows_get (by omega) rfl)) ?_; refine hl_nil ?_; exact qe_done rfl
             apply hb_ex _ rfl rfl rfl
             ·intro w1; refine g_yes rfl rfl hg7 (r_move rfl rfl (hl_nil ?_)); exact qe_done rfl
             apply hb_ex _ rfl rfl rfl
             ·intro w1; refine g_yes rfl rfl hg7 (r_move rfl rfl (hl_nil ?_)); exact qe_done rfl
             apply hb_ex _ rfl rfl rfl
             ·intro w1; refine g_yes rfl rfl hg7 ?_; refine r_elem (α := Mk) _ _ rfl T.u_L_api_Mark T.sz_api_Mark rfl rfl rfl mB rfl (by omega) (by decide) ?_; refine hl_nil ?_; exact qe_done rfl
             apply hb_ex _ rfl rfl rfl
             ·intro w1; refine g_yes rfl rfl hg7 ?_
              first | refine r_fieldAddr ⟨_, 1, none⟩ rfl rfl T.fa_api_Mark_1 rfl ?_ | refine r_fieldAddr _ rfl rfl T.fa_api_Mark_1 rfl ?_
              refine hl_nil ?_; exact qe_done rfl
             apply hb_ex _ rfl rfl rfl
             ·intro w1; refine g_yes rfl rfl hg7 ?_; refine r_load rfl T.cell_int rfl (cell_row_f mB (rows_get (by omega) rfl)) ?_; refine hl_nil ?_; exact qe_done rfl
             apply hb_ex _ rfl rfl rfl
             ·intro w1; refine g_yes rfl rfl hg7 (r_eql rfl rfl rfl (hl_nil ?_)); exact qe_done rfl
             apply hb_ex _ rfl rfl rfl
             ·intro w1; refine g_yes rfl rfl hg7 (r_move rfl rfl (hl_nil ?_)); exact qe_done rfl
             refine hb_split (t := 120) (want := true) rfl ?_ ?_
             ·intro hg8; have hg8' := hg8; try simp at hg8'
              rw [bt1 hg8, Bool.true_and] at hcl
              apply hb_ex _ rfl rfl rfl
              ·intro w1; refine g_yes rfl rfl hg8 (r_move rfl rfl (hl_nil ?_)); exact qe_done rfl
              apply hb_ex _ rfl rfl rfl
              ·intro w1; refine g_yes rfl rfl hg8 (r_move rfl rfl (hl_nil ?_)); exact qe_done rfl
              apply hb_ex _ rfl rfl rfl
              ·intro w1; refine g_yes rfl rfl hg8 ?_; refine r_elem (α := Mk) _ _ rfl T.u_L_api_Mark T.sz_api_Mark rfl rfl rfl mB rfl (by omega) (by decide) ?_; refine hl_nil ?_; exact qe_done rfl
              apply hb_ex _ rfl rfl rfl
              ·intro w1; refine g_yes rfl rfl hg8 ?_
               first | refine r_fieldAddr ⟨_, 0, none⟩ rfl rfl T.fa_api_Mark_0 rfl ?_ | refine r_fieldAddr _ rfl rfl T.fa_api_Mark_0 rfl ?_
               refine hl_nil ?_; exact qe_done rfl
              apply hb_ex _ rfl rfl rfl
              ·intro w1; refine g_yes rfl rfl hg8 ?_; refine r_load rfl T.cell_int rfl (cell_row mB (rows_get0 (by omega) rfl)) ?_; refine hl_nil ?_; exact qe_done rfl
              apply hb_ex _ rfl rfl rfl
              ·intro w1; refine g_yes rfl rfl hg8 (r_neq rfl rfl rfl (hl_nil ?_)); exact qe_done rfl
              apply hb_ex _ rfl rfl rfl
              ·intro w1; refine g_yes rfl rfl hg7 ?_; refine p_t rfl rfl (bt1 hg8) rfl ?_; refine hl_nil ?_; exact qe_done rfl
              apply hb_ex _ rfl rfl rfl
              ·intro w1; refine g_yes rfl rfl hg7 (r_move rfl rfl (hl_nil ?_)); exact qe_done rfl
              refine hb_split (t := 128) (want := true) rfl ?_ ?_
              ·intro hg9; have hg9' := hg9; try simp at hg9'
               rw [bt1 hg9, Bool.true_and] at hcl
               apply hb_ex _ rfl rfl rfl
               ·intro w1; refine g_yes rfl rfl hg9 (r_move rfl rfl (hl_nil ?_)); exact qe_done rfl
               apply hb_ex _ rfl rfl rfl
               ·intro w1; refine g_yes rfl rfl hg9 (r_move rfl rfl (hl_nil ?_)); exact qe_done rfl
               apply hb_ex _ rfl rfl rfl
               ·intro w1; refine g_yes rfl rfl hg9 ?_; refine r_elem (α := Mk) _ _ rfl T.u_L_api_Mark T.sz_api_Mark rfl rfl rfl mB rfl (by omega) (by decide) ?_; refine hl_nil ?_; exact qe_done rfl
               apply hb_ex _ rfl rfl rfl
               ·intro w1; refine g_yes rfl rfl hg9 ?_
                first | refine r_fieldAddr ⟨_, 0, none⟩ rfl rfl T.fa_api_Mark_0 rfl ?_ | refine r_fieldAddr _ rfl rfl T.fa_api_Mark_0 rfl ?_
                refine hl_nil ?_; exact qe_done rfl
               apply hb_ex _ rfl rfl rfl
               ·intro w1; refine g_yes rfl rfl hg9 ?_; refine r_load rfl T.cell_int rfl (cell_row mB (rows_get0 (by omega) rfl)) ?_; refine hl_nil ?_; exact qe_done rfl
               apply hb_ex _ rfl rfl rfl
               ·intro w1; refine g_yes rfl rfl hg9 (r_neq rfl rfl rfl (hl_nil ?_)); exact qe_done rfl
               apply hb_ex _ rfl rfl rfl
               ·intro w1; refine g_yes rfl rfl hg7 ?_; refine p_t rfl rfl (bt1 hg9) rfl ?_; refine hl_nil ?_; exact qe_done rfl
               apply hb_ex _ rfl rfl rfl
               ·intro w1; refine g_yes rfl rfl hg7 (r_move rfl rfl (hl_nil ?_)); exact qe_done rfl
               refine hb_split (t := 136) (want := true) rfl ?_ ?_
               ·intro hg10; have hg10' := hg10; try simp at hg10'
                rw [bt1 hg10, Bool.true_and] at hcl
                apply hb_ex _ rfl rfl rfl
                ·intro w1; refine g_yes rfl rfl hg10 (r_move rfl rfl (hl_nil ?_)); exact qe_done rfl
                apply hb_ex _ rfl rfl rfl
                ·intro w1; refine g_yes rfl rfl hg10 (r_move rfl rfl (hl_nil ?_)); exact qe_done rfl
                apply hb_ex _ rfl rfl rfl
                ·intro w1; refine g_yes rfl rfl hg10 ?_; refine r_elem (α := Mk) _ _ rfl T.u_L_api_Mark T.sz_api_Mark rfl rfl rfl mB rfl (by omega) (by decide) ?_; refine hl_nil ?_; exact qe_done rfl
                apply hb_ex _ rfl rfl rfl
                ·intro w1; refine g_yes rfl rfl hg10 ?_; refine r_loadS rfl T.row_api_Mark T.sz_api_Mark rfl rfl (cells_row mB (rows_all (by omega))) ?_; refine hl_nil ?_; exact qe_done rfl
                apply hb_ex _ rfl rfl rfl
                ·intro w1; refine g_yes rfl rfl hg10 (r_move rfl rfl (hl_nil ?_)); exact qe_done rfl
                apply hb_ex _ rfl rfl rfl
                ·intro w1; refine g_yes rfl rfl hg10 (r_move rfl rfl (hl_nil ?_)); exact qe_done rfl
                apply hb_ex _ rfl rfl rfl
                ·intro w1; refine g_yes rfl rfl hg10 ?_; refine r_elem (α := Mk) _ _ rfl T.u_L_api_Mark T.sz_api_Mark rfl rfl rfl mB rfl (by omega) (by decide) ?_; refine hl_nil ?_; exact qe_done rfl
                apply hb_ex _ rfl rfl rfl
                ·intro w1; refine g_yes rfl rfl hg10 ?_; refine r_loadS rfl T.row_api_Mark T.sz_api_Mark rfl rfl (cells_row mB (rows_all (by omega))) ?_; refine hl_nil ?_; exact qe_done rfl
                refine hb_nil ⟨rfl, ?_⟩; refine g_yes rfl rfl hg10 ?_; refine r_bin _ rfl rfl rfl (fun _ => T.eqg_api_Mark ..) (fun _ => T.neq_api_Mark ..) ?_; refine g_yes rfl rfl hg7 ?_; refine p_t rfl rfl (bt1 hg10) rfl ?_; refine p_f rfl rfl (bf1 hg7) rfl ?_; refine r_assign rfl rfl (hl_nil (inb_n (then_n (hc_region (r_move rfl rfl ?_))))); refine r_add _ rfl rfl rfl rfl (by unfold I64; omega) ?_; refine r_assign rfl rfl (hl_nil ?_); exact again _ (k + 1) (by show k + 1 ≤ w.length; omega) (by show w.length - (k + 1) < w.length - k; omega) ⟨rfl, rfl, rfl, congrArg (fun b => some (Value.bool b)) (by rw [hap]), congrArg (fun b => some (Value.bool b)) (by rw [hcl]), rfl, rfl, trivial⟩ (.refl _) ⟨mB, mB, mB, trivial⟩
               ·intro hg10; have hg10' := hg10; try simp at hg10'
                rw [bf2 hg10, Bool.false_and] at hcl; refine hb_ex _ rfl rfl rfl (fun w1 => g_no rfl rfl rfl rfl rfl hg10 (hl_nil (qe_done rfl))) ?_; refine hb_ex _ rfl rfl rfl (fun w1 => g_no rfl rfl rfl rfl rfl hg10 (hl_nil (qe_done rfl))) ?_; refine hb_ex _ rfl rfl rfl (fun w1 => g_no rfl rfl rfl rfl rfl hg10 (hl_nil (qe_done rfl))) ?_; refine hb_ex _ rfl rfl rfl (fun w1 => g_no rfl rfl rfl rfl rfl hg10 (hl_nil (qe_done rfl))) ?_; refine hb_ex _ rfl rfl rfl (fun w1 => g_no rfl rfl rfl rfl rfl hg10 (hl_nil (qe_done rfl))) ?_; refine hb_ex _ rfl rfl rfl (fun w1 => g_no rfl rfl rfl rfl rfl hg10 (hl_nil (qe_done rfl))) ?_; refine hb_ex _ rfl rfl rfl (fun w1 => g_no rfl rfl rfl rfl rfl hg10 (hl_nil (qe_done rfl))) ?_; refine hb_ex _ rfl rfl rfl (fun w1 => g_no rfl rfl rfl rfl rfl hg10 (hl_nil (qe_done rfl))) ?_; refine hb_nil ⟨rfl, ?_⟩; refine g_no rfl rfl rfl rfl rfl hg10 (g_yes rfl rfl hg7 ?_); refine p_f rfl rfl (bf2 hg10) rfl ?_; refine p_f rfl rfl (bf1 hg7) rfl ?_; refine r_assign rfl rfl (hl_nil (inb_n (then_n (hc_region (r_move rfl rfl ?_))))); refine r_add _ rfl rfl rfl rfl (by unfold I64; omega) ?_; refine r_assign rfl rfl (hl_nil ?_); exact again _ (k + 1) (by show k + 1 ≤ w.length; omega) (by show w.length - (k + 1) < w.length - k; omega) ⟨rfl, rfl, rfl, congrArg (fun b => some (Value.bool b)) (by rw [hap]), congrArg (fun b => some (Value.bool b)) (by rw [hcl]), rfl, rfl, trivial⟩ (.refl _) ⟨mB, mB, mB, trivial⟩
              ·intro hg9; have hg9' := hg9; try simp at hg9'
               rw [bf2 hg9, Bool.false_and, Bool.false_and] at hcl; refine hb_ex _ rfl rfl rfl (fun w1 => g_no rfl rfl rfl rfl rfl hg9 (hl_nil (qe_done rfl))) ?_; refine hb_ex _ rfl rfl rfl (fun w1 => g_no rfl rfl rfl rfl rfl hg9 (hl_nil (qe_done rfl))) ?_; refine hb_ex _ rfl rfl rfl (fun w1 => g_no rfl rfl rfl rfl rfl hg9 (hl_nil (qe_done rfl))) ?_; refine hb_ex _ rfl rfl rfl (fun w1 => g_no rfl rfl rfl rfl rfl hg9 (hl_nil (qe_done rfl))) ?_; refine hb_ex _ rfl rfl rfl (fun w1 => g_no rfl rfl rfl rfl rfl hg9 (hl_nil (qe_done rfl))) ?_; refine hb_ex _ rfl rfl rfl (fun w1 => g_no rfl rfl rfl rfl rfl hg9 (hl_nil (qe_done rfl))) ?_
               apply hb_ex _ rfl rfl rfl
               ·intro w1; refine g_yes rfl rfl hg7 ?_; refine p_f rfl rfl (bf2 hg9) rfl ?_; refine hl_nil ?_; exact qe_done rfl
               apply hb_ex _ rfl rfl rfl
               ·intro w1; refine g_yes rfl rfl hg7 (r_move rfl rfl (hl_nil ?_)); exact qe_done rfl
               refine hb_ex _ rfl rfl rfl (fun w1 => g_no rfl rfl rfl rfl rfl rfl (hl_nil (qe_done rfl))) ?_; refine hb_ex _ rfl rfl rfl (fun w1 => g_no rfl rfl rfl rfl rfl rfl (hl_nil (qe_done rfl))) ?_; refine hb_ex _ rfl rfl rfl (fun w1 => g_no rfl rfl rfl rfl rfl rfl (hl_nil (qe_done rfl))) ?_; refine hb_ex _ rfl rfl rfl (fun w1 => g_no rfl rfl rfl rfl rfl rfl (hl_nil (qe_done rfl))) ?_; refine hb_ex _ rfl rfl rfl (fun w1 => g_no rfl rfl rfl rfl rfl rfl (hl_nil (qe_done rfl))) ?_; refine hb_ex _ rfl rfl rfl (fun w1 => g_no rfl rfl rfl rfl rfl rfl (hl_nil (qe_done rfl))) ?_; refine hb_ex _ rfl rfl rfl (fun w1 => g_no rfl rfl rfl rfl rfl rfl (hl_nil (qe_done rfl))) ?_; refine hb_ex _ rfl rfl rfl (fun w1 => g_no rfl rfl rfl rfl rfl rfl (hl_nil (qe_done rfl))) ?_; refine hb_nil ⟨rfl, ?_⟩; refine g_no rfl rfl rfl rfl rfl rfl (g_yes rfl rfl hg7 (p_f rfl rfl rfl rfl ?_)); refine p_f rfl rfl (bf1 hg7) rfl ?_; refine r_assign rfl rfl (hl_nil (inb_n (then_n (hc_region (r_move rfl rfl ?_))))); refine r_add _ rfl rfl rfl rfl (by unfold I64; omega) ?_; refine r_assign rfl rfl (hl_nil ?_); exact again _ (k + 1) (by show k + 1 ≤ w.length; omega) (by show w.length - (k + 1) < w.length - k; omega) ⟨rfl, rfl, rfl, congrArg (fun b => some (Value.bool b)) (by rw [hap]), congrArg (fun b => some (Value.bool b)) (by rw [hcl]), rfl, rfl, trivial⟩ (.refl _) ⟨mB, mB, mB, trivial⟩
             ·intro hg8; have hg8' := hg8; try simp at hg8'
              rw [bf2 hg8, Bool.false_and, Bool.false_and, Bool.false_and] at hcl; refine hb_ex _ rfl rfl rfl (fun w1 => g_no rfl rfl rfl rfl rfl hg8 (hl_nil (qe_done rfl))) ?_; refine hb_ex _ rfl rfl rfl (fun w1 => g_no rfl rfl rfl rfl rfl hg8 (hl_nil (qe_done rfl))) ?_; refine hb_ex _ rfl rfl rfl (fun w1 => g_no rfl rfl rfl rfl rfl hg8 (hl_nil (qe_done rfl))) ?_; refine hb_ex _ rfl rfl rfl (fun w1 => g_no rfl rfl rfl rfl rfl hg8 (hl_nil (qe_done rfl))) ?_; refine hb_ex _ rfl rfl rfl (fun w1 => g_no rfl rfl rfl rfl rfl hg8 (hl_nil (qe_done rfl))) ?_; refine hb_ex _ rfl rfl rfl (fun w1 => g_no rfl rfl rfl rfl rfl hg8 (hl_nil (qe_done rfl))) ?_
              apply hb_ex _ rfl rfl rfl
              ·intro w1; refine g_yes rfl rfl hg7 ?_; refine p_f rfl rfl (bf2 hg8) rfl ?_; refine hl_nil ?_; exact qe_done rfl
              apply hb_ex _ rfl rfl rfl
              ·intro w1; refine g_yes rfl rfl hg7 (r_move rfl rfl (hl_nil ?_)); exact qe_done rfl
              refine hb_ex _ rfl rfl rfl (fun w1 => g_no rfl rfl rfl rfl rfl rfl (hl_nil (qe_done rfl))) ?_; refine hb_ex _ rfl rfl rfl (fun w1 => g_no rfl rfl rfl rfl rfl rfl (hl_nil (qe_done rfl))) ?_; refine hb_ex _ rfl rfl rfl (fun w1 => g_no rfl rfl rfl rfl rfl rfl (hl_nil (qe_done rfl))) ?_; refine hb_ex _ rfl rfl rfl (fun w1 => g_no rfl rfl rfl rfl rfl rfl (hl_nil (qe_done rfl))) ?_; refine hb_ex _ rfl rfl rfl (fun w1 => g_no rfl rfl rfl rfl rfl rfl (hl_nil (qe_done rfl))) ?_; refine hb_ex _ rfl rfl rfl (fun w1 => g_no rfl rfl rfl rfl rfl rfl (hl_nil (qe_done rfl))) ?_
              apply hb_ex _ rfl rfl rfl
              ·intro w1; refine g_yes rfl rfl hg7 (p_f rfl rfl rfl rfl (hl_nil ?_)); exact qe_done rfl
              apply hb_ex _ rfl rfl rfl
              ·intro w1; refine g_yes rfl rfl hg7 (r_move rfl rfl (hl_nil ?_)); exact qe_done rfl
              refine hb_ex _ rfl rfl rfl (fun w1 => g_no rfl rfl rfl rfl rfl rfl (hl_nil (qe_done rfl))) ?_; refine hb_ex _ rfl rfl rfl (fun w1 => g_no rfl rfl rfl rfl rfl rfl (hl_nil (qe_done rfl))) ?_; refine hb_ex _ rfl rfl rfl (fun w1 => g_no rfl rfl rfl rfl rfl rfl (hl_nil (qe_done rfl))) ?_; refine hb_ex _ rfl rfl rfl (fun w1 => g_no rfl rfl rfl rfl rfl rfl (hl_nil (qe_done rfl))) ?_; refine hb_ex _ rfl rfl rfl (fun w1 => g_no rfl rfl rfl rfl rfl rfl (hl_nil (qe_done rfl))) ?_; refine hb_ex _ rfl rfl rfl (fun w1 => g_no rfl rfl rfl rfl rfl rfl (hl_nil (qe_done rfl))) ?_; refine hb_ex _ rfl rfl rfl (fun w1 => g_no rfl rfl rfl rfl rfl rfl (hl_nil (qe_done rfl))) ?_; refine hb_ex _ rfl rfl rfl (fun w1 => g_no rfl rfl rfl rfl rfl rfl (hl_nil (qe_done rfl))) ?_; refine hb_nil ⟨rfl, ?_⟩; refine g_no rfl rfl rfl rfl rfl rfl (g_yes rfl rfl hg7 (p_f rfl rfl rfl rfl ?_)); refine p_f rfl rfl (bf1 hg7) rfl ?_; refine r_assign rfl rfl (hl_nil (inb_n (then_n (hc_region (r_move rfl rfl ?_))))); refine r_add _ rfl rfl rfl rfl (by unfold I64; omega) ?_; refine r_assign rfl rfl (hl_nil ?_); exact again _ (k + 1) (by show k + 1 ≤ w.length; omega) (by show w.length - (k + 1) < w.length - k; omega) ⟨rfl, rfl, rfl, congrArg (fun b => some (Value.bool b)) (by rw [hap]), congrArg (fun b => some (Value.bool b)) (by rw [hcl]), rfl, rfl, trivial⟩ (.refl _) ⟨mB, mB, mB, trivial⟩
            ·intro hg7; have hg7' := hg7; try simp at hg7'
             have hnt : clK y w i k = true := bt2 hg7; rw [hnt, Bool.true_or] at hcl; refine hb_ex _ rfl rfl rfl (fun w1 => g_no rfl rfl rfl rfl rfl hg7 (hl_nil (qe_done rfl))) ?_; refine hb_ex _ rfl rfl rfl (fun w1 => g_no rfl rfl rfl rfl rfl hg7 (hl_nil (qe_done rfl))) ?_; refine hb_ex _ rfl rfl rfl (fun w1 => g_no rfl rfl rfl rfl rfl hg7 (hl_nil (qe_done rfl))) ?_; refine hb_ex _ rfl rfl rfl (fun w1 => g_no rfl rfl rfl rfl rfl hg7 (hl_nil (qe_done rfl))) ?_; refine hb_ex _ rfl rfl rfl (fun w1 => g_no rfl rfl rfl rfl rfl hg7 (hl_nil (qe_done rfl))) ?_; refine hb_ex _ rfl rfl rfl (fun w1 => g_no rfl rfl rfl rfl rfl hg7 (hl_nil (qe_done rfl))) ?_; refine hb_ex _ rfl rfl rfl (fun w1 => g_no rfl rfl rfl rfl rfl hg7 (hl_nil (qe_done rfl))) ?_; refine hb_ex _ rfl rfl rfl (fun w1 => g_no rfl rfl rfl rfl rfl hg7 (hl_nil (qe_done rfl))) ?_; refine hb_ex _ rfl rfl rfl (fun w1 => g_no rfl rfl rfl rfl rfl hg7 (hl_nil (qe_done rfl))) ?_; refine hb_ex _ rfl rfl rfl (fun w1 => g_no rfl rfl rfl rfl rfl hg7 (hl_nil (qe_done rfl))) ?_; refine hb_ex _ rfl rfl rfl (fun w1 => g_no rfl rfl rfl rfl rfl hg7 (hl_nil (qe_done rfl))) ?_; refine hb_ex _ rfl rfl rfl (fun w1 => g_no rfl rfl rfl rfl rfl hg7 (hl_nil (qe_done rfl))) ?_; refine hb_ex _ rfl rfl rfl (fun w1 => g_und rfl rfl rfl rfl rfl rfl (hl_nil (qe_done rfl))) ?_; refine hb_ex _ rfl rfl rfl (fun w1 => g_und rfl rfl rfl rfl rfl rfl (hl_nil (qe_done rfl))) ?_; refine hb_ex _ rfl rfl rfl (fun w1 => g_und rfl rfl rfl rfl rfl rfl (hl_nil (qe_done rfl))) ?_; refine hb_ex _ rfl rfl rfl (fun w1 => g_und rfl rfl rfl rfl rfl rfl (hl_nil (qe_done rfl))) ?_; refine hb_ex _ rfl rfl rfl (fun w1 => g_und rfl rfl rfl rfl rfl rfl (hl_nil (qe_done rfl))) ?_; refine hb_ex _ rfl rfl rfl (fun w1 => g_und rfl rfl rfl rfl rfl rfl (hl_nil (qe_done rfl))) ?_; refine hb_ex _ rfl rfl rfl (fun w1 => g_no rfl rfl rfl rfl rfl hg7 (hl_nil (qe_done rfl))) ?_; refine hb_ex _ rfl rfl rfl (fun w1 => g_no rfl rfl rfl rfl rfl hg7 (hl_nil (qe_done rfl))) ?_; refine hb_ex _ rfl rfl rfl (fun w1 => g_und rfl rfl rfl rfl rfl rfl (hl_nil (qe_done rfl))) ?_; refine hb_ex _ rfl rfl rfl (fun w1 => g_und rfl rfl rfl rfl rfl rfl (hl_nil (qe_done rfl))) ?_; refine hb_ex _ rfl rfl rfl (fun w1 => g_und rfl rfl rfl rfl rfl rfl (hl_nil (qe_done rfl))) ?_; refine hb_ex _ rfl rfl rfl (fun w1 => g_und rfl rfl rfl rfl rfl rfl (hl_nil (qe_done rfl))) ?_; refine hb_ex _ rfl rfl rfl (fun w1 => g_und rfl rfl rfl rfl rfl rfl (hl_nil (qe_done rfl))) ?_; refine hb_ex _ rfl rfl rfl (fun w1 => g_und rfl rfl rfl rfl rfl rfl (hl_nil (qe_done rfl))) ?_; refine hb_ex _ rfl rfl rfl (fun w1 => g_no rfl rfl rfl rfl rfl hg7 (hl_nil (qe_done rfl))) ?_; refine hb_ex _ rfl rfl rfl (fun w1 => g_no rfl rfl rfl rfl rfl hg7 (hl_nil (qe_done rfl))) ?_; refine hb_ex _ rfl rfl rfl (fun w1 => g_und rfl rfl rfl rfl rfl rfl (hl_nil (qe_done rfl))) ?_; refine hb_ex _ rfl rfl rfl (fun w1 => g_und rfl rfl rfl rfl rfl rfl (hl_nil (qe_done rfl))) ?_; refine hb_ex _ rfl rfl rfl (fun w1 => g_und rfl rfl rfl rfl rfl rfl (hl_nil (qe_done rfl))) ?_; refine hb_ex _ rfl rfl rfl (fun w1 => g_und rfl rfl rfl rfl rfl rfl (hl_nil (qe_done rfl))) ?_; refine hb_ex _ rfl rfl rfl (fun w1 => g_und rfl rfl rfl rfl rfl rfl (hl_nil (qe_done rfl))) ?_; refine hb_ex _ rfl rfl rfl (fun w1 => g_und rfl rfl rfl rfl rfl rfl (hl_nil (qe_done rfl))) ?_; refine hb_ex _ rfl rfl rfl (fun w1 => g_und rfl rfl rfl rfl rfl rfl (hl_nil (qe_done rfl))) ?_; refine hb_ex _ rfl rfl rfl (fun w1 => g_und rfl rfl rfl rfl rfl rfl (hl_nil (qe_done rfl))) ?_; refine hb_nil ⟨rfl, ?_⟩; refine g_und rfl rfl rfl rfl rfl rfl (g_no rfl rfl rfl rfl rfl hg7 ?_); refine p_t rfl rfl (bt2 hg7) rfl ?_; refine r_assign rfl rfl (hl_nil (inb_n (then_n (hc_region (r_move rfl rfl ?_))))); refine r_add _ rfl rfl rfl rfl (by unfold I64; omega) ?_; refine r_assign rfl rfl (hl_nil ?_); exact again _ (k + 1) (by show k + 1 ≤ w.length; omega) (by show w.length - (k + 1) < w.length - k; omega) ⟨rfl, rfl, rfl, congrArg (fun b => some (Value.bool b)) (by rw [hap]), congrArg (fun b => some (Value.bool b)) (by rw [hcl]), rfl, rfl, trivial⟩ (.refl _) ⟨mB, mB, mB, trivial⟩
           ·intro hg6; have hg6' := hg6; try simp at hg6'
            rw [bf2 hg6, Bool.false_and] at hap; refine hb_ex _ rfl rfl rfl (fun w1 => g_no rfl rfl rfl rfl rfl hg6 (hl_nil (qe_done rfl))) ?_; refine hb_ex _ rfl rfl rfl (fun w1 => g_no rfl rfl rfl rfl rfl hg6 (hl_nil (qe_done rfl))) ?_; refine hb_ex _ rfl rfl rfl (fun w1 => g_no rfl rfl rfl rfl rfl hg6 (hl_nil (qe_done rfl))) ?_; refine hb_ex _ rfl rfl rfl (fun w1 => g_no rfl rfl rfl rfl rfl hg6 (hl_nil (qe_done rfl))) ?_; refine hb_ex _ rfl rfl rfl (fun w1 => g_no rfl rfl rfl rfl rfl hg6 (hl_nil (qe_done rfl))) ?_; refine hb_ex _ rfl rfl rfl (fun w1 => g_no rfl rfl rfl rfl rfl hg6 (hl_nil (qe_done rfl))) ?_; refine hb_ex _ rfl rfl rfl (fun w1 => g_no rfl rfl rfl rfl rfl hg6 (hl_nil (qe_done rfl))) ?_; refine hb_ex _ rfl rfl rfl (fun w1 => g_no rfl rfl rfl rfl rfl hg6 (hl_nil (qe_done rfl))) ?_; refine hb_ex _ rfl rfl rfl (fun w1 => g_no rfl rfl rfl rfl rfl hg6 (hl_nil (qe_done rfl))) ?_; refine hb_ex _ rfl rfl rfl (fun w1 => g_no rfl rfl rfl rfl rfl hg6 (hl_nil (qe_done rfl))) ?_; refine hb_nil ⟨rfl, ?_⟩; refine g_no rfl rfl rfl rfl rfl hg6 ?_; refine p_f rfl rfl (bf2 hg6) rfl ?_; refine r_assign rfl rfl (hl_nil (then_n ?_)); refine hc_draw 38 mixed (by decide) (by decide) rfl rfl ?_; refine hb_ex _ rfl rfl rfl (fun w1 => r_move rfl rfl (hl_nil (qe_done rfl))) ?_; refine hb_ex _ rfl rfl rfl (fun w1 => r_move rfl rfl (hl_nil (qe_done rfl))) ?_; refine hb_split (t := 108) (want := false) rfl ?_ ?_
            ·intro hg11; have hg11' := hg11; try simp at hg11'
             rw [bf1 hg11, Bool.false_or] at hcl
             apply hb_ex _ rfl rfl rfl
             ·intro w1; refine g_yes rfl rfl hg11 (r_move rfl rfl (hl_nil ?_)); exact qe_done rfl
             apply hb_ex _ rfl rfl rfl
             ·intro w1; refine g_yes rfl rfl hg11 (r_move rfl rfl (hl_nil ?_)); exact qe_done rfl
             apply hb_ex _ rfl rfl rfl
             ·intro w1; refine g_yes rfl rfl hg11 ?_; refine r_elem (α := Mk) _ _ rfl T.u_L_api_Mark T.sz_api_Mark rfl rfl rfl mB rfl (by omega) (by decide) ?_; refine hl_nil ?_; exact qe_done rfl
             apply hb_ex _ rfl rfl rfl
             ·intro w1; refine g_yes rfl rfl hg11 ?_
              first | refine r_fieldAddr ⟨_, 1, none⟩ rfl rfl T.fa_api_Mark_1 rfl ?_ | refine r_fieldAddr _ rfl rfl T.fa_api_Mark_1 rfl ?_
              refine hl_nil ?_; exact qe_done rfl
             apply hb_ex _ rfl rfl rfl
             ·intro w1; refine g_yes rfl rfl hg11 ?_; refine r_load rfl T.cell_int rfl (cell_row_f mB (rows_get (by omega) rfl)) ?_; refine hl_nil ?_; exact qe_done rfl
             apply hb_ex _ rfl rfl rfl
             ·intro w1; refine g_yes rfl rfl hg11 (r_move rfl rfl (hl_nil ?_)); exact qe_done rfl
             apply hb_ex _ rfl rfl rfl
             ·intro w1; refine g_yes rfl rfl hg11 (r_move rfl rfl (hl_nil ?_)); exact qe_done rfl
             apply hb_ex _ rfl rfl rfl
             ·intro w1; refine g_yes rfl rfl hg11 ?_; refine r_elem (α := Mk) _ _ rfl T.u_L_api_Mark T.sz_api_Mark rfl rfl rfl mB rfl (by omega) (by decide) ?_; refine hl_nil ?_; exact qe_done rfl
             apply hb_ex _ rfl rfl rfl
             ·intro w1; refine g_yes rfl rfl hg11 ?_
              first | refine r_fieldAddr ⟨_, 1, none⟩ rfl rfl T.fa_api_Mark_1 rfl ?_ | refine r_fieldAddr _ rfl rfl T.fa_api_Mark_1 rfl ?_
              refine hl_nil ?_; exact qe_done rfl
             apply hb_ex _ rfl rfl rfl
             ·intro w1; refine g_yes rfl rfl hg11 ?_; refine r_load rfl T.cell_int rfl (cell_row_f mB (rows_get (by omega) rfl)) ?_; refine hl_nil ?_; exact qe_done rfl
             apply hb_ex _ rfl rfl rfl
             ·intro w1; refine g_yes rfl rfl hg11 (r_eql rfl rfl rfl (hl_nil ?_)); exact qe_done rfl
             apply hb_ex _ rfl rfl rfl
             ·intro w1; refine g_yes rfl rfl hg11 (r_move rfl rfl (hl_nil ?_)); exact qe_done rfl
             refine hb_split (t := 120) (want := true) rfl ?_ ?_
             ·intro hg12; have hg12' := hg12; try simp at hg12'
              rw [bt1 hg12, Bool.true_and] at hcl
              apply hb_ex _ rfl rfl rfl
              ·intro w1; refine g_yes rfl rfl hg12 (r_move rfl rfl (hl_nil ?_)); exact qe_done rfl
              apply hb_ex _ rfl rfl rfl
              ·intro w1; refine g_yes rfl rfl hg12 (r_move rfl rfl (hl_nil ?_)); exact qe_done rfl
              apply hb_ex _ rfl rfl rfl
              ·intro w1; refine g_yes rfl rfl hg12 ?_; refine r_elem (α := Mk) _ _ rfl T.u_L_api_Mark T.sz_api_Mark rfl rfl rfl mB rfl (by omega) (by decide) ?_; refine hl_nil ?_; exact qe_done rfl
              apply hb_ex _ rfl rfl rfl
              ·intro w1; refine g_yes rfl rfl hg12 ?_
               first | refine r_fieldAddr ⟨_, 0, none⟩ rfl rfl T.fa_api_Mark_0 rfl ?_ | refine r_fieldAddr _ rfl rfl T.fa_api_Mark_0 rfl ?_
               refine hl_nil ?_; exact qe_done rfl
              apply hb_ex _ rfl rfl rfl
              ·intro w1; refine g_yes rfl rfl hg12 ?_; refine r_load rfl T.cell_int rfl (cell_row mB (rows_get0 (by omega) rfl)) ?_; refine hl_nil ?_; exact qe_done rfl
              apply hb_ex _ rfl rfl rfl
              ·intro w1; refine g_yes rfl rfl hg12 (r_neq rfl rfl rfl (hl_nil ?_)); exact qe_done rfl
              apply hb_ex _ rfl rfl rfl
              ·intro w1; refine g_yes rfl rfl hg11 ?_; refine p_t rfl rfl (bt1 hg12) rfl ?_; refine hl_nil ?_; exact qe_done rfl
              apply hb_ex _ rfl rfl rfl
              ·intro w1; refine g_yes rfl rfl hg11 (r_move rfl rfl (hl_nil ?_)); exact qe_done rfl
              refine hb_split (t := 128) (want := true) rfl ?_ ?_
              ·intro hg13; have hg13' := hg13; try simp at hg13'
               rw [bt1 hg13, Bool.true_and] at hcl
               apply hb_ex _ rfl rfl rfl
               ·intro w1; refine g_yes rfl rfl hg13 (r_move rfl rfl (hl_nil ?_)); exact qe_done rfl
               apply hb_ex _ rfl rfl rfl
               ·intro w1; refine g_yes rfl rfl hg13 (r_move rfl rfl (hl_nil ?_)); exact qe_done rfl
               apply hb_ex _ rfl rfl rfl
               ·intro w1; refine g_yes rfl rfl hg13 ?_; refine r_elem (α := Mk) _ _ rfl T.u_L_api_Mark T.sz_api_Mark rfl rfl rfl mB rfl (by omega) (by decide) ?_; refine hl_nil ?_; exact qe_done rfl
               apply hb_ex _ rfl rfl rfl
               ·intro w1; refine g_yes rfl rfl hg13 ?_
                first | refine r_fieldAddr ⟨_, 0, none⟩ rfl rfl T.fa_api_Mark_0 rfl ?_ | refine r_fieldAddr _ rfl rfl T.fa_api_Mark_0 rfl ?_
                refine hl_nil ?_; exact qe_done rfl
               apply hb_ex _ rfl rfl rfl
               ·intro w1; refine g_yes rfl rfl hg13 ?_; refine r_load rfl T.cell_int rfl (cell_row mB (rows_get0 (by omega) rfl)) ?_; refine hl_nil ?_; exact qe_done rfl
               apply hb_ex _ rfl rfl rfl
               ·intro w1; refine g_yes rfl rfl hg13 (r_neq rfl rfl rfl (hl_nil ?_)); exact qe_done rfl
               apply hb_ex _ rfl rfl rfl
               ·intro w1; refine g_yes rfl rfl hg11 ?_; refine p_t rfl rfl (bt1 hg13) rfl ?_; refine hl_nil ?_; exact qe_done rfl
               apply hb_ex _ rfl rfl rfl
               ·intro w1; refine g_yes rfl rfl hg11 (r_move rfl rfl (hl_nil ?_)); exact qe_done rfl
               refine hb_split (t := 136) (want := true) rfl ?_ ?_
               ·intro hg14; have hg14' := hg14; try simp at hg14'
                rw [bt1 hg14, Bool.true_and] at hcl
                apply hb_ex _ rfl rfl rfl
                ·intro w1; refine g_yes rfl rfl hg14 (r_move rfl rfl (hl_nil ?_)); exact qe_done rfl
                apply hb_ex _ rfl rfl rfl
                ·intro w1; refine g_yes rfl rfl hg14 (r_move rfl rfl (hl_nil ?_)); exact qe_done rfl
                apply hb_ex _ rfl rfl rfl
                ·intro w1; refine g_yes rfl rfl hg14 ?_; refine r_elem (α := Mk) _ _ rfl T.u_L_api_Mark T.sz_api_Mark rfl rfl rfl mB rfl (by omega) (by decide) ?_; refine hl_nil ?_; exact qe_done rfl
                apply hb_ex _ rfl rfl rfl
                ·intro w1; refine g_yes rfl rfl hg14 ?_; refine r_loadS rfl T.row_api_Mark T.sz_api_Mark rfl rfl (cells_row mB (rows_all (by omega))) ?_; refine hl_nil ?_; exact qe_done rfl
                apply hb_ex _ rfl rfl rfl
                ·intro w1; refine g_yes rfl rfl hg14 (r_move rfl rfl (hl_nil ?_)); exact qe_done rfl
                apply hb_ex _ rfl rfl rfl
                ·intro w1; refine g_yes rfl rfl hg14 (r_move rfl rfl (hl_nil ?_)); exact qe_done rfl
                apply hb_ex _ rfl rfl rfl
                ·intro w1; refine g_yes rfl rfl hg14 ?_; refine r_elem (α := Mk) _ _ rfl T.u_L_api_Mark T.sz_api_Mark rfl rfl rfl mB rfl (by omega) (by decide) ?_; refine hl_nil ?_; exact qe_done rfl
                apply hb_ex _ rfl rfl rfl
                ·intro w1; refine g_yes rfl rfl hg14 ?_; refine r_loadS rfl T.row_api_Mark T.sz_api_Mark rfl rfl (cells_row mB (rows_all (by omega))) ?_; refine hl_nil ?_; exact qe_done rfl
                refine hb_nil ⟨rfl, ?_⟩; refine g_yes rfl rfl hg14 ?_; refine r_bin _ rfl rfl rfl (fun _ => T.eqg_api_Mark ..) (fun _ => T.neq_api_Mark ..) ?_; refine g_yes rfl rfl hg11 ?_; refine p_t rfl rfl (bt1 hg14) rfl ?_; refine p_f rfl rfl (bf1 hg11) rfl ?_; refine r_assign rfl rfl (hl_nil (inb_n (then_n (hc_region (r_move rfl rfl ?_))))); refine r_add _ rfl rfl rfl rfl (by unfold I64; omega) ?_; refine r_assign rfl rfl (hl_nil ?_); exact again _ (k + 1) (by show k + 1 ≤ w.length; omega) (by show w.length - (k + 1) < w.length - k; omega) ⟨rfl, rfl, rfl, congrArg (fun b => some (Value.bool b)) (by rw [hap]), congrArg (fun b => some (Value.bool b)) (by rw [hcl]), rfl, rfl, trivial⟩ (.refl _) ⟨mB, mB, mB, trivial⟩
               ·intro hg14; have hg14' := hg14; try simp at hg14'
                rw [bf2 hg14, Bool.false_and] at hcl; refine hb_ex _ rfl rfl rfl (fun w1 => g_no rfl rfl rfl rfl rfl hg14 (hl_nil (qe_done rfl))) ?_; refine hb_ex _ rfl rfl rfl (fun w1 => g_no rfl rfl rfl rfl rfl hg14 (hl_nil (qe_done rfl))) ?_; refine hb_ex _ rfl rfl rfl (fun w1 => g_no rfl rfl rfl rfl rfl hg14 (hl_nil (qe_done rfl))) ?_; refine hb_ex _ rfl rfl rfl (fun w1 => g_no rfl rfl rfl rfl rfl hg14 (hl_nil (qe_done rfl))) ?_; refine hb_ex _ rfl rfl rfl (fun w1 => g_no rfl rfl rfl rfl rfl hg14 (hl_nil (qe_done rfl))) ?_; refine hb_ex _ rfl rfl rfl (fun w1 => g_no rfl rfl rfl rfl rfl hg14 (hl_nil (qe_done rfl))) ?_; refine hb_ex _ rfl rfl rfl (fun w1 => g_no rfl rfl rfl rfl rfl hg14 (hl_nil (qe_done rfl))) ?_; refine hb_ex _ rfl rfl rfl (fun w1 => g_no rfl rfl rfl rfl rfl hg14 (hl_nil (qe_done rfl))) ?_; refine hb_nil ⟨rfl, ?_⟩; refine g_no rfl rfl rfl rfl rfl hg14 (g_yes rfl rfl hg11 ?_); refine p_f rfl rfl (bf2 hg14) rfl ?_; refine p_f rfl rfl (bf1 hg11) rfl ?_; refine r_assign rfl rfl (hl_nil (inb_n (then_n (hc_region (r_move rfl rfl ?_))))); refine r_add _ rfl rfl rfl rfl (by unfold I64; omega) ?_; refine r_assign rfl rfl (hl_nil ?_); exact again _ (k + 1) (by show k + 1 ≤ w.length; omega) (by show w.length - (k + 1) < w.length - k; omega) ⟨rfl, rfl, rfl, congrArg (fun b => some (Value.bool b)) (by rw [hap]), congrArg (fun b => some (Value.bool b)) (by rw [hcl]), rfl, rfl, trivial⟩ (.refl _) ⟨mB, mB, mB, trivial⟩
              ·intro hg13; have hg13' := hg13; try simp at hg13'
               rw [bf2 hg13, Bool.false_and, Bool.false_and] at hcl; refine hb_ex _ rfl rfl rfl (fun w1 => g_no rfl rfl rfl rfl rfl hg13 (hl_nil (qe_done rfl))) ?_; refine hb_ex _ rfl rfl rfl (fun w1 => g_no rfl rfl rfl rfl rfl hg13 (hl_nil (qe_done rfl))) ?_; refine hb_ex _ rfl rfl rfl (fun w1 => g_no rfl rfl rfl rfl rfl hg13 (hl_nil (qe_done rfl))) ?_; refine hb_ex _ rfl rfl rfl (fun w1 => g_no rfl rfl rfl rfl rfl hg13 (hl_nil (qe_done rfl))) ?_; refine hb_ex _ rfl rfl rfl (fun w1 => g_no rfl rfl rfl rfl rfl hg13 (hl_nil (qe_done rfl))) ?_; refine hb_ex _ rfl rfl rfl (fun w1 => g_no rfl rfl rfl rfl rfl hg13 (hl_nil (qe_done rfl))) ?_
               apply hb_ex _ rfl rfl rfl
               ·intro w1; refine g_yes rfl rfl hg11 ?_; refine p_f rfl rfl (bf2 hg13) rfl ?_; refine hl_nil ?_; exact qe_done rfl
               apply hb_ex _ rfl rfl rfl
               ·intro w1; refine g_yes rfl rfl hg11 (r_move rfl rfl (hl_nil ?_)); exact qe_done rfl
               refine hb_ex _ rfl rfl rfl (fun w1 => g_no rfl rfl rfl rfl rfl rfl (hl_nil (qe_done rfl))) ?_; refine hb_ex _ rfl rfl rfl (fun w1 => g_no rfl rfl rfl rfl rfl rfl (hl_nil (qe_done rfl))) ?_; refine hb_ex _ rfl rfl rfl (fun w1 => g_no rfl rfl rfl rfl rfl rfl (hl_nil (qe_done rfl))) ?_; refine hb_ex _ rfl rfl rfl (fun w1 => g_no rfl rfl rfl rfl rfl rfl (hl_nil (qe_done rfl))) ?_; refine hb_ex _ rfl rfl rfl (fun w1 => g_no rfl rfl rfl rfl rfl rfl (hl_nil (qe_done rfl))) ?_; refine hb_ex _ rfl rfl rfl (fun w1 => g_no rfl rfl rfl rfl rfl rfl (hl_nil (qe_done rfl))) ?_; refine hb_ex _ rfl rfl rfl (fun w1 => g_no rfl rfl rfl rfl rfl rfl (hl_nil (qe_done rfl))) ?_; refine hb_ex _ rfl rfl rfl (fun w1 => g_no rfl rfl rfl rfl rfl rfl (hl_nil (qe_done rfl))) ?_; refine hb_nil ⟨rfl, ?_⟩; refine g_no rfl rfl rfl rfl rfl rfl (g_yes rfl rfl hg11 (p_f rfl rfl rfl rfl ?_)); refine p_f rfl rfl (bf1 hg11) rfl ?_; refine r_assign rfl rfl (hl_nil (inb_n (then_n (hc_region (r_move rfl rfl ?_))))); refine r_add _ rfl rfl rfl rfl (by unfold I64; omega) ?_; refine r_assign rfl rfl (hl_nil ?_); exact again _ (k + 1) (by show k + 1 ≤ w.length; omega) (by show w.length - (k + 1) < w.length - k; omega) ⟨rfl, rfl, rfl, congrArg (fun b => some (Value.bool b)) (by rw [hap]), congrArg (fun b => some (Value.bool b)) (by rw [hcl]), rfl, rfl, trivial⟩ (.refl _) ⟨mB, mB, mB, trivial⟩
             ·intro hg12; have hg12' := hg12; try simp at hg12'
              rw [bf2 hg12, Bool.false_and, Bool.false_and, Bool.false_and] at hcl; refine hb_ex _ rfl rfl rfl (fun w1 => g_no rfl rfl rfl rfl rfl hg12 (hl_nil (qe_done rfl))) ?_; refine hb_ex _ rfl rfl rfl (fun w1 => g_no rfl rfl rfl rfl rfl hg12 (hl_nil (qe_done rfl))) ?_; refine hb_ex _ rfl rfl rfl (fun w1 => g_no rfl rfl rfl rfl rfl hg12 (hl_nil (qe_done rfl))) ?_; refine hb_ex _ rfl rfl rfl (fun w1 => g_no rfl rfl rfl rfl rfl hg12 (hl_nil (qe_done rfl))) ?_; refine hb_ex _ rfl rfl rfl (fun w1 => g_no rfl rfl rfl rfl rfl hg12 (hl_nil (qe_done rfl))) ?_; refine hb_ex _ rfl rfl rfl (fun w1 => g_no rfl rfl rfl rfl rfl hg12 (hl_nil (qe_done rfl))) ?_
              apply hb_ex _ rfl rfl rfl
              ·intro w1; refine g_yes rfl rfl hg11 ?_; refine p_f rfl rfl (bf2 hg12) rfl ?_; refine hl_nil ?_; exact qe_done rfl
              apply hb_ex _ rfl rfl rfl
              ·intro w1; refine g_yes rfl rfl hg11 (r_move rfl rfl (hl_nil ?_)); exact qe_done rfl
              refine hb_ex _ rfl rfl rfl (fun w1 => g_no rfl rfl rfl rfl rfl rfl (hl_nil (qe_done rfl))) ?_; refine hb_ex _ rfl rfl rfl (fun w1 => g_no rfl rfl rfl rfl rfl rfl (hl_nil (qe_done rfl))) ?_; refine hb_ex _ rfl rfl rfl (fun w1 => g_no rfl rfl rfl rfl rfl rfl (hl_nil (qe_done rfl))) ?_; refine hb_ex _ rfl rfl rfl (fun w1 => g_no rfl rfl rfl rfl rfl rfl (hl_nil (qe_done rfl))) ?_; refine hb_ex _ rfl rfl rfl (fun w1 => g_no rfl rfl rfl rfl rfl rfl (hl_nil (qe_done rfl))) ?_; refine hb_ex _ rfl rfl rfl (fun w1 => g_no rfl rfl rfl rfl rfl rfl (hl_nil (qe_done rfl))) ?_
              apply hb_ex _ rfl rfl rfl
              ·intro w1; refine g_yes rfl rfl hg11 (p_f rfl rfl rfl rfl (hl_nil ?_)); exact qe_done rfl
              apply hb_ex _ rfl rfl rfl
              ·intro w1; refine g_yes rfl rfl hg11 (r_move rfl rfl (hl_nil ?_)); exact qe_done rfl
              refine hb_ex _ rfl rfl rfl (fun w1 => g_no rfl rfl rfl rfl rfl rfl (hl_nil (qe_done rfl))) ?_; refine hb_ex _ rfl rfl rfl (fun w1 => g_no rfl rfl rfl rfl rfl rfl (hl_nil (qe_done rfl))) ?_; refine hb_ex _ rfl rfl rfl (fun w1 => g_no rfl rfl rfl rfl rfl rfl (hl_nil (qe_done rfl))) ?_; refine hb_ex _ rfl rfl rfl (fun w1 => g_no rfl rfl rfl rfl rfl rfl (hl_nil (qe_done rfl))) ?_; refine hb_ex _ rfl rfl rfl (fun w1 => g_no rfl rfl rfl rfl rfl rfl (hl_nil (qe_done rfl))) ?_; refine hb_ex _ rfl rfl rfl (fun w1 => g_no rfl rfl rfl rfl rfl rfl (hl_nil (qe_done rfl))) ?_; refine hb_ex _ rfl rfl rfl (fun w1 => g_no rfl rfl rfl rfl rfl rfl (hl_nil (qe_done rfl))) ?_; refine hb_ex _ rfl rfl rfl (fun w1 => g_no rfl rfl rfl rfl rfl rfl (hl_nil (qe_done rfl))) ?_; refine hb_nil ⟨rfl, ?_⟩; refine g_no rfl rfl rfl rfl rfl rfl (g_yes rfl rfl hg11 (p_f rfl rfl rfl rfl ?_)); refine p_f rfl rfl (bf1 hg11) rfl ?_; refine r_assign rfl rfl (hl_nil (inb_n (then_n (hc_region (r_move rfl rfl ?_))))); refine r_add _ rfl rfl rfl rfl (by unfold I64; omega) ?_; refine r_assign rfl rfl (hl_nil ?_); exact again _ (k + 1) (by show k + 1 ≤ w.length; omega) (by show w.length - (k + 1) < w.length - k; omega) ⟨rfl, rfl, rfl, congrArg (fun b => some (Value.bool b)) (by rw [hap]), congrArg (fun b => some (Value.bool b)) (by rw [hcl]), rfl, rfl, trivial⟩ (.refl _) ⟨mB, mB, mB, trivial⟩
            ·intro hg11; have hg11' := hg11; try simp at hg11'
             have hnt : clK y w i k = true := bt2 hg11; rw [hnt, Bool.true_or] at hcl; refine hb_ex _ rfl rfl rfl (fun w1 => g_no rfl rfl rfl rfl rfl hg11 (hl_nil (qe_done rfl))) ?_; refine hb_ex _ rfl rfl rfl (fun w1 => g_no rfl rfl rfl rfl rfl hg11 (hl_nil (qe_done rfl))) ?_; refine hb_ex _ rfl rfl rfl (fun w1 => g_no rfl rfl rfl rfl rfl hg11 (hl_nil (qe_done rfl))) ?_; refine hb_ex _ rfl rfl rfl (fun w1 => g_no rfl rfl rfl rfl rfl hg11 (hl_nil (qe_done rfl))) ?_; refine hb_ex _ rfl rfl rfl (fun w1 => g_no rfl rfl rfl rfl rfl hg11 (hl_nil (qe_done rfl))) ?_; refine hb_ex _ rfl rfl rfl (fun w1 => g_no rfl rfl rfl rfl rfl hg11 (hl_nil (qe_done rfl))) ?_; refine hb_ex _ rfl rfl rfl (fun w1 => g_no rfl rfl rfl rfl rfl hg11 (hl_nil (qe_done rfl))) ?_; refine hb_ex _ rfl rfl rfl (fun w1 => g_no rfl rfl rfl rfl rfl hg11 (hl_nil (qe_done rfl))) ?_; refine hb_ex _ rfl rfl rfl (fun w1 => g_no rfl rfl rfl rfl rfl hg11 (hl_nil (qe_done rfl))) ?_; refine hb_ex _ rfl rfl rfl (fun w1 => g_no rfl rfl rfl rfl rfl hg11 (hl_nil (qe_done rfl))) ?_; refine hb_ex _ rfl rfl rfl (fun w1 => g_no rfl rfl rfl rfl rfl hg11 (hl_nil (qe_done rfl))) ?_; refine hb_ex _ rfl rfl rfl (fun w1 => g_no rfl rfl rfl rfl rfl hg11 (hl_nil (qe_done rfl))) ?_; refine hb_ex _ rfl rfl rfl (fun w1 => g_und rfl rfl rfl rfl rfl rfl (hl_nil (qe_done rfl))) ?_; refine hb_ex _ rfl rfl rfl (fun w1 => g_und rfl rfl rfl rfl rfl rfl (hl_nil (qe_done rfl))) ?_; refine hb_ex _ rfl rfl rfl (fun w1 => g_und rfl rfl rfl rfl rfl rfl (hl_nil (qe_done rfl))) ?_; refine hb_ex _ rfl rfl rfl (fun w1 => g_und rfl rfl rfl rfl rfl rfl (hl_nil (qe_done rfl))) ?_; refine hb_ex _ rfl rfl rfl (fun w1 => g_und rfl rfl rfl rfl rfl rfl (hl_nil (qe_done rfl))) ?_; refine hb_ex _ rfl rfl rfl (fun w1 => g_und rfl rfl rfl rfl rfl rfl (hl_nil (qe_done rfl))) ?_; refine hb_ex _ rfl rfl rfl (fun w1 => g_no rfl rfl rfl rfl rfl hg11 (hl_nil (qe_done rfl))) ?_; refine hb_ex _ rfl rfl rfl (fun w1 => g_no rfl rfl rfl rfl rfl hg11 (hl_nil (qe_done rfl))) ?_; refine hb_ex _ rfl rfl rfl (fun w1 => g_und rfl rfl rfl rfl rfl rfl (hl_nil (qe_done rfl))) ?_; refine hb_ex _ rfl rfl rfl (fun w1 => g_und rfl rfl rfl rfl rfl rfl (hl_nil (qe_done rfl))) ?_; refine hb_ex _ rfl rfl rfl (fun w1 => g_und rfl rfl rfl rfl rfl rfl (hl_nil (qe_done rfl))) ?_; refine hb_ex _ rfl rfl rfl (fun w1 => g_und rfl rfl rfl rfl rfl rfl (hl_nil (qe_done rfl))) ?_; refine hb_ex _ rfl rfl rfl (fun w1 => g_und rfl rfl rfl rfl rfl rfl (hl_nil (qe_done rfl))) ?_; refine hb_ex _ rfl rfl rfl (fun w1 => g_und rfl rfl rfl rfl rfl rfl (hl_nil (qe_done rfl))) ?_; refine hb_ex _ rfl rfl rfl (fun w1 => g_no rfl rfl rfl rfl rfl hg11 (hl_nil (qe_done rfl))) ?_; refine hb_ex _ rfl rfl rfl (fun w1 => g_no rfl rfl rfl rfl rfl hg11 (hl_nil (qe_done rfl))) ?_; refine hb_ex _ rfl rfl rfl (fun w1 => g_und rfl rfl rfl rfl rfl rfl (hl_nil (qe_done rfl))) ?_; refine hb_ex _ rfl rfl rfl (fun w1 => g_und rfl rfl rfl rfl rfl rfl (hl_nil (qe_done rfl))) ?_; refine hb_ex _ rfl rfl rfl (fun w1 => g_und rfl rfl rfl rfl rfl rfl (hl_nil (qe_done rfl))) ?_; refine hb_ex _ rfl rfl rfl (fun w1 => g_und rfl rfl rfl rfl rfl rfl (hl_nil (qe_done rfl))) ?_; refine hb_ex _ rfl rfl rfl (fun w1 => g_und rfl rfl rfl rfl rfl rfl (hl_nil (qe_done rfl))) ?_; refine hb_ex _ rfl rfl rfl (fun w1 => g_und rfl rfl rfl rfl rfl rfl (hl_nil (qe_done rfl))) ?_; refine hb_ex _ rfl rfl rfl (fun w1 => g_und rfl rfl rfl rfl rfl rfl (hl_nil (qe_done rfl))) ?_; refine hb_ex _ rfl rfl rfl (fun w1 => g_und rfl rfl rfl rfl rfl rfl (hl_nil (qe_done rfl))) ?_; refine hb_nil ⟨rfl, ?_⟩; refine g_und rfl rfl rfl rfl rfl rfl (g_no rfl rfl rfl rfl rfl hg11 ?_); refine p_t rfl rfl (bt2 hg11) rfl ?_; refine r_assign rfl rfl (hl_nil (inb_n (then_n (hc_region (r_move rfl rfl ?_))))); refine r_add _ rfl rfl rfl rfl (by unfold I64; omega) ?_; refine r_assign rfl rfl (hl_nil ?_); exact again _ (k + 1) (by show k + 1 ≤ w.length; omega) (by show w.length - (k + 1) < w.length - k; omega) ⟨rfl, rfl, rfl, congrArg (fun b => some (Value.bool b)) (by rw [hap]), congrArg (fun b => some (Value.bool b)) (by rw [hcl]), rfl, rfl, trivial⟩ (.refl _) ⟨mB, mB, mB, trivial⟩
          ·have hb3' := hb3; try simp at hb3'
           have hk2 : k = w.length := by omega
           subst hk2; refine hc_exit (then_exit (then_exit (inb_hit (inb_n ?_)))); exact cut_n _ () trivial ⟨rfl, rfl, rfl, congrArg (fun b => some (Value.bool b)) (apK_end w hi2), congrArg (fun b => some (Value.bool b)) (clK_end w hi2), rfl, trivial⟩ (List.nil_sublist _) ⟨mB, mB, mB, trivial⟩
         ·intro _ _; refine hc_region (r_move rfl rfl ?_); refine r_add _ rfl rfl rfl rfl (by unfold I64; omega) ?_; refine r_assign rfl rfl (hl_nil ?_); exact again _ (i + 1) (by show i + 1 ≤ y.length; omega) (by show y.length - (i + 1) < y.length - i; omega) ⟨rfl, rfl, rfl, rfl, rfl, rfl, trivial⟩ (.refl _) ⟨mB, mB, mB, trivial⟩
        ·have hb2' := hb2; try simp at hb2'
         have hi2 : i = y.length := by omega
         subst hi2; refine hc_exit (then_exit (then_exit (inb_hit ?_))); exact cut_n _ () trivial ⟨rfl, rfl, rfl, congrArg (fun b => some (Value.bool b)) (congrArg (fun q => apF q w) List.take_length), congrArg (fun b => some (Value.bool b)) (congrArg (fun q => clF q w) List.take_length), trivial⟩ (List.nil_sublist _) ⟨mB, mB, mB, trivial⟩
       ·intro _ _; refine hc_seq ?_; generalize hM1 : mergeP x y w = M1; generalize hM2 : mergeP x w y = M2; refine hc_region (r_move rfl rfl (r_move rfl rfl (r_move rfl rfl ?_))); have hd := proof_Merge_meets (A := ox.1) (ca := ox.2) (B := oy.1) (cb := oy.2) (C := ow.1) (cc := ow.2) x y w; rw [hM1] at hd; refine hl_call F.proof_Merge_cb rfl rfl (hd) (List.Perm.refl _) ⟨mB, mB, mB, trivial⟩ fun z1 _ => ?_; refine r_move rfl rfl (r_extract rfl rfl rfl (r_extract rfl rfl rfl (r_assign rfl rfl (r_assign rfl rfl (hl_nil (then_n (hc_seq (hc_region (r_move rfl rfl (r_move rfl rfl (r_move rfl rfl ?_))))))))))); have hd := proof_Merge_meets (A := ox.1) (ca := ox.2) (B := ow.1) (cb := ow.2) (C := oy.1) (cc := oy.2) x w y; rw [hM2] at hd; refine hl_call F.proof_Merge_cb rfl rfl (hd) (List.Perm.refl _) ⟨mB, mB, mB, trivial⟩ fun z2 _ => ?_; refine r_move rfl rfl (r_extract rfl rfl rfl (r_extract rfl rfl rfl (r_assign rfl rfl (r_assign rfl rfl (hl_nil (then_n (hc_seq (hc_seq (hc_region (r_move rfl rfl (hl_nil ?_))))))))))); refine then_n ?_
        first | refine c_dec rfl (fun hb4 => ?_) (fun hb4 => ?_) | refine hc_cond rfl (fun hb4 => ?_) (fun hb4 => ?_)
        ·have hb4' := hb4; try simp at hb4'
         obtain ⟨c1, c2⟩ := merged_clash hpx hyo hwo (by omega) (by omega) hb4; have q1 : M1 = ([], 9) := hM1.symm.trans c1; have q2 : M2 = ([], 9) := hM2.symm.trans c2; subst q1 q2; refine hc_seq (hc_region (r_move rfl rfl (r_eql rfl rfl rfl (r_move rfl rfl ?_)))); refine g_split rfl rfl ?_ ?_
         ·intro hg15; have hg15' := hg15; try simp at hg15'
          refine g_yes rfl rfl hg15 (r_move rfl rfl (g_yes rfl rfl hg15 (r_move rfl rfl (g_yes rfl rfl hg15 (r_eql rfl rfl rfl ?_))))); refine p_t rfl rfl (bt1 hg15) rfl ?_; refine r_move rfl rfl ?_; refine g_split rfl rfl ?_ ?_
          ·intro hg16; have hg16' := hg16; try simp at hg16'
           refine g_yes rfl rfl hg16 ?_; refine hl_call F.law07_correcting_cb rfl rfl (law07_correcting_meets) (List.Perm.refl _) trivial fun _ _ => ?_; refine p_t rfl rfl (bt1 hg16) rfl ?_; refine r_assign rfl rfl (hl_nil (then_n (hc_ret (then_ret ?_)))); exact ret1 () rfl rfl rfl trivial (List.nil_sublist _) trivial
          ·intro hg16; have hg16' := hg16; try simp at hg16'
         ·intro hg15; have hg15' := hg15; try simp at hg15'
        ·have hb4' := hb4; try simp at hb4'
         obtain ⟨l, m, hO⟩ := merged_ok hpx hyo hwo (by omega) (by omega) hb4; have q1 : M1 = (l, 0) := hM1.symm.trans hO.el; have q2 : M2 = (m, 0) := hM2.symm.trans hO.em; subst q1 q2; have hlen := hO.len; have hlem := hO.lem; refine hc_skip (then_n ?_); refine hc_cut ⟨fun _ : Unit => True, fun _ => [(4, .slice ox.1 x.length ox.2), (5, .slice oy.1 y.length oy.2), (6, .slice ow.1 w.length ow.2), (17, .slice z1.1 l.length z1.2), (18, .slice z2.1 m.length z2.2)], fun _ => [], fun _ => [Row ox.1 (rows x), Row oy.1 (rows y), Row ow.1 (rows w), Row z1.1 (rows l), Row z2.1 (rows m)]⟩ ?_ ?_
         ·skip
          refine hc_seq (hc_region (r_move rfl rfl (r_neq rfl rfl rfl (r_move rfl rfl ?_)))); refine g_split rfl rfl ?_ ?_
          ·intro hg17; have hg17' := hg17; try simp at hg17'
           refine g_yes rfl rfl hg17 (r_move rfl rfl (g_yes rfl rfl hg17 (r_neq rfl rfl rfl ?_))); refine p_f rfl rfl (bf1 hg17) rfl ?_; refine r_move rfl rfl ?_; refine g_split rfl rfl ?_ ?_
           ·intro hg18; have hg18' := hg18; try simp at hg18'
            refine g_yes rfl rfl hg18 (r_move rfl rfl (g_yes rfl rfl hg18 ?_)); refine r_len_sl rfl T.u_L_api_Mark rfl ?_; refine g_yes rfl rfl hg18 (r_move rfl rfl (g_yes rfl rfl hg18 ?_)); refine r_len_sl rfl T.u_L_api_Mark rfl ?_; refine g_yes rfl rfl hg18 (r_move rfl rfl (g_yes rfl rfl hg18 ?_)); refine r_len_sl rfl T.u_L_api_Mark rfl ?_; refine g_yes rfl rfl hg18 ?_; refine r_add _ rfl rfl rfl rfl (by unfold I64; omega) ?_; refine g_yes rfl rfl hg18 (r_gtr rfl rfl rfl ?_); refine p_f rfl rfl (bf1 hg18) rfl ?_; refine r_move rfl rfl ?_; refine g_split rfl rfl ?_ ?_
            ·intro hg19; have hg19' := hg19; try simp at hg19'
             refine g_yes rfl rfl hg19 (r_move rfl rfl (g_yes rfl rfl hg19 (r_move rfl rfl ?_))); refine g_split rfl rfl ?_ ?_
             ·intro hg20; have hg20' := hg20; try simp at hg20'
              have hap := hO.ap (bt1 hg20); refine g_yes rfl rfl hg20 (r_move rfl rfl (g_yes rfl rfl hg20 ?_)); refine r_len_sl rfl T.u_L_api_Mark rfl ?_; refine g_yes rfl rfl hg20 (r_move rfl rfl (g_yes rfl rfl hg20 ?_)); refine r_len_sl rfl T.u_L_api_Mark rfl ?_; refine g_yes rfl rfl hg20 (r_move rfl rfl (g_yes rfl rfl hg20 ?_)); refine r_len_sl rfl T.u_L_api_Mark rfl ?_; refine g_yes rfl rfl hg20 ?_; refine r_add _ rfl rfl rfl rfl (by unfold I64; omega) ?_; refine g_yes rfl rfl hg20 (r_neq rfl rfl rfl (g_yes rfl rfl hg20 (r_move rfl rfl ?_))); refine g_split rfl rfl ?_ ?_
              ·intro hg21; have hg21' := hg21; try simp at hg21'
               refine g_yes rfl rfl hg21 (r_move rfl rfl (g_yes rfl rfl hg21 (r_move rfl rfl (g_yes rfl rfl hg21 ?_)))); refine hl_call F.kit_EqMarks_cb rfl rfl (kit_EqMarks_meets l m (by omega)) (List.Perm.refl _) ⟨mB, mB, trivial⟩ fun _ _ => ?_; refine g_yes rfl rfl hg21 (r_not rfl rfl (g_yes rfl rfl hg20 ?_)); refine p_f rfl rfl (bf1 hg21) rfl ?_; refine g_yes rfl rfl hg19 ?_; refine p_t rfl rfl (bt1 hg20) rfl ?_; refine p_f rfl rfl (bf1 hg19) rfl ?_; refine hl_nil (then_n ?_)
               first | refine c_dec rfl (fun hb5 => ?_) (fun hb5 => ?_) | refine hc_cond rfl (fun hb5 => ?_) (fun hb5 => ?_)
               ·exact absurd hap.2 (by simpa using hb5)
               ·have hb5' := hb5; try simp at hb5'
                refine hc_skip ?_; exact cut_n _ () trivial ⟨rfl, rfl, rfl, rfl, rfl, trivial⟩ (List.nil_sublist _) ⟨mB, mB, mB, mB, mB, trivial⟩
              ·intro hg21; have hg21' := hg21; try simp at hg21'
               all_goals (have h := of_decide_eq_true (bt2 hg21); have h3 := hap.1; try simp only at h; omega)
             ·intro hg20; have hg20' := hg20; try simp at hg20'
              refine g_no rfl rfl rfl rfl rfl hg20 (g_no rfl rfl rfl rfl rfl hg20 (g_no rfl rfl rfl rfl rfl hg20 (g_no rfl rfl rfl rfl rfl hg20 (g_no rfl rfl rfl rfl rfl hg20 (g_no rfl rfl rfl rfl rfl hg20 (g_no rfl rfl rfl rfl rfl hg20 (g_no rfl rfl rfl rfl rfl hg20 (g_no rfl rfl rfl rfl rfl hg20 (g_und rfl rfl rfl rfl rfl rfl (g_und rfl rfl rfl rfl rfl rfl (g_und rfl rfl rfl rfl rfl rfl ?_))))))))))); refine g_und rfl rfl rfl rfl rfl rfl (g_no rfl rfl rfl rfl rfl hg20 (g_yes rfl rfl hg19 ?_)); refine p_f rfl rfl (bf2 hg20) rfl ?_; refine p_f rfl rfl (bf1 hg19) rfl ?_; refine hl_nil (then_n (c_f rfl rfl (hc_skip ?_))); exact cut_n _ () trivial ⟨rfl, rfl, rfl, rfl, rfl, trivial⟩ (List.nil_sublist _) ⟨mB, mB, mB, mB, mB, trivial⟩
            ·intro hg19; have hg19' := hg19; try simp at hg19'
             all_goals (have h := of_decide_eq_true (bt2 hg19); try simp only at h; omega)
           ·intro hg18; have hg18' := hg18; try simp at hg18'
          ·intro hg17; have hg17' := hg17; try simp at hg17'
         ·intro _ _; refine hc_seq (hc_seq (hc_region (r_assign rfl rfl (hl_nil (then_n (hc_block ?_)))))); refine hc_loop (β := Nat) ⟨fun j => j ≤ y.length, fun j => [(4, .slice ox.1 x.length ox.2), (5, .slice oy.1 y.length oy.2), (6, .slice ow.1 w.length ow.2), (17, .slice z1.1 l.length z1.2), (18, .slice z2.1 m.length z2.2), (19, int j)], fun _ => [], fun _ => [Row ox.1 (rows x), Row oy.1 (rows y), Row ow.1 (rows w), Row z1.1 (rows l), Row z2.1 (rows m)]⟩ (fun j => y.length - j) 0 (Nat.zero_le _) ⟨rfl, rfl, rfl, rfl, rfl, rfl, trivial⟩ (List.nil_sublist _) ⟨mB, mB, mB, mB, mB, trivial⟩ fun j hj => ?_; simp only at hj; refine hc_seq (hc_seq (hc_region (r_move rfl rfl (r_move rfl rfl ?_)))); refine r_len_sl rfl T.u_L_api_Mark rfl ?_; refine r_lss rfl rfl rfl (hl_nil (then_n ?_))
          first | refine c_dec rfl (fun hb6 => ?_) (fun hb6 => ?_) | refine hc_cond rfl (fun hb6 => ?_) (fun hb6 => ?_)
          ·have hb6' := hb6; try simp at hb6'
           have hj2 : j < y.length := by omega
           refine hc_skip (then_n (hc_seq (hc_block (hc_seq (hc_region (r_move rfl rfl (r_move rfl rfl (r_move rfl rfl ?_)))))))); refine r_elem (α := Mk) _ _ rfl T.u_L_api_Mark T.sz_api_Mark rfl rfl rfl mB rfl (by omega) (by decide) ?_; refine r_loadS rfl T.row_api_Mark T.sz_api_Mark rfl rfl (cells_row mB (rows_all (by omega))) ?_; refine hl_call F.law07_has_cb rfl rfl (law07_has_meets l (y.getD j default) (by omega)) (List.Perm.refl _) ⟨mB, trivial⟩ fun _ _ => ?_; refine r_not rfl rfl (r_move rfl rfl ?_); refine g_split rfl rfl ?_ ?_
           ·intro hg22; have hg22' := hg22; try simp at hg22'
            refine g_yes rfl rfl hg22 (r_move rfl rfl (g_yes rfl rfl hg22 (r_move rfl rfl (g_yes rfl rfl hg22 (r_move rfl rfl (g_yes rfl rfl hg22 ?_)))))); refine r_elem (α := Mk) _ _ rfl T.u_L_api_Mark T.sz_api_Mark rfl rfl rfl mB rfl (by omega) (by decide) ?_; refine g_yes rfl rfl hg22 ?_; refine r_loadS rfl T.row_api_Mark T.sz_api_Mark rfl rfl (cells_row mB (rows_all (by omega))) ?_; refine g_yes rfl rfl hg22 ?_; refine hl_call F.law07_has_cb rfl rfl (law07_has_meets m (y.getD j default) (by omega)) (List.Perm.refl _) ⟨mB, trivial⟩ fun _ _ => ?_; refine g_yes rfl rfl hg22 (r_not rfl rfl ?_); refine p_f rfl rfl (bf1 hg22) rfl ?_; refine hl_nil (then_n ?_)
            first | refine c_dec rfl (fun hb7 => ?_) (fun hb7 => ?_) | refine hc_cond rfl (fun hb7 => ?_) (fun hb7 => ?_)
            ·exact absurd (hO.am _ (getD_mem hj2)) (by simpa using hb7)
            ·have hb7' := hb7; try simp at hb7'
             refine hc_skip (inb_n (then_n (hc_region (r_move rfl rfl ?_)))); refine r_add _ rfl rfl rfl rfl (by unfold I64; omega) ?_; refine r_assign rfl rfl (hl_nil ?_); exact again _ (j + 1) (by show j + 1 ≤ y.length; omega) (by show y.length - (j + 1) < y.length - j; omega) ⟨rfl, rfl, rfl, rfl, rfl, rfl, trivial⟩ (.refl _) ⟨mB, mB, mB, mB, mB, trivial⟩
           ·intro hg22; have hg22' := hg22; try simp at hg22'
            all_goals (exact absurd (hO.al _ (getD_mem hj2)) (by simpa using bt2 hg22))
          ·have hb6' := hb6; try simp at hb6'
           refine hc_exit (then_exit (then_exit (inb_hit (then_n (hc_seq (hc_seq (hc_region (r_assign rfl rfl (hl_nil (then_n (hc_block ?_))))))))))); refine hc_loop (β := Nat) ⟨fun j => j ≤ w.length, fun j => [(4, .slice ox.1 x.length ox.2), (5, .slice oy.1 y.length oy.2), (6, .slice ow.1 w.length ow.2), (17, .slice z1.1 l.length z1.2), (18, .slice z2.1 m.length z2.2), (20, int j)], fun _ => [], fun _ => [Row ox.1 (rows x), Row oy.1 (rows y), Row ow.1 (rows w), Row z1.1 (rows l), Row z2.1 (rows m)]⟩ (fun j => w.length - j) 0 (Nat.zero_le _) ⟨rfl, rfl, rfl, rfl, rfl, rfl, trivial⟩ (List.nil_sublist _) ⟨mB, mB, mB, mB, mB, trivial⟩ fun j hj => ?_; simp only at hj; refine hc_seq (hc_seq (hc_region (r_move rfl rfl (r_move rfl rfl ?_)))); refine r_len_sl rfl T.u_L_api_Mark rfl ?_; refine r_lss rfl rfl rfl (hl_nil (then_n ?_))
           first | refine c_dec rfl (fun hb8 => ?_) (fun hb8 => ?_) | refine hc_cond rfl (fun hb8 => ?_) (fun hb8 => ?_)
           ·have hb8' := hb8; try simp at hb8'
            have hj2 : j < w.length := by omega
            refine hc_skip (then_n (hc_seq (hc_block (hc_seq (hc_region (r_move rfl rfl (r_move rfl rfl (r_move rfl rfl ?_)))))))); refine r_elem (α := Mk) _ _ rfl T.u_L_api_Mark T.sz_api_Mark rfl rfl rfl mB rfl (by omega) (by decide) ?_; refine r_loadS rfl T.row_api_Mark T.sz_api_Mark rfl rfl (cells_row mB (rows_all (by omega))) ?_; refine hl_call F.law07_has_cb rfl rfl (law07_has_meets l (w.getD j default) (by omega)) (List.Perm.refl _) ⟨mB, trivial⟩ fun _ _ => ?_; refine r_not rfl rfl (r_move rfl rfl ?_); refine g_split rfl rfl ?_ ?_
            ·intro hg23; have hg23' := hg23; try simp at hg23'
             refine g_yes rfl rfl hg23 (r_move rfl rfl (g_yes rfl rfl hg23 (r_move rfl rfl (g_yes rfl rfl hg23 (r_move rfl rfl (g_yes rfl rfl hg23 ?_)))))); refine r_elem (α := Mk) _ _ rfl T.u_L_api_Mark T.sz_api_Mark rfl rfl rfl mB rfl (by omega) (by decide) ?_; refine g_yes rfl rfl hg23 ?_; refine r_loadS rfl T.row_api_Mark T.sz_api_Mark rfl rfl (cells_row mB (rows_all (by omega))) ?_; refine g_yes rfl rfl hg23 ?_; refine hl_call F.law07_has_cb rfl rfl (law07_has_meets m (w.getD j default) (by omega)) (List.Perm.refl _) ⟨mB, trivial⟩ fun _ _ => ?_; refine g_yes rfl rfl hg23 (r_not rfl rfl ?_); refine p_f rfl rfl (bf1 hg23) rfl ?_; refine hl_nil (then_n ?_)
             first | refine c_dec rfl (fun hb9 => ?_) (fun hb9 => ?_) | refine hc_cond rfl (fun hb9 => ?_) (fun hb9 => ?_)
             ·exact absurd (hO.bm _ (getD_mem hj2)) (by simpa using hb9)
             ·have hb9' := hb9; try simp at hb9'
              refine hc_skip (inb_n (then_n (hc_region (r_move rfl rfl ?_)))); refine r_add _ rfl rfl rfl rfl (by unfold I64; omega) ?_; refine r_assign rfl rfl (hl_nil ?_); exact again _ (j + 1) (by show j + 1 ≤ w.length; omega) (by show w.length - (j + 1) < w.length - j; omega) ⟨rfl, rfl, rfl, rfl, rfl, rfl, trivial⟩ (.refl _) ⟨mB, mB, mB, mB, mB, trivial⟩
            ·intro hg23; have hg23' := hg23; try simp at hg23'
             all_goals (exact absurd (hO.bl _ (getD_mem hj2)) (by simpa using bt2 hg23))
           ·have hb8' := hb8; try simp at hb8'
            refine hc_exit (then_exit (then_exit (inb_hit (then_n (hc_seq (hc_seq (hc_region (r_assign rfl rfl (hl_nil (then_n (hc_block ?_))))))))))); refine hc_loop (β := Nat) ⟨fun j => j ≤ l.length, fun j => [(4, .slice ox.1 x.length ox.2), (5, .slice oy.1 y.length oy.2), (6, .slice ow.1 w.length ow.2), (17, .slice z1.1 l.length z1.2), (18, .slice z2.1 m.length z2.2), (21, int j)], fun _ => [], fun _ => [Row ox.1 (rows x), Row oy.1 (rows y), Row ow.1 (rows w), Row z1.1 (rows l), Row z2.1 (rows m)]⟩ (fun j => l.length - j) 0 (Nat.zero_le _) ⟨rfl, rfl, rfl, rfl, rfl, rfl, trivial⟩ (List.nil_sublist _) ⟨mB, mB, mB, mB, mB, trivial⟩ fun j hj => ?_; simp only at hj; refine hc_seq (hc_seq (hc_region (r_move rfl rfl (r_move rfl rfl ?_)))); refine r_len_sl rfl T.u_L_api_Mark rfl ?_; refine r_lss rfl rfl rfl (hl_nil (then_n ?_))
            first | refine c_dec rfl (fun hb10 => ?_) (fun hb10 => ?_) | refine hc_cond rfl (fun hb10 => ?_) (fun hb10 => ?_)
            ·have hb10' := hb10; try simp at hb10'
             have hj2 : j < l.length := by omega
             refine hc_skip (then_n (hc_seq (hc_block (hc_seq (hc_region (r_move rfl rfl (r_move rfl rfl (r_move rfl rfl ?_)))))))); refine r_elem (α := Mk) _ _ rfl T.u_L_api_Mark T.sz_api_Mark rfl rfl rfl mB rfl (by omega) (by decide) ?_; refine r_loadS rfl T.row_api_Mark T.sz_api_Mark rfl rfl (cells_row mB (rows_all (by omega))) ?_; refine hl_call F.law07_has_cb rfl rfl (law07_has_meets y (l.getD j default) (by omega)) (List.Perm.refl _) ⟨mB, trivial⟩ fun _ _ => ?_; refine r_not rfl rfl (r_move rfl rfl ?_); refine g_split rfl rfl ?_ ?_
             ·intro hg24; have hg24' := hg24; try simp at hg24'
              have hno : ¬ l.getD j default ∈ y := by simpa using bt1 hg24
              refine g_yes rfl rfl hg24 (r_move rfl rfl (g_yes rfl rfl hg24 (r_move rfl rfl (g_yes rfl rfl hg24 (r_move rfl rfl (g_yes rfl rfl hg24 ?_)))))); refine r_elem (α := Mk) _ _ rfl T.u_L_api_Mark T.sz_api_Mark rfl rfl rfl mB rfl (by omega) (by decide) ?_; refine g_yes rfl rfl hg24 ?_; refine r_loadS rfl T.row_api_Mark T.sz_api_Mark rfl rfl (cells_row mB (rows_all (by omega))) ?_; refine g_yes rfl rfl hg24 ?_; refine hl_call F.law07_has_cb rfl rfl (law07_has_meets w (l.getD j default) (by omega)) (List.Perm.refl _) ⟨mB, trivial⟩ fun _ _ => ?_; refine g_yes rfl rfl hg24 (r_not rfl rfl ?_); refine p_t rfl rfl (bt1 hg24) rfl ?_; refine hl_nil (then_n ?_)
              first | refine c_dec rfl (fun hb11 => ?_) (fun hb11 => ?_) | refine hc_cond rfl (fun hb11 => ?_) (fun hb11 => ?_)
              ·exact absurd ((hO.no _ (getD_mem hj2)).resolve_left hno) (by simpa using hb11)
              ·have hb11' := hb11; try simp at hb11'
               refine hc_skip (inb_n (then_n (hc_region (r_move rfl rfl ?_)))); refine r_add _ rfl rfl rfl rfl (by unfold I64; omega) ?_; refine r_assign rfl rfl (hl_nil ?_); exact again _ (j + 1) (by show j + 1 ≤ l.length; omega) (by show l.length - (j + 1) < l.length - j; omega) ⟨rfl, rfl, rfl, rfl, rfl, rfl, trivial⟩ (.refl _) ⟨mB, mB, mB, mB, mB, trivial⟩
             ·intro hg24; have hg24' := hg24; try simp at hg24'
              refine g_no rfl rfl rfl rfl rfl hg24 (g_no rfl rfl rfl rfl rfl hg24 (g_no rfl rfl rfl rfl rfl hg24 (g_no rfl rfl rfl rfl rfl hg24 (g_no rfl rfl rfl rfl rfl hg24 (g_no rfl rfl rfl rfl rfl hg24 (g_no rfl rfl rfl rfl rfl hg24 ?_)))))); refine p_f rfl rfl (bf2 hg24) rfl ?_; refine hl_nil (then_n (c_f rfl rfl (hc_skip (inb_n (then_n (hc_region (r_move rfl rfl ?_))))))); refine r_add _ rfl rfl rfl rfl (by unfold I64; omega) ?_; refine r_assign rfl rfl (hl_nil ?_); exact again _ (j + 1) (by show j + 1 ≤ l.length; omega) (by show l.length - (j + 1) < l.length - j; omega) ⟨rfl, rfl, rfl, rfl, rfl, rfl, trivial⟩ (.refl _) ⟨mB, mB, mB, mB, mB, trivial⟩
            ·have hb10' := hb10; try simp at hb10'
             refine hc_exit (then_exit (then_exit (inb_hit (then_n (hc_seq ?_))))); have hco : costR x l = ((costM l : Int), 0) := by rw [costR, if_neg (not_not_intro hO.ck)]
             refine hc_region (r_move rfl rfl (r_move rfl rfl ?_)); have hd2 := proof_Cost_meets (A := ox.1) (ca := ox.2) (B := z1.1) (cb := z1.2) x l; rw [hco] at hd2; refine hl_call F.proof_Cost_cb rfl rfl (hd2) (List.Perm.refl _) ⟨mB, mB, trivial⟩ fun _ _ => ?_; refine r_move rfl rfl (r_extract rfl rfl rfl (r_extract rfl rfl rfl (r_assign rfl rfl (hl_nil (then_n (hc_seq (hc_region (r_move rfl rfl (r_eql rfl rfl rfl (r_move rfl rfl ?_)))))))))); refine g_split rfl rfl ?_ ?_
             ·intro hg25; have hg25' := hg25; try simp at hg25'
              refine g_yes rfl rfl hg25 ?_; refine hl_call F.law07_correcting_cb rfl rfl (law07_correcting_meets) (List.Perm.refl _) trivial fun _ _ => ?_; refine p_t rfl rfl (bt1 hg25) rfl ?_; refine r_assign rfl rfl (hl_nil (then_n (hc_ret ?_))); exact ret1 () rfl rfl rfl trivial (List.nil_sublist _) trivial
             ·intro hg25; have hg25' := hg25; try simp at hg25'
     ·intro hg5; have hg5' := hg5; try simp at hg5'
    ·intro hg4; have hg4' := hg4; try simp at hg4'
   ·intro hg3; have hg3' := hg3; try simp at hg3'
  ·intro hg2; have hg2' := hg2; try simp at hg2'
 ·intro hg1; have hg1' := hg1; try simp at hg1'
end Go.Proofs.Ytpfbbggmcbhboaa
end
section
namespace Go.W
open Go Go.RowKit Go.ChangeShapes Go.WideShapes
section
variable {H : Type} {enc : TypeId × Value → H} {P : Program} {w : World} {base : Nat} {spare : Nat → Bool} {held : Bool}
theorem row_of {α : Type} [El α] (h1 : El.sz α = 1) {a : Addr} {l : List α} (h : ∀ j (hj : j < l.length), ∃ v, El.cells l[j] = [v] ∧ w.cell? (a.add j) = some v) : (Row (some a) (rows l)).P w := by
  intro j u hu; refine ⟨a, rfl, ?_⟩
  have hj : j < l.length := by
    have := (List.getElem?_eq_some_iff.1 hu).1; rw [rows_len, h1, Nat.mul_one] at this; exact this
  obtain ⟨v, hv, hc⟩ := h j hj; have h2 := rows_get (l := l) (i := j) (j := 0) (v := v) hj (by simp [List.getD_eq_getElem?_getD, hj, hv]); rw [h1] at h2; simp only [Nat.mul_one, Nat.add_zero] at h2; rw [hu] at h2
  cases h2
  exact hc
theorem in_ints {t e : TypeId} {A : Option Addr} {n c fuel : Nat} {x : DataW H × List MemPlace} (ht : P.underlying t = some (.slice e)) (he : P.underlying e = some (.int .i64)) (hc : P.cellsOf e = 1)
    (h : DataW.trod enc P w base spare held fuel t [.slice A n c] = some x) : ∃ l : List Int, n = l.length ∧ l.length ≤ c ∧ c ≤ maxLen ∧ (Row A (rows l)).P w ∧ ∀ z ∈ l, I64 z := by
  rcases open_ints ht he hc h with ⟨hcs, _⟩ | ⟨a, len, cap, zs, hcs, _, hl, hm, hlen, _, hcell, hwf⟩
  · simp at hcs
    obtain ⟨rfl, rfl, rfl⟩ := hcs; exact ⟨[], rfl, Nat.le_refl _, by unfold maxLen; omega, Row.nil _ _, by intro z hz; simp at hz⟩
  · simp at hcs
    obtain ⟨rfl, rfl, rfl⟩ := hcs; have hle : n ≤ zs.length := by rw [hlen]; split <;> omega
    have hlen2 : (zs.take n).length = n := by rw [List.length_take]; omega
    refine ⟨zs.take n, hlen2.symm, by rw [hlen2]; exact hl, hm, row_of rfl fun j hj => ?_, fun z hz => ?_⟩
    · rw [hlen2] at hj
      refine ⟨int zs[j], by simp [El.cells], ?_⟩; rw [hcell j (by omega)]
      simp [List.getD_eq_getElem?_getD, show j < zs.length by omega]
    · have := hwf z (List.mem_of_mem_take hz)
      simp [Lit.wf, IntKind.min, IntKind.max, IntKind.signed, IntKind.bits] at this
      exact ⟨by omega, by omega⟩
theorem law_calls {f : Nat} {args : List Value} {LI : List Fact} (h : Meets P f args ({ LI := LI, val := fun _ : Unit => .bool true } : Con Unit)) (hL : ∀ F ∈ LI, F.P w) : CallsB P f args.toArray w fun v w' => v = .bool true ∧ Below w.heap.size w w' := by
  refine (h w ⟨Ext.refl _ _, by simp, by simp, by simp, hL, by simp, fun F hF k hk => .inr (.inr ⟨F, hF, hk⟩)⟩).mono fun v w' hp => ?_; obtain ⟨_, rfl, _, hwi⟩ := hp; exact ⟨rfl, hwi.ext.below⟩
end
end Go.W
end
section
namespace Go.W
open Go Go.Conc
theorem Lv.at {P : Program} {fr : Frame} {w : World} {v : Value} (h : Lv P fr w v) (d : Nat) : Lv P fr (w.at d) v :=
  ⟨h.1, h.2.1, h.2.2.1, h.2.2.2.elim fun fn x => ⟨fn, x.1, fun d' => x.2 d'⟩⟩
theorem run_of {P : Program} {f : FuncId} {fn : Func} {t : Tmp} {args : Array Value} {W : World} {R : Value → World → Prop} (hf : P.funcs[f]? = some fn) (hres : fn.results = #[.tmp t]) (hin : P.inits.idxOf? f = none)
    (h : CallsB P f args W R) (hat : ∀ v w d, R v w → R v (w.at d)) :
    ∃ M last o w' t', runNT P (M + 1) (solo (G (Frame.enter P f args .normal) []) W) #[] = (.ended o w', t') ∧ runN P M (solo (G (Frame.enter P f args .normal) []) W) = .next last ∧ step P last = .ended o w' ∧ Conc.Good P R last o w' t' := by
  have hco := h [] (fun g w => ∃ v fr, g = G fr [] ∧ fr.fn = f ∧ Lv P fr w v ∧ R v w) (fun fr v w' hfr hR hl => co_done fun d => ⟨v, fr, rfl, hfr, hl.at d, hat _ _ _ hR⟩); obtain ⟨N, gs, g, w, sl, t0, q, B, r, h0, hL, hP, v, fr, rfl, hfr, hl, hR⟩ := hco W.drawn #[G (Frame.enter P f args .normal) []] none #[] (fun _ => 0) 0 rfl (leavers_one P _) past_nil
  have hG : Goes P true AtRel (fun _ _ es => ∀ e ∈ es, EvL noS B e) (AtEnd P noS B R) 0 (G fr []) w := by
    rintro w₁ ⟨d, rfl⟩; refine ⟨rfl, v, #[], ?_, by simp, hat _ _ _ hR⟩; obtain ⟨hm, hd, hn, fn', hf', hr⟩ := hl.at d; rw [hfr, hf] at hf'; obtain rfl := Option.some.inj hf'; have hf2 : P.funcs[fr.fn]? = some fn := by rw [hfr]; exact hf
    have hin2 : P.inits.idxOf? fr.fn = none := by rw [hfr]; exact hin
    have he : (results fn fr.tmps).events P (w.at d) #[] = #[] := events_results_tmp hres _ _; have hr0 : (results fn fr.tmps).run P (w.at d) = .ok v (w.at d) := hr d
    simp [G, stepG, unwind, doReturn, hn, hd, hm, hf2, hr0, he, hin2, GStep.after, seen]
  obtain ⟨M, last, o, w', t', e1, e2, e3, e4⟩ := beside_ends (P := P) (Post := R) (sl := sl) (fun _ _ _ h => h) h0 hL hP hG; have hrun : runNT P N (solo (G (Frame.enter P f args .normal) []) W) #[] = (.next (crowd gs w sl), t0) := r; refine ⟨N + M, last, o, w', t', ?_, ?_, e3, e4⟩
  · rw [Nat.add_assoc, runNT_two hrun]; exact e1
  · rw [runN_add, ← runNT_fst P _ _ #[], hrun]; exact e2
end Go.W
end
