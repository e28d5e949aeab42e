/- Texts. -/

import Derived.Test.YtpfbbggmcbhboaaBAi
import Derived.Test.YtpfbbggmcbhboaaBAe
set_option linter.unusedVariables false
set_option linter.unusedSimpArgs false
section
namespace Go.Proofs.Ytpfbbggmcbhboaa
open Go Go.W
set_option maxRecDepth 20000
attribute [local irreducible] HL HC HQ HB Row Rows2 Blk Facts
def dice (g : Nat) (A : Option Addr) (c : Nat) (nums : List Int) (s : Int × Int) : Nat × Obj := (g, .cells #[.slice A nums.length c, int s.1, .int .u64 s.2] T.wayzgoosekit_Dice (0, 0))
def DOK (nums : List Int) (s : Int × Int) : Prop := 0 ≤ s.1 ∧ s.1 ≤ nums.length ∧ 0 ≤ s.2 ∧ s.2 < 18446744073709551616
def diceCon {β : Type} (g : Nat) (A : Option Addr) (c : Nat) (nums : List Int) (s : Int × Int) (inv : β → Prop) (val : β → Value) (LO : β → List Fact) : Con ((Int × Int) × β) :=
  { hpI := [dice g A c nums s], LI := [Row A (rows nums)], inv := fun x => DOK nums x.1 ∧ inv x.2, val := fun x => val x.2, hpO := fun x => [dice g A c nums x.1], LO := fun x => LO x.2 }
theorem kit_Dice_raw_meets {g : Nat} {A : Option Addr} {c : Nat} {nums : List Int} {s : Int × Int} (hn : nums.length ≤ 9223372036854775807) (hs : DOK nums s) :
    Meets Try.prog F.kit_Dice_raw [.pointer (some ⟨g, 0, none⟩)] (diceCon g A c nums s (fun z : Int => 0 ≤ z ∧ z < 18446744073709551616) (fun z => .int .u64 z) (fun _ => [])) := by
 obtain ⟨p, q⟩ := s; obtain ⟨h1, h2, h3, h4⟩ := hs; simp only at h1 h2 h3 h4; obtain ⟨pn, rfl⟩ := Int.eq_ofNat_of_zero_le h1; refine meets_intro F.kit_Dice_raw_f rfl (Nat.le_of_ble_eq_true rfl) fun w0 => ?_; refine hc_seq (hc_region (r_assign rfl rfl (hl_nil (then_n (hc_seq ?_))))); refine hc_draw 11 mixed (by decide) (by decide) rfl rfl ?_; refine hb_ex _ rfl rfl rfl (fun w1 => r_move rfl rfl (hl_nil (qe_done rfl))) ?_; refine hb_ex _ rfl rfl rfl (fun w1 => r_move rfl rfl (hl_nil (qe_done rfl))) ?_; refine hb_ex _ rfl rfl rfl (fun w1 => r_nilCheck rfl rfl (hl_nil (qe_done rfl))) ?_
 apply hb_ex _ rfl rfl rfl
 ·intro w1
  first | refine r_fieldAddr ⟨_, 2, none⟩ rfl rfl T.fa_wayzgoosekit_Dice_2 rfl ?_ | refine r_fieldAddr _ rfl rfl T.fa_wayzgoosekit_Dice_2 rfl ?_
  refine hl_nil ?_; exact qe_done rfl
 apply hb_ex _ rfl rfl rfl
 ·intro w1
  first | refine r_load rfl T.cell_u64 rfl (cell_blk mB rfl) ?_ | refine r_load rfl T.cell_u64 rfl (cell_own mB rfl) ?_ | refine r_load rfl T.cell_u64 rfl (cell_row mB (rows_get0 (by omega) rfl)) ?_ | refine r_load rfl T.cell_u64 rfl (cell_row_f mB (rows_get (by omega) rfl)) ?_
  refine hl_nil ?_; exact qe_done rfl
 refine hb_ex _ rfl rfl rfl (fun w1 => r_move rfl rfl (hl_nil (qe_done rfl))) ?_; refine hb_ex _ rfl rfl rfl (fun w1 => r_nilCheck rfl rfl (hl_nil (qe_done rfl))) ?_
 apply hb_ex _ rfl rfl rfl
 ·intro w1
  first | refine r_fieldAddr ⟨_, 2, none⟩ rfl rfl T.fa_wayzgoosekit_Dice_2 rfl ?_ | refine r_fieldAddr _ rfl rfl T.fa_wayzgoosekit_Dice_2 rfl ?_
  refine hl_nil ?_; exact qe_done rfl
 apply hb_ex _ rfl rfl rfl
 ·intro w1
  first | refine r_load rfl T.cell_u64 rfl (cell_blk mB rfl) ?_ | refine r_load rfl T.cell_u64 rfl (cell_own mB rfl) ?_ | refine r_load rfl T.cell_u64 rfl (cell_row mB (rows_get0 (by omega) rfl)) ?_ | refine r_load rfl T.cell_u64 rfl (cell_row_f mB (rows_get (by omega) rfl)) ?_
  refine hl_nil ?_; exact qe_done rfl
 refine hb_ex _ rfl rfl rfl (fun w1 => r_bin _ rfl rfl rfl (fun _ => rfl) (fun _ => rfl) (hl_nil (qe_done rfl))) ?_; refine hb_ex _ rfl rfl rfl (fun w1 => r_bin _ rfl rfl rfl (fun _ => rfl) (fun _ => rfl) (hl_nil (qe_done rfl))) ?_; refine hb_nil ⟨rfl, ?_⟩; refine r_nilCheck rfl rfl ?_
 first | refine r_fieldAddr ⟨_, 2, none⟩ rfl rfl T.fa_wayzgoosekit_Dice_2 rfl ?_ | refine r_fieldAddr _ rfl rfl T.fa_wayzgoosekit_Dice_2 rfl ?_
 refine r_store rfl rfl (by first | exact .refl _ | exact perm2 _ _ _ | exact perm3 _ _ _ _ | exact perm4 _ _ _ _ _) T.sz_u64 (by rfl) (by rfl) ?_; refine hl_nil (then_n (hc_seq ?_)); refine hc_draw 11 mixed (by decide) (by decide) rfl rfl ?_; refine hb_ex _ rfl rfl rfl (fun w1 => r_move rfl rfl (hl_nil (qe_done rfl))) ?_; refine hb_ex _ rfl rfl rfl (fun w1 => r_move rfl rfl (hl_nil (qe_done rfl))) ?_; refine hb_ex _ rfl rfl rfl (fun w1 => r_nilCheck rfl rfl (hl_nil (qe_done rfl))) ?_
 apply hb_ex _ rfl rfl rfl
 ·intro w1
  first | refine r_fieldAddr ⟨_, 2, none⟩ rfl rfl T.fa_wayzgoosekit_Dice_2 rfl ?_ | refine r_fieldAddr _ rfl rfl T.fa_wayzgoosekit_Dice_2 rfl ?_
  refine hl_nil ?_; exact qe_done rfl
 apply hb_ex _ rfl rfl rfl
 ·intro w1
  first | refine r_load rfl T.cell_u64 rfl (cell_blk mB rfl) ?_ | refine r_load rfl T.cell_u64 rfl (cell_own mB rfl) ?_ | refine r_load rfl T.cell_u64 rfl (cell_row mB (rows_get0 (by omega) rfl)) ?_ | refine r_load rfl T.cell_u64 rfl (cell_row_f mB (rows_get (by omega) rfl)) ?_
  refine hl_nil ?_; exact qe_done rfl
 refine hb_ex _ rfl rfl rfl (fun w1 => r_move rfl rfl (hl_nil (qe_done rfl))) ?_; refine hb_ex _ rfl rfl rfl (fun w1 => r_nilCheck rfl rfl (hl_nil (qe_done rfl))) ?_
 apply hb_ex _ rfl rfl rfl
 ·intro w1
  first | refine r_fieldAddr ⟨_, 2, none⟩ rfl rfl T.fa_wayzgoosekit_Dice_2 rfl ?_ | refine r_fieldAddr _ rfl rfl T.fa_wayzgoosekit_Dice_2 rfl ?_
  refine hl_nil ?_; exact qe_done rfl
 apply hb_ex _ rfl rfl rfl
 ·intro w1
  first | refine r_load rfl T.cell_u64 rfl (cell_blk mB rfl) ?_ | refine r_load rfl T.cell_u64 rfl (cell_own mB rfl) ?_ | refine r_load rfl T.cell_u64 rfl (cell_row mB (rows_get0 (by omega) rfl)) ?_ | refine r_load rfl T.cell_u64 rfl (cell_row_f mB (rows_get (by omega) rfl)) ?_
  refine hl_nil ?_; exact qe_done rfl
 refine hb_ex _ rfl rfl rfl (fun w1 => r_bin _ rfl rfl rfl (fun _ => rfl) (fun _ => rfl) (hl_nil (qe_done rfl))) ?_; refine hb_ex _ rfl rfl rfl (fun w1 => r_bin _ rfl rfl rfl (fun _ => rfl) (fun _ => rfl) (hl_nil (qe_done rfl))) ?_; refine hb_nil ⟨rfl, ?_⟩; refine r_nilCheck rfl rfl ?_
 first | refine r_fieldAddr ⟨_, 2, none⟩ rfl rfl T.fa_wayzgoosekit_Dice_2 rfl ?_ | refine r_fieldAddr _ rfl rfl T.fa_wayzgoosekit_Dice_2 rfl ?_
 refine r_store rfl rfl (by first | exact .refl _ | exact perm2 _ _ _ | exact perm3 _ _ _ _ | exact perm4 _ _ _ _ _) T.sz_u64 (by rfl) (by rfl) ?_; refine hl_nil (then_n (hc_seq ?_)); refine hc_draw 11 mixed (by decide) (by decide) rfl rfl ?_; refine hb_ex _ rfl rfl rfl (fun w1 => r_move rfl rfl (hl_nil (qe_done rfl))) ?_; refine hb_ex _ rfl rfl rfl (fun w1 => r_move rfl rfl (hl_nil (qe_done rfl))) ?_; refine hb_ex _ rfl rfl rfl (fun w1 => r_nilCheck rfl rfl (hl_nil (qe_done rfl))) ?_
 apply hb_ex _ rfl rfl rfl
 ·intro w1
  first | refine r_fieldAddr ⟨_, 2, none⟩ rfl rfl T.fa_wayzgoosekit_Dice_2 rfl ?_ | refine r_fieldAddr _ rfl rfl T.fa_wayzgoosekit_Dice_2 rfl ?_
  refine hl_nil ?_; exact qe_done rfl
 apply hb_ex _ rfl rfl rfl
 ·intro w1
  first | refine r_load rfl T.cell_u64 rfl (cell_blk mB rfl) ?_ | refine r_load rfl T.cell_u64 rfl (cell_own mB rfl) ?_ | refine r_load rfl T.cell_u64 rfl (cell_row mB (rows_get0 (by omega) rfl)) ?_ | refine r_load rfl T.cell_u64 rfl (cell_row_f mB (rows_get (by omega) rfl)) ?_
  refine hl_nil ?_; exact qe_done rfl
 refine hb_ex _ rfl rfl rfl (fun w1 => r_move rfl rfl (hl_nil (qe_done rfl))) ?_; refine hb_ex _ rfl rfl rfl (fun w1 => r_nilCheck rfl rfl (hl_nil (qe_done rfl))) ?_
 apply hb_ex _ rfl rfl rfl
 ·intro w1
  first | refine r_fieldAddr ⟨_, 2, none⟩ rfl rfl T.fa_wayzgoosekit_Dice_2 rfl ?_ | refine r_fieldAddr _ rfl rfl T.fa_wayzgoosekit_Dice_2 rfl ?_
  refine hl_nil ?_; exact qe_done rfl
 apply hb_ex _ rfl rfl rfl
 ·intro w1
  first | refine r_load rfl T.cell_u64 rfl (cell_blk mB rfl) ?_ | refine r_load rfl T.cell_u64 rfl (cell_own mB rfl) ?_ | refine r_load rfl T.cell_u64 rfl (cell_row mB (rows_get0 (by omega) rfl)) ?_ | refine r_load rfl T.cell_u64 rfl (cell_row_f mB (rows_get (by omega) rfl)) ?_
  refine hl_nil ?_; exact qe_done rfl
 refine hb_ex _ rfl rfl rfl (fun w1 => r_bin _ rfl rfl rfl (fun _ => rfl) (fun _ => rfl) (hl_nil (qe_done rfl))) ?_; refine hb_ex _ rfl rfl rfl (fun w1 => r_bin _ rfl rfl rfl (fun _ => rfl) (fun _ => rfl) (hl_nil (qe_done rfl))) ?_; refine hb_nil ⟨rfl, ?_⟩; refine r_nilCheck rfl rfl ?_
 first | refine r_fieldAddr ⟨_, 2, none⟩ rfl rfl T.fa_wayzgoosekit_Dice_2 rfl ?_ | refine r_fieldAddr _ rfl rfl T.fa_wayzgoosekit_Dice_2 rfl ?_
 refine r_store rfl rfl (by first | exact .refl _ | exact perm2 _ _ _ | exact perm3 _ _ _ _ | exact perm4 _ _ _ _ _) T.sz_u64 (by rfl) (by rfl) ?_; refine hl_nil (then_n (hc_seq (hc_seq ?_))); refine hc_draw 9 mixed (by decide) (by decide) rfl rfl ?_; refine hb_ex _ rfl rfl rfl (fun w1 => r_move rfl rfl (hl_nil (qe_done rfl))) ?_; refine hb_ex _ rfl rfl rfl (fun w1 => r_nilCheck rfl rfl (hl_nil (qe_done rfl))) ?_
 apply hb_ex _ rfl rfl rfl
 ·intro w1
  first | refine r_fieldAddr ⟨_, 1, none⟩ rfl rfl T.fa_wayzgoosekit_Dice_1 rfl ?_ | refine r_fieldAddr _ rfl rfl T.fa_wayzgoosekit_Dice_1 rfl ?_
  refine hl_nil ?_; exact qe_done rfl
 apply hb_ex _ rfl rfl rfl
 ·intro w1
  first | refine r_load rfl T.cell_int rfl (cell_blk mB rfl) ?_ | refine r_load rfl T.cell_int rfl (cell_own mB rfl) ?_ | refine r_load rfl T.cell_int rfl (cell_row mB (rows_get0 (by omega) rfl)) ?_ | refine r_load rfl T.cell_int rfl (cell_row_f mB (rows_get (by omega) rfl)) ?_
  refine hl_nil ?_; exact qe_done rfl
 refine hb_ex _ rfl rfl rfl (fun w1 => r_move rfl rfl (hl_nil (qe_done rfl))) ?_; refine hb_ex _ rfl rfl rfl (fun w1 => r_nilCheck rfl rfl (hl_nil (qe_done rfl))) ?_
 apply hb_ex _ rfl rfl rfl
 ·intro w1
  first | refine r_fieldAddr ⟨_, 0, none⟩ rfl rfl T.fa_wayzgoosekit_Dice_0 rfl ?_ | refine r_fieldAddr _ rfl rfl T.fa_wayzgoosekit_Dice_0 rfl ?_
  refine hl_nil ?_; exact qe_done rfl
 apply hb_ex _ rfl rfl rfl
 ·intro w1
  first | refine r_load rfl T.cell_ints rfl (cell_blk mB rfl) ?_ | refine r_load rfl T.cell_ints rfl (cell_own mB rfl) ?_ | refine r_load rfl T.cell_ints rfl (cell_row mB (rows_get0 (by omega) rfl)) ?_ | refine r_load rfl T.cell_ints rfl (cell_row_f mB (rows_get (by omega) rfl)) ?_
  refine hl_nil ?_; exact qe_done rfl
 refine hb_ex _ rfl rfl rfl (fun w1 => r_len_sl rfl T.u_ints rfl (hl_nil (qe_done rfl))) ?_; refine hb_nil ⟨rfl, ?_⟩; refine r_lss rfl rfl rfl (hl_nil (then_n ?_))
 first | refine c_dec rfl (fun hb1 => ?_) (fun hb1 => ?_) | refine hc_cond rfl (fun hb1 => ?_) (fun hb1 => ?_)
 ·have hb1' := hb1; try simp at hb1'
  refine hc_seq ?_; refine hc_draw 18 mixed (by decide) (by decide) rfl rfl ?_; refine hb_ex _ rfl rfl rfl (fun w1 => r_move rfl rfl (hl_nil (qe_done rfl))) ?_; refine hb_ex _ rfl rfl rfl (fun w1 => r_move rfl rfl (hl_nil (qe_done rfl))) ?_; refine hb_ex _ rfl rfl rfl (fun w1 => r_nilCheck rfl rfl (hl_nil (qe_done rfl))) ?_
  apply hb_ex _ rfl rfl rfl
  ·intro w1
   first | refine r_fieldAddr ⟨_, 2, none⟩ rfl rfl T.fa_wayzgoosekit_Dice_2 rfl ?_ | refine r_fieldAddr _ rfl rfl T.fa_wayzgoosekit_Dice_2 rfl ?_
   refine hl_nil ?_; exact qe_done rfl
  apply hb_ex _ rfl rfl rfl
  ·intro w1
   first | refine r_load rfl T.cell_u64 rfl (cell_blk mB rfl) ?_ | refine r_load rfl T.cell_u64 rfl (cell_own mB rfl) ?_ | refine r_load rfl T.cell_u64 rfl (cell_row mB (rows_get0 (by omega) rfl)) ?_ | refine r_load rfl T.cell_u64 rfl (cell_row_f mB (rows_get (by omega) rfl)) ?_
   refine hl_nil ?_; exact qe_done rfl
  refine hb_ex _ rfl rfl rfl (fun w1 => r_move rfl rfl (hl_nil (qe_done rfl))) ?_; refine hb_ex _ rfl rfl rfl (fun w1 => r_nilCheck rfl rfl (hl_nil (qe_done rfl))) ?_
  apply hb_ex _ rfl rfl rfl
  ·intro w1
   first | refine r_fieldAddr ⟨_, 0, none⟩ rfl rfl T.fa_wayzgoosekit_Dice_0 rfl ?_ | refine r_fieldAddr _ rfl rfl T.fa_wayzgoosekit_Dice_0 rfl ?_
   refine hl_nil ?_; exact qe_done rfl
  apply hb_ex _ rfl rfl rfl
  ·intro w1
   first | refine r_load rfl T.cell_ints rfl (cell_blk mB rfl) ?_ | refine r_load rfl T.cell_ints rfl (cell_own mB rfl) ?_ | refine r_load rfl T.cell_ints rfl (cell_row mB (rows_get0 (by omega) rfl)) ?_ | refine r_load rfl T.cell_ints rfl (cell_row_f mB (rows_get (by omega) rfl)) ?_
   refine hl_nil ?_; exact qe_done rfl
  refine hb_ex _ rfl rfl rfl (fun w1 => r_move rfl rfl (hl_nil (qe_done rfl))) ?_; refine hb_ex _ rfl rfl rfl (fun w1 => r_nilCheck rfl rfl (hl_nil (qe_done rfl))) ?_
  apply hb_ex _ rfl rfl rfl
  ·intro w1
   first | refine r_fieldAddr ⟨_, 1, none⟩ rfl rfl T.fa_wayzgoosekit_Dice_1 rfl ?_ | refine r_fieldAddr _ rfl rfl T.fa_wayzgoosekit_Dice_1 rfl ?_
   refine hl_nil ?_; exact qe_done rfl
  apply hb_ex _ rfl rfl rfl
  ·intro w1
   first | refine r_load rfl T.cell_int rfl (cell_blk mB rfl) ?_ | refine r_load rfl T.cell_int rfl (cell_own mB rfl) ?_ | refine r_load rfl T.cell_int rfl (cell_row mB (rows_get0 (by omega) rfl)) ?_ | refine r_load rfl T.cell_int rfl (cell_row_f mB (rows_get (by omega) rfl)) ?_
   refine hl_nil ?_; exact qe_done rfl
  refine hb_ex _ rfl rfl rfl (fun w1 => r_elem (α := Int) _ pn rfl T.u_ints T.sz_int rfl rfl rfl m1 rfl (by omega) (by decide) (hl_nil (qe_done rfl))) ?_; refine hb_ex _ rfl rfl rfl (fun w1 => r_load rfl T.cell_int rfl (cell_row mB (rows_get0 (by omega) rfl)) (hl_nil (qe_done rfl))) ?_; refine hb_ex _ rfl rfl rfl (fun w1 => r_conv _ rfl T.u_int T.u_u64 rfl rfl (hl_nil (qe_done rfl))) ?_; refine hb_ex _ rfl rfl rfl (fun w1 => r_bin _ rfl rfl rfl (fun _ => rfl) (fun _ => rfl) (hl_nil (qe_done rfl))) ?_; refine hb_ex _ rfl rfl rfl (fun w1 => r_bin _ rfl rfl rfl (fun _ => rfl) (fun _ => rfl) (hl_nil (qe_done rfl))) ?_; refine hb_nil ⟨rfl, ?_⟩; refine r_nilCheck rfl rfl ?_
  first | refine r_fieldAddr ⟨_, 2, none⟩ rfl rfl T.fa_wayzgoosekit_Dice_2 rfl ?_ | refine r_fieldAddr _ rfl rfl T.fa_wayzgoosekit_Dice_2 rfl ?_
  refine r_store rfl rfl (by first | exact .refl _ | exact perm2 _ _ _ | exact perm3 _ _ _ _ | exact perm4 _ _ _ _ _) T.sz_u64 (by rfl) (by rfl) ?_; refine hl_nil (then_n (hc_region (r_move rfl rfl (r_nilCheck rfl rfl ?_))))
  first | refine r_fieldAddr ⟨_, 1, none⟩ rfl rfl T.fa_wayzgoosekit_Dice_1 rfl ?_ | refine r_fieldAddr _ rfl rfl T.fa_wayzgoosekit_Dice_1 rfl ?_
  first | refine r_load rfl T.cell_int rfl (cell_own mB rfl) ?_ | refine r_load rfl T.cell_int rfl (cell_blk mB rfl) ?_ | refine r_load rfl T.cell_int rfl (cell_row mB (rows_get0 (by omega) rfl)) ?_ | refine r_load rfl T.cell_int rfl (cell_row_f mB (rows_get (by omega) rfl)) ?_
  refine r_add _ rfl rfl rfl rfl (by unfold I64; omega) ?_; refine r_nilCheck rfl rfl ?_
  first | refine r_fieldAddr ⟨_, 1, none⟩ rfl rfl T.fa_wayzgoosekit_Dice_1 rfl ?_ | refine r_fieldAddr _ rfl rfl T.fa_wayzgoosekit_Dice_1 rfl ?_
  refine r_store rfl rfl (by first | exact .refl _ | exact perm2 _ _ _ | exact perm3 _ _ _ _ | exact perm4 _ _ _ _ _) T.sz_int (by rfl) (by rfl) ?_; refine hl_nil (then_n (hc_seq (hc_region (r_move rfl rfl (r_nilCheck rfl rfl ?_)))))
  first | refine r_fieldAddr ⟨_, 2, none⟩ rfl rfl T.fa_wayzgoosekit_Dice_2 rfl ?_ | refine r_fieldAddr _ rfl rfl T.fa_wayzgoosekit_Dice_2 rfl ?_
  first | refine r_load rfl T.cell_u64 rfl (cell_own mB rfl) ?_ | refine r_load rfl T.cell_u64 rfl (cell_blk mB rfl) ?_ | refine r_load rfl T.cell_u64 rfl (cell_row mB (rows_get0 (by omega) rfl)) ?_ | refine r_load rfl T.cell_u64 rfl (cell_row_f mB (rows_get (by omega) rfl)) ?_
  refine r_assign rfl rfl (hl_nil (then_n (hc_seq (hc_region (r_move rfl rfl (r_move rfl rfl ?_)))))); refine r_bin _ rfl rfl rfl (fun _ => rfl) (fun _ => rfl) ?_; refine r_bin _ rfl rfl rfl (fun _ => rfl) (fun _ => rfl) ?_; refine r_bin _ rfl rfl rfl (fun _ => rfl) (fun _ => rfl) ?_; refine r_assign rfl rfl (hl_nil (then_n (hc_seq (hc_region (r_move rfl rfl (r_move rfl rfl ?_)))))); refine r_bin _ rfl rfl rfl (fun _ => rfl) (fun _ => rfl) ?_; refine r_bin _ rfl rfl rfl (fun _ => rfl) (fun _ => rfl) ?_; refine r_assign rfl rfl (hl_nil (then_n (hc_ret ?_))); exact ret1 ((_, _), _) rfl rfl rfl ⟨⟨by simp only; omega, by simp only; omega, (wrapU _).1, (wrapU _).2⟩, wrapU _⟩ (.refl _) trivial
 ·have hb1' := hb1; try simp at hb1'
  refine hc_skip (then_n (hc_seq (hc_region (r_move rfl rfl (r_nilCheck rfl rfl ?_)))))
  first | refine r_fieldAddr ⟨_, 2, none⟩ rfl rfl T.fa_wayzgoosekit_Dice_2 rfl ?_ | refine r_fieldAddr _ rfl rfl T.fa_wayzgoosekit_Dice_2 rfl ?_
  first | refine r_load rfl T.cell_u64 rfl (cell_own mB rfl) ?_ | refine r_load rfl T.cell_u64 rfl (cell_blk mB rfl) ?_ | refine r_load rfl T.cell_u64 rfl (cell_row mB (rows_get0 (by omega) rfl)) ?_ | refine r_load rfl T.cell_u64 rfl (cell_row_f mB (rows_get (by omega) rfl)) ?_
  refine r_assign rfl rfl (hl_nil (then_n (hc_seq (hc_region (r_move rfl rfl (r_move rfl rfl ?_)))))); refine r_bin _ rfl rfl rfl (fun _ => rfl) (fun _ => rfl) ?_; refine r_bin _ rfl rfl rfl (fun _ => rfl) (fun _ => rfl) ?_; refine r_bin _ rfl rfl rfl (fun _ => rfl) (fun _ => rfl) ?_; refine r_assign rfl rfl (hl_nil (then_n (hc_seq (hc_region (r_move rfl rfl (r_move rfl rfl ?_)))))); refine r_bin _ rfl rfl rfl (fun _ => rfl) (fun _ => rfl) ?_; refine r_bin _ rfl rfl rfl (fun _ => rfl) (fun _ => rfl) ?_; refine r_assign rfl rfl (hl_nil (then_n (hc_ret ?_))); exact ret1 ((_, _), _) rfl rfl rfl ⟨⟨by simp only; omega, by simp only; omega, (wrapU _).1, (wrapU _).2⟩, wrapU _⟩ (.refl _) trivial
theorem mod_range {z n : Int} (hz : 0 ≤ z) (hn : 0 ≤ n) : 0 ≤ z.tmod (n + 1) ∧ z.tmod (n + 1) ≤ n := by
  have h1 := Int.tmod_nonneg (n + 1) hz; have h2 := Int.tmod_lt_of_pos z (show 0 < n + 1 by omega)
  omega
def ToInv (n z : Int) : Prop := 0 ≤ z ∧ (1 ≤ n → z ≤ n) ∧ (n < 1 → z = 0)
theorem kit_Dice_To_meets {g : Nat} {A : Option Addr} {c : Nat} {nums : List Int} {s : Int × Int} (n : Int) (hn : nums.length ≤ 9223372036854775807) (hs : DOK nums s) (hI : n ≤ 9223372036854775806) :
    Meets Try.prog F.kit_Dice_To [.pointer (some ⟨g, 0, none⟩), int n] (diceCon g A c nums s (ToInv n) (fun z => int z) (fun _ => [])) := by
 refine meets_intro F.kit_Dice_To_f rfl (Nat.le_of_ble_eq_true rfl) fun w0 => ?_; refine hc_seq (hc_region (r_assign rfl rfl (hl_nil (then_n (hc_seq (hc_seq (hc_region (r_move rfl rfl (r_lss rfl rfl rfl (hl_nil (then_n ?_)))))))))))
 first | refine c_dec rfl (fun hb1 => ?_) (fun hb1 => ?_) | refine hc_cond rfl (fun hb1 => ?_) (fun hb1 => ?_)
 ·have hb1' := hb1; try simp at hb1'
  refine hc_seq (hc_region (r_assign rfl rfl (hl_nil (then_n (hc_ret (then_ret ?_)))))); exact ret1 (s, 0) rfl rfl rfl ⟨hs, by omega, by intro; omega, by intro; rfl⟩ (.refl _) trivial
 ·have hb1' := hb1; try simp at hb1'
  refine hc_skip (then_n (hc_seq (hc_region (r_move rfl rfl ?_)))); refine hl_call F.kit_Dice_raw_cb rfl rfl (kit_Dice_raw_meets hn hs) (.refl _) ⟨m0, trivial⟩ fun x hx => ?_; obtain ⟨s1, z⟩ := x; obtain ⟨hs1, hz⟩ := hx; simp only at hz; refine r_bin _ rfl rfl rfl (fun _ => rfl) (fun _ => rfl) ?_; refine r_move rfl rfl ?_; refine r_add _ rfl rfl rfl rfl (by unfold I64; omega) ?_; refine r_conv (n + 1) rfl T.u_int T.u_u64 rfl (IntWalk.u64_in _ (by omega)) ?_; refine r_rem rfl rfl rfl (by omega) ?_; have hm := mod_range (z := z.fdiv (2 ^ min (Int.toNat 16) IntKind.u64.bits)) (n := n) (Int.fdiv_nonneg hz.1 (by decide)) (by omega); refine r_conv ((z.fdiv (2 ^ min (Int.toNat 16) IntKind.u64.bits)).tmod (n + 1)) rfl T.u_u64 T.u_int rfl (IntWalk.i64_in ((z.fdiv (2 ^ min (Int.toNat 16) IntKind.u64.bits)).tmod (n + 1)) (by omega)) ?_; refine r_assign rfl rfl (hl_nil (then_n (hc_ret ?_))); exact ret1 (s1, _) rfl rfl rfl ⟨hs1, hm.1, fun _ => hm.2, fun h => by omega⟩ (.refl _) trivial
theorem kit_Dice_Once_meets {g : Nat} {A : Option Addr} {c : Nat} {nums : List Int} {s : Int × Int} (n : Int) (hn : nums.length ≤ 9223372036854775807) (hs : DOK nums s) (hI : 0 ≤ n ∧ n ≤ 9223372036854775806) :
    Meets Try.prog F.kit_Dice_Once [.pointer (some ⟨g, 0, none⟩), int n] (diceCon g A c nums s (fun _ : Bool => True) (fun z => .bool z) (fun _ => [])) := by
 refine meets_intro F.kit_Dice_Once_f rfl (Nat.le_of_ble_eq_true rfl) fun w0 => ?_; refine hc_seq (hc_region (r_assign rfl rfl (hl_nil (then_n (hc_seq (hc_region (r_move rfl rfl (r_move rfl rfl ?_)))))))); refine r_sub _ rfl rfl rfl rfl (by unfold I64; omega) ?_; refine hl_call F.kit_Dice_To_cb rfl rfl (kit_Dice_To_meets (n - 1) hn hs (by omega)) (.refl _) ⟨m0, trivial⟩ fun x hx => ?_; obtain ⟨s1, z⟩ := x; obtain ⟨hs1, hz⟩ := hx; simp only [ToInv] at hz; refine r_eql rfl rfl rfl (r_assign rfl rfl (hl_nil (then_n (hc_ret ?_)))); exact ret1 (s1, _) rfl rfl rfl ⟨hs1, trivial⟩ (.refl _) trivial
theorem kit_Dice_Word_meets {g : Nat} {A B : Option Addr} {c cb : Nat} {nums : List Int} {s : Int × Int} (l : List Str) (hn : nums.length ≤ 9223372036854775807) (hs : DOK nums s) (hl : 0 < l.length) (hl2 : l.length ≤ 1000) :
    Meets Try.prog F.kit_Dice_Word [.pointer (some ⟨g, 0, none⟩), .slice B l.length cb] { diceCon g A c nums s (fun x : Str => x ∈ l) (fun z => str z) (fun _ => []) with LI := [Row A (rows nums), Row B (rows l)] } := by
 refine meets_intro F.kit_Dice_Word_f rfl (Nat.le_of_ble_eq_true rfl) fun w0 => ?_; refine hc_seq (hc_region (r_assign rfl rfl (hl_nil (then_n (hc_seq (hc_region (r_move rfl rfl (r_move rfl rfl (r_move rfl rfl ?_))))))))); refine r_len_sl rfl T.u_strs rfl ?_; refine r_sub _ rfl rfl rfl rfl (by unfold I64; omega) ?_; refine hl_call F.kit_Dice_To_cb rfl rfl (kit_Dice_To_meets ((l.length : Int) - 1) hn hs (by omega)) (.refl _) ⟨m0, trivial⟩ fun x hx => ?_; obtain ⟨s1, z⟩ := x; obtain ⟨hs1, hz⟩ := hx; simp only [ToInv] at hz; obtain ⟨zn, rfl⟩ := Int.eq_ofNat_of_zero_le hz.1
 have hzl : zn < l.length := by
   by_cases h1 : 1 ≤ (l.length : Int) - 1
   · have := hz.2.1 h1; omega
   · have := hz.2.2 (by omega); omega
 refine r_elem (α := Str) _ _ rfl T.u_strs T.sz_string rfl rfl rfl mB rfl (by omega) (by decide) ?_; refine r_load rfl T.cell_string rfl (cell_row mB (rows_get0 (by omega) rfl)) ?_; refine r_assign rfl rfl (hl_nil (then_n (hc_ret ?_))); exact ret1 (s1, l.getD zn default) rfl rfl rfl ⟨hs1, by simp [List.getD_eq_getElem?_getD, hzl]⟩ (.refl _) trivial
def lineWords : List Str := [[97], [98], [99], [97, 110, 32, 49], [98, 101, 110], [99, 121, 100, 32, 49, 50]]
def PageOK (l : List Str) : Prop := ∀ s ∈ l, s ∈ lineWords
theorem kit_LineOf_meets {g : Nat} {A : Option Addr} {c : Nat} {nums : List Int} {s : Int × Int} (hn : nums.length ≤ 9223372036854775807) (hs : DOK nums s) :
    Meets Try.prog F.kit_LineOf [.pointer (some ⟨g, 0, none⟩)] (diceCon g A c nums s (fun x : Str => x ∈ lineWords) (fun z => str z) (fun _ => [])) := by
 refine meets_intro F.kit_LineOf_f rfl (Nat.le_of_ble_eq_true rfl) fun w0 => ?_; refine hc_seq (hc_region (r_assign rfl rfl (hl_nil (then_n (hc_seq (hc_region (r_move rfl rfl ?_))))))); refine r_buildSlice _ rfl rfl (fun _ => T.bs_strs_6 ..) fun gS => ?_; refine hl_letgo (rows lineWords) (List.prefix_refl _) ?_; refine hl_call F.kit_Dice_Word_cb rfl rfl (kit_Dice_Word_meets lineWords hn hs (by decide) (by decide)) (.refl _) ⟨m1, m0, trivial⟩ fun x hx => ?_; obtain ⟨s1, z⟩ := x; obtain ⟨hs1, hz⟩ := hx; refine r_assign rfl rfl (hl_nil (then_n (hc_ret ?_))); exact ret1 (s1, z) rfl rfl rfl ⟨hs1, hz⟩ (.refl _) trivial
theorem kit_PageOf_meets {g : Nat} {A : Option Addr} {c : Nat} {nums : List Int} {s : Int × Int} (most : Int) (hn : nums.length ≤ 9223372036854775807) (hs : DOK nums s) (hI : most ≤ 100) :
    Meets Try.prog F.kit_PageOf [.pointer (some ⟨g, 0, none⟩), int most] (diceCon g A c nums s (fun x : List Str × OutC => x.1.length ≤ most.toNat ∧ PageOK x.1 ∧ x.1.length ≤ x.2.2) (fun x => .slice x.2.1 x.1.length x.2.2) (fun x => [Row x.2.1 (rows x.1)])) := by
 refine meets_intro F.kit_PageOf_f rfl (Nat.le_of_ble_eq_true rfl) fun w0 => ?_; refine hc_seq (hc_region (r_assign rfl rfl (hl_nil (then_n (hc_seq (hc_region (r_assign rfl rfl (hl_nil (then_n (hc_seq (hc_seq ?_))))))))))); refine hc_region (r_move rfl rfl (r_move rfl rfl ?_)); refine hl_call F.kit_Dice_To_cb rfl rfl (kit_Dice_To_meets (most) hn hs (by omega)) (.refl _) ⟨m0, trivial⟩ fun x hx => ?_; obtain ⟨s1, z⟩ := x; obtain ⟨hs1, hz⟩ := hx; simp only [ToInv] at hz; obtain ⟨zn, rfl⟩ := Int.eq_ofNat_of_zero_le hz.1
 have hzl : zn ≤ most.toNat := by
   by_cases h1 : 1 ≤ most
   · have := hz.2.1 h1; omega
   · have := hz.2.2 (by omega); omega
 refine r_assign rfl rfl (hl_nil (then_n (hc_block ?_)))
 refine hc_loop (β := List Str × OutC × Hp × Nat × (Int × Int)) ⟨fun ⟨l, o, og, i, s⟩ => Grow T.string 1 o.1 l.length o.2 (rows l) og ∧ l.length + i ≤ most.toNat ∧ PageOK l ∧ DOK nums s,
   fun ⟨l, o, og, i, s⟩ => [(0, .pointer (some ⟨g, 0, none⟩)), (5, .slice o.1 l.length o.2), (6, int i)], fun ⟨l, o, og, i, s⟩ => og ++ [dice g A c nums s], fun _ => [Row A (rows nums)]⟩
   (fun ⟨l, o, og, i, s⟩ => i) ([], (none, 0), [], zn, s1) ⟨Grow.nil _ _, by simp only [List.length_nil]; omega, by intro s h; simp at h, hs1⟩ ⟨rfl, rfl, rfl, trivial⟩ (.refl _) ⟨m0, trivial⟩ fun z hz => ?_
 obtain ⟨l, o, og, i, s⟩ := z; obtain ⟨hG, hli, hok, hs⟩ := hz; refine hc_seq (hc_seq (hc_region (r_move rfl rfl (r_gtr rfl rfl rfl (hl_nil (then_n ?_))))))
 first | refine c_dec rfl (fun hb1 => ?_) (fun hb1 => ?_) | refine hc_cond rfl (fun hb1 => ?_) (fun hb1 => ?_)
 ·have hb1' := hb1; try simp at hb1'
  refine hc_skip (then_n (hc_seq (hc_block (hc_region (r_move rfl rfl (r_move rfl rfl ?_)))))); refine hl_call F.kit_LineOf_cb rfl rfl (kit_LineOf_meets hn hs) (List.perm_append_comm) ⟨m0, trivial⟩ fun x hx => ?_; obtain ⟨s1, z⟩ := x; obtain ⟨hs1, hz⟩ := hx; refine r_buildSlice _ rfl rfl (fun _ => T.bs_strs_1 ..) fun gS => ?_; refine r_append (l.length + 1) (rows (l ++ [z])) T.el_strs rfl rfl rfl hG (List.perm_append_comm (l₁ := [_, _])) (Src.own (cs := #[str z]) (m := 1) (List.mem_append_right _ m0) rfl rfl) rfl (rows_append l [z]).symm (by unfold maxLen; omega) (by omega) fun A' c' og' hG' => ?_; refine r_assign rfl rfl (hl_nil (inb_n (then_n (hc_region (r_move rfl rfl ?_))))); refine r_sub ((i - 1 : Nat) : Int) rfl rfl rfl (by omega) (by unfold I64; omega) ?_; refine r_assign rfl rfl (hl_nil ?_); have e1 : (l ++ [z]).length = l.length + 1 := by simp
  refine again _ (l ++ [z], (A', c'), og', i - 1, s1) ?_ ?_ ?_ ?_ ?_
  · refine ⟨by rw [e1]; exact hG', by rw [e1]; omega, ?_, hs1⟩
    intro x hx
    rcases List.mem_append.1 hx with h | h
    · exact hok x h
    · simp at h; subst h; exact hz
  · show i - 1 < i
    omega
  · exact ⟨rfl, by rw [e1]; rfl, rfl, trivial⟩
  · exact (List.Sublist.refl og').append (.cons _ (.refl _))
  · exact ⟨m0, trivial⟩
 ·have hb1' := hb1; try simp at hb1'
  refine hc_exit (then_exit (then_exit (inb_hit (then_n (hc_seq (hc_region (r_move rfl rfl (r_assign rfl rfl (hl_nil (then_n (hc_ret ?_))))))))))); refine hq_grown hG ?_; exact ret1 (s, l, o) rfl rfl rfl ⟨hs, by simp only; omega, hok, hG.le⟩ (.refl _) ⟨m0, trivial⟩
end Go.Proofs.Ytpfbbggmcbhboaa
end
section
namespace Go.Proofs.Ytpfbbggmcbhboaa
open Go Go.W
set_option maxRecDepth 20000
attribute [local irreducible] HL HC HQ HB Row Rows2 Blk Facts
def lineBad (u : UInt8) : Bool := (decide ((u.toNat : Int) < 97) || decide (122 < (u.toNat : Int))) && (decide ((u.toNat : Int) < 48) || decide (57 < (u.toNat : Int))) && decide (¬ (u.toNat : Int) = 32)
def lineErr (s : Str) : Int := if s.length = 0 then 7 else if 10 < s.length then 10 else if s.any lineBad then 2 else if s.take 1 = [32] ∨ s.drop (s.length - 1) = [32] then 2 else 0
def firstErr {α : Type} (f : α → Int) : List α → Int
  | [] => 0
  | a :: l => if f a = 0 then firstErr f l else f a
def pageErr (p : List Str) : Int := if 6 < p.length then 6 else firstErr lineErr p
theorem firstErr_take {α : Type} {f : α → Int} {l : List α} {k : Nat} (hk : k < l.length) (h : firstErr f (l.take k) = 0) : firstErr f (l.take (k + 1)) = f l[k] := by
  induction l generalizing k with
  | nil => simp at hk
  | cons a l ih =>
    cases k with
    | zero => simp [firstErr]; intro h; exact h.symm
    | succ k =>
      simp only [List.take_succ_cons, firstErr] at h ⊢
      split at h
      · rename_i h0
        rw [if_pos h0]; exact ih (by simpa using hk) h
      · rename_i h0; exact absurd h h0
theorem firstErr_at {α : Type} {f : α → Int} {l : List α} {k : Nat} (hk : k < l.length) (h : firstErr f (l.take k) = 0) (h1 : ¬ f l[k] = 0) : firstErr f l = f l[k] := by
  induction l generalizing k with
  | nil => simp at hk
  | cons a l ih =>
    cases k with
    | zero => simp at h1; simp [firstErr, h1]
    | succ k =>
      simp only [List.take_succ_cons, firstErr] at h ⊢
      split at h
      · rename_i h0
        rw [if_pos h0]; exact ih (by simpa using hk) h (by simpa using h1)
      · rename_i h0; exact absurd h h0
theorem any_take {α : Type} {f : α → Bool} {l : List α} {k : Nat} (hk : k < l.length) (h : (l.take k).any f = false) (h1 : f l[k] = false) : (l.take (k + 1)).any f = false := by
  rw [List.take_succ_eq_append_getElem hk, List.any_append, h]; simp [h1]
theorem any_at {α : Type} {f : α → Bool} {l : List α} {k : Nat} (hk : k < l.length) (h1 : f l[k] = true) : l.any f = true := List.any_eq_true.2 ⟨_, List.getElem_mem hk, h1⟩
theorem getD_at {α : Type} [Inhabited α] {l : List α} {k : Nat} (hk : k < l.length) : l.getD k default = l[k] := by simp [List.getD_eq_getElem?_getD, hk]
theorem internal_stringslite_HasPrefix_meets (s p : Str) (hs : s.length ≤ 1000000) (hp : p.length ≤ 1000000) :
    Meets Try.prog F.internal_stringslite_HasPrefix [str s, str p] { val := fun _ : Unit => .bool (decide (p.length ≤ s.length ∧ s.take p.length = p)) } := by
 refine meets_intro F.internal_stringslite_HasPrefix_f rfl (Nat.le_of_ble_eq_true rfl) fun w0 => ?_; refine hc_seq (hc_region (r_assign rfl rfl (hl_nil (then_n (hc_seq (hc_region (r_move rfl rfl ?_))))))); refine r_len_str rfl T.u_string rfl ?_; refine r_move rfl rfl ?_; refine r_len_str rfl T.u_string rfl ?_; refine r_geq rfl rfl rfl (r_move rfl rfl ?_); refine g_split rfl rfl ?_ ?_
 ·intro hg1; have hg1' := hg1; try simp at hg1'
  have hle : p.length ≤ s.length := by simpa using hg1
  refine g_yes rfl rfl hg1 (r_move rfl rfl (g_yes rfl rfl hg1 (r_move rfl rfl (g_yes rfl rfl hg1 ?_)))); refine r_len_str rfl T.u_string rfl ?_; refine g_yes rfl rfl hg1 ?_; refine r_sslice_hi p.length rfl T.u_string rfl rfl rfl (by omega) ?_; refine g_yes rfl rfl hg1 (r_move rfl rfl (g_yes rfl rfl hg1 (r_seql rfl rfl rfl ?_))); refine p_t rfl rfl (bt1 hg1) rfl ?_; refine r_assign rfl rfl (hl_nil (then_n (hc_ret ?_))); exact ret1 () rfl (congrArg (fun b => some (Value.bool b)) (by simp [hle])) rfl trivial (.refl _) trivial
 ·intro hg1; have hg1' := hg1; try simp at hg1'
  have hle : ¬ p.length ≤ s.length := by simpa using hg1
  refine g_no rfl rfl rfl rfl rfl hg1 (g_no rfl rfl rfl rfl rfl hg1 (g_no rfl rfl rfl rfl rfl hg1 (g_no rfl rfl rfl rfl rfl hg1 (g_no rfl rfl rfl rfl rfl hg1 (g_no rfl rfl rfl rfl rfl hg1 ?_))))); refine p_f rfl rfl (bf2 hg1) rfl ?_; refine r_assign rfl rfl (hl_nil (then_n (hc_ret ?_))); exact ret1 () rfl (congrArg (fun b => some (Value.bool b)) (by simp [hle])) rfl trivial (.refl _) trivial
theorem strings_HasPrefix_meets (s p : Str) (hs : s.length ≤ 1000000) (hp : p.length ≤ 1000000) :
    Meets Try.prog F.strings_HasPrefix [str s, str p] { val := fun _ : Unit => .bool (decide (p.length ≤ s.length ∧ s.take p.length = p)) } := by
 refine meets_intro F.strings_HasPrefix_f rfl (Nat.le_of_ble_eq_true rfl) fun w0 => ?_; refine hc_seq (hc_region (r_assign rfl rfl (hl_nil (then_n (hc_seq (hc_region (r_move rfl rfl (r_move rfl rfl ?_)))))))); refine hl_call F.internal_stringslite_HasPrefix_cb rfl rfl (internal_stringslite_HasPrefix_meets s p hs hp) (.refl _) trivial fun _ _ => ?_; refine r_assign rfl rfl (hl_nil (then_n (hc_ret ?_))); exact ret1 () rfl rfl rfl trivial (.refl _) trivial
theorem internal_stringslite_HasSuffix_meets (s p : Str) (hs : s.length ≤ 1000000) (hp : p.length ≤ 1000000) :
    Meets Try.prog F.internal_stringslite_HasSuffix [str s, str p] { val := fun _ : Unit => .bool (decide (p.length ≤ s.length ∧ s.drop (s.length - p.length) = p)) } := by
 refine meets_intro F.internal_stringslite_HasSuffix_f rfl (Nat.le_of_ble_eq_true rfl) fun w0 => ?_; refine hc_seq (hc_region (r_assign rfl rfl (hl_nil (then_n (hc_seq (hc_region (r_move rfl rfl ?_))))))); refine r_len_str rfl T.u_string rfl ?_; refine r_move rfl rfl ?_; refine r_len_str rfl T.u_string rfl ?_; refine r_geq rfl rfl rfl (r_move rfl rfl ?_); refine g_split rfl rfl ?_ ?_
 ·intro hg1; have hg1' := hg1; try simp at hg1'
  have hle : p.length ≤ s.length := by simpa using hg1
  refine g_yes rfl rfl hg1 (r_move rfl rfl (g_yes rfl rfl hg1 (r_move rfl rfl (g_yes rfl rfl hg1 ?_)))); refine r_len_str rfl T.u_string rfl ?_; refine g_yes rfl rfl hg1 (r_move rfl rfl (g_yes rfl rfl hg1 ?_)); refine r_len_str rfl T.u_string rfl ?_; refine g_yes rfl rfl hg1 ?_; refine r_sub ((s.length - p.length : Nat) : Int) rfl rfl rfl (by omega) (by unfold I64; omega) ?_; refine g_yes rfl rfl hg1 ?_; refine r_sslice_lo (s.length - p.length) rfl T.u_string rfl rfl (by omega) (by omega) ?_; refine g_yes rfl rfl hg1 (r_move rfl rfl (g_yes rfl rfl hg1 (r_seql rfl rfl rfl ?_))); refine p_t rfl rfl (bt1 hg1) rfl ?_; refine r_assign rfl rfl (hl_nil (then_n (hc_ret ?_))); exact ret1 () rfl (congrArg (fun b => some (Value.bool b)) (by simp [hle])) rfl trivial (.refl _) trivial
 ·intro hg1; have hg1' := hg1; try simp at hg1'
  have hle : ¬ p.length ≤ s.length := by simpa using hg1
  refine g_no rfl rfl rfl rfl rfl hg1 (g_no rfl rfl rfl rfl rfl hg1 (g_no rfl rfl rfl rfl rfl hg1 (g_no rfl rfl rfl rfl rfl hg1 (g_no rfl rfl rfl rfl rfl hg1 (g_no rfl rfl rfl rfl rfl hg1 (g_no rfl rfl rfl rfl rfl hg1 (g_no rfl rfl rfl rfl rfl hg1 (g_no rfl rfl rfl rfl rfl hg1 ?_)))))))); refine p_f rfl rfl (bf2 hg1) rfl ?_; refine r_assign rfl rfl (hl_nil (then_n (hc_ret ?_))); exact ret1 () rfl (congrArg (fun b => some (Value.bool b)) (by simp [hle])) rfl trivial (.refl _) trivial
theorem strings_HasSuffix_meets (s p : Str) (hs : s.length ≤ 1000000) (hp : p.length ≤ 1000000) :
    Meets Try.prog F.strings_HasSuffix [str s, str p] { val := fun _ : Unit => .bool (decide (p.length ≤ s.length ∧ s.drop (s.length - p.length) = p)) } := by
 refine meets_intro F.strings_HasSuffix_f rfl (Nat.le_of_ble_eq_true rfl) fun w0 => ?_; refine hc_seq (hc_region (r_assign rfl rfl (hl_nil (then_n (hc_seq (hc_region (r_move rfl rfl (r_move rfl rfl ?_)))))))); refine hl_call F.internal_stringslite_HasSuffix_cb rfl rfl (internal_stringslite_HasSuffix_meets s p hs hp) (.refl _) trivial fun _ _ => ?_; refine r_assign rfl rfl (hl_nil (then_n (hc_ret ?_))); exact ret1 () rfl rfl rfl trivial (.refl _) trivial
theorem proof_lineError_meets (s : Str) :
    Meets Try.prog F.proof_lineError [str s] { val := fun _ : Unit => int (lineErr s) } := by
 refine meets_intro F.proof_lineError_f rfl (Nat.le_of_ble_eq_true rfl) fun w0 => ?_; refine hc_seq (hc_region (r_assign rfl rfl (hl_nil (then_n (hc_seq (hc_seq (hc_region (r_move rfl rfl ?_)))))))); refine r_len_str rfl T.u_string rfl ?_; refine r_eql rfl rfl rfl (hl_nil (then_n ?_))
 first | refine c_dec rfl (fun hb1 => ?_) (fun hb1 => ?_) | refine hc_cond rfl (fun hb1 => ?_) (fun hb1 => ?_)
 ·have hb1' := hb1; try simp at hb1'
  have hb1 : s.length = 0 := by omega
  refine hc_seq (hc_region (r_assign rfl rfl (hl_nil (then_n (hc_ret (then_ret ?_)))))); exact ret1 () rfl (congrArg (fun b => some (int b)) (by simp [lineErr, hb1])) rfl trivial (.refl _) trivial
 ·have hb1' := hb1; try simp at hb1'
  have hb1 : ¬ s.length = 0 := by omega
  refine hc_skip (then_n (hc_seq (hc_seq (hc_region (r_move rfl rfl ?_))))); refine r_len_str rfl T.u_string rfl ?_; refine r_gtr rfl rfl rfl (hl_nil (then_n ?_))
  first | refine c_dec rfl (fun hb2 => ?_) (fun hb2 => ?_) | refine hc_cond rfl (fun hb2 => ?_) (fun hb2 => ?_)
  ·have hb2' := hb2; try simp at hb2'
   have hb2 : 10 < s.length := by omega
   refine hc_seq (hc_region (r_assign rfl rfl (hl_nil (then_n (hc_ret (then_ret ?_)))))); exact ret1 () rfl (congrArg (fun b => some (int b)) (by simp [lineErr, hb1, hb2])) rfl trivial (.refl _) trivial
  ·have hb2' := hb2; try simp at hb2'
   have hb2 : ¬ 10 < s.length := by omega
   refine hc_skip (then_n (hc_seq (hc_seq (hc_region (r_move rfl rfl ?_))))); refine r_bytes rfl T.u_string T.u_L_uint8 T.u_u8 rfl fun gb cap => ?_; refine r_len_sl rfl T.u_L_uint8 rfl ?_; refine r_move rfl rfl (hl_nil (then_n (hc_block ?_))); refine hc_loop (β := Nat) ⟨fun k => k ≤ s.length ∧ (s.take k).any lineBad = false, fun k => [(0, str s), (12, .slice (some ⟨gb, 0, none⟩) s.length cap), (13, int s.length), (14, int k)], fun _ => [], fun _ => [Row (some ⟨gb, 0, none⟩) (rows s)]⟩ (fun k => s.length - k) 0 ⟨Nat.zero_le _, rfl⟩ ⟨rfl, rfl, rfl, rfl, trivial⟩ (.refl _) ⟨m0, trivial⟩ fun k hk => ?_; obtain ⟨hk, ht⟩ := hk; refine hc_seq (hc_region (r_lss rfl rfl rfl (hl_nil (then_n (hc_seq ?_)))))
   first | refine c_dec rfl (fun hb3 => ?_) (fun hb3 => ?_) | refine hc_cond rfl (fun hb3 => ?_) (fun hb3 => ?_)
   ·have hb3' := hb3; try simp at hb3'
    have hb3 : k < s.length := by omega
    refine hc_skip (then_n (hc_seq (hc_block (hc_seq (hc_region ?_))))); refine r_elem (α := UInt8) _ _ rfl T.u_L_uint8 T.sz_u8 rfl rfl rfl mB rfl (by omega) (by decide) ?_; refine r_load rfl T.cell_u8 rfl (cell_row m0 (rows_get0 hb3 (by rw [getD_at hb3]; rfl))) ?_; refine r_assign rfl rfl (hl_nil (then_n ?_)); refine hc_cut ⟨fun _ : Unit => True, fun _ => [(0, str s), (12, .slice (some ⟨gb, 0, none⟩) s.length cap), (13, int s.length), (14, int k), (35, .bool (lineBad s[k]))], fun _ => [], fun _ => [Row (some ⟨gb, 0, none⟩) (rows s)]⟩ ?_ ?_
    ·skip
     refine hc_region (r_move rfl rfl (r_lss rfl rfl rfl (r_move rfl rfl ?_))); refine g_split rfl rfl ?_ ?_
     ·intro hg1; have hg1' := hg1; try simp at hg1'
      refine g_yes rfl rfl hg1 (r_move rfl rfl (g_yes rfl rfl hg1 (r_gtr rfl rfl rfl ?_))); refine p_f rfl rfl (bf1 hg1) rfl ?_; refine r_move rfl rfl ?_; refine g_split rfl rfl ?_ ?_
      ·intro hg2; have hg2' := hg2; try simp at hg2'
       refine g_yes rfl rfl hg2 (r_move rfl rfl (g_yes rfl rfl hg2 (r_lss rfl rfl rfl (g_yes rfl rfl hg2 (r_move rfl rfl ?_))))); refine g_split rfl rfl ?_ ?_
       ·intro hg3; have hg3' := hg3; try simp at hg3'
        refine g_yes rfl rfl hg3 (r_move rfl rfl (g_yes rfl rfl hg3 (r_gtr rfl rfl rfl (g_yes rfl rfl hg2 ?_)))); refine p_f rfl rfl (bf1 hg3) rfl ?_; refine p_t rfl rfl (bt1 hg2) rfl ?_; refine r_move rfl rfl ?_; refine g_split rfl rfl ?_ ?_
        ·intro hg4; have hg4' := hg4; try simp at hg4'
         refine g_yes rfl rfl hg4 (r_move rfl rfl (g_yes rfl rfl hg4 (r_neq rfl rfl rfl ?_))); refine p_t rfl rfl (bt1 hg4) rfl ?_; refine hl_nil ?_; exact cut_n _ () trivial ⟨rfl, rfl, rfl, rfl, congrArg (fun b => some (Value.bool b)) (by simp only [lineBad]; simp [*, Int.not_le, Int.not_lt, Int.not_lt.2, Int.not_le.2]), trivial⟩ (.refl _) ⟨m0, trivial⟩
        ·intro hg4; have hg4' := hg4; try simp at hg4'
         refine g_no rfl rfl rfl rfl rfl hg4 (g_no rfl rfl rfl rfl rfl hg4 ?_); refine p_f rfl rfl (bf2 hg4) rfl ?_; refine hl_nil ?_; exact cut_n _ () trivial ⟨rfl, rfl, rfl, rfl, congrArg (fun b => some (Value.bool b)) (by simp only [lineBad]; simp [*, Int.not_le, Int.not_lt, Int.not_lt.2, Int.not_le.2]), trivial⟩ (.refl _) ⟨m0, trivial⟩
       ·intro hg3; have hg3' := hg3; try simp at hg3'
        refine g_no rfl rfl rfl rfl rfl hg3 (g_no rfl rfl rfl rfl rfl hg3 (g_yes rfl rfl hg2 ?_)); refine p_t rfl rfl (bt2 hg3) rfl ?_; refine p_t rfl rfl (bt1 hg2) rfl ?_; refine r_move rfl rfl (g_yes rfl rfl rfl (r_move rfl rfl (g_yes rfl rfl rfl (r_neq rfl rfl rfl (p_t rfl rfl rfl rfl (hl_nil ?_)))))); exact cut_n _ () trivial ⟨rfl, rfl, rfl, rfl, congrArg (fun b => some (Value.bool b)) (by simp only [lineBad]; simp [*, Int.not_le, Int.not_lt, Int.not_lt.2, Int.not_le.2]), trivial⟩ (.refl _) ⟨m0, trivial⟩
      ·intro hg2; have hg2' := hg2; try simp at hg2'
       refine g_no rfl rfl rfl rfl rfl hg2 (g_no rfl rfl rfl rfl rfl hg2 (g_no rfl rfl rfl rfl rfl hg2 (g_und rfl rfl rfl rfl rfl rfl (g_und rfl rfl rfl rfl rfl rfl (g_no rfl rfl rfl rfl rfl hg2 ?_))))); refine p_f rfl rfl (bf2 hg2) rfl ?_; refine r_move rfl rfl (g_no rfl rfl rfl rfl rfl rfl (g_no rfl rfl rfl rfl rfl rfl (p_f rfl rfl rfl rfl (hl_nil ?_)))); exact cut_n _ () trivial ⟨rfl, rfl, rfl, rfl, congrArg (fun b => some (Value.bool b)) (by simp only [lineBad]; simp [*, Int.not_le, Int.not_lt, Int.not_lt.2, Int.not_le.2]), trivial⟩ (.refl _) ⟨m0, trivial⟩
     ·intro hg1; have hg1' := hg1; try simp at hg1'
      refine g_no rfl rfl rfl rfl rfl hg1 (g_no rfl rfl rfl rfl rfl hg1 ?_); refine p_t rfl rfl (bt2 hg1) rfl ?_; refine r_move rfl rfl (g_yes rfl rfl rfl (r_move rfl rfl (g_yes rfl rfl rfl (r_lss rfl rfl rfl (g_yes rfl rfl rfl (r_move rfl rfl ?_)))))); refine g_split rfl rfl ?_ ?_
      ·intro hg5; have hg5' := hg5; try simp at hg5'
       refine g_yes rfl rfl hg5 (r_move rfl rfl (g_yes rfl rfl hg5 (r_gtr rfl rfl rfl (g_yes rfl rfl rfl ?_)))); refine p_f rfl rfl (bf1 hg5) rfl ?_; refine p_t rfl rfl rfl rfl (r_move rfl rfl ?_); refine g_split rfl rfl ?_ ?_
       ·intro hg6; have hg6' := hg6; try simp at hg6'
        refine g_yes rfl rfl hg6 (r_move rfl rfl (g_yes rfl rfl hg6 (r_neq rfl rfl rfl ?_))); refine p_t rfl rfl (bt1 hg6) rfl ?_; refine hl_nil ?_; exact cut_n _ () trivial ⟨rfl, rfl, rfl, rfl, congrArg (fun b => some (Value.bool b)) (by simp only [lineBad]; simp [*, Int.not_le, Int.not_lt, Int.not_lt.2, Int.not_le.2]), trivial⟩ (.refl _) ⟨m0, trivial⟩
       ·intro hg6; have hg6' := hg6; try simp at hg6'
        refine g_no rfl rfl rfl rfl rfl hg6 (g_no rfl rfl rfl rfl rfl hg6 ?_); refine p_f rfl rfl (bf2 hg6) rfl ?_; refine hl_nil ?_; exact cut_n _ () trivial ⟨rfl, rfl, rfl, rfl, congrArg (fun b => some (Value.bool b)) (by simp only [lineBad]; simp [*, Int.not_le, Int.not_lt, Int.not_lt.2, Int.not_le.2]), trivial⟩ (.refl _) ⟨m0, trivial⟩
      ·intro hg5; have hg5' := hg5; try simp at hg5'
       refine g_no rfl rfl rfl rfl rfl hg5 (g_no rfl rfl rfl rfl rfl hg5 (g_yes rfl rfl rfl ?_)); refine p_t rfl rfl (bt2 hg5) rfl ?_; refine p_t rfl rfl rfl rfl (r_move rfl rfl (g_yes rfl rfl rfl (r_move rfl rfl (g_yes rfl rfl rfl (r_neq rfl rfl rfl (p_t rfl rfl rfl rfl (hl_nil ?_))))))); exact cut_n _ () trivial ⟨rfl, rfl, rfl, rfl, congrArg (fun b => some (Value.bool b)) (by simp only [lineBad]; simp [*, Int.not_le, Int.not_lt, Int.not_lt.2, Int.not_le.2]), trivial⟩ (.refl _) ⟨m0, trivial⟩
    ·refine fun _ _ => ?_
     first | refine c_dec rfl (fun hb4 => ?_) (fun hb4 => ?_) | refine hc_cond rfl (fun hb4 => ?_) (fun hb4 => ?_)
     ·have hb4' := hb4; try simp at hb4'
      refine hc_seq (hc_region (r_assign rfl rfl (hl_nil (then_n (hc_ret (inb_ret (then_ret (then_ret (inb_ret (then_ret ?_)))))))))); exact ret1 () rfl (congrArg (fun b => some (int b)) (by simp [lineErr, hb1, hb2, any_at hb3 hb4])) rfl trivial (.refl _) trivial
     ·have hb4' := hb4; try simp at hb4'
      refine hc_skip (inb_n (then_n (hc_region ?_))); refine r_add _ rfl rfl rfl rfl (by unfold I64; omega) ?_; refine r_move rfl rfl (hl_nil ?_); exact again _ (k + 1) ⟨by omega, any_take hb3 ht hb4⟩ (by show s.length - (k + 1) < s.length - k; omega) ⟨rfl, rfl, rfl, rfl, trivial⟩ (.refl _) ⟨m0, trivial⟩
   ·have hb3' := hb3; try simp at hb3'
    have hb3 : k = s.length := by omega
    subst hb3; rw [List.take_length] at ht; refine hc_exit (then_exit (then_exit (inb_hit (then_n (hc_seq (hc_seq (hc_region (r_move rfl rfl ?_)))))))); refine hl_call F.strings_HasPrefix_cb rfl rfl (strings_HasPrefix_meets s [32] (by omega) (by decide)) (.refl _) trivial fun _ _ => ?_; refine r_move rfl rfl ?_; refine g_split rfl rfl ?_ ?_
    ·intro hg7; have hg7' := hg7; try simp at hg7'
     have hp1 := of_decide_eq_false (bf1 hg7); simp only [List.length_cons, List.length_nil] at hp1; have hp1 : ¬ s.take 1 = [32] := fun e => hp1 ⟨by omega, e⟩; refine g_yes rfl rfl hg7 (r_move rfl rfl (g_yes rfl rfl hg7 ?_)); refine hl_call F.strings_HasSuffix_cb rfl rfl (strings_HasSuffix_meets s [32] (by omega) (by decide)) (.refl _) trivial fun _ _ => ?_; refine p_f rfl rfl (bf1 hg7) rfl ?_; refine hl_nil (then_n ?_)
     first | refine c_dec rfl (fun hb5 => ?_) (fun hb5 => ?_) | refine hc_cond rfl (fun hb5 => ?_) (fun hb5 => ?_)
     ·have hb5' := hb5; try simp at hb5'
      have h5 := hb5; simp only [List.length_cons, List.length_nil] at h5; refine hc_seq (hc_region (r_assign rfl rfl (hl_nil (then_n (hc_ret (then_ret ?_)))))); exact ret1 () rfl (congrArg (fun b => some (int b)) (by simp [lineErr, hb1, hb2, ht, h5.2])) rfl trivial (.refl _) trivial
     ·have hb5' := hb5; try simp at hb5'
      have h5 := hb5; simp only [List.length_cons, List.length_nil] at h5; have h5 : ¬ s.drop (s.length - 1) = [32] := fun e => h5 ⟨by omega, e⟩; refine hc_skip (then_n (hc_seq (hc_region (r_assign rfl rfl (hl_nil (then_n (hc_ret ?_))))))); exact ret1 () rfl (congrArg (fun b => some (int b)) (by simp only [lineErr]; rw [if_neg hb1, if_neg hb2, ht, if_neg (by simp), if_neg (by simp [hp1, h5])])) rfl trivial (.refl _) trivial
    ·intro hg7; have hg7' := hg7; try simp at hg7'
     have hp1 := of_decide_eq_true (bt2 hg7); simp only [List.length_cons, List.length_nil] at hp1; refine g_no rfl rfl rfl rfl rfl hg7 (g_no rfl rfl rfl rfl rfl hg7 ?_); refine p_t rfl rfl (bt2 hg7) rfl ?_; refine hl_nil (then_n (c_t rfl rfl (hc_seq (hc_region (r_assign rfl rfl (hl_nil (then_n (hc_ret (then_ret ?_))))))))); exact ret1 () rfl (congrArg (fun b => some (int b)) (by simp [lineErr, hb1, hb2, ht, hp1.2])) rfl trivial (.refl _) trivial
theorem firstErr_takeD {α : Type} [Inhabited α] {f : α → Int} {l : List α} {k : Nat} (hk : k < l.length) (h : firstErr f (l.take k) = 0) : firstErr f (l.take (k + 1)) = f (l.getD k default) := by rw [firstErr_take hk h, getD_at hk]
theorem firstErr_atD {α : Type} [Inhabited α] {f : α → Int} {l : List α} {k : Nat} (hk : k < l.length) (h : firstErr f (l.take k) = 0) (h1 : ¬ f (l.getD k default) = 0) : firstErr f l = f (l.getD k default) := by
  rw [getD_at hk] at h1 ⊢; exact firstErr_at hk h h1
def textErr (m : Mk) : Int := if ¬ m.1 = 3 then lineErr m.2.2 else if ¬ m.2.2 = [] then 2 else 0
def mErr (n : Nat) (m : Mk) (k : Nat) (b : Mk) : Int :=
  if m.1 < 1 ∨ 3 < m.1 then 8 else if m.2.1 < 0 ∨ (n : Int) - 1 + (if m.1 = 1 then 1 else 0) < m.2.1 then 3 else if ¬ textErr m = 0 then textErr m else if k = 0 then 0 else
  if m.2.1 < b.2.1 then 5 else if b.2.1 < m.2.1 ∨ b.1 = 1 then 0 else if m.1 = 1 then 5 else 4
def markErr (n : Nat) (l : List Mk) (k : Nat) : Int := mErr n (l.getD k default) k (l.getD (k - 1) default)
def marksErr (n : Nat) (l : List Mk) : Int := if 12 < l.length then 6 else firstErr (markErr n l) (List.range l.length)
theorem marks_next {n : Nat} {l : List Mk} {k : Nat} (ht : firstErr (markErr n l) (List.range k) = 0) (h0 : mErr n (l.getD k default) k (l.getD (k - 1) default) = 0) : firstErr (markErr n l) (List.range (k + 1)) = 0 := by
  have h1 : (List.range (k + 1)).take k = List.range k := by rw [List.take_range]; simp
  have := firstErr_take (f := markErr n l) (l := List.range (k + 1)) (k := k) (by simp) (by rw [h1]; exact ht); rw [List.take_of_length_le (by simp)] at this; rw [this]
  simpa [markErr] using h0
theorem marks_at {n : Nat} {l : List Mk} {k : Nat} {e : Int} (h12 : ¬ 12 < l.length) (hk : k < l.length) (ht : firstErr (markErr n l) (List.range k) = 0) (h0 : mErr n (l.getD k default) k (l.getD (k - 1) default) = e) (he : ¬ e = 0) : marksErr n l = e := by
  have h1 : (List.range l.length).take k = List.range k := by rw [List.take_range, Nat.min_eq_left (Nat.le_of_lt hk)]
  have := firstErr_at (f := markErr n l) (l := List.range l.length) (k := k) (by simpa using hk) (by rw [h1]; exact ht) (by simp only [List.getElem_range]; unfold markErr; rw [h0]; exact he); rw [marksErr, if_neg h12, this]; simp only [List.getElem_range]; exact h0
theorem marks_all {n : Nat} {l : List Mk} {k : Nat} (h12 : ¬ 12 < l.length) (hk : k = l.length) (ht : firstErr (markErr n l) (List.range k) = 0) : marksErr n l = 0 := by
  subst hk; rw [marksErr, if_neg h12, ht]
def checkErr (p : List Str) (l : List Mk) : Int := if pageErr p = 0 then marksErr p.length l else pageErr p
theorem proof_Check_meets {A : Option Addr} {c : Nat} (p : List Str) :
    Meets Try.prog F.proof_Check [.slice A p.length c] { LI := [Row A (rows p)], val := fun _ : Unit => int (pageErr p) } := by
 refine meets_intro F.proof_Check_f rfl (Nat.le_of_ble_eq_true rfl) fun w0 => ?_; refine hc_seq (hc_region (r_assign rfl rfl (hl_nil (then_n (hc_seq (hc_seq (hc_region (r_move rfl rfl ?_)))))))); refine r_len_sl rfl T.u_strs rfl ?_; refine r_gtr rfl rfl rfl (hl_nil (then_n ?_))
 first | refine c_dec rfl (fun hb1 => ?_) (fun hb1 => ?_) | refine hc_cond rfl (fun hb1 => ?_) (fun hb1 => ?_)
 ·have hb1' := hb1; try simp at hb1'
  have hb1 : 6 < p.length := by omega
  refine hc_seq (hc_region (r_assign rfl rfl (hl_nil (then_n (hc_ret (then_ret ?_)))))); exact ret1 () rfl (congrArg (fun b => some (int b)) (by rw [pageErr, if_pos hb1])) rfl trivial (List.nil_sublist _) trivial
 ·have hb1' := hb1; try simp at hb1'
  have hb1 : ¬ 6 < p.length := by omega
  refine hc_skip (then_n (hc_seq (hc_seq (hc_region (r_move rfl rfl ?_))))); refine r_len_sl rfl T.u_strs rfl ?_; refine r_move rfl rfl (hl_nil (then_n (hc_block ?_))); refine hc_loop (β := Nat) ⟨fun k => k ≤ p.length ∧ firstErr lineErr (p.take k) = 0, fun k => [(9, .slice A p.length c), (10, int p.length), (11, int k)], fun _ => [], fun _ => [Row A (rows p)]⟩ (fun k => p.length - k) 0 ⟨Nat.zero_le _, rfl⟩ ⟨rfl, rfl, rfl, trivial⟩ (.refl _) ⟨m0, trivial⟩ fun k hk => ?_; obtain ⟨hk, ht⟩ := hk; refine hc_seq (hc_region (r_lss rfl rfl rfl (hl_nil (then_n (hc_seq ?_)))))
  first | refine c_dec rfl (fun hb2 => ?_) (fun hb2 => ?_) | refine hc_cond rfl (fun hb2 => ?_) (fun hb2 => ?_)
  ·have hb2' := hb2; try simp at hb2'
   have hb2 : k < p.length := by omega
   refine hc_skip (then_n (hc_seq (hc_block (hc_seq (hc_region ?_))))); refine r_elem (α := Str) _ _ rfl T.u_strs T.sz_string rfl rfl rfl mB rfl (by omega) (by decide) ?_; refine r_load rfl T.cell_string rfl (cell_row mB (rows_get0 (by omega) rfl)) ?_; refine r_assign rfl rfl (hl_nil (then_n (hc_seq (hc_region (r_move rfl rfl ?_))))); refine hl_call F.proof_lineError_cb rfl rfl (proof_lineError_meets (p.getD k default)) (.refl _) trivial fun _ _ => ?_; refine r_assign rfl rfl (hl_nil (then_n (hc_seq (hc_region (r_move rfl rfl (r_neq rfl rfl rfl (hl_nil (then_n ?_))))))))
   first | refine c_dec rfl (fun hb3 => ?_) (fun hb3 => ?_) | refine hc_cond rfl (fun hb3 => ?_) (fun hb3 => ?_)
   ·have hb3' := hb3; try simp at hb3'
    refine hc_seq (hc_region (r_move rfl rfl (r_assign rfl rfl (hl_nil (then_n (hc_ret (inb_ret (then_ret (then_ret (inb_ret (then_ret ?_))))))))))); exact ret1 () rfl (congrArg (fun b => some (int b)) (by rw [pageErr, if_neg hb1, firstErr_atD hb2 ht hb3])) rfl trivial (List.nil_sublist _) trivial
   ·have hb3' := hb3; try simp at hb3'
    refine hc_skip (inb_n (then_n (hc_region ?_))); refine r_add _ rfl rfl rfl rfl (by unfold I64; omega) ?_; refine r_move rfl rfl (hl_nil ?_); exact again _ (k + 1) ⟨by omega, by rw [firstErr_takeD hb2 ht]; omega⟩ (by show p.length - (k + 1) < p.length - k; omega) ⟨rfl, rfl, rfl, trivial⟩ (.refl _) ⟨m0, trivial⟩
  ·have hb2' := hb2; try simp at hb2'
   have hb2 : k = p.length := by omega
   subst hb2; rw [List.take_length] at ht; refine hc_exit (then_exit (then_exit (inb_hit (then_n (hc_seq (hc_region (r_assign rfl rfl (hl_nil (then_n (hc_ret ?_)))))))))); exact ret1 () rfl (congrArg (fun b => some (int b)) (by rw [pageErr, if_neg hb1, ht])) rfl trivial (List.nil_sublist _) trivial
theorem proof_textError_meets (m : Mk) : Meets Try.prog F.proof_textError [.agg #[int m.1, int m.2.1, str m.2.2]] { val := fun _ : Unit => int (textErr m) } := by
 refine meets_intro F.proof_textError_f rfl (Nat.le_of_ble_eq_true rfl) fun w0 => ?_; refine hc_seq (hc_region ?_); refine r_box rfl rfl fun gB => ?_; refine r_assign rfl rfl (hl_nil (then_n (hc_seq (hc_seq (hc_region ?_)))))
 first | refine r_fieldAddr ⟨_, 0, none⟩ rfl rfl T.fa_api_Mark_0 rfl ?_ | refine r_fieldAddr _ rfl rfl T.fa_api_Mark_0 rfl ?_
 first | refine r_load rfl T.cell_int rfl (cell_own mB rfl) ?_ | refine r_load rfl T.cell_int rfl (cell_blk mB rfl) ?_ | refine r_load rfl T.cell_int rfl (cell_row mB (rows_get0 (by omega) rfl)) ?_ | refine r_load rfl T.cell_int rfl (cell_row_f mB (rows_get (by omega) rfl)) ?_
 refine r_neq rfl rfl rfl (hl_nil (then_n ?_))
 first | refine c_dec rfl (fun hb1 => ?_) (fun hb1 => ?_) | refine hc_cond rfl (fun hb1 => ?_) (fun hb1 => ?_)
 ·have hb1' := hb1; try simp at hb1'
  refine hc_seq (hc_region ?_)
  first | refine r_fieldAddr ⟨_, 2, none⟩ rfl rfl T.fa_api_Mark_2 rfl ?_ | refine r_fieldAddr _ rfl rfl T.fa_api_Mark_2 rfl ?_
  first | refine r_load rfl T.cell_string rfl (cell_own mB rfl) ?_ | refine r_load rfl T.cell_string rfl (cell_blk mB rfl) ?_ | refine r_load rfl T.cell_string rfl (cell_row mB (rows_get0 (by omega) rfl)) ?_ | refine r_load rfl T.cell_string rfl (cell_row_f mB (rows_get (by omega) rfl)) ?_
  refine hl_call F.proof_lineError_cb rfl rfl (proof_lineError_meets m.2.2) (List.Perm.refl _) trivial fun _ _ => ?_; refine r_assign rfl rfl (hl_nil (then_n (hc_ret (then_ret ?_)))); exact ret1 () rfl (congrArg (fun b => some (int b)) (by rw [textErr, if_pos hb1])) rfl trivial (List.nil_sublist _) trivial
 ·have hb1' := hb1; try simp at hb1'
  refine hc_skip (then_n (hc_seq (hc_seq (hc_region ?_))))
  first | refine r_fieldAddr ⟨_, 2, none⟩ rfl rfl T.fa_api_Mark_2 rfl ?_ | refine r_fieldAddr _ rfl rfl T.fa_api_Mark_2 rfl ?_
  first | refine r_load rfl T.cell_string rfl (cell_own mB rfl) ?_ | refine r_load rfl T.cell_string rfl (cell_blk mB rfl) ?_ | refine r_load rfl T.cell_string rfl (cell_row mB (rows_get0 (by omega) rfl)) ?_ | refine r_load rfl T.cell_string rfl (cell_row_f mB (rows_get (by omega) rfl)) ?_
  refine r_sneq rfl rfl rfl (hl_nil (then_n ?_))
  first | refine c_dec rfl (fun hb2 => ?_) (fun hb2 => ?_) | refine hc_cond rfl (fun hb2 => ?_) (fun hb2 => ?_)
  ·have hb2' := hb2; try simp at hb2'
   refine hc_seq (hc_region (r_assign rfl rfl (hl_nil (then_n (hc_ret (then_ret ?_)))))); exact ret1 () rfl (congrArg (fun b => some (int b)) (by rw [textErr, if_neg hb1, if_pos hb2])) rfl trivial (List.nil_sublist _) trivial
  ·have hb2' := hb2; try simp at hb2'
   refine hc_skip (then_n (hc_seq (hc_region (r_assign rfl rfl (hl_nil (then_n (hc_ret ?_))))))); exact ret1 () rfl (congrArg (fun b => some (int b)) (by rw [textErr, if_neg hb1, if_neg hb2])) rfl trivial (List.nil_sublist _) trivial
theorem proof_marksError_meets {A B : Option Addr} {n ca cb : Nat} (l : List Mk) (hn : n ≤ 1000000) :
    Meets Try.prog F.proof_marksError [.slice A n ca, .slice B l.length cb] { LI := [Row B (rows l)], val := fun _ : Unit => int (marksErr n l) } := by
 refine meets_intro F.proof_marksError_f rfl (Nat.le_of_ble_eq_true rfl) fun w0 => ?_; refine hc_seq (hc_region (r_assign rfl rfl (hl_nil (then_n (hc_seq (hc_seq (hc_region (r_move rfl rfl ?_)))))))); refine r_len_sl rfl T.u_L_api_Mark rfl ?_; refine r_gtr rfl rfl rfl (hl_nil (then_n ?_))
 first | refine c_dec rfl (fun hb1 => ?_) (fun hb1 => ?_) | refine hc_cond rfl (fun hb1 => ?_) (fun hb1 => ?_)
 ·have hb1' := hb1; try simp at hb1'
  have h12 : 12 < l.length := by omega
  refine hc_seq (hc_region (r_assign rfl rfl (hl_nil (then_n (hc_ret (then_ret ?_)))))); exact ret1 () rfl (congrArg (fun b => some (int b)) (by rw [marksErr, if_pos h12])) rfl trivial (List.nil_sublist _) trivial
 ·have hb1' := hb1; try simp at hb1'
  have h12 : ¬ 12 < l.length := by omega
  refine hc_skip (then_n (hc_seq (hc_seq (hc_region (r_move rfl rfl ?_))))); refine r_len_sl rfl T.u_L_api_Mark rfl ?_; refine r_move rfl rfl (hl_nil (then_n (hc_block ?_))); refine hc_loop (β := Nat) ⟨fun k => k ≤ l.length ∧ firstErr (markErr n l) (List.range k) = 0, fun k => [(0, .slice A n ca), (1, .slice B l.length cb), (13, .slice B l.length cb), (14, int l.length), (15, int k)], fun _ => [], fun _ => [Row B (rows l)]⟩ (fun k => l.length - k) 0 ⟨Nat.zero_le _, rfl⟩ ⟨rfl, rfl, rfl, rfl, rfl, trivial⟩ (.refl _) ⟨m0, trivial⟩ fun k hk => ?_; obtain ⟨hk, ht⟩ := hk; refine hc_seq (hc_region (r_lss rfl rfl rfl (hl_nil (then_n (hc_seq ?_)))))
  first | refine c_dec rfl (fun hb2 => ?_) (fun hb2 => ?_) | refine hc_cond rfl (fun hb2 => ?_) (fun hb2 => ?_)
  ·have hb2' := hb2; try simp at hb2'
   have hk2 : k < l.length := by omega
   refine hc_skip (then_n (hc_seq (hc_block (hc_seq (hc_region (r_move rfl rfl ?_)))))); refine r_elem (α := Mk) _ _ rfl T.u_L_api_Mark T.sz_api_Mark rfl rfl rfl mB rfl (by omega) (by decide) ?_; refine r_loadS rfl T.row_api_Mark T.sz_api_Mark rfl rfl (cells_row mB (rows_all (by omega))) ?_; refine r_alloc rfl (fun _ => T.al_api_Mark _) fun gA => ?_; refine r_assign rfl rfl ?_; refine r_storeS rfl rfl (by first | exact .refl _ | exact perm2 _ _ _ | exact perm3 _ _ _ _ | exact perm4 _ _ _ _ _) T.sz_api_Mark (by rfl) (by rfl) ?_; refine hl_nil (then_n (hc_seq (hc_seq ?_))); generalize hm : l.getD k default = m; refine hc_region ?_
   first | refine r_fieldAddr ⟨_, 0, none⟩ rfl rfl T.fa_api_Mark_0 rfl ?_ | refine r_fieldAddr _ rfl rfl T.fa_api_Mark_0 rfl ?_
   first | refine r_load rfl T.cell_int rfl (cell_own mB rfl) ?_ | refine r_load rfl T.cell_int rfl (cell_blk mB rfl) ?_ | refine r_load rfl T.cell_int rfl (cell_row mB (rows_get0 (by omega) rfl)) ?_ | refine r_load rfl T.cell_int rfl (cell_row_f mB (rows_get (by omega) rfl)) ?_
   refine r_lss rfl rfl rfl (r_move rfl rfl ?_); refine g_split rfl rfl ?_ ?_
   ·intro hg1; have hg1' := hg1; try simp at hg1'
    refine g_yes rfl rfl hg1 ?_
    first | refine r_fieldAddr ⟨_, 0, none⟩ rfl rfl T.fa_api_Mark_0 rfl ?_ | refine r_fieldAddr _ rfl rfl T.fa_api_Mark_0 rfl ?_
    refine g_yes rfl rfl hg1 ?_
    first | refine r_load rfl T.cell_int rfl (cell_own mB rfl) ?_ | refine r_load rfl T.cell_int rfl (cell_blk mB rfl) ?_ | refine r_load rfl T.cell_int rfl (cell_row mB (rows_get0 (by omega) rfl)) ?_ | refine r_load rfl T.cell_int rfl (cell_row_f mB (rows_get (by omega) rfl)) ?_
    refine g_yes rfl rfl hg1 (r_gtr rfl rfl rfl ?_); refine p_f rfl rfl (bf1 hg1) rfl ?_; refine hl_nil (then_n ?_)
    first | refine c_dec rfl (fun hb3 => ?_) (fun hb3 => ?_) | refine hc_cond rfl (fun hb3 => ?_) (fun hb3 => ?_)
    ·have hb3' := hb3; try simp at hb3'
     refine hc_seq (hc_region (r_assign rfl rfl (hl_nil (then_n (hc_ret (then_ret (inb_ret (then_ret (then_ret (inb_ret (then_ret ?_))))))))))); exact ret1 () rfl (congrArg (fun b => some (int b)) (by refine (marks_at h12 hk2 ht (e := 8) (by first | (exfalso; omega) | (rw [hm]; (try rw [hm2]); unfold mErr; (repeat (first | rw [if_pos (by omega)] | rw [if_neg (by omega)])); done)) (by omega)).symm)) rfl trivial (List.nil_sublist _) trivial
    ·have hb3' := hb3; try simp at hb3'
     refine hc_skip (then_n (hc_seq (hc_region (r_move rfl rfl ?_)))); refine r_len_sl rfl T.u_strs rfl ?_; refine r_sub _ rfl rfl rfl rfl (by unfold I64; omega) ?_; refine r_assign rfl rfl (hl_nil (then_n (hc_seq (hc_seq (hc_region ?_)))))
     first | refine r_fieldAddr ⟨_, 0, none⟩ rfl rfl T.fa_api_Mark_0 rfl ?_ | refine r_fieldAddr _ rfl rfl T.fa_api_Mark_0 rfl ?_
     first | refine r_load rfl T.cell_int rfl (cell_own mB rfl) ?_ | refine r_load rfl T.cell_int rfl (cell_blk mB rfl) ?_ | refine r_load rfl T.cell_int rfl (cell_row mB (rows_get0 (by omega) rfl)) ?_ | refine r_load rfl T.cell_int rfl (cell_row_f mB (rows_get (by omega) rfl)) ?_
     refine r_eql rfl rfl rfl (hl_nil (then_n ?_))
     first | refine c_dec rfl (fun hb4 => ?_) (fun hb4 => ?_) | refine hc_cond rfl (fun hb4 => ?_) (fun hb4 => ?_)
     ·have hb4' := hb4; try simp at hb4'
      refine hc_region (r_move rfl rfl ?_); refine r_add _ rfl rfl rfl rfl (by unfold I64; omega) ?_; refine r_assign rfl rfl (hl_nil (then_n (hc_seq (hc_seq (hc_region ?_)))))
      first | refine r_fieldAddr ⟨_, 1, none⟩ rfl rfl T.fa_api_Mark_1 rfl ?_ | refine r_fieldAddr _ rfl rfl T.fa_api_Mark_1 rfl ?_
      first | refine r_load rfl T.cell_int rfl (cell_own mB rfl) ?_ | refine r_load rfl T.cell_int rfl (cell_blk mB rfl) ?_ | refine r_load rfl T.cell_int rfl (cell_row mB (rows_get0 (by omega) rfl)) ?_ | refine r_load rfl T.cell_int rfl (cell_row_f mB (rows_get (by omega) rfl)) ?_
      refine r_lss rfl rfl rfl (r_move rfl rfl ?_); refine g_split rfl rfl ?_ ?_
      ·intro hg2; have hg2' := hg2; try simp at hg2'
       refine g_yes rfl rfl hg2 ?_
       first | refine r_fieldAddr ⟨_, 1, none⟩ rfl rfl T.fa_api_Mark_1 rfl ?_ | refine r_fieldAddr _ rfl rfl T.fa_api_Mark_1 rfl ?_
       refine g_yes rfl rfl hg2 ?_
       first | refine r_load rfl T.cell_int rfl (cell_own mB rfl) ?_ | refine r_load rfl T.cell_int rfl (cell_blk mB rfl) ?_ | refine r_load rfl T.cell_int rfl (cell_row mB (rows_get0 (by omega) rfl)) ?_ | refine r_load rfl T.cell_int rfl (cell_row_f mB (rows_get (by omega) rfl)) ?_
       refine g_yes rfl rfl hg2 (r_move rfl rfl (g_yes rfl rfl hg2 (r_gtr rfl rfl rfl ?_))); refine p_f rfl rfl (bf1 hg2) rfl ?_; refine hl_nil (then_n ?_)
       first | refine c_dec rfl (fun hb5 => ?_) (fun hb5 => ?_) | refine hc_cond rfl (fun hb5 => ?_) (fun hb5 => ?_)
       ·have hb5' := hb5; try simp at hb5'
        refine hc_seq (hc_region (r_assign rfl rfl (hl_nil (then_n (hc_ret (then_ret (inb_ret (then_ret (then_ret (inb_ret (then_ret ?_))))))))))); exact ret1 () rfl (congrArg (fun b => some (int b)) (by refine (marks_at h12 hk2 ht (e := 3) (by first | (exfalso; omega) | (rw [hm]; (try rw [hm2]); unfold mErr; (repeat (first | rw [if_pos (by omega)] | rw [if_neg (by omega)])); done)) (by omega)).symm)) rfl trivial (List.nil_sublist _) trivial
       ·have hb5' := hb5; try simp at hb5'
        refine hc_skip (then_n (hc_seq (hc_seq (hc_region ?_))))
        first | refine r_loadA rfl T.row_api_Mark T.sz_api_Mark rfl mB (by rfl) ?_ | refine r_loadB rfl T.row_api_Mark T.sz_api_Mark rfl mB (by rfl) ?_ | refine r_loadS rfl T.row_api_Mark T.sz_api_Mark rfl rfl (cells_row mB (rows_all (by omega))) ?_
        refine hl_call F.proof_textError_cb rfl rfl (proof_textError_meets m) (List.Perm.refl _) trivial fun _ _ => ?_; refine r_assign rfl rfl (hl_nil (then_n (hc_seq (hc_region (r_move rfl rfl (r_neq rfl rfl rfl (hl_nil (then_n ?_))))))))
        first | refine c_dec rfl (fun hb6 => ?_) (fun hb6 => ?_) | refine hc_cond rfl (fun hb6 => ?_) (fun hb6 => ?_)
        ·have hb6' := hb6; try simp at hb6'
         refine hc_seq (hc_region (r_move rfl rfl (r_assign rfl rfl (hl_nil (then_n (hc_ret (then_ret (inb_ret (then_ret (then_ret (inb_ret ?_))))))))))); refine then_ret ?_; exact ret1 () rfl (congrArg (fun b => some (int b)) (by refine (marks_at h12 hk2 ht (e := textErr m) (by first | (exfalso; omega) | (rw [hm]; (try rw [hm2]); unfold mErr; (repeat (first | rw [if_pos (by omega)] | rw [if_neg (by omega)])); done)) (by omega)).symm)) rfl trivial (List.nil_sublist _) trivial
        ·have hb6' := hb6; try simp at hb6'
         refine hc_skip (then_n (hc_seq (hc_seq (hc_region (r_move rfl rfl (r_eql rfl rfl rfl (hl_nil (then_n ?_))))))))
         first | refine c_dec rfl (fun hb7 => ?_) (fun hb7 => ?_) | refine hc_cond rfl (fun hb7 => ?_) (fun hb7 => ?_)
         ·have hb7' := hb7; try simp at hb7'
          refine hc_exit (then_exit (inb_hit (then_n (hc_region ?_)))); refine r_add _ rfl rfl rfl rfl (by unfold I64; omega) ?_; refine r_move rfl rfl (hl_nil ?_); exact again _ (k + 1) ⟨by omega, marks_next ht (by first | (exfalso; omega) | (rw [hm]; (try rw [hm2]); unfold mErr; (repeat (first | rw [if_pos (by omega)] | rw [if_neg (by omega)])); done))⟩ (by show l.length - (k + 1) < l.length - k; omega) ⟨rfl, rfl, rfl, rfl, rfl, trivial⟩ (List.nil_sublist _) ⟨m0, trivial⟩
         ·have hb7' := hb7; try simp at hb7'
          refine hc_skip (then_n (hc_seq (hc_region (r_move rfl rfl (r_move rfl rfl ?_))))); refine r_sub ((k - 1 : Nat) : Int) rfl rfl rfl (by omega) (by unfold I64; omega) ?_; refine r_elem (α := Mk) _ _ rfl T.u_L_api_Mark T.sz_api_Mark rfl rfl rfl mB rfl (by omega) (by decide) ?_; refine r_loadS rfl T.row_api_Mark T.sz_api_Mark rfl rfl (cells_row mB (rows_all (by omega))) ?_; refine r_alloc rfl (fun _ => T.al_api_Mark _) fun gA => ?_; refine r_storeS rfl rfl (by first | exact .refl _ | exact perm2 _ _ _ | exact perm3 _ _ _ _ | exact perm4 _ _ _ _ _) T.sz_api_Mark (by rfl) (by rfl) ?_; refine hl_nil (then_n (hc_block (hc_seq ?_))); generalize hm2 : l.getD (k - 1) default = m2; refine hc_region ?_
          first | refine r_fieldAddr ⟨_, 1, none⟩ rfl rfl T.fa_api_Mark_1 rfl ?_ | refine r_fieldAddr _ rfl rfl T.fa_api_Mark_1 rfl ?_
          first | refine r_load rfl T.cell_int rfl (cell_own mB rfl) ?_ | refine r_load rfl T.cell_int rfl (cell_blk mB rfl) ?_ | refine r_load rfl T.cell_int rfl (cell_row mB (rows_get0 (by omega) rfl)) ?_ | refine r_load rfl T.cell_int rfl (cell_row_f mB (rows_get (by omega) rfl)) ?_
          first | refine r_fieldAddr ⟨_, 1, none⟩ rfl rfl T.fa_api_Mark_1 rfl ?_ | refine r_fieldAddr _ rfl rfl T.fa_api_Mark_1 rfl ?_
          first | refine r_load rfl T.cell_int rfl (cell_own mB rfl) ?_ | refine r_load rfl T.cell_int rfl (cell_blk mB rfl) ?_ | refine r_load rfl T.cell_int rfl (cell_row mB (rows_get0 (by omega) rfl)) ?_ | refine r_load rfl T.cell_int rfl (cell_row_f mB (rows_get (by omega) rfl)) ?_
          refine r_lss rfl rfl rfl (r_assign rfl rfl (hl_nil (then_n ?_)))
          first | refine c_dec rfl (fun hb8 => ?_) (fun hb8 => ?_) | refine hc_cond rfl (fun hb8 => ?_) (fun hb8 => ?_)
          ·have hb8' := hb8; try simp at hb8'
           refine hc_seq (hc_region (r_assign rfl rfl (hl_nil (then_n (hc_ret (inb_ret (inb_ret (then_ret (then_ret (inb_ret (then_ret ?_))))))))))); exact ret1 () rfl (congrArg (fun b => some (int b)) (by refine (marks_at h12 hk2 ht (e := 5) (by first | (exfalso; omega) | (rw [hm]; (try rw [hm2]); unfold mErr; (repeat (first | rw [if_pos (by omega)] | rw [if_neg (by omega)])); done)) (by omega)).symm)) rfl trivial (List.nil_sublist _) trivial
          ·have hb8' := hb8; try simp at hb8'
           refine hc_seq (hc_region ?_)
           first | refine r_fieldAddr ⟨_, 1, none⟩ rfl rfl T.fa_api_Mark_1 rfl ?_ | refine r_fieldAddr _ rfl rfl T.fa_api_Mark_1 rfl ?_
           first | refine r_load rfl T.cell_int rfl (cell_own mB rfl) ?_ | refine r_load rfl T.cell_int rfl (cell_blk mB rfl) ?_ | refine r_load rfl T.cell_int rfl (cell_row mB (rows_get0 (by omega) rfl)) ?_ | refine r_load rfl T.cell_int rfl (cell_row_f mB (rows_get (by omega) rfl)) ?_
           first | refine r_fieldAddr ⟨_, 1, none⟩ rfl rfl T.fa_api_Mark_1 rfl ?_ | refine r_fieldAddr _ rfl rfl T.fa_api_Mark_1 rfl ?_
           first | refine r_load rfl T.cell_int rfl (cell_own mB rfl) ?_ | refine r_load rfl T.cell_int rfl (cell_blk mB rfl) ?_ | refine r_load rfl T.cell_int rfl (cell_row mB (rows_get0 (by omega) rfl)) ?_ | refine r_load rfl T.cell_int rfl (cell_row_f mB (rows_get (by omega) rfl)) ?_
           refine r_gtr rfl rfl rfl (r_move rfl rfl ?_); refine g_split rfl rfl ?_ ?_
           ·intro hg3; have hg3' := hg3; try simp at hg3'
            refine g_yes rfl rfl hg3 ?_
            first | refine r_fieldAddr ⟨_, 0, none⟩ rfl rfl T.fa_api_Mark_0 rfl ?_ | refine r_fieldAddr _ rfl rfl T.fa_api_Mark_0 rfl ?_
            refine g_yes rfl rfl hg3 ?_
            first | refine r_load rfl T.cell_int rfl (cell_own mB rfl) ?_ | refine r_load rfl T.cell_int rfl (cell_blk mB rfl) ?_ | refine r_load rfl T.cell_int rfl (cell_row mB (rows_get0 (by omega) rfl)) ?_ | refine r_load rfl T.cell_int rfl (cell_row_f mB (rows_get (by omega) rfl)) ?_
            refine g_yes rfl rfl hg3 (r_eql rfl rfl rfl ?_); refine p_f rfl rfl (bf1 hg3) rfl ?_; refine r_assign rfl rfl (hl_nil (then_n ?_))
            first | refine c_dec rfl (fun hb9 => ?_) (fun hb9 => ?_) | refine hc_cond rfl (fun hb9 => ?_) (fun hb9 => ?_)
            ·have hb9' := hb9; try simp at hb9'
             refine hc_skip (inb_n (inb_n (then_n (hc_region ?_)))); refine r_add _ rfl rfl rfl rfl (by unfold I64; omega) ?_; refine r_move rfl rfl (hl_nil ?_); exact again _ (k + 1) ⟨by omega, marks_next ht (by first | (exfalso; omega) | (rw [hm]; (try rw [hm2]); unfold mErr; (repeat (first | rw [if_pos (by omega)] | rw [if_neg (by omega)])); done))⟩ (by show l.length - (k + 1) < l.length - k; omega) ⟨rfl, rfl, rfl, rfl, rfl, trivial⟩ (List.nil_sublist _) ⟨m0, trivial⟩
            ·have hb9' := hb9; try simp at hb9'
             refine hc_seq (hc_region ?_)
             first | refine r_fieldAddr ⟨_, 0, none⟩ rfl rfl T.fa_api_Mark_0 rfl ?_ | refine r_fieldAddr _ rfl rfl T.fa_api_Mark_0 rfl ?_
             first | refine r_load rfl T.cell_int rfl (cell_own mB rfl) ?_ | refine r_load rfl T.cell_int rfl (cell_blk mB rfl) ?_ | refine r_load rfl T.cell_int rfl (cell_row mB (rows_get0 (by omega) rfl)) ?_ | refine r_load rfl T.cell_int rfl (cell_row_f mB (rows_get (by omega) rfl)) ?_
             refine r_eql rfl rfl rfl (r_assign rfl rfl (hl_nil (then_n ?_)))
             first | refine c_dec rfl (fun hb10 => ?_) (fun hb10 => ?_) | refine hc_cond rfl (fun hb10 => ?_) (fun hb10 => ?_)
             ·have hb10' := hb10; try simp at hb10'
              refine hc_seq (hc_region (r_assign rfl rfl (hl_nil (then_n (hc_ret (inb_ret (inb_ret (then_ret (then_ret (inb_ret (then_ret ?_))))))))))); exact ret1 () rfl (congrArg (fun b => some (int b)) (by refine (marks_at h12 hk2 ht (e := 5) (by first | (exfalso; omega) | (rw [hm]; (try rw [hm2]); unfold mErr; (repeat (first | rw [if_pos (by omega)] | rw [if_neg (by omega)])); done)) (by omega)).symm)) rfl trivial (List.nil_sublist _) trivial
             ·have hb10' := hb10; try simp at hb10'
              refine hc_seq (hc_region (r_assign rfl rfl (hl_nil (then_n (hc_ret (inb_ret (inb_ret (then_ret (then_ret (inb_ret (then_ret ?_))))))))))); exact ret1 () rfl (congrArg (fun b => some (int b)) (by refine (marks_at h12 hk2 ht (e := 4) (by first | (exfalso; omega) | (rw [hm]; (try rw [hm2]); unfold mErr; (repeat (first | rw [if_pos (by omega)] | rw [if_neg (by omega)])); done)) (by omega)).symm)) rfl trivial (List.nil_sublist _) trivial
           ·intro hg3; have hg3' := hg3; try simp at hg3'
            refine g_no rfl rfl rfl rfl rfl hg3 (g_no rfl rfl rfl rfl rfl hg3 (g_no rfl rfl rfl rfl rfl hg3 ?_)); refine p_t rfl rfl (bt2 hg3) rfl ?_; refine r_assign rfl rfl (hl_nil (then_n (c_t rfl rfl (hc_skip (inb_n (inb_n (then_n (hc_region ?_)))))))); refine r_add _ rfl rfl rfl rfl (by unfold I64; omega) ?_; refine r_move rfl rfl (hl_nil ?_); exact again _ (k + 1) ⟨by omega, marks_next ht (by first | (exfalso; omega) | (rw [hm]; (try rw [hm2]); unfold mErr; (repeat (first | rw [if_pos (by omega)] | rw [if_neg (by omega)])); done))⟩ (by show l.length - (k + 1) < l.length - k; omega) ⟨rfl, rfl, rfl, rfl, rfl, trivial⟩ (List.nil_sublist _) ⟨m0, trivial⟩
      ·intro hg2; have hg2' := hg2; try simp at hg2'
       refine g_no rfl rfl rfl rfl rfl hg2 (g_no rfl rfl rfl rfl rfl hg2 (g_no rfl rfl rfl rfl rfl hg2 (g_no rfl rfl rfl rfl rfl hg2 ?_))); refine p_t rfl rfl (bt2 hg2) rfl ?_; refine hl_nil (then_n (c_t rfl rfl (hc_seq (hc_region (r_assign rfl rfl (hl_nil (then_n (hc_ret (then_ret (inb_ret (then_ret ?_))))))))))); refine then_ret (inb_ret (then_ret ?_)); exact ret1 () rfl (congrArg (fun b => some (int b)) (by refine (marks_at h12 hk2 ht (e := 3) (by first | (exfalso; omega) | (rw [hm]; (try rw [hm2]); unfold mErr; (repeat (first | rw [if_pos (by omega)] | rw [if_neg (by omega)])); done)) (by omega)).symm)) rfl trivial (List.nil_sublist _) trivial
     ·have hb4' := hb4; try simp at hb4'
      refine hc_skip (then_n (hc_seq (hc_seq (hc_region ?_))))
      first | refine r_fieldAddr ⟨_, 1, none⟩ rfl rfl T.fa_api_Mark_1 rfl ?_ | refine r_fieldAddr _ rfl rfl T.fa_api_Mark_1 rfl ?_
      first | refine r_load rfl T.cell_int rfl (cell_own mB rfl) ?_ | refine r_load rfl T.cell_int rfl (cell_blk mB rfl) ?_ | refine r_load rfl T.cell_int rfl (cell_row mB (rows_get0 (by omega) rfl)) ?_ | refine r_load rfl T.cell_int rfl (cell_row_f mB (rows_get (by omega) rfl)) ?_
      refine r_lss rfl rfl rfl (r_move rfl rfl ?_); refine g_split rfl rfl ?_ ?_
      ·intro hg4; have hg4' := hg4; try simp at hg4'
       refine g_yes rfl rfl hg4 ?_
       first | refine r_fieldAddr ⟨_, 1, none⟩ rfl rfl T.fa_api_Mark_1 rfl ?_ | refine r_fieldAddr _ rfl rfl T.fa_api_Mark_1 rfl ?_
       refine g_yes rfl rfl hg4 ?_
       first | refine r_load rfl T.cell_int rfl (cell_own mB rfl) ?_ | refine r_load rfl T.cell_int rfl (cell_blk mB rfl) ?_ | refine r_load rfl T.cell_int rfl (cell_row mB (rows_get0 (by omega) rfl)) ?_ | refine r_load rfl T.cell_int rfl (cell_row_f mB (rows_get (by omega) rfl)) ?_
       refine g_yes rfl rfl hg4 (r_move rfl rfl (g_yes rfl rfl hg4 (r_gtr rfl rfl rfl ?_))); refine p_f rfl rfl (bf1 hg4) rfl ?_; refine hl_nil (then_n ?_)
       first | refine c_dec rfl (fun hb5 => ?_) (fun hb5 => ?_) | refine hc_cond rfl (fun hb5 => ?_) (fun hb5 => ?_)
       ·have hb5' := hb5; try simp at hb5'
        refine hc_seq (hc_region (r_assign rfl rfl (hl_nil (then_n (hc_ret (then_ret (inb_ret (then_ret (then_ret (inb_ret (then_ret ?_))))))))))); exact ret1 () rfl (congrArg (fun b => some (int b)) (by refine (marks_at h12 hk2 ht (e := 3) (by first | (exfalso; omega) | (rw [hm]; (try rw [hm2]); unfold mErr; (repeat (first | rw [if_pos (by omega)] | rw [if_neg (by omega)])); done)) (by omega)).symm)) rfl trivial (List.nil_sublist _) trivial
       ·have hb5' := hb5; try simp at hb5'
        refine hc_skip (then_n (hc_seq (hc_seq (hc_region ?_))))
        first | refine r_loadA rfl T.row_api_Mark T.sz_api_Mark rfl mB (by rfl) ?_ | refine r_loadB rfl T.row_api_Mark T.sz_api_Mark rfl mB (by rfl) ?_ | refine r_loadS rfl T.row_api_Mark T.sz_api_Mark rfl rfl (cells_row mB (rows_all (by omega))) ?_
        refine hl_call F.proof_textError_cb rfl rfl (proof_textError_meets m) (List.Perm.refl _) trivial fun _ _ => ?_; refine r_assign rfl rfl (hl_nil (then_n (hc_seq (hc_region (r_move rfl rfl (r_neq rfl rfl rfl (hl_nil (then_n ?_))))))))
        first | refine c_dec rfl (fun hb6 => ?_) (fun hb6 => ?_) | refine hc_cond rfl (fun hb6 => ?_) (fun hb6 => ?_)
        ·have hb6' := hb6; try simp at hb6'
         refine hc_seq (hc_region (r_move rfl rfl (r_assign rfl rfl (hl_nil (then_n (hc_ret (then_ret (inb_ret (then_ret (then_ret (inb_ret ?_))))))))))); refine then_ret ?_; exact ret1 () rfl (congrArg (fun b => some (int b)) (by refine (marks_at h12 hk2 ht (e := textErr m) (by first | (exfalso; omega) | (rw [hm]; (try rw [hm2]); unfold mErr; (repeat (first | rw [if_pos (by omega)] | rw [if_neg (by omega)])); done)) (by omega)).symm)) rfl trivial (List.nil_sublist _) trivial
        ·have hb6' := hb6; try simp at hb6'
         refine hc_skip (then_n (hc_seq (hc_seq (hc_region (r_move rfl rfl (r_eql rfl rfl rfl (hl_nil (then_n ?_))))))))
         first | refine c_dec rfl (fun hb7 => ?_) (fun hb7 => ?_) | refine hc_cond rfl (fun hb7 => ?_) (fun hb7 => ?_)
         ·have hb7' := hb7; try simp at hb7'
          refine hc_exit (then_exit (inb_hit (then_n (hc_region ?_)))); refine r_add _ rfl rfl rfl rfl (by unfold I64; omega) ?_; refine r_move rfl rfl (hl_nil ?_); exact again _ (k + 1) ⟨by omega, marks_next ht (by first | (exfalso; omega) | (rw [hm]; (try rw [hm2]); unfold mErr; (repeat (first | rw [if_pos (by omega)] | rw [if_neg (by omega)])); done))⟩ (by show l.length - (k + 1) < l.length - k; omega) ⟨rfl, rfl, rfl, rfl, rfl, trivial⟩ (List.nil_sublist _) ⟨m0, trivial⟩
         ·have hb7' := hb7; try simp at hb7'
          refine hc_skip (then_n (hc_seq (hc_region (r_move rfl rfl (r_move rfl rfl ?_))))); refine r_sub ((k - 1 : Nat) : Int) rfl rfl rfl (by omega) (by unfold I64; omega) ?_; refine r_elem (α := Mk) _ _ rfl T.u_L_api_Mark T.sz_api_Mark rfl rfl rfl mB rfl (by omega) (by decide) ?_; refine r_loadS rfl T.row_api_Mark T.sz_api_Mark rfl rfl (cells_row mB (rows_all (by omega))) ?_; refine r_alloc rfl (fun _ => T.al_api_Mark _) fun gA => ?_; refine r_storeS rfl rfl (by first | exact .refl _ | exact perm2 _ _ _ | exact perm3 _ _ _ _ | exact perm4 _ _ _ _ _) T.sz_api_Mark (by rfl) (by rfl) ?_; refine hl_nil (then_n (hc_block (hc_seq ?_))); generalize hm2 : l.getD (k - 1) default = m2; refine hc_region ?_
          first | refine r_fieldAddr ⟨_, 1, none⟩ rfl rfl T.fa_api_Mark_1 rfl ?_ | refine r_fieldAddr _ rfl rfl T.fa_api_Mark_1 rfl ?_
          first | refine r_load rfl T.cell_int rfl (cell_own mB rfl) ?_ | refine r_load rfl T.cell_int rfl (cell_blk mB rfl) ?_ | refine r_load rfl T.cell_int rfl (cell_row mB (rows_get0 (by omega) rfl)) ?_ | refine r_load rfl T.cell_int rfl (cell_row_f mB (rows_get (by omega) rfl)) ?_
          first | refine r_fieldAddr ⟨_, 1, none⟩ rfl rfl T.fa_api_Mark_1 rfl ?_ | refine r_fieldAddr _ rfl rfl T.fa_api_Mark_1 rfl ?_
          first | refine r_load rfl T.cell_int rfl (cell_own mB rfl) ?_ | refine r_load rfl T.cell_int rfl (cell_blk mB rfl) ?_ | refine r_load rfl T.cell_int rfl (cell_row mB (rows_get0 (by omega) rfl)) ?_ | refine r_load rfl T.cell_int rfl (cell_row_f mB (rows_get (by omega) rfl)) ?_
          refine r_lss rfl rfl rfl (r_assign rfl rfl (hl_nil (then_n ?_)))
          first | refine c_dec rfl (fun hb8 => ?_) (fun hb8 => ?_) | refine hc_cond rfl (fun hb8 => ?_) (fun hb8 => ?_)
          ·have hb8' := hb8; try simp at hb8'
           refine hc_seq (hc_region (r_assign rfl rfl (hl_nil (then_n (hc_ret (inb_ret (inb_ret (then_ret (then_ret (inb_ret (then_ret ?_))))))))))); exact ret1 () rfl (congrArg (fun b => some (int b)) (by refine (marks_at h12 hk2 ht (e := 5) (by first | (exfalso; omega) | (rw [hm]; (try rw [hm2]); unfold mErr; (repeat (first | rw [if_pos (by omega)] | rw [if_neg (by omega)])); done)) (by omega)).symm)) rfl trivial (List.nil_sublist _) trivial
          ·have hb8' := hb8; try simp at hb8'
           refine hc_seq (hc_region ?_)
           first | refine r_fieldAddr ⟨_, 1, none⟩ rfl rfl T.fa_api_Mark_1 rfl ?_ | refine r_fieldAddr _ rfl rfl T.fa_api_Mark_1 rfl ?_
           first | refine r_load rfl T.cell_int rfl (cell_own mB rfl) ?_ | refine r_load rfl T.cell_int rfl (cell_blk mB rfl) ?_ | refine r_load rfl T.cell_int rfl (cell_row mB (rows_get0 (by omega) rfl)) ?_ | refine r_load rfl T.cell_int rfl (cell_row_f mB (rows_get (by omega) rfl)) ?_
           first | refine r_fieldAddr ⟨_, 1, none⟩ rfl rfl T.fa_api_Mark_1 rfl ?_ | refine r_fieldAddr _ rfl rfl T.fa_api_Mark_1 rfl ?_
           first | refine r_load rfl T.cell_int rfl (cell_own mB rfl) ?_ | refine r_load rfl T.cell_int rfl (cell_blk mB rfl) ?_ | refine r_load rfl T.cell_int rfl (cell_row mB (rows_get0 (by omega) rfl)) ?_ | refine r_load rfl T.cell_int rfl (cell_row_f mB (rows_get (by omega) rfl)) ?_
           refine r_gtr rfl rfl rfl (r_move rfl rfl ?_); refine g_split rfl rfl ?_ ?_
           ·intro hg5; have hg5' := hg5; try simp at hg5'
            refine g_yes rfl rfl hg5 ?_
            first | refine r_fieldAddr ⟨_, 0, none⟩ rfl rfl T.fa_api_Mark_0 rfl ?_ | refine r_fieldAddr _ rfl rfl T.fa_api_Mark_0 rfl ?_
            refine g_yes rfl rfl hg5 ?_
            first | refine r_load rfl T.cell_int rfl (cell_own mB rfl) ?_ | refine r_load rfl T.cell_int rfl (cell_blk mB rfl) ?_ | refine r_load rfl T.cell_int rfl (cell_row mB (rows_get0 (by omega) rfl)) ?_ | refine r_load rfl T.cell_int rfl (cell_row_f mB (rows_get (by omega) rfl)) ?_
            refine g_yes rfl rfl hg5 (r_eql rfl rfl rfl ?_); refine p_f rfl rfl (bf1 hg5) rfl ?_; refine r_assign rfl rfl (hl_nil (then_n ?_))
            first | refine c_dec rfl (fun hb9 => ?_) (fun hb9 => ?_) | refine hc_cond rfl (fun hb9 => ?_) (fun hb9 => ?_)
            ·have hb9' := hb9; try simp at hb9'
             refine hc_skip (inb_n (inb_n (then_n (hc_region ?_)))); refine r_add _ rfl rfl rfl rfl (by unfold I64; omega) ?_; refine r_move rfl rfl (hl_nil ?_); exact again _ (k + 1) ⟨by omega, marks_next ht (by first | (exfalso; omega) | (rw [hm]; (try rw [hm2]); unfold mErr; (repeat (first | rw [if_pos (by omega)] | rw [if_neg (by omega)])); done))⟩ (by show l.length - (k + 1) < l.length - k; omega) ⟨rfl, rfl, rfl, rfl, rfl, trivial⟩ (List.nil_sublist _) ⟨m0, trivial⟩
            ·have hb9' := hb9; try simp at hb9'
             refine hc_seq (hc_region ?_)
             first | refine r_fieldAddr ⟨_, 0, none⟩ rfl rfl T.fa_api_Mark_0 rfl ?_ | refine r_fieldAddr _ rfl rfl T.fa_api_Mark_0 rfl ?_
             first | refine r_load rfl T.cell_int rfl (cell_own mB rfl) ?_ | refine r_load rfl T.cell_int rfl (cell_blk mB rfl) ?_ | refine r_load rfl T.cell_int rfl (cell_row mB (rows_get0 (by omega) rfl)) ?_ | refine r_load rfl T.cell_int rfl (cell_row_f mB (rows_get (by omega) rfl)) ?_
             refine r_eql rfl rfl rfl (r_assign rfl rfl (hl_nil (then_n ?_)))
             first | refine c_dec rfl (fun hb10 => ?_) (fun hb10 => ?_) | refine hc_cond rfl (fun hb10 => ?_) (fun hb10 => ?_)
             ·have hb10' := hb10; try simp at hb10'
              refine hc_seq (hc_region (r_assign rfl rfl (hl_nil (then_n (hc_ret (inb_ret (inb_ret (then_ret (then_ret (inb_ret (then_ret ?_))))))))))); exact ret1 () rfl (congrArg (fun b => some (int b)) (by refine (marks_at h12 hk2 ht (e := 5) (by first | (exfalso; omega) | (rw [hm]; (try rw [hm2]); unfold mErr; (repeat (first | rw [if_pos (by omega)] | rw [if_neg (by omega)])); done)) (by omega)).symm)) rfl trivial (List.nil_sublist _) trivial
             ·have hb10' := hb10; try simp at hb10'
              refine hc_seq (hc_region (r_assign rfl rfl (hl_nil (then_n (hc_ret (inb_ret (inb_ret (then_ret (then_ret (inb_ret (then_ret ?_))))))))))); exact ret1 () rfl (congrArg (fun b => some (int b)) (by refine (marks_at h12 hk2 ht (e := 4) (by first | (exfalso; omega) | (rw [hm]; (try rw [hm2]); unfold mErr; (repeat (first | rw [if_pos (by omega)] | rw [if_neg (by omega)])); done)) (by omega)).symm)) rfl trivial (List.nil_sublist _) trivial
           ·intro hg5; have hg5' := hg5; try simp at hg5'
            refine g_no rfl rfl rfl rfl rfl hg5 (g_no rfl rfl rfl rfl rfl hg5 (g_no rfl rfl rfl rfl rfl hg5 ?_)); refine p_t rfl rfl (bt2 hg5) rfl ?_; refine r_assign rfl rfl (hl_nil (then_n (c_t rfl rfl (hc_skip (inb_n (inb_n (then_n (hc_region ?_)))))))); refine r_add _ rfl rfl rfl rfl (by unfold I64; omega) ?_; refine r_move rfl rfl (hl_nil ?_); exact again _ (k + 1) ⟨by omega, marks_next ht (by first | (exfalso; omega) | (rw [hm]; (try rw [hm2]); unfold mErr; (repeat (first | rw [if_pos (by omega)] | rw [if_neg (by omega)])); done))⟩ (by show l.length - (k + 1) < l.length - k; omega) ⟨rfl, rfl, rfl, rfl, rfl, trivial⟩ (List.nil_sublist _) ⟨m0, trivial⟩
      ·intro hg4; have hg4' := hg4; try simp at hg4'
       refine g_no rfl rfl rfl rfl rfl hg4 (g_no rfl rfl rfl rfl rfl hg4 (g_no rfl rfl rfl rfl rfl hg4 (g_no rfl rfl rfl rfl rfl hg4 ?_))); refine p_t rfl rfl (bt2 hg4) rfl ?_; refine hl_nil (then_n (c_t rfl rfl (hc_seq (hc_region (r_assign rfl rfl (hl_nil (then_n (hc_ret (then_ret (inb_ret (then_ret ?_))))))))))); refine then_ret (inb_ret (then_ret ?_)); exact ret1 () rfl (congrArg (fun b => some (int b)) (by refine (marks_at h12 hk2 ht (e := 3) (by first | (exfalso; omega) | (rw [hm]; (try rw [hm2]); unfold mErr; (repeat (first | rw [if_pos (by omega)] | rw [if_neg (by omega)])); done)) (by omega)).symm)) rfl trivial (List.nil_sublist _) trivial
   ·intro hg1; have hg1' := hg1; try simp at hg1'
    refine g_no rfl rfl rfl rfl rfl hg1 (g_no rfl rfl rfl rfl rfl hg1 (g_no rfl rfl rfl rfl rfl hg1 ?_)); refine p_t rfl rfl (bt2 hg1) rfl ?_; refine hl_nil (then_n (c_t rfl rfl (hc_seq (hc_region (r_assign rfl rfl (hl_nil (then_n (hc_ret (then_ret (inb_ret (then_ret ?_))))))))))); refine then_ret (inb_ret (then_ret ?_)); exact ret1 () rfl (congrArg (fun b => some (int b)) (by refine (marks_at h12 hk2 ht (e := 8) (by first | (exfalso; omega) | (rw [hm]; (try rw [hm2]); unfold mErr; (repeat (first | rw [if_pos (by omega)] | rw [if_neg (by omega)])); done)) (by omega)).symm)) rfl trivial (List.nil_sublist _) trivial
  ·have hb2' := hb2; try simp at hb2'
   have hk2 : k = l.length := by omega
   refine hc_exit (then_exit (then_exit (inb_hit (then_n (hc_seq (hc_region (r_assign rfl rfl (hl_nil (then_n (hc_ret ?_)))))))))); exact ret1 () rfl (congrArg (fun b => some (int b)) (by rw [marks_all h12 hk2 ht])) rfl trivial (List.nil_sublist _) trivial
theorem proof_checked_meets {A B : Option Addr} {ca cb : Nat} (p : List Str) (l : List Mk) :
    Meets Try.prog F.proof_checked [.slice A p.length ca, .slice B l.length cb] { LI := [Row A (rows p), Row B (rows l)], val := fun _ : Unit => int (checkErr p l) } := by
 refine meets_intro F.proof_checked_f rfl (Nat.le_of_ble_eq_true rfl) fun w0 => ?_; refine hc_seq (hc_region (r_assign rfl rfl (hl_nil (then_n (hc_seq (hc_seq (hc_region (r_move rfl rfl ?_)))))))); refine hl_call F.proof_Check_cb rfl rfl (proof_Check_meets p) (.refl _) ⟨m0, trivial⟩ fun _ _ => ?_; refine r_assign rfl rfl (hl_nil (then_n (hc_seq (hc_region (r_move rfl rfl (r_neq rfl rfl rfl (hl_nil (then_n ?_))))))))
 first | refine c_dec rfl (fun hb1 => ?_) (fun hb1 => ?_) | refine hc_cond rfl (fun hb1 => ?_) (fun hb1 => ?_)
 ·have hb1' := hb1; try simp at hb1'
  refine hc_seq (hc_region (r_move rfl rfl (r_assign rfl rfl (hl_nil (then_n (hc_ret (then_ret ?_))))))); exact ret1 () rfl (congrArg (fun b => some (int b)) (by rw [checkErr, if_neg hb1])) rfl trivial (List.nil_sublist _) trivial
 ·have hb1' := hb1; try simp at hb1'
  have h6 : pageErr p = 0 := by omega
  have hp : p.length ≤ 1000000 := by unfold pageErr at h6; split at h6 <;> omega
  refine hc_skip (then_n (hc_seq (hc_region (r_move rfl rfl (r_move rfl rfl ?_))))); refine hl_call F.proof_marksError_cb rfl rfl (proof_marksError_meets l hp) (.refl _) ⟨m1, trivial⟩ fun _ _ => ?_; refine r_assign rfl rfl (hl_nil (then_n (hc_ret ?_))); exact ret1 () rfl (congrArg (fun b => some (int b)) (by rw [checkErr, if_pos h6])) rfl trivial (List.nil_sublist _) trivial
end Go.Proofs.Ytpfbbggmcbhboaa
end
