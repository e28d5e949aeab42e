/- Walks of the dice and of what is made with them. -/
import Derived.Test.YtlpgheniajdkfaaGreatPa
namespace Go.Proofs.YtlpgheniajdkfaaGreat
open Go Go.W
set_option linter.unusedVariables false
set_option linter.unusedSimpArgs false
set_option maxRecDepth 20000
attribute [local irreducible] HL HC HQ HB Row Rows2 Blk Facts

/-- The dice's block: the list of numbers, how many are used up, the seed. -/
def dice (g : Nat) (A : Option Addr) (c : Nat) (nums : List Int) (s : Int × Int) : Nat × Obj := (g, .cells #[.slice A nums.length c, int s.1, .int .u64 s.2] T.wayzgoosekit_Dice (0, 0))
def DOK (nums : List Int) (s : Int × Int) : Prop := 0 ≤ s.1 ∧ s.1 ≤ nums.length ∧ 0 ≤ s.2 ∧ s.2 < 18446744073709551616
def diceCon {β : Type} (g : Nat) (A : Option Addr) (c : Nat) (nums : List Int) (s : Int × Int) (inv : β → Prop) (val : β → Value) (LO : β → List Fact) : Con ((Int × Int) × β) :=
  { hpI := [dice g A c nums s], LI := [Row A (rows nums)], inv := fun x => DOK nums x.1 ∧ inv x.2, val := fun x => val x.2, hpO := fun x => [dice g A c nums x.1], LO := fun x => LO x.2 }


theorem kit_Dice_raw_meets {g : Nat} {A : Option Addr} {c : Nat} {nums : List Int} {s : Int × Int} (hn : nums.length ≤ 9223372036854775807) (hs : DOK nums s) :
    Meets Tryz.prog F.kit_Dice_raw [.pointer (some ⟨g, 0, none⟩)] (diceCon g A c nums s (fun z : Int => 0 ≤ z ∧ z < 18446744073709551616) (fun z => .int .u64 z) (fun _ => [])) := by
 obtain ⟨p, q⟩ := s
 obtain ⟨h1, h2, h3, h4⟩ := hs
 simp only at h1 h2 h3 h4
 obtain ⟨pn, rfl⟩ := Int.eq_ofNat_of_zero_le h1
 refine meets_intro F.kit_Dice_raw_f rfl (Nat.le_of_ble_eq_true rfl) fun w0 => ?_
 refine hc_seq (hc_region (r_assign rfl rfl (hl_nil (then_n (hc_seq ?_)))))
 refine hc_draw 11 mixed (by decide) (by decide) rfl rfl ?_
 apply hb_ex _ rfl rfl rfl
 ·intro w1
  refine r_move rfl rfl (hl_nil ?_)
  exact qe_done rfl
 apply hb_ex _ rfl rfl rfl
 ·intro w1
  refine r_move rfl rfl (hl_nil ?_)
  exact qe_done rfl
 apply hb_ex _ rfl rfl rfl
 ·intro w1
  refine r_nilCheck rfl rfl (hl_nil ?_)
  exact qe_done rfl
 apply hb_ex _ rfl rfl rfl
 ·intro w1
  refine r_fieldAddr ⟨_, 2, none⟩ rfl rfl T.fa_wayzgoosekit_Dice_2 rfl ?_
  refine hl_nil ?_
  exact qe_done rfl
 apply hb_ex _ rfl rfl rfl
 ·intro w1
  refine r_load rfl T.cell_u64 rfl (cell_blk (by repeat constructor) rfl) ?_
  refine hl_nil ?_
  exact qe_done rfl
 apply hb_ex _ rfl rfl rfl
 ·intro w1
  refine r_move rfl rfl (hl_nil ?_)
  exact qe_done rfl
 apply hb_ex _ rfl rfl rfl
 ·intro w1
  refine r_nilCheck rfl rfl (hl_nil ?_)
  exact qe_done rfl
 apply hb_ex _ rfl rfl rfl
 ·intro w1
  refine r_fieldAddr ⟨_, 2, none⟩ rfl rfl T.fa_wayzgoosekit_Dice_2 rfl ?_
  refine hl_nil ?_
  exact qe_done rfl
 apply hb_ex _ rfl rfl rfl
 ·intro w1
  refine r_load rfl T.cell_u64 rfl (cell_blk (by repeat constructor) rfl) ?_
  refine hl_nil ?_
  exact qe_done rfl
 apply hb_ex _ rfl rfl rfl
 ·intro w1
  refine r_bin _ rfl rfl rfl (fun _ => rfl) (fun _ => rfl) ?_
  refine hl_nil ?_
  exact qe_done rfl
 apply hb_ex _ rfl rfl rfl
 ·intro w1
  refine r_bin _ rfl rfl rfl (fun _ => rfl) (fun _ => rfl) ?_
  refine hl_nil ?_
  exact qe_done rfl
 refine hb_nil ⟨rfl, ?_⟩
 refine r_nilCheck rfl rfl ?_
 refine r_fieldAddr ⟨_, 2, none⟩ rfl rfl T.fa_wayzgoosekit_Dice_2 rfl ?_
 refine r_store rfl rfl (by first | exact .refl _ | exact perm2 _ _ _ | exact perm3 _ _ _ _ | exact perm4 _ _ _ _ _) T.sz_u64 (by rfl) (by rfl) ?_
 refine hl_nil (then_n (hc_seq ?_))
 refine hc_draw 11 mixed (by decide) (by decide) rfl rfl ?_
 apply hb_ex _ rfl rfl rfl
 ·intro w1
  refine r_move rfl rfl (hl_nil ?_)
  exact qe_done rfl
 apply hb_ex _ rfl rfl rfl
 ·intro w1
  refine r_move rfl rfl (hl_nil ?_)
  exact qe_done rfl
 apply hb_ex _ rfl rfl rfl
 ·intro w1
  refine r_nilCheck rfl rfl (hl_nil ?_)
  exact qe_done rfl
 apply hb_ex _ rfl rfl rfl
 ·intro w1
  refine r_fieldAddr ⟨_, 2, none⟩ rfl rfl T.fa_wayzgoosekit_Dice_2 rfl ?_
  refine hl_nil ?_
  exact qe_done rfl
 apply hb_ex _ rfl rfl rfl
 ·intro w1
  refine r_load rfl T.cell_u64 rfl (cell_blk (by repeat constructor) rfl) ?_
  refine hl_nil ?_
  exact qe_done rfl
 apply hb_ex _ rfl rfl rfl
 ·intro w1
  refine r_move rfl rfl (hl_nil ?_)
  exact qe_done rfl
 apply hb_ex _ rfl rfl rfl
 ·intro w1
  refine r_nilCheck rfl rfl (hl_nil ?_)
  exact qe_done rfl
 apply hb_ex _ rfl rfl rfl
 ·intro w1
  refine r_fieldAddr ⟨_, 2, none⟩ rfl rfl T.fa_wayzgoosekit_Dice_2 rfl ?_
  refine hl_nil ?_
  exact qe_done rfl
 apply hb_ex _ rfl rfl rfl
 ·intro w1
  refine r_load rfl T.cell_u64 rfl (cell_blk (by repeat constructor) rfl) ?_
  refine hl_nil ?_
  exact qe_done rfl
 apply hb_ex _ rfl rfl rfl
 ·intro w1
  refine r_bin _ rfl rfl rfl (fun _ => rfl) (fun _ => rfl) ?_
  refine hl_nil ?_
  exact qe_done rfl
 apply hb_ex _ rfl rfl rfl
 ·intro w1
  refine r_bin _ rfl rfl rfl (fun _ => rfl) (fun _ => rfl) ?_
  refine hl_nil ?_
  exact qe_done rfl
 refine hb_nil ⟨rfl, ?_⟩
 refine r_nilCheck rfl rfl ?_
 refine r_fieldAddr ⟨_, 2, none⟩ rfl rfl T.fa_wayzgoosekit_Dice_2 rfl ?_
 refine r_store rfl rfl (by first | exact .refl _ | exact perm2 _ _ _ | exact perm3 _ _ _ _ | exact perm4 _ _ _ _ _) T.sz_u64 (by rfl) (by rfl) ?_
 refine hl_nil (then_n (hc_seq ?_))
 refine hc_draw 11 mixed (by decide) (by decide) rfl rfl ?_
 apply hb_ex _ rfl rfl rfl
 ·intro w1
  refine r_move rfl rfl (hl_nil ?_)
  exact qe_done rfl
 apply hb_ex _ rfl rfl rfl
 ·intro w1
  refine r_move rfl rfl (hl_nil ?_)
  exact qe_done rfl
 apply hb_ex _ rfl rfl rfl
 ·intro w1
  refine r_nilCheck rfl rfl (hl_nil ?_)
  exact qe_done rfl
 apply hb_ex _ rfl rfl rfl
 ·intro w1
  refine r_fieldAddr ⟨_, 2, none⟩ rfl rfl T.fa_wayzgoosekit_Dice_2 rfl ?_
  refine hl_nil ?_
  exact qe_done rfl
 apply hb_ex _ rfl rfl rfl
 ·intro w1
  refine r_load rfl T.cell_u64 rfl (cell_blk (by repeat constructor) rfl) ?_
  refine hl_nil ?_
  exact qe_done rfl
 apply hb_ex _ rfl rfl rfl
 ·intro w1
  refine r_move rfl rfl (hl_nil ?_)
  exact qe_done rfl
 apply hb_ex _ rfl rfl rfl
 ·intro w1
  refine r_nilCheck rfl rfl (hl_nil ?_)
  exact qe_done rfl
 apply hb_ex _ rfl rfl rfl
 ·intro w1
  refine r_fieldAddr ⟨_, 2, none⟩ rfl rfl T.fa_wayzgoosekit_Dice_2 rfl ?_
  refine hl_nil ?_
  exact qe_done rfl
 apply hb_ex _ rfl rfl rfl
 ·intro w1
  refine r_load rfl T.cell_u64 rfl (cell_blk (by repeat constructor) rfl) ?_
  refine hl_nil ?_
  exact qe_done rfl
 apply hb_ex _ rfl rfl rfl
 ·intro w1
  refine r_bin _ rfl rfl rfl (fun _ => rfl) (fun _ => rfl) ?_
  refine hl_nil ?_
  exact qe_done rfl
 apply hb_ex _ rfl rfl rfl
 ·intro w1
  refine r_bin _ rfl rfl rfl (fun _ => rfl) (fun _ => rfl) ?_
  refine hl_nil ?_
  exact qe_done rfl
 refine hb_nil ⟨rfl, ?_⟩
 refine r_nilCheck rfl rfl ?_
 refine r_fieldAddr ⟨_, 2, none⟩ rfl rfl T.fa_wayzgoosekit_Dice_2 rfl ?_
 refine r_store rfl rfl (by first | exact .refl _ | exact perm2 _ _ _ | exact perm3 _ _ _ _ | exact perm4 _ _ _ _ _) T.sz_u64 (by rfl) (by rfl) ?_
 refine hl_nil (then_n (hc_seq (hc_seq ?_)))
 refine hc_draw 9 mixed (by decide) (by decide) rfl rfl ?_
 apply hb_ex _ rfl rfl rfl
 ·intro w1
  refine r_move rfl rfl (hl_nil ?_)
  exact qe_done rfl
 apply hb_ex _ rfl rfl rfl
 ·intro w1
  refine r_nilCheck rfl rfl (hl_nil ?_)
  exact qe_done rfl
 apply hb_ex _ rfl rfl rfl
 ·intro w1
  refine r_fieldAddr ⟨_, 1, none⟩ rfl rfl T.fa_wayzgoosekit_Dice_1 rfl ?_
  refine hl_nil ?_
  exact qe_done rfl
 apply hb_ex _ rfl rfl rfl
 ·intro w1
  refine r_load rfl T.cell_int rfl (cell_blk (by repeat constructor) rfl) ?_
  refine hl_nil ?_
  exact qe_done rfl
 apply hb_ex _ rfl rfl rfl
 ·intro w1
  refine r_move rfl rfl (hl_nil ?_)
  exact qe_done rfl
 apply hb_ex _ rfl rfl rfl
 ·intro w1
  refine r_nilCheck rfl rfl (hl_nil ?_)
  exact qe_done rfl
 apply hb_ex _ rfl rfl rfl
 ·intro w1
  refine r_fieldAddr ⟨_, 0, none⟩ rfl rfl T.fa_wayzgoosekit_Dice_0 rfl ?_
  refine hl_nil ?_
  exact qe_done rfl
 apply hb_ex _ rfl rfl rfl
 ·intro w1
  refine r_load rfl T.cell_ints rfl (cell_blk (by repeat constructor) rfl) ?_
  refine hl_nil ?_
  exact qe_done rfl
 apply hb_ex _ rfl rfl rfl
 ·intro w1
  refine r_len_sl rfl T.u_ints rfl ?_
  refine hl_nil ?_
  exact qe_done rfl
 refine hb_nil ⟨rfl, ?_⟩
 refine r_lss rfl rfl rfl (hl_nil (then_n ?_))
 refine c_dec rfl (fun hb1 => ?_) (fun hb1 => ?_)
 ·have hb1' := hb1; try simp at hb1'
  refine hc_seq ?_
  refine hc_draw 18 mixed (by decide) (by decide) rfl rfl ?_
  apply hb_ex _ rfl rfl rfl
  ·intro w1
   refine r_move rfl rfl (hl_nil ?_)
   exact qe_done rfl
  apply hb_ex _ rfl rfl rfl
  ·intro w1
   refine r_move rfl rfl (hl_nil ?_)
   exact qe_done rfl
  apply hb_ex _ rfl rfl rfl
  ·intro w1
   refine r_nilCheck rfl rfl (hl_nil ?_)
   exact qe_done rfl
  apply hb_ex _ rfl rfl rfl
  ·intro w1
   refine r_fieldAddr ⟨_, 2, none⟩ rfl rfl T.fa_wayzgoosekit_Dice_2 rfl ?_
   refine hl_nil ?_
   exact qe_done rfl
  apply hb_ex _ rfl rfl rfl
  ·intro w1
   refine r_load rfl T.cell_u64 rfl (cell_blk (by repeat constructor) rfl) ?_
   refine hl_nil ?_
   exact qe_done rfl
  apply hb_ex _ rfl rfl rfl
  ·intro w1
   refine r_move rfl rfl (hl_nil ?_)
   exact qe_done rfl
  apply hb_ex _ rfl rfl rfl
  ·intro w1
   refine r_nilCheck rfl rfl (hl_nil ?_)
   exact qe_done rfl
  apply hb_ex _ rfl rfl rfl
  ·intro w1
   refine r_fieldAddr ⟨_, 0, none⟩ rfl rfl T.fa_wayzgoosekit_Dice_0 rfl ?_
   refine hl_nil ?_
   exact qe_done rfl
  apply hb_ex _ rfl rfl rfl
  ·intro w1
   refine r_load rfl T.cell_ints rfl (cell_blk (by repeat constructor) rfl) ?_
   refine hl_nil ?_
   exact qe_done rfl
  apply hb_ex _ rfl rfl rfl
  ·intro w1
   refine r_move rfl rfl (hl_nil ?_)
   exact qe_done rfl
  apply hb_ex _ rfl rfl rfl
  ·intro w1
   refine r_nilCheck rfl rfl (hl_nil ?_)
   exact qe_done rfl
  apply hb_ex _ rfl rfl rfl
  ·intro w1
   refine r_fieldAddr ⟨_, 1, none⟩ rfl rfl T.fa_wayzgoosekit_Dice_1 rfl ?_
   refine hl_nil ?_
   exact qe_done rfl
  apply hb_ex _ rfl rfl rfl
  ·intro w1
   refine r_load rfl T.cell_int rfl (cell_blk (by repeat constructor) rfl) ?_
   refine hl_nil ?_
   exact qe_done rfl
  apply hb_ex _ rfl rfl rfl
  ·intro w1
   refine r_elem (α := Int) _ pn rfl T.u_ints T.sz_int rfl rfl rfl m1 rfl (by omega) (by decide) ?_
   refine hl_nil ?_
   exact qe_done rfl
  apply hb_ex _ rfl rfl rfl
  ·intro w1
   refine r_load rfl T.cell_int rfl (cell_row (by repeat constructor) (rows_get0 (by omega) rfl)) ?_
   refine hl_nil ?_
   exact qe_done rfl
  apply hb_ex _ rfl rfl rfl
  ·intro w1
   refine r_conv _ rfl T.u_int T.u_u64 rfl rfl (hl_nil ?_)
   exact qe_done rfl
  apply hb_ex _ rfl rfl rfl
  ·intro w1
   refine r_bin _ rfl rfl rfl (fun _ => rfl) (fun _ => rfl) ?_
   refine hl_nil ?_
   exact qe_done rfl
  apply hb_ex _ rfl rfl rfl
  ·intro w1
   refine r_bin _ rfl rfl rfl (fun _ => rfl) (fun _ => rfl) ?_
   refine hl_nil ?_
   exact qe_done rfl
  refine hb_nil ⟨rfl, ?_⟩
  refine r_nilCheck rfl rfl ?_
  refine r_fieldAddr ⟨_, 2, none⟩ rfl rfl T.fa_wayzgoosekit_Dice_2 rfl ?_
  refine r_store rfl rfl (by first | exact .refl _ | exact perm2 _ _ _ | exact perm3 _ _ _ _ | exact perm4 _ _ _ _ _) T.sz_u64 (by rfl) (by rfl) ?_
  refine hl_nil (then_n (hc_region (r_move rfl rfl (r_nilCheck rfl rfl ?_))))
  refine r_fieldAddr ⟨_, 1, none⟩ rfl rfl T.fa_wayzgoosekit_Dice_1 rfl ?_
  refine r_load rfl T.cell_int rfl (cell_own (by repeat constructor) rfl) ?_
  refine r_add _ rfl rfl rfl rfl (by unfold I64; omega) ?_
  refine r_nilCheck rfl rfl ?_
  refine r_fieldAddr ⟨_, 1, none⟩ rfl rfl T.fa_wayzgoosekit_Dice_1 rfl ?_
  refine r_store rfl rfl (by first | exact .refl _ | exact perm2 _ _ _ | exact perm3 _ _ _ _ | exact perm4 _ _ _ _ _) T.sz_int (by rfl) (by rfl) ?_
  refine hl_nil (then_n (hc_seq (hc_region (r_move rfl rfl (r_nilCheck rfl rfl ?_)))))
  refine r_fieldAddr ⟨_, 2, none⟩ rfl rfl T.fa_wayzgoosekit_Dice_2 rfl ?_
  refine r_load rfl T.cell_u64 rfl (cell_own (by repeat constructor) rfl) ?_
  refine r_assign rfl rfl (hl_nil (then_n (hc_seq (hc_region (r_move rfl rfl (r_move rfl rfl ?_))))))
  refine r_bin _ rfl rfl rfl (fun _ => rfl) (fun _ => rfl) ?_
  refine r_bin _ rfl rfl rfl (fun _ => rfl) (fun _ => rfl) ?_
  refine r_bin _ rfl rfl rfl (fun _ => rfl) (fun _ => rfl) ?_
  refine r_assign rfl rfl (hl_nil (then_n (hc_seq (hc_region (r_move rfl rfl (r_move rfl rfl ?_))))))
  refine r_bin _ rfl rfl rfl (fun _ => rfl) (fun _ => rfl) ?_
  refine r_bin _ rfl rfl rfl (fun _ => rfl) (fun _ => rfl) ?_
  refine r_assign rfl rfl (hl_nil (then_n (hc_ret ?_)))
  exact ret1 ((_, _), _) rfl rfl rfl ⟨⟨by simp only; omega, by simp only; omega, (wrapU _).1, (wrapU _).2⟩, wrapU _⟩ (.refl _) trivial
 ·have hb1' := hb1; try simp at hb1'
  refine hc_skip (then_n (hc_seq (hc_region (r_move rfl rfl (r_nilCheck rfl rfl ?_)))))
  refine r_fieldAddr ⟨_, 2, none⟩ rfl rfl T.fa_wayzgoosekit_Dice_2 rfl ?_
  refine r_load rfl T.cell_u64 rfl (cell_own (by repeat constructor) rfl) ?_
  refine r_assign rfl rfl (hl_nil (then_n (hc_seq (hc_region (r_move rfl rfl (r_move rfl rfl ?_))))))
  refine r_bin _ rfl rfl rfl (fun _ => rfl) (fun _ => rfl) ?_
  refine r_bin _ rfl rfl rfl (fun _ => rfl) (fun _ => rfl) ?_
  refine r_bin _ rfl rfl rfl (fun _ => rfl) (fun _ => rfl) ?_
  refine r_assign rfl rfl (hl_nil (then_n (hc_seq (hc_region (r_move rfl rfl (r_move rfl rfl ?_))))))
  refine r_bin _ rfl rfl rfl (fun _ => rfl) (fun _ => rfl) ?_
  refine r_bin _ rfl rfl rfl (fun _ => rfl) (fun _ => rfl) ?_
  refine r_assign rfl rfl (hl_nil (then_n (hc_ret ?_)))
  exact ret1 ((_, _), _) rfl rfl rfl ⟨⟨by simp only; omega, by simp only; omega, (wrapU _).1, (wrapU _).2⟩, wrapU _⟩ (.refl _) trivial

theorem mod_range {z n : Int} (hz : 0 ≤ z) (hn : 0 ≤ n) : 0 ≤ z.tmod (n + 1) ∧ z.tmod (n + 1) ≤ n := by
  have h1 := Int.tmod_nonneg (n + 1) hz
  have h2 := Int.tmod_lt_of_pos z (show 0 < n + 1 by omega)
  omega
def ToInv (n z : Int) : Prop := 0 ≤ z ∧ (1 ≤ n → z ≤ n) ∧ (n < 1 → z = 0)

theorem kit_Dice_To_meets {g : Nat} {A : Option Addr} {c : Nat} {nums : List Int} {s : Int × Int} (n : Int) (hn : nums.length ≤ 9223372036854775807) (hs : DOK nums s) (hI : n ≤ 9223372036854775806) :
    Meets Tryz.prog F.kit_Dice_To [.pointer (some ⟨g, 0, none⟩), int n] (diceCon g A c nums s (ToInv n) (fun z => int z) (fun _ => [])) := by
 refine meets_intro F.kit_Dice_To_f rfl (Nat.le_of_ble_eq_true rfl) fun w0 => ?_
 refine hc_seq (hc_region (r_assign rfl rfl (hl_nil (then_n (hc_seq (hc_seq (hc_region (r_move rfl rfl (r_lss rfl rfl rfl (hl_nil (then_n ?_)))))))))))
 refine c_dec rfl (fun hb1 => ?_) (fun hb1 => ?_)
 ·have hb1' := hb1; try simp at hb1'
  refine hc_seq (hc_region (r_assign rfl rfl (hl_nil (then_n (hc_ret (then_ret ?_))))))
  exact ret1 (s, 0) rfl rfl rfl ⟨hs, by omega, by intro; omega, by intro; rfl⟩ (.refl _) trivial
 ·have hb1' := hb1; try simp at hb1'
  refine hc_skip (then_n (hc_seq (hc_region (r_move rfl rfl ?_))))
  refine hl_call F.kit_Dice_raw_cb rfl rfl (kit_Dice_raw_meets hn hs) (.refl _) ⟨m0, trivial⟩ fun x hx => ?_
  obtain ⟨s1, z⟩ := x
  obtain ⟨hs1, hz⟩ := hx
  simp only at hz
  refine r_bin _ rfl rfl rfl (fun _ => rfl) (fun _ => rfl) ?_
  refine r_move rfl rfl ?_
  refine r_add _ rfl rfl rfl rfl (by unfold I64; omega) ?_
  refine r_conv (n + 1) rfl T.u_int T.u_u64 rfl (IntWalk.u64_in _ (by omega)) ?_
  refine r_rem rfl rfl rfl (by omega) ?_
  have hm := mod_range (z := z.fdiv (2 ^ min (Int.toNat 16) IntKind.u64.bits)) (n := n) (Int.fdiv_nonneg hz.1 (by decide)) (by omega)
  refine r_conv ((z.fdiv (2 ^ min (Int.toNat 16) IntKind.u64.bits)).tmod (n + 1)) rfl T.u_u64 T.u_int rfl (IntWalk.i64_in ((z.fdiv (2 ^ min (Int.toNat 16) IntKind.u64.bits)).tmod (n + 1)) (by omega)) ?_
  refine r_assign rfl rfl (hl_nil (then_n (hc_ret ?_)))
  exact ret1 (s1, _) rfl rfl rfl ⟨hs1, hm.1, fun _ => hm.2, fun h => by omega⟩ (.refl _) trivial

theorem kit_Dice_Once_meets {g : Nat} {A : Option Addr} {c : Nat} {nums : List Int} {s : Int × Int} (n : Int) (hn : nums.length ≤ 9223372036854775807) (hs : DOK nums s) (hI : 0 ≤ n ∧ n ≤ 9223372036854775806) :
    Meets Tryz.prog F.kit_Dice_Once [.pointer (some ⟨g, 0, none⟩), int n] (diceCon g A c nums s (fun _ : Bool => True) (fun z => .bool z) (fun _ => [])) := by
 refine meets_intro F.kit_Dice_Once_f rfl (Nat.le_of_ble_eq_true rfl) fun w0 => ?_
 refine hc_seq (hc_region (r_assign rfl rfl (hl_nil (then_n (hc_seq (hc_region (r_move rfl rfl (r_move rfl rfl ?_))))))))
 refine r_sub _ rfl rfl rfl rfl (by unfold I64; omega) ?_
 refine hl_call F.kit_Dice_To_cb rfl rfl (kit_Dice_To_meets (n - 1) hn hs (by omega)) (.refl _) ⟨m0, trivial⟩ fun x hx => ?_
 obtain ⟨s1, z⟩ := x
 obtain ⟨hs1, hz⟩ := hx
 simp only [ToInv] at hz
 refine r_eql rfl rfl rfl (r_assign rfl rfl (hl_nil (then_n (hc_ret ?_))))
 exact ret1 (s1, _) rfl rfl rfl ⟨hs1, trivial⟩ (.refl _) trivial

def lineWords : List Str := [[97], [98], [99], [97, 110, 32, 49], [98, 101, 110], [99, 121, 100, 32, 49, 50]]
def PageOK (l : List Str) : Prop := ∀ s ∈ l, s ∈ lineWords

end Go.Proofs.YtlpgheniajdkfaaGreat
