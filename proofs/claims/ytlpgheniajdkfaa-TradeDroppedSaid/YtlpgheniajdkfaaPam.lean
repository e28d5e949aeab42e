/- Dice and words of the kit. -/
import Derived.Test.YtlpgheniajdkfaaPal
import Derived.Test.YtlpgheniajdkfaaPb
namespace Go.Proofs.Ytlpgheniajdkfaa
open Go Go.W
set_option linter.unusedVariables false
set_option linter.unusedSimpArgs false
set_option maxRecDepth 20000
attribute [local irreducible] HL HC HQ HB Row Rows2 Blk Facts

def FromInv (lo hi z : Int) : Prop := lo ≤ z ∧ (lo < hi → z ≤ hi) ∧ (hi ≤ lo → z = lo)
def sortsL : List Str := [[102, 111, 111, 100], [98, 114, 101, 97, 100], [99, 108, 111, 116, 104], [104, 97, 116, 115], [119, 111, 111, 100], [105, 114, 111, 110], [98, 101, 101, 114], [105, 110], [115, 101, 101]]
def callingsL : List Str := [[98, 97, 107, 101, 114], [98, 97, 107, 101, 114, 115], [98, 111, 110, 110, 101, 116, 115], [98, 114, 101, 119, 101, 114], [98, 114, 117, 115, 104, 101, 115], [98, 117, 116, 99, 104, 101, 114], [99, 97, 110, 100, 108, 101, 115], [99, 111, 111, 112, 101, 114], [99, 111, 111, 112, 101, 114, 115], [99, 117, 116, 108, 101, 114], [104, 97, 116, 116, 101, 114], [104, 111, 115, 105, 101, 114], [109, 101, 114, 99, 101, 114], [109, 105, 108, 108, 105, 110, 101, 114], [116, 97, 105, 108, 111, 114], [116, 97, 110, 110, 101, 114]]

theorem kit_NewDice_meets {A : Option Addr} {c : Nat} (nums : List Int) : Meets Try.prog F.kit_NewDice [.slice A nums.length c] { LI := [Row A (rows nums)], val := fun g : Nat => .pointer (some ⟨g, 0, none⟩), hpO := fun g => [dice g A c nums (0, 11400714819323198485)] } := by
 refine meets_intro F.kit_NewDice_f rfl (Nat.le_of_ble_eq_true rfl) fun w0 => ?_
 refine hc_seq ?_
 refine hc_region ?_
 refine r_assign rfl rfl ?_
 refine hl_nil ?_
 refine then_n ?_
 refine hc_seq ?_
 refine hc_region ?_
 refine r_move rfl rfl ?_
 refine r_build _ rfl rfl (fun _ => T.bd_wayzgoosekit_Dice_0_2 ..) ?_
 refine r_box rfl rfl fun gB => ?_
 refine r_assign rfl rfl ?_
 refine hl_nil ?_
 refine then_n ?_
 refine hc_ret ?_
 exact ret1 gB rfl rfl rfl trivial (.refl _) trivial

theorem kit_Dice_From_meets {g : Nat} {A : Option Addr} {c : Nat} {nums : List Int} {s : Int × Int} (lo hi : Int) (hn : nums.length ≤ 9223372036854775807) (hs : DOK nums s) (hI : -1000 ≤ lo ∧ lo ≤ 1000 ∧ -1000 ≤ hi ∧ hi ≤ 1000) :
    Meets Try.prog F.kit_Dice_From [.pointer (some ⟨g, 0, none⟩), int lo, int hi] (diceCon g A c nums s (FromInv lo hi) (fun z => int z) (fun _ => [])) := by
 refine meets_intro F.kit_Dice_From_f rfl (Nat.le_of_ble_eq_true rfl) fun w0 => ?_
 refine hc_seq ?_
 refine hc_region ?_
 refine r_assign rfl rfl ?_
 refine hl_nil ?_
 refine then_n ?_
 refine hc_seq ?_
 refine hc_region ?_
 refine r_move rfl rfl ?_
 refine r_move rfl rfl ?_
 refine r_move rfl rfl ?_
 refine r_move rfl rfl ?_
 refine r_sub _ rfl rfl rfl rfl (by unfold I64; omega) ?_
 refine hl_call F.kit_Dice_To_cb rfl rfl (kit_Dice_To_meets (hi - lo) hn hs (by omega)) (.refl _) ⟨m0, trivial⟩ fun x hx => ?_
 obtain ⟨s1, z⟩ := x
 obtain ⟨hs1, hz⟩ := hx
 simp only [ToInv] at hz
 have hz1 : 0 ≤ z ∧ z ≤ 2000 := by
   refine ⟨hz.1, ?_⟩
   by_cases h1 : 1 ≤ hi - lo
   · have := hz.2.1 h1; omega
   · have := hz.2.2 (by omega); omega
 refine r_add (lo + z) rfl rfl rfl rfl (by unfold I64; omega) ?_
 refine r_assign rfl rfl ?_
 refine hl_nil ?_
 refine then_n ?_
 refine hc_ret ?_
 exact ret1 (s1, lo + z) rfl rfl rfl ⟨hs1, by simp only; omega, fun h => by have := hz.2.1 (by omega); simp only; omega, fun h => by have := hz.2.2 (by omega); simp only; omega⟩ (.refl _) trivial

theorem kit_sorts_meets : Meets Try.prog F.kit_sorts [] { val := fun g : Nat => .slice (some ⟨g, 0, none⟩) 9 9, LO := fun g => [Row (some ⟨g, 0, none⟩) (rows sortsL)] } := by
 refine meets_intro F.kit_sorts_f rfl (Nat.le_of_ble_eq_true rfl) fun w0 => ?_
 refine hc_seq ?_
 refine hc_region ?_
 refine r_assign rfl rfl ?_
 refine hl_nil ?_
 refine then_n ?_
 refine hc_seq ?_
 refine hc_region ?_
 refine r_buildSlice _ rfl rfl (fun _ => T.bs_strs_9 ..) fun gS => ?_
 refine r_assign rfl rfl ?_
 refine hl_nil ?_
 refine then_n ?_
 refine hc_ret ?_
 refine hq_letgo (rows sortsL) (List.prefix_refl _) ?_
 exact ret1 gS rfl rfl rfl trivial (List.nil_sublist _) ⟨m0, trivial⟩

theorem kit_callings_meets : Meets Try.prog F.kit_callings [] { val := fun g : Nat => .slice (some ⟨g, 0, none⟩) 16 16, LO := fun g => [Row (some ⟨g, 0, none⟩) (rows callingsL)] } := by
 refine meets_intro F.kit_callings_f rfl (Nat.le_of_ble_eq_true rfl) fun w0 => ?_
 refine hc_seq ?_
 refine hc_region ?_
 refine r_assign rfl rfl ?_
 refine hl_nil ?_
 refine then_n ?_
 refine hc_seq ?_
 refine hc_region ?_
 refine r_buildSlice _ rfl rfl (fun _ => T.bs_strs_16 ..) fun gS => ?_
 refine r_assign rfl rfl ?_
 refine hl_nil ?_
 refine then_n ?_
 refine hc_ret ?_
 refine hq_letgo (rows callingsL) (List.prefix_refl _) ?_
 exact ret1 gS rfl rfl rfl trivial (List.nil_sublist _) ⟨m0, trivial⟩

end Go.Proofs.Ytlpgheniajdkfaa
