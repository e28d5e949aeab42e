/- Repeat: a slice of one, some times. -/
import Derived.Test.YtlpgheniajdkfaaPbg
import Derived.Test.YtlpgheniajdkfaaWr
namespace Go.Proofs.Ytlpgheniajdkfaa
open Go Go.W
set_option linter.unusedVariables false
set_option linter.unusedSimpArgs false
set_option maxRecDepth 20000
attribute [local irreducible] HL HC HQ HB Row Rows2 Blk Facts

theorem math_bits_Mul64_m0 : Meets Try.prog F.math_bits_Mul64 [.int .u64 1, .int .u64 0] { val := fun _ : Unit => .tuple #[.int .u64 0, .int .u64 0] } := by
 refine meets_intro F.math_bits_Mul64_f rfl (Nat.le_of_ble_eq_true rfl) fun w0 => ?_
 refine hc_seq ?_
 refine hc_region ?_
 refine r_assign rfl rfl ?_
 refine r_assign rfl rfl ?_
 refine hl_nil ?_
 refine then_n ?_
 refine hc_seq ?_
 refine hc_region ?_
 refine r_move rfl rfl ?_
 refine r_bin _ rfl rfl rfl (fun _ => rfl) (fun _ => rfl) ?_
 refine r_assign rfl rfl ?_
 refine hl_nil ?_
 refine then_n ?_
 refine hc_seq ?_
 refine hc_region ?_
 refine r_move rfl rfl ?_
 refine r_bin _ rfl rfl rfl (fun _ => rfl) (fun _ => rfl) ?_
 refine r_assign rfl rfl ?_
 refine hl_nil ?_
 refine then_n ?_
 refine hc_seq ?_
 refine hc_region ?_
 refine r_move rfl rfl ?_
 refine r_bin _ rfl rfl rfl (fun _ => rfl) (fun _ => rfl) ?_
 refine r_assign rfl rfl ?_
 refine hl_nil ?_
 refine then_n ?_
 refine hc_seq ?_
 refine hc_region ?_
 refine r_move rfl rfl ?_
 refine r_bin _ rfl rfl rfl (fun _ => rfl) (fun _ => rfl) ?_
 refine r_assign rfl rfl ?_
 refine hl_nil ?_
 refine then_n ?_
 refine hc_seq ?_
 refine hc_region ?_
 refine r_move rfl rfl ?_
 refine r_move rfl rfl ?_
 refine r_bin _ rfl rfl rfl (fun _ => rfl) (fun _ => rfl) ?_
 refine r_assign rfl rfl ?_
 refine hl_nil ?_
 refine then_n ?_
 refine hc_seq ?_
 refine hc_region ?_
 refine r_move rfl rfl ?_
 refine r_move rfl rfl ?_
 refine r_bin _ rfl rfl rfl (fun _ => rfl) (fun _ => rfl) ?_
 refine r_move rfl rfl ?_
 refine r_bin _ rfl rfl rfl (fun _ => rfl) (fun _ => rfl) ?_
 refine r_bin _ rfl rfl rfl (fun _ => rfl) (fun _ => rfl) ?_
 refine r_assign rfl rfl ?_
 refine hl_nil ?_
 refine then_n ?_
 refine hc_seq ?_
 refine hc_region ?_
 refine r_move rfl rfl ?_
 refine r_bin _ rfl rfl rfl (fun _ => rfl) (fun _ => rfl) ?_
 refine r_assign rfl rfl ?_
 refine hl_nil ?_
 refine then_n ?_
 refine hc_seq ?_
 refine hc_region ?_
 refine r_move rfl rfl ?_
 refine r_bin _ rfl rfl rfl (fun _ => rfl) (fun _ => rfl) ?_
 refine r_assign rfl rfl ?_
 refine hl_nil ?_
 refine then_n ?_
 refine hc_seq ?_
 refine hc_region ?_
 refine r_move rfl rfl ?_
 refine r_move rfl rfl ?_
 refine r_move rfl rfl ?_
 refine r_bin _ rfl rfl rfl (fun _ => rfl) (fun _ => rfl) ?_
 refine r_bin _ rfl rfl rfl (fun _ => rfl) (fun _ => rfl) ?_
 refine r_assign rfl rfl ?_
 refine hl_nil ?_
 refine then_n ?_
 refine hc_seq ?_
 refine hc_region ?_
 refine r_move rfl rfl ?_
 refine r_move rfl rfl ?_
 refine r_bin _ rfl rfl rfl (fun _ => rfl) (fun _ => rfl) ?_
 refine r_move rfl rfl ?_
 refine r_bin _ rfl rfl rfl (fun _ => rfl) (fun _ => rfl) ?_
 refine r_move rfl rfl ?_
 refine r_bin _ rfl rfl rfl (fun _ => rfl) (fun _ => rfl) ?_
 refine r_bin _ rfl rfl rfl (fun _ => rfl) (fun _ => rfl) ?_
 refine r_assign rfl rfl ?_
 refine hl_nil ?_
 refine then_n ?_
 refine hc_seq ?_
 refine hc_region ?_
 refine r_move rfl rfl ?_
 refine r_move rfl rfl ?_
 refine r_bin _ rfl rfl rfl (fun _ => rfl) (fun _ => rfl) ?_
 refine r_assign rfl rfl ?_
 refine hl_nil ?_
 refine then_n ?_
 refine hc_ret ?_
 exact ret2 () rfl rfl rfl rfl rfl trivial (List.nil_sublist _) trivial

theorem math_bits_Mul64_m1 : Meets Try.prog F.math_bits_Mul64 [.int .u64 1, .int .u64 1] { val := fun _ : Unit => .tuple #[.int .u64 0, .int .u64 1] } := by
 refine meets_intro F.math_bits_Mul64_f rfl (Nat.le_of_ble_eq_true rfl) fun w0 => ?_
 refine hc_seq ?_
 refine hc_region ?_
 refine r_assign rfl rfl ?_
 refine r_assign rfl rfl ?_
 refine hl_nil ?_
 refine then_n ?_
 refine hc_seq ?_
 refine hc_region ?_
 refine r_move rfl rfl ?_
 refine r_bin _ rfl rfl rfl (fun _ => rfl) (fun _ => rfl) ?_
 refine r_assign rfl rfl ?_
 refine hl_nil ?_
 refine then_n ?_
 refine hc_seq ?_
 refine hc_region ?_
 refine r_move rfl rfl ?_
 refine r_bin _ rfl rfl rfl (fun _ => rfl) (fun _ => rfl) ?_
 refine r_assign rfl rfl ?_
 refine hl_nil ?_
 refine then_n ?_
 refine hc_seq ?_
 refine hc_region ?_
 refine r_move rfl rfl ?_
 refine r_bin _ rfl rfl rfl (fun _ => rfl) (fun _ => rfl) ?_
 refine r_assign rfl rfl ?_
 refine hl_nil ?_
 refine then_n ?_
 refine hc_seq ?_
 refine hc_region ?_
 refine r_move rfl rfl ?_
 refine r_bin _ rfl rfl rfl (fun _ => rfl) (fun _ => rfl) ?_
 refine r_assign rfl rfl ?_
 refine hl_nil ?_
 refine then_n ?_
 refine hc_seq ?_
 refine hc_region ?_
 refine r_move rfl rfl ?_
 refine r_move rfl rfl ?_
 refine r_bin _ rfl rfl rfl (fun _ => rfl) (fun _ => rfl) ?_
 refine r_assign rfl rfl ?_
 refine hl_nil ?_
 refine then_n ?_
 refine hc_seq ?_
 refine hc_region ?_
 refine r_move rfl rfl ?_
 refine r_move rfl rfl ?_
 refine r_bin _ rfl rfl rfl (fun _ => rfl) (fun _ => rfl) ?_
 refine r_move rfl rfl ?_
 refine r_bin _ rfl rfl rfl (fun _ => rfl) (fun _ => rfl) ?_
 refine r_bin _ rfl rfl rfl (fun _ => rfl) (fun _ => rfl) ?_
 refine r_assign rfl rfl ?_
 refine hl_nil ?_
 refine then_n ?_
 refine hc_seq ?_
 refine hc_region ?_
 refine r_move rfl rfl ?_
 refine r_bin _ rfl rfl rfl (fun _ => rfl) (fun _ => rfl) ?_
 refine r_assign rfl rfl ?_
 refine hl_nil ?_
 refine then_n ?_
 refine hc_seq ?_
 refine hc_region ?_
 refine r_move rfl rfl ?_
 refine r_bin _ rfl rfl rfl (fun _ => rfl) (fun _ => rfl) ?_
 refine r_assign rfl rfl ?_
 refine hl_nil ?_
 refine then_n ?_
 refine hc_seq ?_
 refine hc_region ?_
 refine r_move rfl rfl ?_
 refine r_move rfl rfl ?_
 refine r_move rfl rfl ?_
 refine r_bin _ rfl rfl rfl (fun _ => rfl) (fun _ => rfl) ?_
 refine r_bin _ rfl rfl rfl (fun _ => rfl) (fun _ => rfl) ?_
 refine r_assign rfl rfl ?_
 refine hl_nil ?_
 refine then_n ?_
 refine hc_seq ?_
 refine hc_region ?_
 refine r_move rfl rfl ?_
 refine r_move rfl rfl ?_
 refine r_bin _ rfl rfl rfl (fun _ => rfl) (fun _ => rfl) ?_
 refine r_move rfl rfl ?_
 refine r_bin _ rfl rfl rfl (fun _ => rfl) (fun _ => rfl) ?_
 refine r_move rfl rfl ?_
 refine r_bin _ rfl rfl rfl (fun _ => rfl) (fun _ => rfl) ?_
 refine r_bin _ rfl rfl rfl (fun _ => rfl) (fun _ => rfl) ?_
 refine r_assign rfl rfl ?_
 refine hl_nil ?_
 refine then_n ?_
 refine hc_seq ?_
 refine hc_region ?_
 refine r_move rfl rfl ?_
 refine r_move rfl rfl ?_
 refine r_bin _ rfl rfl rfl (fun _ => rfl) (fun _ => rfl) ?_
 refine r_assign rfl rfl ?_
 refine hl_nil ?_
 refine then_n ?_
 refine hc_ret ?_
 exact ret2 () rfl rfl rfl rfl rfl trivial (List.nil_sublist _) trivial

theorem math_bits_Mul64_m2 : Meets Try.prog F.math_bits_Mul64 [.int .u64 1, .int .u64 2] { val := fun _ : Unit => .tuple #[.int .u64 0, .int .u64 2] } := by
 refine meets_intro F.math_bits_Mul64_f rfl (Nat.le_of_ble_eq_true rfl) fun w0 => ?_
 refine hc_seq ?_
 refine hc_region ?_
 refine r_assign rfl rfl ?_
 refine r_assign rfl rfl ?_
 refine hl_nil ?_
 refine then_n ?_
 refine hc_seq ?_
 refine hc_region ?_
 refine r_move rfl rfl ?_
 refine r_bin _ rfl rfl rfl (fun _ => rfl) (fun _ => rfl) ?_
 refine r_assign rfl rfl ?_
 refine hl_nil ?_
 refine then_n ?_
 refine hc_seq ?_
 refine hc_region ?_
 refine r_move rfl rfl ?_
 refine r_bin _ rfl rfl rfl (fun _ => rfl) (fun _ => rfl) ?_
 refine r_assign rfl rfl ?_
 refine hl_nil ?_
 refine then_n ?_
 refine hc_seq ?_
 refine hc_region ?_
 refine r_move rfl rfl ?_
 refine r_bin _ rfl rfl rfl (fun _ => rfl) (fun _ => rfl) ?_
 refine r_assign rfl rfl ?_
 refine hl_nil ?_
 refine then_n ?_
 refine hc_seq ?_
 refine hc_region ?_
 refine r_move rfl rfl ?_
 refine r_bin _ rfl rfl rfl (fun _ => rfl) (fun _ => rfl) ?_
 refine r_assign rfl rfl ?_
 refine hl_nil ?_
 refine then_n ?_
 refine hc_seq ?_
 refine hc_region ?_
 refine r_move rfl rfl ?_
 refine r_move rfl rfl ?_
 refine r_bin _ rfl rfl rfl (fun _ => rfl) (fun _ => rfl) ?_
 refine r_assign rfl rfl ?_
 refine hl_nil ?_
 refine then_n ?_
 refine hc_seq ?_
 refine hc_region ?_
 refine r_move rfl rfl ?_
 refine r_move rfl rfl ?_
 refine r_bin _ rfl rfl rfl (fun _ => rfl) (fun _ => rfl) ?_
 refine r_move rfl rfl ?_
 refine r_bin _ rfl rfl rfl (fun _ => rfl) (fun _ => rfl) ?_
 refine r_bin _ rfl rfl rfl (fun _ => rfl) (fun _ => rfl) ?_
 refine r_assign rfl rfl ?_
 refine hl_nil ?_
 refine then_n ?_
 refine hc_seq ?_
 refine hc_region ?_
 refine r_move rfl rfl ?_
 refine r_bin _ rfl rfl rfl (fun _ => rfl) (fun _ => rfl) ?_
 refine r_assign rfl rfl ?_
 refine hl_nil ?_
 refine then_n ?_
 refine hc_seq ?_
 refine hc_region ?_
 refine r_move rfl rfl ?_
 refine r_bin _ rfl rfl rfl (fun _ => rfl) (fun _ => rfl) ?_
 refine r_assign rfl rfl ?_
 refine hl_nil ?_
 refine then_n ?_
 refine hc_seq ?_
 refine hc_region ?_
 refine r_move rfl rfl ?_
 refine r_move rfl rfl ?_
 refine r_move rfl rfl ?_
 refine r_bin _ rfl rfl rfl (fun _ => rfl) (fun _ => rfl) ?_
 refine r_bin _ rfl rfl rfl (fun _ => rfl) (fun _ => rfl) ?_
 refine r_assign rfl rfl ?_
 refine hl_nil ?_
 refine then_n ?_
 refine hc_seq ?_
 refine hc_region ?_
 refine r_move rfl rfl ?_
 refine r_move rfl rfl ?_
 refine r_bin _ rfl rfl rfl (fun _ => rfl) (fun _ => rfl) ?_
 refine r_move rfl rfl ?_
 refine r_bin _ rfl rfl rfl (fun _ => rfl) (fun _ => rfl) ?_
 refine r_move rfl rfl ?_
 refine r_bin _ rfl rfl rfl (fun _ => rfl) (fun _ => rfl) ?_
 refine r_bin _ rfl rfl rfl (fun _ => rfl) (fun _ => rfl) ?_
 refine r_assign rfl rfl ?_
 refine hl_nil ?_
 refine then_n ?_
 refine hc_seq ?_
 refine hc_region ?_
 refine r_move rfl rfl ?_
 refine r_move rfl rfl ?_
 refine r_bin _ rfl rfl rfl (fun _ => rfl) (fun _ => rfl) ?_
 refine r_assign rfl rfl ?_
 refine hl_nil ?_
 refine then_n ?_
 refine hc_ret ?_
 exact ret2 () rfl rfl rfl rfl rfl trivial (List.nil_sublist _) trivial

theorem math_bits_Mul64_m3 : Meets Try.prog F.math_bits_Mul64 [.int .u64 1, .int .u64 3] { val := fun _ : Unit => .tuple #[.int .u64 0, .int .u64 3] } := by
 refine meets_intro F.math_bits_Mul64_f rfl (Nat.le_of_ble_eq_true rfl) fun w0 => ?_
 refine hc_seq ?_
 refine hc_region ?_
 refine r_assign rfl rfl ?_
 refine r_assign rfl rfl ?_
 refine hl_nil ?_
 refine then_n ?_
 refine hc_seq ?_
 refine hc_region ?_
 refine r_move rfl rfl ?_
 refine r_bin _ rfl rfl rfl (fun _ => rfl) (fun _ => rfl) ?_
 refine r_assign rfl rfl ?_
 refine hl_nil ?_
 refine then_n ?_
 refine hc_seq ?_
 refine hc_region ?_
 refine r_move rfl rfl ?_
 refine r_bin _ rfl rfl rfl (fun _ => rfl) (fun _ => rfl) ?_
 refine r_assign rfl rfl ?_
 refine hl_nil ?_
 refine then_n ?_
 refine hc_seq ?_
 refine hc_region ?_
 refine r_move rfl rfl ?_
 refine r_bin _ rfl rfl rfl (fun _ => rfl) (fun _ => rfl) ?_
 refine r_assign rfl rfl ?_
 refine hl_nil ?_
 refine then_n ?_
 refine hc_seq ?_
 refine hc_region ?_
 refine r_move rfl rfl ?_
 refine r_bin _ rfl rfl rfl (fun _ => rfl) (fun _ => rfl) ?_
 refine r_assign rfl rfl ?_
 refine hl_nil ?_
 refine then_n ?_
 refine hc_seq ?_
 refine hc_region ?_
 refine r_move rfl rfl ?_
 refine r_move rfl rfl ?_
 refine r_bin _ rfl rfl rfl (fun _ => rfl) (fun _ => rfl) ?_
 refine r_assign rfl rfl ?_
 refine hl_nil ?_
 refine then_n ?_
 refine hc_seq ?_
 refine hc_region ?_
 refine r_move rfl rfl ?_
 refine r_move rfl rfl ?_
 refine r_bin _ rfl rfl rfl (fun _ => rfl) (fun _ => rfl) ?_
 refine r_move rfl rfl ?_
 refine r_bin _ rfl rfl rfl (fun _ => rfl) (fun _ => rfl) ?_
 refine r_bin _ rfl rfl rfl (fun _ => rfl) (fun _ => rfl) ?_
 refine r_assign rfl rfl ?_
 refine hl_nil ?_
 refine then_n ?_
 refine hc_seq ?_
 refine hc_region ?_
 refine r_move rfl rfl ?_
 refine r_bin _ rfl rfl rfl (fun _ => rfl) (fun _ => rfl) ?_
 refine r_assign rfl rfl ?_
 refine hl_nil ?_
 refine then_n ?_
 refine hc_seq ?_
 refine hc_region ?_
 refine r_move rfl rfl ?_
 refine r_bin _ rfl rfl rfl (fun _ => rfl) (fun _ => rfl) ?_
 refine r_assign rfl rfl ?_
 refine hl_nil ?_
 refine then_n ?_
 refine hc_seq ?_
 refine hc_region ?_
 refine r_move rfl rfl ?_
 refine r_move rfl rfl ?_
 refine r_move rfl rfl ?_
 refine r_bin _ rfl rfl rfl (fun _ => rfl) (fun _ => rfl) ?_
 refine r_bin _ rfl rfl rfl (fun _ => rfl) (fun _ => rfl) ?_
 refine r_assign rfl rfl ?_
 refine hl_nil ?_
 refine then_n ?_
 refine hc_seq ?_
 refine hc_region ?_
 refine r_move rfl rfl ?_
 refine r_move rfl rfl ?_
 refine r_bin _ rfl rfl rfl (fun _ => rfl) (fun _ => rfl) ?_
 refine r_move rfl rfl ?_
 refine r_bin _ rfl rfl rfl (fun _ => rfl) (fun _ => rfl) ?_
 refine r_move rfl rfl ?_
 refine r_bin _ rfl rfl rfl (fun _ => rfl) (fun _ => rfl) ?_
 refine r_bin _ rfl rfl rfl (fun _ => rfl) (fun _ => rfl) ?_
 refine r_assign rfl rfl ?_
 refine hl_nil ?_
 refine then_n ?_
 refine hc_seq ?_
 refine hc_region ?_
 refine r_move rfl rfl ?_
 refine r_move rfl rfl ?_
 refine r_bin _ rfl rfl rfl (fun _ => rfl) (fun _ => rfl) ?_
 refine r_assign rfl rfl ?_
 refine hl_nil ?_
 refine then_n ?_
 refine hc_ret ?_
 exact ret2 () rfl rfl rfl rfl rfl trivial (List.nil_sublist _) trivial

theorem math_bits_Mul64_m4 : Meets Try.prog F.math_bits_Mul64 [.int .u64 1, .int .u64 4] { val := fun _ : Unit => .tuple #[.int .u64 0, .int .u64 4] } := by
 refine meets_intro F.math_bits_Mul64_f rfl (Nat.le_of_ble_eq_true rfl) fun w0 => ?_
 refine hc_seq ?_
 refine hc_region ?_
 refine r_assign rfl rfl ?_
 refine r_assign rfl rfl ?_
 refine hl_nil ?_
 refine then_n ?_
 refine hc_seq ?_
 refine hc_region ?_
 refine r_move rfl rfl ?_
 refine r_bin _ rfl rfl rfl (fun _ => rfl) (fun _ => rfl) ?_
 refine r_assign rfl rfl ?_
 refine hl_nil ?_
 refine then_n ?_
 refine hc_seq ?_
 refine hc_region ?_
 refine r_move rfl rfl ?_
 refine r_bin _ rfl rfl rfl (fun _ => rfl) (fun _ => rfl) ?_
 refine r_assign rfl rfl ?_
 refine hl_nil ?_
 refine then_n ?_
 refine hc_seq ?_
 refine hc_region ?_
 refine r_move rfl rfl ?_
 refine r_bin _ rfl rfl rfl (fun _ => rfl) (fun _ => rfl) ?_
 refine r_assign rfl rfl ?_
 refine hl_nil ?_
 refine then_n ?_
 refine hc_seq ?_
 refine hc_region ?_
 refine r_move rfl rfl ?_
 refine r_bin _ rfl rfl rfl (fun _ => rfl) (fun _ => rfl) ?_
 refine r_assign rfl rfl ?_
 refine hl_nil ?_
 refine then_n ?_
 refine hc_seq ?_
 refine hc_region ?_
 refine r_move rfl rfl ?_
 refine r_move rfl rfl ?_
 refine r_bin _ rfl rfl rfl (fun _ => rfl) (fun _ => rfl) ?_
 refine r_assign rfl rfl ?_
 refine hl_nil ?_
 refine then_n ?_
 refine hc_seq ?_
 refine hc_region ?_
 refine r_move rfl rfl ?_
 refine r_move rfl rfl ?_
 refine r_bin _ rfl rfl rfl (fun _ => rfl) (fun _ => rfl) ?_
 refine r_move rfl rfl ?_
 refine r_bin _ rfl rfl rfl (fun _ => rfl) (fun _ => rfl) ?_
 refine r_bin _ rfl rfl rfl (fun _ => rfl) (fun _ => rfl) ?_
 refine r_assign rfl rfl ?_
 refine hl_nil ?_
 refine then_n ?_
 refine hc_seq ?_
 refine hc_region ?_
 refine r_move rfl rfl ?_
 refine r_bin _ rfl rfl rfl (fun _ => rfl) (fun _ => rfl) ?_
 refine r_assign rfl rfl ?_
 refine hl_nil ?_
 refine then_n ?_
 refine hc_seq ?_
 refine hc_region ?_
 refine r_move rfl rfl ?_
 refine r_bin _ rfl rfl rfl (fun _ => rfl) (fun _ => rfl) ?_
 refine r_assign rfl rfl ?_
 refine hl_nil ?_
 refine then_n ?_
 refine hc_seq ?_
 refine hc_region ?_
 refine r_move rfl rfl ?_
 refine r_move rfl rfl ?_
 refine r_move rfl rfl ?_
 refine r_bin _ rfl rfl rfl (fun _ => rfl) (fun _ => rfl) ?_
 refine r_bin _ rfl rfl rfl (fun _ => rfl) (fun _ => rfl) ?_
 refine r_assign rfl rfl ?_
 refine hl_nil ?_
 refine then_n ?_
 refine hc_seq ?_
 refine hc_region ?_
 refine r_move rfl rfl ?_
 refine r_move rfl rfl ?_
 refine r_bin _ rfl rfl rfl (fun _ => rfl) (fun _ => rfl) ?_
 refine r_move rfl rfl ?_
 refine r_bin _ rfl rfl rfl (fun _ => rfl) (fun _ => rfl) ?_
 refine r_move rfl rfl ?_
 refine r_bin _ rfl rfl rfl (fun _ => rfl) (fun _ => rfl) ?_
 refine r_bin _ rfl rfl rfl (fun _ => rfl) (fun _ => rfl) ?_
 refine r_assign rfl rfl ?_
 refine hl_nil ?_
 refine then_n ?_
 refine hc_seq ?_
 refine hc_region ?_
 refine r_move rfl rfl ?_
 refine r_move rfl rfl ?_
 refine r_bin _ rfl rfl rfl (fun _ => rfl) (fun _ => rfl) ?_
 refine r_assign rfl rfl ?_
 refine hl_nil ?_
 refine then_n ?_
 refine hc_ret ?_
 exact ret2 () rfl rfl rfl rfl rfl trivial (List.nil_sublist _) trivial

theorem math_bits_Mul64_m5 : Meets Try.prog F.math_bits_Mul64 [.int .u64 1, .int .u64 5] { val := fun _ : Unit => .tuple #[.int .u64 0, .int .u64 5] } := by
 refine meets_intro F.math_bits_Mul64_f rfl (Nat.le_of_ble_eq_true rfl) fun w0 => ?_
 refine hc_seq ?_
 refine hc_region ?_
 refine r_assign rfl rfl ?_
 refine r_assign rfl rfl ?_
 refine hl_nil ?_
 refine then_n ?_
 refine hc_seq ?_
 refine hc_region ?_
 refine r_move rfl rfl ?_
 refine r_bin _ rfl rfl rfl (fun _ => rfl) (fun _ => rfl) ?_
 refine r_assign rfl rfl ?_
 refine hl_nil ?_
 refine then_n ?_
 refine hc_seq ?_
 refine hc_region ?_
 refine r_move rfl rfl ?_
 refine r_bin _ rfl rfl rfl (fun _ => rfl) (fun _ => rfl) ?_
 refine r_assign rfl rfl ?_
 refine hl_nil ?_
 refine then_n ?_
 refine hc_seq ?_
 refine hc_region ?_
 refine r_move rfl rfl ?_
 refine r_bin _ rfl rfl rfl (fun _ => rfl) (fun _ => rfl) ?_
 refine r_assign rfl rfl ?_
 refine hl_nil ?_
 refine then_n ?_
 refine hc_seq ?_
 refine hc_region ?_
 refine r_move rfl rfl ?_
 refine r_bin _ rfl rfl rfl (fun _ => rfl) (fun _ => rfl) ?_
 refine r_assign rfl rfl ?_
 refine hl_nil ?_
 refine then_n ?_
 refine hc_seq ?_
 refine hc_region ?_
 refine r_move rfl rfl ?_
 refine r_move rfl rfl ?_
 refine r_bin _ rfl rfl rfl (fun _ => rfl) (fun _ => rfl) ?_
 refine r_assign rfl rfl ?_
 refine hl_nil ?_
 refine then_n ?_
 refine hc_seq ?_
 refine hc_region ?_
 refine r_move rfl rfl ?_
 refine r_move rfl rfl ?_
 refine r_bin _ rfl rfl rfl (fun _ => rfl) (fun _ => rfl) ?_
 refine r_move rfl rfl ?_
 refine r_bin _ rfl rfl rfl (fun _ => rfl) (fun _ => rfl) ?_
 refine r_bin _ rfl rfl rfl (fun _ => rfl) (fun _ => rfl) ?_
 refine r_assign rfl rfl ?_
 refine hl_nil ?_
 refine then_n ?_
 refine hc_seq ?_
 refine hc_region ?_
 refine r_move rfl rfl ?_
 refine r_bin _ rfl rfl rfl (fun _ => rfl) (fun _ => rfl) ?_
 refine r_assign rfl rfl ?_
 refine hl_nil ?_
 refine then_n ?_
 refine hc_seq ?_
 refine hc_region ?_
 refine r_move rfl rfl ?_
 refine r_bin _ rfl rfl rfl (fun _ => rfl) (fun _ => rfl) ?_
 refine r_assign rfl rfl ?_
 refine hl_nil ?_
 refine then_n ?_
 refine hc_seq ?_
 refine hc_region ?_
 refine r_move rfl rfl ?_
 refine r_move rfl rfl ?_
 refine r_move rfl rfl ?_
 refine r_bin _ rfl rfl rfl (fun _ => rfl) (fun _ => rfl) ?_
 refine r_bin _ rfl rfl rfl (fun _ => rfl) (fun _ => rfl) ?_
 refine r_assign rfl rfl ?_
 refine hl_nil ?_
 refine then_n ?_
 refine hc_seq ?_
 refine hc_region ?_
 refine r_move rfl rfl ?_
 refine r_move rfl rfl ?_
 refine r_bin _ rfl rfl rfl (fun _ => rfl) (fun _ => rfl) ?_
 refine r_move rfl rfl ?_
 refine r_bin _ rfl rfl rfl (fun _ => rfl) (fun _ => rfl) ?_
 refine r_move rfl rfl ?_
 refine r_bin _ rfl rfl rfl (fun _ => rfl) (fun _ => rfl) ?_
 refine r_bin _ rfl rfl rfl (fun _ => rfl) (fun _ => rfl) ?_
 refine r_assign rfl rfl ?_
 refine hl_nil ?_
 refine then_n ?_
 refine hc_seq ?_
 refine hc_region ?_
 refine r_move rfl rfl ?_
 refine r_move rfl rfl ?_
 refine r_bin _ rfl rfl rfl (fun _ => rfl) (fun _ => rfl) ?_
 refine r_assign rfl rfl ?_
 refine hl_nil ?_
 refine then_n ?_
 refine hc_ret ?_
 exact ret2 () rfl rfl rfl rfl rfl trivial (List.nil_sublist _) trivial

theorem math_bits_Mul64_m6 : Meets Try.prog F.math_bits_Mul64 [.int .u64 1, .int .u64 6] { val := fun _ : Unit => .tuple #[.int .u64 0, .int .u64 6] } := by
 refine meets_intro F.math_bits_Mul64_f rfl (Nat.le_of_ble_eq_true rfl) fun w0 => ?_
 refine hc_seq ?_
 refine hc_region ?_
 refine r_assign rfl rfl ?_
 refine r_assign rfl rfl ?_
 refine hl_nil ?_
 refine then_n ?_
 refine hc_seq ?_
 refine hc_region ?_
 refine r_move rfl rfl ?_
 refine r_bin _ rfl rfl rfl (fun _ => rfl) (fun _ => rfl) ?_
 refine r_assign rfl rfl ?_
 refine hl_nil ?_
 refine then_n ?_
 refine hc_seq ?_
 refine hc_region ?_
 refine r_move rfl rfl ?_
 refine r_bin _ rfl rfl rfl (fun _ => rfl) (fun _ => rfl) ?_
 refine r_assign rfl rfl ?_
 refine hl_nil ?_
 refine then_n ?_
 refine hc_seq ?_
 refine hc_region ?_
 refine r_move rfl rfl ?_
 refine r_bin _ rfl rfl rfl (fun _ => rfl) (fun _ => rfl) ?_
 refine r_assign rfl rfl ?_
 refine hl_nil ?_
 refine then_n ?_
 refine hc_seq ?_
 refine hc_region ?_
 refine r_move rfl rfl ?_
 refine r_bin _ rfl rfl rfl (fun _ => rfl) (fun _ => rfl) ?_
 refine r_assign rfl rfl ?_
 refine hl_nil ?_
 refine then_n ?_
 refine hc_seq ?_
 refine hc_region ?_
 refine r_move rfl rfl ?_
 refine r_move rfl rfl ?_
 refine r_bin _ rfl rfl rfl (fun _ => rfl) (fun _ => rfl) ?_
 refine r_assign rfl rfl ?_
 refine hl_nil ?_
 refine then_n ?_
 refine hc_seq ?_
 refine hc_region ?_
 refine r_move rfl rfl ?_
 refine r_move rfl rfl ?_
 refine r_bin _ rfl rfl rfl (fun _ => rfl) (fun _ => rfl) ?_
 refine r_move rfl rfl ?_
 refine r_bin _ rfl rfl rfl (fun _ => rfl) (fun _ => rfl) ?_
 refine r_bin _ rfl rfl rfl (fun _ => rfl) (fun _ => rfl) ?_
 refine r_assign rfl rfl ?_
 refine hl_nil ?_
 refine then_n ?_
 refine hc_seq ?_
 refine hc_region ?_
 refine r_move rfl rfl ?_
 refine r_bin _ rfl rfl rfl (fun _ => rfl) (fun _ => rfl) ?_
 refine r_assign rfl rfl ?_
 refine hl_nil ?_
 refine then_n ?_
 refine hc_seq ?_
 refine hc_region ?_
 refine r_move rfl rfl ?_
 refine r_bin _ rfl rfl rfl (fun _ => rfl) (fun _ => rfl) ?_
 refine r_assign rfl rfl ?_
 refine hl_nil ?_
 refine then_n ?_
 refine hc_seq ?_
 refine hc_region ?_
 refine r_move rfl rfl ?_
 refine r_move rfl rfl ?_
 refine r_move rfl rfl ?_
 refine r_bin _ rfl rfl rfl (fun _ => rfl) (fun _ => rfl) ?_
 refine r_bin _ rfl rfl rfl (fun _ => rfl) (fun _ => rfl) ?_
 refine r_assign rfl rfl ?_
 refine hl_nil ?_
 refine then_n ?_
 refine hc_seq ?_
 refine hc_region ?_
 refine r_move rfl rfl ?_
 refine r_move rfl rfl ?_
 refine r_bin _ rfl rfl rfl (fun _ => rfl) (fun _ => rfl) ?_
 refine r_move rfl rfl ?_
 refine r_bin _ rfl rfl rfl (fun _ => rfl) (fun _ => rfl) ?_
 refine r_move rfl rfl ?_
 refine r_bin _ rfl rfl rfl (fun _ => rfl) (fun _ => rfl) ?_
 refine r_bin _ rfl rfl rfl (fun _ => rfl) (fun _ => rfl) ?_
 refine r_assign rfl rfl ?_
 refine hl_nil ?_
 refine then_n ?_
 refine hc_seq ?_
 refine hc_region ?_
 refine r_move rfl rfl ?_
 refine r_move rfl rfl ?_
 refine r_bin _ rfl rfl rfl (fun _ => rfl) (fun _ => rfl) ?_
 refine r_assign rfl rfl ?_
 refine hl_nil ?_
 refine then_n ?_
 refine hc_ret ?_
 exact ret2 () rfl rfl rfl rfl rfl trivial (List.nil_sublist _) trivial

theorem math_bits_Mul64_meets (n : Nat) (hn : n ≤ 6) : Meets Try.prog F.math_bits_Mul64 [.int .u64 1, .int .u64 (n : Int)] { val := fun _ : Unit => .tuple #[.int .u64 0, .int .u64 (n : Int)] } := by
  match n, hn with
  | 0, _ => exact math_bits_Mul64_m0
  | 1, _ => exact math_bits_Mul64_m1
  | 2, _ => exact math_bits_Mul64_m2
  | 3, _ => exact math_bits_Mul64_m3
  | 4, _ => exact math_bits_Mul64_m4
  | 5, _ => exact math_bits_Mul64_m5
  | 6, _ => exact math_bits_Mul64_m6
theorem wrapu {n : Nat} (h : n ≤ 1000000) : IntKind.u64.wrap (n : Int) = n := IntWalk.u64_in _ (by omega)
theorem wrapi {n : Nat} (h : n ≤ 1000000) : IntKind.i64.wrap (n : Int) = n := IntWalk.i64_in _ (by omega)
theorem rep_take {m k : Nat} {v : Value} {l : List Value} (h : l.take k = List.replicate k v) (hm : k + m ≤ l.length) : (l.take k ++ List.replicate m v ++ l.drop (k + m)).take (k + m) = List.replicate (k + m) v := by
  rw [h, List.replicate_append_replicate]
  exact List.take_left' (by simp)
theorem rep_get {k m : Nat} {v : Value} {cu : Array Value} (h : cu.toList.take k = List.replicate k v) (hm : m ≤ k) (i : Nat) (u : Value) (hu : (List.replicate m v)[i]? = some u) : cu[0 + i]? = some u := by
  rw [List.getElem?_replicate] at hu
  split at hu
  · rename_i hi
    cases hu
    have h2 : (cu.toList.take k)[i]? = some v := by rw [h, List.getElem?_replicate, if_pos (by omega)]
    rw [List.getElem?_take, if_pos (by omega)] at h2
    rw [Nat.zero_add]
    simpa using h2
  · cases hu
theorem cut_k {g n k : Nat} (h : k < n) : cutA (some ⟨g, 0, none⟩) n k 1 = some ⟨g, k, none⟩ := by
  rw [cutA, if_neg (by omega)]
  simp [Addr.add]
  omega
theorem rows_rep (x : Int) : ∀ n : Nat, rows (List.replicate n x) = List.replicate n (int x)
  | 0 => rfl
  | n + 1 => by
    rw [List.replicate_succ, List.replicate_succ, ← rows_rep x n]
    rfl

theorem math_bits_Mul_meets (n : Nat) (hn : n ≤ 6) : Meets Try.prog F.math_bits_Mul [.int .u64 1, .int .u64 (n : Int)] { val := fun _ : Unit => .tuple #[.int .u64 0, .int .u64 (n : Int)] } := by
 refine meets_intro F.math_bits_Mul_f rfl (Nat.le_of_ble_eq_true rfl) fun w0 => ?_
 refine hc_seq ?_
 refine hc_region ?_
 refine r_assign rfl rfl ?_
 refine r_assign rfl rfl ?_
 refine hl_nil ?_
 refine then_n ?_
 refine hc_seq ?_
 refine c_f rfl rfl ?_
 refine hc_skip ?_
 refine then_n ?_
 refine hc_seq ?_
 refine hc_region ?_
 refine r_move rfl rfl ?_
 refine r_move rfl rfl ?_
 refine hl_call F.math_bits_Mul64_cb rfl rfl (math_bits_Mul64_meets n hn) (List.Perm.refl _) trivial fun _ _ => ?_
 refine r_move rfl rfl ?_
 refine r_extract rfl rfl rfl ?_
 refine r_extract rfl rfl rfl ?_
 refine r_assign rfl rfl ?_
 refine r_assign rfl rfl ?_
 refine hl_nil ?_
 refine then_n ?_
 refine hc_seq ?_
 refine hc_region ?_
 refine r_move rfl rfl ?_
 refine r_move rfl rfl ?_
 refine r_assign rfl rfl ?_
 refine r_assign rfl rfl ?_
 refine hl_nil ?_
 refine then_n ?_
 refine hc_ret ?_
 exact ret2 () rfl rfl rfl rfl rfl trivial (List.nil_sublist _) trivial

set_option maxHeartbeats 1000000 in
theorem slices_Repeat_ints_meets {b0 cb : Nat} (x : Int) (n : Nat) (h0 : 0 < n) (hn : n ≤ 6) : Meets Try.prog F.slices_Repeat_ints [.slice (some ⟨b0, 0, none⟩) 1 cb, int n] { LI := [Row (some ⟨b0, 0, none⟩) (rows [x])], val := fun g : Nat => .slice (some ⟨g, 0, none⟩) n n, hpO := fun g => [(g, .cells (rows (List.replicate n x)).toArray T.int (0, 0))] } := by
 refine meets_intro F.slices_Repeat_ints_f rfl (Nat.le_of_ble_eq_true rfl) fun w0 => ?_
 refine hc_seq ?_
 refine hc_region ?_
 refine r_assign rfl rfl ?_
 refine hl_nil ?_
 refine then_n ?_
 refine hc_seq ?_
 refine hc_seq ?_
 refine hc_region ?_
 refine r_move rfl rfl ?_
 refine r_lss rfl rfl rfl ?_
 refine hl_nil ?_
 refine then_n ?_
 first | refine c_dec rfl (fun hb1 => ?_) (fun hb1 => ?_) | refine hc_cond rfl (fun hb1 => ?_) (fun hb1 => ?_)
 ·exact absurd hb1 (by omega)
 ·have hb1' := hb1; try simp at hb1'
  refine hc_skip ?_
  refine then_n ?_
  refine hc_seq ?_
  refine hc_region ?_
  refine r_move rfl rfl ?_
  refine r_len_sl rfl T.u_ints rfl ?_
  refine r_conv 1 rfl T.u_int T.u_uint rfl (wrapu (n := 1) (by decide)) ?_
  refine r_move rfl rfl ?_
  refine r_conv (n : Int) rfl T.u_int T.u_uint rfl (wrapu (by omega)) ?_
  refine hl_call F.math_bits_Mul_cb rfl rfl (math_bits_Mul_meets n hn) (List.Perm.refl _) trivial fun _ _ => ?_
  refine r_move rfl rfl ?_
  refine r_extract rfl rfl rfl ?_
  refine r_extract rfl rfl rfl ?_
  refine r_assign rfl rfl ?_
  refine r_assign rfl rfl ?_
  refine hl_nil ?_
  refine then_n ?_
  refine hc_seq ?_
  refine hc_seq ?_
  refine hc_region ?_
  refine r_move rfl rfl ?_
  refine r_gtr rfl rfl rfl ?_
  refine r_move rfl rfl ?_
  refine g_split rfl rfl ?_ ?_
  ·intro hg1; have hg1' := hg1; try simp at hg1'
   refine g_yes rfl rfl hg1 ?_
   refine r_move rfl rfl ?_
   refine g_yes rfl rfl hg1 ?_
   refine r_gtr rfl rfl rfl ?_
   refine p_f rfl rfl (bf1 hg1) rfl ?_
   refine hl_nil ?_
   refine then_n ?_
   first | refine c_dec rfl (fun hb2 => ?_) (fun hb2 => ?_) | refine hc_cond rfl (fun hb2 => ?_) (fun hb2 => ?_)
   ·exact absurd hb2 (by omega)
   ·have hb2' := hb2; try simp at hb2'
    refine hc_skip ?_
    refine then_n ?_
    refine hc_seq ?_
    refine hc_region ?_
    refine r_move rfl rfl ?_
    refine r_conv (n : Int) rfl T.u_uint T.u_int rfl (wrapi (by omega)) ?_
    refine r_makeN (n := n) T.el_ints rfl rfl rfl rfl rfl (by omega) (by omega) fun gM cur hcs => ?_
    refine r_assign rfl rfl ?_
    refine hl_nil ?_
    refine then_n ?_
    refine hc_seq ?_
    refine hc_region ?_
    refine r_move rfl rfl ?_
    refine r_move rfl rfl ?_
    refine r_copy (cs := [int x]) (off := 0) rfl T.u_ints T.sz_int rfl rfl (List.Perm.refl _) (show 1 = Nat.min 1 n from (Nat.min_eq_left h0).symm) (cells_row (cs := [int x]) (j := 0) (by repeat constructor) (fun i u hu => by rw [Nat.zero_add]; exact hu)) (by simp; omega) (by intro v hv; rw [List.mem_singleton.1 hv]; rfl) ?_
    refine r_assign rfl rfl ?_
    refine hl_nil ?_
    refine then_n ?_
    refine hc_seq ?_
    refine hc_block ?_
    refine hc_loop (β := Nat × Array Value) ⟨fun y => 1 ≤ y.1 ∧ y.1 ≤ n ∧ y.2.size = n ∧ y.2.toList.take y.1 = List.replicate y.1 (int x), fun y => [(7, .slice (some ⟨gM, 0, none⟩) n n), (8, int y.1)], fun y => [(gM, .cells y.2 T.int (0, 0))], fun _ => []⟩ (fun y => n - y.1) (1, _) ⟨Nat.le_refl _, h0, by simp; omega, by simp⟩ ⟨rfl, rfl, trivial⟩ (List.Sublist.refl _) trivial fun y hy => ?_
    obtain ⟨k, cu⟩ := y
    obtain ⟨h1, hk, hcu, ht⟩ := hy
    simp only at h1 hk hcu ht
    refine hc_seq ?_
    refine hc_seq ?_
    refine hc_region ?_
    refine r_move rfl rfl ?_
    refine r_move rfl rfl ?_
    refine r_len_sl rfl T.u_ints rfl ?_
    refine r_lss rfl rfl rfl ?_
    refine hl_nil ?_
    refine then_n ?_
    first | refine c_dec rfl (fun hb3 => ?_) (fun hb3 => ?_) | refine hc_cond rfl (fun hb3 => ?_) (fun hb3 => ?_)
    ·have hb3' := hb3; try simp at hb3'
     have hk2 : k < n := by omega
     obtain ⟨m, hm, hm1, hm2, hm3⟩ : ∃ m, m = Nat.min k (n - k) ∧ 1 ≤ m ∧ m ≤ k ∧ m ≤ n - k := ⟨min k (n - k), rfl, by omega, by omega, by omega⟩
     refine hc_skip ?_
     refine then_n ?_
     refine hc_block ?_
     refine hc_drawW ([(gM, .cells cu T.int (0, 0))]) ([]) (List.Perm.refl _) 8 [7] mixed (by decide) (by decide) (by decide) rfl rfl rfl ?_
     apply hb_ex _ rfl rfl rfl
     ·intro w1
      refine r_move rfl rfl ?_
      refine hl_nil ?_
      exact qe_done rfl
     apply hb_ex _ rfl rfl rfl
     ·intro w1
      refine r_move rfl rfl ?_
      refine hl_nil ?_
      exact qe_done rfl
     apply hb_ex _ rfl rfl rfl
     ·intro w1
      refine r_move rfl rfl ?_
      refine hl_nil ?_
      exact qe_done rfl
     apply hb_ex _ rfl rfl rfl
     ·intro w1
      refine r_slice_lo k rfl T.u_ints T.sz_int rfl rfl rfl (by omega) ?_
      refine hl_nil ?_
      exact qe_done rfl
     apply hb_ex _ rfl rfl rfl
     ·intro w1
      refine r_move rfl rfl ?_
      refine hl_nil ?_
      exact qe_done rfl
     apply hb_ex _ rfl rfl rfl
     ·intro w1
      refine r_move rfl rfl ?_
      refine hl_nil ?_
      exact qe_done rfl
     apply hb_ex _ rfl rfl rfl
     ·intro w1
      refine r_slice_hi k rfl T.u_ints T.sz_int rfl rfl rfl (by omega) ?_
      refine hl_nil ?_
      exact qe_done rfl
     refine hb_wr ⟨Array Value, fun c2 => c2.size = n ∧ c2.toList.take (k + m) = List.replicate (k + m) (int x), fun _ => int (m : Int), fun _ => [], fun c2 => [(gM, Obj.cells c2 T.int (0, 0))]⟩ rfl rfl rfl ?_ ?_
     ·intro w1
      refine r_copy (g := gM) (off := k) (ad := ⟨gM, 0, none⟩) (cs := List.replicate m (int x)) rfl T.u_ints T.sz_int (show ev _ _ = some (.slice (some ⟨gM, k, none⟩) (n - k) (n - k)) from congrArg (fun A => some (Value.slice A (n - k) (n - k))) (cut_k hk2)) rfl (List.Perm.refl _) (by rw [List.length_replicate]; exact hm) (cells_own (List.mem_cons_self ..) (rep_get ht hm2)) (by rw [List.length_replicate]; omega) (by intro v hv; rw [List.eq_of_mem_replicate hv]; rfl) ?_
      refine hl_nil ?_
      exact qw_done _ ⟨by simp; omega, by rw [List.length_replicate]; exact rep_take ht (by simp; omega)⟩ (fun _ => congrArg (fun z : Nat => some (int (z : Int))) List.length_replicate) (.refl _) trivial
     refine hb_nil ⟨rfl, ?_⟩
     intro c2 hc2
     refine r_add _ rfl rfl rfl rfl (by unfold I64; omega) ?_
     refine r_assign rfl rfl ?_
     refine hl_nil ?_
     refine inb_n ?_
     exact again _ (k + m, c2) ⟨by show 1 ≤ k + m; omega, by show k + m ≤ n; omega, hc2.1, hc2.2⟩ (by show n - (k + m) < n - k; omega) ⟨rfl, rfl, trivial⟩ (List.Sublist.refl _) trivial
    ·have hb3' := hb3; try simp at hb3'
     obtain rfl : k = n := by omega
     obtain rfl : cu = (rows (List.replicate k x)).toArray := by
       rw [rows_rep, ← ht, List.take_of_length_le (by simp; omega)]
     refine hc_exit ?_
     refine then_exit ?_
     refine then_exit ?_
     refine inb_hit ?_
     refine then_n ?_
     refine hc_seq ?_
     refine hc_region ?_
     refine r_move rfl rfl ?_
     refine r_assign rfl rfl ?_
     refine hl_nil ?_
     refine then_n ?_
     refine hc_ret ?_
     exact ret1 gM rfl rfl rfl trivial (List.Sublist.refl _) trivial
  ·intro hg1; have hg1' := hg1; try simp at hg1'

end Go.Proofs.Ytlpgheniajdkfaa
