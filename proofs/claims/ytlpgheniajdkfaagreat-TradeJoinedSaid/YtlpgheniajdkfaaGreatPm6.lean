/- Steps, Hidden. -/
import Derived.Test.YtlpgheniajdkfaaGreatPm5
namespace Go.Proofs.YtlpgheniajdkfaaGreat
open Go Go.W
set_option linter.unusedVariables false
set_option linter.unusedSimpArgs false
set_option maxRecDepth 20000
attribute [local irreducible] HL HC HQ HB Row Rows2 Blk Facts

theorem math_bits_Mul64_m0 : Meets Tryz.prog F.math_bits_Mul64 [.int .u64 1, .int .u64 0] { val := fun _ : Unit => .tuple #[.int .u64 0, .int .u64 0] } := by
 refine meets_intro F.math_bits_Mul64_f rfl (Nat.le_of_ble_eq_true rfl) fun w0 => ?_
 refine hc_seq (hc_region (r_assign rfl rfl (r_assign rfl rfl (hl_nil (then_n (hc_seq (hc_region (r_move rfl rfl ?_))))))))
 refine r_bin _ rfl rfl rfl (fun _ => rfl) (fun _ => rfl) ?_
 refine r_assign rfl rfl (hl_nil (then_n (hc_seq (hc_region (r_move rfl rfl ?_)))))
 refine r_bin _ rfl rfl rfl (fun _ => rfl) (fun _ => rfl) ?_
 refine r_assign rfl rfl (hl_nil (then_n (hc_seq (hc_region (r_move rfl rfl ?_)))))
 refine r_bin _ rfl rfl rfl (fun _ => rfl) (fun _ => rfl) ?_
 refine r_assign rfl rfl (hl_nil (then_n (hc_seq (hc_region (r_move rfl rfl ?_)))))
 refine r_bin _ rfl rfl rfl (fun _ => rfl) (fun _ => rfl) ?_
 refine r_assign rfl rfl (hl_nil (then_n (hc_seq (hc_region (r_move rfl rfl (r_move rfl rfl ?_))))))
 refine r_bin _ rfl rfl rfl (fun _ => rfl) (fun _ => rfl) ?_
 refine r_assign rfl rfl (hl_nil (then_n (hc_seq (hc_region (r_move rfl rfl (r_move rfl rfl ?_))))))
 refine r_bin _ rfl rfl rfl (fun _ => rfl) (fun _ => rfl) ?_
 refine r_move rfl rfl ?_
 refine r_bin _ rfl rfl rfl (fun _ => rfl) (fun _ => rfl) ?_
 refine r_bin _ rfl rfl rfl (fun _ => rfl) (fun _ => rfl) ?_
 refine r_assign rfl rfl (hl_nil (then_n (hc_seq (hc_region (r_move rfl rfl ?_)))))
 refine r_bin _ rfl rfl rfl (fun _ => rfl) (fun _ => rfl) ?_
 refine r_assign rfl rfl (hl_nil (then_n (hc_seq (hc_region (r_move rfl rfl ?_)))))
 refine r_bin _ rfl rfl rfl (fun _ => rfl) (fun _ => rfl) ?_
 refine r_assign rfl rfl (hl_nil (then_n (hc_seq (hc_region (r_move rfl rfl (r_move rfl rfl (r_move rfl rfl ?_)))))))
 refine r_bin _ rfl rfl rfl (fun _ => rfl) (fun _ => rfl) ?_
 refine r_bin _ rfl rfl rfl (fun _ => rfl) (fun _ => rfl) ?_
 refine r_assign rfl rfl (hl_nil (then_n (hc_seq (hc_region (r_move rfl rfl (r_move rfl rfl ?_))))))
 refine r_bin _ rfl rfl rfl (fun _ => rfl) (fun _ => rfl) ?_
 refine r_move rfl rfl ?_
 refine r_bin _ rfl rfl rfl (fun _ => rfl) (fun _ => rfl) ?_
 refine r_move rfl rfl ?_
 refine r_bin _ rfl rfl rfl (fun _ => rfl) (fun _ => rfl) ?_
 refine r_bin _ rfl rfl rfl (fun _ => rfl) (fun _ => rfl) ?_
 refine r_assign rfl rfl (hl_nil (then_n (hc_seq (hc_region (r_move rfl rfl (r_move rfl rfl ?_))))))
 refine r_bin _ rfl rfl rfl (fun _ => rfl) (fun _ => rfl) ?_
 refine r_assign rfl rfl (hl_nil (then_n (hc_ret ?_)))
 exact ret2 () rfl rfl rfl rfl rfl trivial (List.nil_sublist _) trivial

theorem math_bits_Mul64_m1 : Meets Tryz.prog F.math_bits_Mul64 [.int .u64 1, .int .u64 1] { val := fun _ : Unit => .tuple #[.int .u64 0, .int .u64 1] } := by
 refine meets_intro F.math_bits_Mul64_f rfl (Nat.le_of_ble_eq_true rfl) fun w0 => ?_
 refine hc_seq (hc_region (r_assign rfl rfl (r_assign rfl rfl (hl_nil (then_n (hc_seq (hc_region (r_move rfl rfl ?_))))))))
 refine r_bin _ rfl rfl rfl (fun _ => rfl) (fun _ => rfl) ?_
 refine r_assign rfl rfl (hl_nil (then_n (hc_seq (hc_region (r_move rfl rfl ?_)))))
 refine r_bin _ rfl rfl rfl (fun _ => rfl) (fun _ => rfl) ?_
 refine r_assign rfl rfl (hl_nil (then_n (hc_seq (hc_region (r_move rfl rfl ?_)))))
 refine r_bin _ rfl rfl rfl (fun _ => rfl) (fun _ => rfl) ?_
 refine r_assign rfl rfl (hl_nil (then_n (hc_seq (hc_region (r_move rfl rfl ?_)))))
 refine r_bin _ rfl rfl rfl (fun _ => rfl) (fun _ => rfl) ?_
 refine r_assign rfl rfl (hl_nil (then_n (hc_seq (hc_region (r_move rfl rfl (r_move rfl rfl ?_))))))
 refine r_bin _ rfl rfl rfl (fun _ => rfl) (fun _ => rfl) ?_
 refine r_assign rfl rfl (hl_nil (then_n (hc_seq (hc_region (r_move rfl rfl (r_move rfl rfl ?_))))))
 refine r_bin _ rfl rfl rfl (fun _ => rfl) (fun _ => rfl) ?_
 refine r_move rfl rfl ?_
 refine r_bin _ rfl rfl rfl (fun _ => rfl) (fun _ => rfl) ?_
 refine r_bin _ rfl rfl rfl (fun _ => rfl) (fun _ => rfl) ?_
 refine r_assign rfl rfl (hl_nil (then_n (hc_seq (hc_region (r_move rfl rfl ?_)))))
 refine r_bin _ rfl rfl rfl (fun _ => rfl) (fun _ => rfl) ?_
 refine r_assign rfl rfl (hl_nil (then_n (hc_seq (hc_region (r_move rfl rfl ?_)))))
 refine r_bin _ rfl rfl rfl (fun _ => rfl) (fun _ => rfl) ?_
 refine r_assign rfl rfl (hl_nil (then_n (hc_seq (hc_region (r_move rfl rfl (r_move rfl rfl (r_move rfl rfl ?_)))))))
 refine r_bin _ rfl rfl rfl (fun _ => rfl) (fun _ => rfl) ?_
 refine r_bin _ rfl rfl rfl (fun _ => rfl) (fun _ => rfl) ?_
 refine r_assign rfl rfl (hl_nil (then_n (hc_seq (hc_region (r_move rfl rfl (r_move rfl rfl ?_))))))
 refine r_bin _ rfl rfl rfl (fun _ => rfl) (fun _ => rfl) ?_
 refine r_move rfl rfl ?_
 refine r_bin _ rfl rfl rfl (fun _ => rfl) (fun _ => rfl) ?_
 refine r_move rfl rfl ?_
 refine r_bin _ rfl rfl rfl (fun _ => rfl) (fun _ => rfl) ?_
 refine r_bin _ rfl rfl rfl (fun _ => rfl) (fun _ => rfl) ?_
 refine r_assign rfl rfl (hl_nil (then_n (hc_seq (hc_region (r_move rfl rfl (r_move rfl rfl ?_))))))
 refine r_bin _ rfl rfl rfl (fun _ => rfl) (fun _ => rfl) ?_
 refine r_assign rfl rfl (hl_nil (then_n (hc_ret ?_)))
 exact ret2 () rfl rfl rfl rfl rfl trivial (List.nil_sublist _) trivial

theorem math_bits_Mul64_m2 : Meets Tryz.prog F.math_bits_Mul64 [.int .u64 1, .int .u64 2] { val := fun _ : Unit => .tuple #[.int .u64 0, .int .u64 2] } := by
 refine meets_intro F.math_bits_Mul64_f rfl (Nat.le_of_ble_eq_true rfl) fun w0 => ?_
 refine hc_seq (hc_region (r_assign rfl rfl (r_assign rfl rfl (hl_nil (then_n (hc_seq (hc_region (r_move rfl rfl ?_))))))))
 refine r_bin _ rfl rfl rfl (fun _ => rfl) (fun _ => rfl) ?_
 refine r_assign rfl rfl (hl_nil (then_n (hc_seq (hc_region (r_move rfl rfl ?_)))))
 refine r_bin _ rfl rfl rfl (fun _ => rfl) (fun _ => rfl) ?_
 refine r_assign rfl rfl (hl_nil (then_n (hc_seq (hc_region (r_move rfl rfl ?_)))))
 refine r_bin _ rfl rfl rfl (fun _ => rfl) (fun _ => rfl) ?_
 refine r_assign rfl rfl (hl_nil (then_n (hc_seq (hc_region (r_move rfl rfl ?_)))))
 refine r_bin _ rfl rfl rfl (fun _ => rfl) (fun _ => rfl) ?_
 refine r_assign rfl rfl (hl_nil (then_n (hc_seq (hc_region (r_move rfl rfl (r_move rfl rfl ?_))))))
 refine r_bin _ rfl rfl rfl (fun _ => rfl) (fun _ => rfl) ?_
 refine r_assign rfl rfl (hl_nil (then_n (hc_seq (hc_region (r_move rfl rfl (r_move rfl rfl ?_))))))
 refine r_bin _ rfl rfl rfl (fun _ => rfl) (fun _ => rfl) ?_
 refine r_move rfl rfl ?_
 refine r_bin _ rfl rfl rfl (fun _ => rfl) (fun _ => rfl) ?_
 refine r_bin _ rfl rfl rfl (fun _ => rfl) (fun _ => rfl) ?_
 refine r_assign rfl rfl (hl_nil (then_n (hc_seq (hc_region (r_move rfl rfl ?_)))))
 refine r_bin _ rfl rfl rfl (fun _ => rfl) (fun _ => rfl) ?_
 refine r_assign rfl rfl (hl_nil (then_n (hc_seq (hc_region (r_move rfl rfl ?_)))))
 refine r_bin _ rfl rfl rfl (fun _ => rfl) (fun _ => rfl) ?_
 refine r_assign rfl rfl (hl_nil (then_n (hc_seq (hc_region (r_move rfl rfl (r_move rfl rfl (r_move rfl rfl ?_)))))))
 refine r_bin _ rfl rfl rfl (fun _ => rfl) (fun _ => rfl) ?_
 refine r_bin _ rfl rfl rfl (fun _ => rfl) (fun _ => rfl) ?_
 refine r_assign rfl rfl (hl_nil (then_n (hc_seq (hc_region (r_move rfl rfl (r_move rfl rfl ?_))))))
 refine r_bin _ rfl rfl rfl (fun _ => rfl) (fun _ => rfl) ?_
 refine r_move rfl rfl ?_
 refine r_bin _ rfl rfl rfl (fun _ => rfl) (fun _ => rfl) ?_
 refine r_move rfl rfl ?_
 refine r_bin _ rfl rfl rfl (fun _ => rfl) (fun _ => rfl) ?_
 refine r_bin _ rfl rfl rfl (fun _ => rfl) (fun _ => rfl) ?_
 refine r_assign rfl rfl (hl_nil (then_n (hc_seq (hc_region (r_move rfl rfl (r_move rfl rfl ?_))))))
 refine r_bin _ rfl rfl rfl (fun _ => rfl) (fun _ => rfl) ?_
 refine r_assign rfl rfl (hl_nil (then_n (hc_ret ?_)))
 exact ret2 () rfl rfl rfl rfl rfl trivial (List.nil_sublist _) trivial

theorem math_bits_Mul64_m3 : Meets Tryz.prog F.math_bits_Mul64 [.int .u64 1, .int .u64 3] { val := fun _ : Unit => .tuple #[.int .u64 0, .int .u64 3] } := by
 refine meets_intro F.math_bits_Mul64_f rfl (Nat.le_of_ble_eq_true rfl) fun w0 => ?_
 refine hc_seq (hc_region (r_assign rfl rfl (r_assign rfl rfl (hl_nil (then_n (hc_seq (hc_region (r_move rfl rfl ?_))))))))
 refine r_bin _ rfl rfl rfl (fun _ => rfl) (fun _ => rfl) ?_
 refine r_assign rfl rfl (hl_nil (then_n (hc_seq (hc_region (r_move rfl rfl ?_)))))
 refine r_bin _ rfl rfl rfl (fun _ => rfl) (fun _ => rfl) ?_
 refine r_assign rfl rfl (hl_nil (then_n (hc_seq (hc_region (r_move rfl rfl ?_)))))
 refine r_bin _ rfl rfl rfl (fun _ => rfl) (fun _ => rfl) ?_
 refine r_assign rfl rfl (hl_nil (then_n (hc_seq (hc_region (r_move rfl rfl ?_)))))
 refine r_bin _ rfl rfl rfl (fun _ => rfl) (fun _ => rfl) ?_
 refine r_assign rfl rfl (hl_nil (then_n (hc_seq (hc_region (r_move rfl rfl (r_move rfl rfl ?_))))))
 refine r_bin _ rfl rfl rfl (fun _ => rfl) (fun _ => rfl) ?_
 refine r_assign rfl rfl (hl_nil (then_n (hc_seq (hc_region (r_move rfl rfl (r_move rfl rfl ?_))))))
 refine r_bin _ rfl rfl rfl (fun _ => rfl) (fun _ => rfl) ?_
 refine r_move rfl rfl ?_
 refine r_bin _ rfl rfl rfl (fun _ => rfl) (fun _ => rfl) ?_
 refine r_bin _ rfl rfl rfl (fun _ => rfl) (fun _ => rfl) ?_
 refine r_assign rfl rfl (hl_nil (then_n (hc_seq (hc_region (r_move rfl rfl ?_)))))
 refine r_bin _ rfl rfl rfl (fun _ => rfl) (fun _ => rfl) ?_
 refine r_assign rfl rfl (hl_nil (then_n (hc_seq (hc_region (r_move rfl rfl ?_)))))
 refine r_bin _ rfl rfl rfl (fun _ => rfl) (fun _ => rfl) ?_
 refine r_assign rfl rfl (hl_nil (then_n (hc_seq (hc_region (r_move rfl rfl (r_move rfl rfl (r_move rfl rfl ?_)))))))
 refine r_bin _ rfl rfl rfl (fun _ => rfl) (fun _ => rfl) ?_
 refine r_bin _ rfl rfl rfl (fun _ => rfl) (fun _ => rfl) ?_
 refine r_assign rfl rfl (hl_nil (then_n (hc_seq (hc_region (r_move rfl rfl (r_move rfl rfl ?_))))))
 refine r_bin _ rfl rfl rfl (fun _ => rfl) (fun _ => rfl) ?_
 refine r_move rfl rfl ?_
 refine r_bin _ rfl rfl rfl (fun _ => rfl) (fun _ => rfl) ?_
 refine r_move rfl rfl ?_
 refine r_bin _ rfl rfl rfl (fun _ => rfl) (fun _ => rfl) ?_
 refine r_bin _ rfl rfl rfl (fun _ => rfl) (fun _ => rfl) ?_
 refine r_assign rfl rfl (hl_nil (then_n (hc_seq (hc_region (r_move rfl rfl (r_move rfl rfl ?_))))))
 refine r_bin _ rfl rfl rfl (fun _ => rfl) (fun _ => rfl) ?_
 refine r_assign rfl rfl (hl_nil (then_n (hc_ret ?_)))
 exact ret2 () rfl rfl rfl rfl rfl trivial (List.nil_sublist _) trivial

theorem math_bits_Mul64_m4 : Meets Tryz.prog F.math_bits_Mul64 [.int .u64 1, .int .u64 4] { val := fun _ : Unit => .tuple #[.int .u64 0, .int .u64 4] } := by
 refine meets_intro F.math_bits_Mul64_f rfl (Nat.le_of_ble_eq_true rfl) fun w0 => ?_
 refine hc_seq (hc_region (r_assign rfl rfl (r_assign rfl rfl (hl_nil (then_n (hc_seq (hc_region (r_move rfl rfl ?_))))))))
 refine r_bin _ rfl rfl rfl (fun _ => rfl) (fun _ => rfl) ?_
 refine r_assign rfl rfl (hl_nil (then_n (hc_seq (hc_region (r_move rfl rfl ?_)))))
 refine r_bin _ rfl rfl rfl (fun _ => rfl) (fun _ => rfl) ?_
 refine r_assign rfl rfl (hl_nil (then_n (hc_seq (hc_region (r_move rfl rfl ?_)))))
 refine r_bin _ rfl rfl rfl (fun _ => rfl) (fun _ => rfl) ?_
 refine r_assign rfl rfl (hl_nil (then_n (hc_seq (hc_region (r_move rfl rfl ?_)))))
 refine r_bin _ rfl rfl rfl (fun _ => rfl) (fun _ => rfl) ?_
 refine r_assign rfl rfl (hl_nil (then_n (hc_seq (hc_region (r_move rfl rfl (r_move rfl rfl ?_))))))
 refine r_bin _ rfl rfl rfl (fun _ => rfl) (fun _ => rfl) ?_
 refine r_assign rfl rfl (hl_nil (then_n (hc_seq (hc_region (r_move rfl rfl (r_move rfl rfl ?_))))))
 refine r_bin _ rfl rfl rfl (fun _ => rfl) (fun _ => rfl) ?_
 refine r_move rfl rfl ?_
 refine r_bin _ rfl rfl rfl (fun _ => rfl) (fun _ => rfl) ?_
 refine r_bin _ rfl rfl rfl (fun _ => rfl) (fun _ => rfl) ?_
 refine r_assign rfl rfl (hl_nil (then_n (hc_seq (hc_region (r_move rfl rfl ?_)))))
 refine r_bin _ rfl rfl rfl (fun _ => rfl) (fun _ => rfl) ?_
 refine r_assign rfl rfl (hl_nil (then_n (hc_seq (hc_region (r_move rfl rfl ?_)))))
 refine r_bin _ rfl rfl rfl (fun _ => rfl) (fun _ => rfl) ?_
 refine r_assign rfl rfl (hl_nil (then_n (hc_seq (hc_region (r_move rfl rfl (r_move rfl rfl (r_move rfl rfl ?_)))))))
 refine r_bin _ rfl rfl rfl (fun _ => rfl) (fun _ => rfl) ?_
 refine r_bin _ rfl rfl rfl (fun _ => rfl) (fun _ => rfl) ?_
 refine r_assign rfl rfl (hl_nil (then_n (hc_seq (hc_region (r_move rfl rfl (r_move rfl rfl ?_))))))
 refine r_bin _ rfl rfl rfl (fun _ => rfl) (fun _ => rfl) ?_
 refine r_move rfl rfl ?_
 refine r_bin _ rfl rfl rfl (fun _ => rfl) (fun _ => rfl) ?_
 refine r_move rfl rfl ?_
 refine r_bin _ rfl rfl rfl (fun _ => rfl) (fun _ => rfl) ?_
 refine r_bin _ rfl rfl rfl (fun _ => rfl) (fun _ => rfl) ?_
 refine r_assign rfl rfl (hl_nil (then_n (hc_seq (hc_region (r_move rfl rfl (r_move rfl rfl ?_))))))
 refine r_bin _ rfl rfl rfl (fun _ => rfl) (fun _ => rfl) ?_
 refine r_assign rfl rfl (hl_nil (then_n (hc_ret ?_)))
 exact ret2 () rfl rfl rfl rfl rfl trivial (List.nil_sublist _) trivial

theorem math_bits_Mul64_m5 : Meets Tryz.prog F.math_bits_Mul64 [.int .u64 1, .int .u64 5] { val := fun _ : Unit => .tuple #[.int .u64 0, .int .u64 5] } := by
 refine meets_intro F.math_bits_Mul64_f rfl (Nat.le_of_ble_eq_true rfl) fun w0 => ?_
 refine hc_seq (hc_region (r_assign rfl rfl (r_assign rfl rfl (hl_nil (then_n (hc_seq (hc_region (r_move rfl rfl ?_))))))))
 refine r_bin _ rfl rfl rfl (fun _ => rfl) (fun _ => rfl) ?_
 refine r_assign rfl rfl (hl_nil (then_n (hc_seq (hc_region (r_move rfl rfl ?_)))))
 refine r_bin _ rfl rfl rfl (fun _ => rfl) (fun _ => rfl) ?_
 refine r_assign rfl rfl (hl_nil (then_n (hc_seq (hc_region (r_move rfl rfl ?_)))))
 refine r_bin _ rfl rfl rfl (fun _ => rfl) (fun _ => rfl) ?_
 refine r_assign rfl rfl (hl_nil (then_n (hc_seq (hc_region (r_move rfl rfl ?_)))))
 refine r_bin _ rfl rfl rfl (fun _ => rfl) (fun _ => rfl) ?_
 refine r_assign rfl rfl (hl_nil (then_n (hc_seq (hc_region (r_move rfl rfl (r_move rfl rfl ?_))))))
 refine r_bin _ rfl rfl rfl (fun _ => rfl) (fun _ => rfl) ?_
 refine r_assign rfl rfl (hl_nil (then_n (hc_seq (hc_region (r_move rfl rfl (r_move rfl rfl ?_))))))
 refine r_bin _ rfl rfl rfl (fun _ => rfl) (fun _ => rfl) ?_
 refine r_move rfl rfl ?_
 refine r_bin _ rfl rfl rfl (fun _ => rfl) (fun _ => rfl) ?_
 refine r_bin _ rfl rfl rfl (fun _ => rfl) (fun _ => rfl) ?_
 refine r_assign rfl rfl (hl_nil (then_n (hc_seq (hc_region (r_move rfl rfl ?_)))))
 refine r_bin _ rfl rfl rfl (fun _ => rfl) (fun _ => rfl) ?_
 refine r_assign rfl rfl (hl_nil (then_n (hc_seq (hc_region (r_move rfl rfl ?_)))))
 refine r_bin _ rfl rfl rfl (fun _ => rfl) (fun _ => rfl) ?_
 refine r_assign rfl rfl (hl_nil (then_n (hc_seq (hc_region (r_move rfl rfl (r_move rfl rfl (r_move rfl rfl ?_)))))))
 refine r_bin _ rfl rfl rfl (fun _ => rfl) (fun _ => rfl) ?_
 refine r_bin _ rfl rfl rfl (fun _ => rfl) (fun _ => rfl) ?_
 refine r_assign rfl rfl (hl_nil (then_n (hc_seq (hc_region (r_move rfl rfl (r_move rfl rfl ?_))))))
 refine r_bin _ rfl rfl rfl (fun _ => rfl) (fun _ => rfl) ?_
 refine r_move rfl rfl ?_
 refine r_bin _ rfl rfl rfl (fun _ => rfl) (fun _ => rfl) ?_
 refine r_move rfl rfl ?_
 refine r_bin _ rfl rfl rfl (fun _ => rfl) (fun _ => rfl) ?_
 refine r_bin _ rfl rfl rfl (fun _ => rfl) (fun _ => rfl) ?_
 refine r_assign rfl rfl (hl_nil (then_n (hc_seq (hc_region (r_move rfl rfl (r_move rfl rfl ?_))))))
 refine r_bin _ rfl rfl rfl (fun _ => rfl) (fun _ => rfl) ?_
 refine r_assign rfl rfl (hl_nil (then_n (hc_ret ?_)))
 exact ret2 () rfl rfl rfl rfl rfl trivial (List.nil_sublist _) trivial

theorem math_bits_Mul64_m6 : Meets Tryz.prog F.math_bits_Mul64 [.int .u64 1, .int .u64 6] { val := fun _ : Unit => .tuple #[.int .u64 0, .int .u64 6] } := by
 refine meets_intro F.math_bits_Mul64_f rfl (Nat.le_of_ble_eq_true rfl) fun w0 => ?_
 refine hc_seq (hc_region (r_assign rfl rfl (r_assign rfl rfl (hl_nil (then_n (hc_seq (hc_region (r_move rfl rfl ?_))))))))
 refine r_bin _ rfl rfl rfl (fun _ => rfl) (fun _ => rfl) ?_
 refine r_assign rfl rfl (hl_nil (then_n (hc_seq (hc_region (r_move rfl rfl ?_)))))
 refine r_bin _ rfl rfl rfl (fun _ => rfl) (fun _ => rfl) ?_
 refine r_assign rfl rfl (hl_nil (then_n (hc_seq (hc_region (r_move rfl rfl ?_)))))
 refine r_bin _ rfl rfl rfl (fun _ => rfl) (fun _ => rfl) ?_
 refine r_assign rfl rfl (hl_nil (then_n (hc_seq (hc_region (r_move rfl rfl ?_)))))
 refine r_bin _ rfl rfl rfl (fun _ => rfl) (fun _ => rfl) ?_
 refine r_assign rfl rfl (hl_nil (then_n (hc_seq (hc_region (r_move rfl rfl (r_move rfl rfl ?_))))))
 refine r_bin _ rfl rfl rfl (fun _ => rfl) (fun _ => rfl) ?_
 refine r_assign rfl rfl (hl_nil (then_n (hc_seq (hc_region (r_move rfl rfl (r_move rfl rfl ?_))))))
 refine r_bin _ rfl rfl rfl (fun _ => rfl) (fun _ => rfl) ?_
 refine r_move rfl rfl ?_
 refine r_bin _ rfl rfl rfl (fun _ => rfl) (fun _ => rfl) ?_
 refine r_bin _ rfl rfl rfl (fun _ => rfl) (fun _ => rfl) ?_
 refine r_assign rfl rfl (hl_nil (then_n (hc_seq (hc_region (r_move rfl rfl ?_)))))
 refine r_bin _ rfl rfl rfl (fun _ => rfl) (fun _ => rfl) ?_
 refine r_assign rfl rfl (hl_nil (then_n (hc_seq (hc_region (r_move rfl rfl ?_)))))
 refine r_bin _ rfl rfl rfl (fun _ => rfl) (fun _ => rfl) ?_
 refine r_assign rfl rfl (hl_nil (then_n (hc_seq (hc_region (r_move rfl rfl (r_move rfl rfl (r_move rfl rfl ?_)))))))
 refine r_bin _ rfl rfl rfl (fun _ => rfl) (fun _ => rfl) ?_
 refine r_bin _ rfl rfl rfl (fun _ => rfl) (fun _ => rfl) ?_
 refine r_assign rfl rfl (hl_nil (then_n (hc_seq (hc_region (r_move rfl rfl (r_move rfl rfl ?_))))))
 refine r_bin _ rfl rfl rfl (fun _ => rfl) (fun _ => rfl) ?_
 refine r_move rfl rfl ?_
 refine r_bin _ rfl rfl rfl (fun _ => rfl) (fun _ => rfl) ?_
 refine r_move rfl rfl ?_
 refine r_bin _ rfl rfl rfl (fun _ => rfl) (fun _ => rfl) ?_
 refine r_bin _ rfl rfl rfl (fun _ => rfl) (fun _ => rfl) ?_
 refine r_assign rfl rfl (hl_nil (then_n (hc_seq (hc_region (r_move rfl rfl (r_move rfl rfl ?_))))))
 refine r_bin _ rfl rfl rfl (fun _ => rfl) (fun _ => rfl) ?_
 refine r_assign rfl rfl (hl_nil (then_n (hc_ret ?_)))
 exact ret2 () rfl rfl rfl rfl rfl trivial (List.nil_sublist _) trivial

theorem math_bits_Mul64_meets (n : Nat) (hn : n ≤ 6) : Meets Tryz.prog F.math_bits_Mul64 [.int .u64 1, .int .u64 (n : Int)] { val := fun _ : Unit => .tuple #[.int .u64 0, .int .u64 (n : Int)] } := by
  match n, hn with
  | 0, _ => exact math_bits_Mul64_m0
  | 1, _ => exact math_bits_Mul64_m1
  | 2, _ => exact math_bits_Mul64_m2
  | 3, _ => exact math_bits_Mul64_m3
  | 4, _ => exact math_bits_Mul64_m4
  | 5, _ => exact math_bits_Mul64_m5
  | 6, _ => exact math_bits_Mul64_m6
theorem wrapu {n : Nat} (h : n ≤ 1000000) : IntKind.u64.wrap (n : Int) = n := IntWalk.u64_in _ (by omega)
theorem wrapi {n : Nat} (h : n ≤ 1000000) : IntKind.i64.wrap (n : Int) = n := IntWalk.i64_in _ (by omega)
theorem rep_take {m k : Nat} {v : Value} {l : List Value} (h : l.take k = List.replicate k v) (hm : k + m ≤ l.length) : (l.take k ++ List.replicate m v ++ l.drop (k + m)).take (k + m) = List.replicate (k + m) v := by
  rw [h, List.replicate_append_replicate]
  exact List.take_left' (by simp)
theorem rep_get {k m : Nat} {v : Value} {cu : Array Value} (h : cu.toList.take k = List.replicate k v) (hm : m ≤ k) (i : Nat) (u : Value) (hu : (List.replicate m v)[i]? = some u) : cu[0 + i]? = some u := by
  rw [List.getElem?_replicate] at hu
  split at hu
  · rename_i hi
    cases hu
    have h2 : (cu.toList.take k)[i]? = some v := by rw [h, List.getElem?_replicate, if_pos (by omega)]
    rw [List.getElem?_take, if_pos (by omega)] at h2
    rw [Nat.zero_add]
    simpa using h2
  · cases hu
theorem cut_k {g n k : Nat} (h : k < n) : cutA (some ⟨g, 0, none⟩) n k 1 = some ⟨g, k, none⟩ := by
  rw [cutA, if_neg (by omega)]
  simp [Addr.add]
  omega
theorem rows_rep (x : Int) : ∀ n : Nat, rows (List.replicate n x) = List.replicate n (int x)
  | 0 => rfl
  | n + 1 => by
    rw [List.replicate_succ, List.replicate_succ, ← rows_rep x n]
    rfl

theorem math_bits_Mul_meets (n : Nat) (hn : n ≤ 6) : Meets Tryz.prog F.math_bits_Mul [.int .u64 1, .int .u64 (n : Int)] { val := fun _ : Unit => .tuple #[.int .u64 0, .int .u64 (n : Int)] } := by
 refine meets_intro F.math_bits_Mul_f rfl (Nat.le_of_ble_eq_true rfl) fun w0 => ?_
 refine hc_seq (hc_region (r_assign rfl rfl (r_assign rfl rfl (hl_nil (then_n (hc_seq (c_f rfl rfl (hc_skip (then_n (hc_seq (hc_region ?_)))))))))))
 refine r_move rfl rfl (r_move rfl rfl ?_)
 refine hl_call F.math_bits_Mul64_cb rfl rfl (math_bits_Mul64_meets n hn) (List.Perm.refl _) trivial fun _ _ => ?_
 refine r_move rfl rfl (r_extract rfl rfl rfl (r_extract rfl rfl rfl (r_assign rfl rfl (r_assign rfl rfl (hl_nil (then_n (hc_seq (hc_region (r_move rfl rfl (r_move rfl rfl (r_assign rfl rfl ?_)))))))))))
 refine r_assign rfl rfl (hl_nil (then_n (hc_ret ?_)))
 exact ret2 () rfl rfl rfl rfl rfl trivial (List.nil_sublist _) trivial

set_option maxHeartbeats 1000000 in
theorem slices_Repeat_ints_meets {b0 cb : Nat} (x : Int) (n : Nat) (h0 : 0 < n) (hn : n ≤ 6) : Meets Tryz.prog F.slices_Repeat_ints [.slice (some ⟨b0, 0, none⟩) 1 cb, int n] { LI := [Row (some ⟨b0, 0, none⟩) (rows [x])], val := fun g : Nat => .slice (some ⟨g, 0, none⟩) n n, hpO := fun g => [(g, .cells (rows (List.replicate n x)).toArray T.int (0, 0))] } := by
 refine meets_intro F.slices_Repeat_ints_f rfl (Nat.le_of_ble_eq_true rfl) fun w0 => ?_
 refine hc_seq (hc_region (r_assign rfl rfl (hl_nil (then_n (hc_seq (hc_seq (hc_region (r_move rfl rfl (r_lss rfl rfl rfl (hl_nil (then_n ?_)))))))))))
 refine c_dec rfl (fun hb1 => ?_) (fun hb1 => ?_)
 ·exact absurd hb1 (by omega)
 ·have hb1' := hb1; try simp at hb1'
  refine hc_skip (then_n (hc_seq (hc_region (r_move rfl rfl ?_))))
  refine r_len_sl rfl T.u_ints rfl ?_
  refine r_conv 1 rfl T.u_int T.u_uint rfl (wrapu (n := 1) (by decide)) ?_
  refine r_move rfl rfl ?_
  refine r_conv (n : Int) rfl T.u_int T.u_uint rfl (wrapu (by omega)) ?_
  refine hl_call F.math_bits_Mul_cb rfl rfl (math_bits_Mul_meets n hn) (List.Perm.refl _) trivial fun _ _ => ?_
  refine r_move rfl rfl (r_extract rfl rfl rfl (r_extract rfl rfl rfl (r_assign rfl rfl (r_assign rfl rfl (hl_nil (then_n (hc_seq (hc_seq (hc_region (r_move rfl rfl (r_gtr rfl rfl rfl ?_)))))))))))
  refine r_move rfl rfl ?_
  refine g_split rfl rfl ?_ ?_
  ·intro hg1; have hg1' := hg1; try simp at hg1'
   refine g_yes rfl rfl hg1 (r_move rfl rfl (g_yes rfl rfl hg1 (r_gtr rfl rfl rfl ?_)))
   refine p_f rfl rfl (bf1 hg1) rfl ?_
   refine hl_nil (then_n ?_)
   refine c_dec rfl (fun hb2 => ?_) (fun hb2 => ?_)
   ·exact absurd hb2 (by omega)
   ·have hb2' := hb2; try simp at hb2'
    refine hc_skip (then_n (hc_seq (hc_region (r_move rfl rfl ?_))))
    refine r_conv (n : Int) rfl T.u_uint T.u_int rfl (wrapi (by omega)) ?_
    refine r_makeN (n := n) T.el_ints rfl rfl rfl rfl rfl (by omega) (by omega) fun gM cur hcs => ?_
    refine r_assign rfl rfl (hl_nil (then_n (hc_seq (hc_region (r_move rfl rfl (r_move rfl rfl ?_))))))
    refine r_copy (cs := [int x]) (off := 0) rfl T.u_ints T.sz_int rfl rfl (List.Perm.refl _) (show 1 = Nat.min 1 n from (Nat.min_eq_left h0).symm) (cells_row (cs := [int x]) (j := 0) (by repeat constructor) (fun i u hu => by rw [Nat.zero_add]; exact hu)) (by simp; omega) (by intro v hv; rw [List.mem_singleton.1 hv]; rfl) ?_
    refine r_assign rfl rfl (hl_nil (then_n (hc_seq (hc_block ?_))))
    refine hc_loop (β := Nat × Array Value) ⟨fun y => 1 ≤ y.1 ∧ y.1 ≤ n ∧ y.2.size = n ∧ y.2.toList.take y.1 = List.replicate y.1 (int x), fun y => [(7, .slice (some ⟨gM, 0, none⟩) n n), (8, int y.1)], fun y => [(gM, .cells y.2 T.int (0, 0))], fun _ => []⟩ (fun y => n - y.1) (1, _) ⟨Nat.le_refl _, h0, by simp; omega, by simp⟩ ⟨rfl, rfl, trivial⟩ (List.Sublist.refl _) trivial fun y hy => ?_
    obtain ⟨k, cu⟩ := y
    obtain ⟨h1, hk, hcu, ht⟩ := hy
    simp only at h1 hk hcu ht
    refine hc_seq (hc_seq (hc_region (r_move rfl rfl (r_move rfl rfl ?_))))
    refine r_len_sl rfl T.u_ints rfl ?_
    refine r_lss rfl rfl rfl (hl_nil (then_n ?_))
    refine c_dec rfl (fun hb3 => ?_) (fun hb3 => ?_)
    ·have hb3' := hb3; try simp at hb3'
     have hk2 : k < n := by omega
     obtain ⟨m, hm, hm1, hm2, hm3⟩ : ∃ m, m = Nat.min k (n - k) ∧ 1 ≤ m ∧ m ≤ k ∧ m ≤ n - k := ⟨min k (n - k), rfl, by omega, by omega, by omega⟩
     refine hc_skip (then_n (hc_block ?_))
     refine hc_drawW ([(gM, .cells cu T.int (0, 0))]) ([]) (List.Perm.refl _) 8 [7] mixed (by decide) (by decide) (by decide) rfl rfl rfl ?_
     apply hb_ex _ rfl rfl rfl
     ·intro w1
      refine r_move rfl rfl (hl_nil ?_)
      exact qe_done rfl
     apply hb_ex _ rfl rfl rfl
     ·intro w1
      refine r_move rfl rfl (hl_nil ?_)
      exact qe_done rfl
     apply hb_ex _ rfl rfl rfl
     ·intro w1
      refine r_move rfl rfl (hl_nil ?_)
      exact qe_done rfl
     apply hb_ex _ rfl rfl rfl
     ·intro w1
      refine r_slice_lo k rfl T.u_ints T.sz_int rfl rfl rfl (by omega) ?_
      refine hl_nil ?_
      exact qe_done rfl
     apply hb_ex _ rfl rfl rfl
     ·intro w1
      refine r_move rfl rfl (hl_nil ?_)
      exact qe_done rfl
     apply hb_ex _ rfl rfl rfl
     ·intro w1
      refine r_move rfl rfl (hl_nil ?_)
      exact qe_done rfl
     apply hb_ex _ rfl rfl rfl
     ·intro w1
      refine r_slice_hi k rfl T.u_ints T.sz_int rfl rfl rfl (by omega) ?_
      refine hl_nil ?_
      exact qe_done rfl
     refine hb_wr ⟨Array Value, fun c2 => c2.size = n ∧ c2.toList.take (k + m) = List.replicate (k + m) (int x), fun _ => int (m : Int), fun _ => [], fun c2 => [(gM, Obj.cells c2 T.int (0, 0))]⟩ rfl rfl rfl ?_ ?_
     ·intro w1
      refine r_copy (g := gM) (off := k) (ad := ⟨gM, 0, none⟩) (cs := List.replicate m (int x)) rfl T.u_ints T.sz_int (show ev _ _ = some (.slice (some ⟨gM, k, none⟩) (n - k) (n - k)) from congrArg (fun A => some (Value.slice A (n - k) (n - k))) (cut_k hk2)) rfl (List.Perm.refl _) (by rw [List.length_replicate]; exact hm) (cells_own (List.mem_cons_self ..) (rep_get ht hm2)) (by rw [List.length_replicate]; omega) (by intro v hv; rw [List.eq_of_mem_replicate hv]; rfl) ?_
      refine hl_nil ?_
      exact qw_done _ ⟨by simp; omega, by rw [List.length_replicate]; exact rep_take ht (by simp; omega)⟩ (fun _ => congrArg (fun z : Nat => some (int (z : Int))) List.length_replicate) (.refl _) trivial
     refine hb_nil ⟨rfl, ?_⟩
     intro c2 hc2
     refine r_add _ rfl rfl rfl rfl (by unfold I64; omega) ?_
     refine r_assign rfl rfl (hl_nil (inb_n ?_))
     exact again _ (k + m, c2) ⟨by show 1 ≤ k + m; omega, by show k + m ≤ n; omega, hc2.1, hc2.2⟩ (by show n - (k + m) < n - k; omega) ⟨rfl, rfl, trivial⟩ (List.Sublist.refl _) trivial
    ·have hb3' := hb3; try simp at hb3'
     obtain rfl : k = n := by omega
     obtain rfl : cu = (rows (List.replicate k x)).toArray := by
       rw [rows_rep, ← ht, List.take_of_length_le (by simp; omega)]
     refine hc_exit (then_exit (then_exit (inb_hit (then_n (hc_seq (hc_region (r_move rfl rfl (r_assign rfl rfl (hl_nil (then_n (hc_ret ?_)))))))))))
     exact ret1 gM rfl rfl rfl trivial (List.Sublist.refl _) trivial
  ·intro hg1; have hg1' := hg1; try simp at hg1'

attribute [local irreducible] KC KL

theorem nodup_le : ∀ {n : Nat} {l : List Nat}, l.Nodup → (∀ y ∈ l, y < n) → l.length ≤ n
  | 0, [], _, _ => Nat.le_refl _
  | 0, x :: l, _, h => by have := h x (by simp); omega
  | n + 1, l, hnd, h => by
    have h1 := nodup_le (n := n) (hnd.erase n) fun y hy => by
      have h2 := (List.Nodup.mem_erase_iff hnd).1 hy
      have h3 := h y h2.2
      have := h2.1
      omega
    rw [List.length_erase] at h1
    split at h1 <;> omega
section
variable {n : Nat} {e : Edges} {h : Nat}
abbrev dAt (ds : List Int) (i : Nat) : Int := ds.getD i default
/-- What is found so far is found at its distance. -/
structure Bf (n : Nat) (e : Edges) (h : Nat) (ds : List Int) : Prop where
  len : ds.length = n
  lo : ∀ i, i < n → -1 ≤ dAt ds i
  at_ : ∀ i, i < n → 0 ≤ dAt ds i → reachB n e h (dAt ds i).toNat i = true ∧ ∀ m, m < (dAt ds i).toNat → reachB n e h m i = false
/-- Between two rounds: the queue q, of the levels k and k + 1. -/
structure Bo (n : Nat) (e : Edges) (h : Nat) (k : Nat) (ds : List Int) (q : List Nat) : Prop where
  b : Bf n e h ds
  nd : q.Nodup
  inq : ∀ y ∈ q, y < n ∧ (dAt ds y = (k : Int) ∨ dAt ds y = (k : Int) + 1)
  srt : q.Pairwise fun a b => dAt ds a ≤ dAt ds b
  pr : ∀ i, i < n → 0 ≤ dAt ds i → i ∉ q → ∀ s, s < n → e i s = true → 0 ≤ dAt ds s
  lv : ∀ i, i < n → reachB n e h k i = true → 0 ≤ dAt ds i
/-- Within a round: x is taken from the queue; the headings of l are seen. -/
structure Br (n : Nat) (e : Edges) (h : Nat) (k : Nat) (x : Nat) (ds : List Int) (q : List Nat) : Prop where
  b : Bf n e h ds
  hx : x < n
  dx : dAt ds x = (k : Int)
  nd : q.Nodup
  inq : ∀ y ∈ q, y < n ∧ (dAt ds y = (k : Int) ∨ dAt ds y = (k : Int) + 1)
  srt : q.Pairwise fun a b => dAt ds a ≤ dAt ds b
  pr : ∀ i, i < n → 0 ≤ dAt ds i → i ∉ q → i ≠ x → ∀ s, s < n → e i s = true → 0 ≤ dAt ds s
  lv : ∀ i, i < n → reachB n e h k i = true → 0 ≤ dAt ds i
theorem bf_le {ds : List Int} (hb : Bf n e h ds) {i m : Nat} (hi : i < n) (hr : reachB n e h m i = true) (h0 : 0 ≤ dAt ds i) : dAt ds i ≤ (m : Int) := by
  apply Classical.byContradiction
  intro hn
  have := (hb.at_ i hi h0).2 m (by omega)
  rw [hr] at this; cases this
theorem bo_pop {k : Nat} {ds : List Int} {x : Nat} {q : List Nat} (H : Bo n e h k ds (x :: q)) : ∃ k', Br n e h k' x ds q := by
  obtain ⟨hx, hdx⟩ := H.inq x (by simp)
  have hs := List.pairwise_cons.1 H.srt
  have hnd := List.nodup_cons.1 H.nd
  rcases hdx with hdx | hdx
  · refine ⟨k, H.b, hx, hdx, hnd.2, fun y hy => H.inq y (by simp [hy]), hs.2, fun i hi h0 hq hix => H.pr i hi h0 (by simp [hq, hix]), H.lv⟩
  · refine ⟨k + 1, H.b, hx, by rw [hdx]; omega, hnd.2, fun y hy => ?_, hs.2, fun i hi h0 hq hix => H.pr i hi h0 (by simp [hq, hix]), fun i hi hr => ?_⟩
    · have h1 := H.inq y (by simp [hy])
      have h2 := hs.1 y hy
      refine ⟨h1.1, .inl ?_⟩
      rcases h1.2 with h3 | h3 <;> omega
    · rcases reach_succ.1 hr with h1 | ⟨z, hz, hrz, hez⟩
      · exact H.lv i hi h1
      · have hz0 := H.lv z hz hrz
        have hzk := bf_le H.b hz hrz hz0
        refine H.pr z hz hz0 (fun hm => ?_) i hi hez
        rcases List.mem_cons.1 hm with e1 | hm
        · subst e1; omega
        · have := hs.1 z hm
          omega
theorem dAt_set {ds : List Int} {i j : Nat} {v : Int} (hi : i < ds.length) : dAt (ds.set i v) j = if j = i then v else dAt ds j := by
  unfold dAt
  rw [List.getD_eq_getElem?_getD, List.getElem?_set, List.getD_eq_getElem?_getD]
  by_cases e1 : i = j
  · subst e1; rw [if_pos rfl, if_pos rfl, if_pos hi]; rfl
  · rw [if_neg e1, if_neg (fun e2 => e1 e2.symm)]
/-- A heading that is found now. -/
theorem br_put {k x i : Nat} {ds : List Int} {q : List Nat} (H : Br n e h k x ds q) (hi : i < n) (hei : e x i = true) (h0 : dAt ds i < 0) : Br n e h k x (ds.set i (dAt ds x + 1)) (q ++ [i]) ∧ q.length < n := by
  have hil : i < ds.length := by rw [H.b.len]; exact hi
  have hg : ∀ j, dAt (ds.set i (dAt ds x + 1)) j = if j = i then dAt ds x + 1 else dAt ds j := fun j => dAt_set hil
  have hge : ∀ j, ¬ j = i → dAt (ds.set i (dAt ds x + 1)) j = dAt ds j := fun j hj => by rw [hg, if_neg hj]
  have hgi : dAt (ds.set i (dAt ds x + 1)) i = (k : Int) + 1 := by rw [hg, if_pos rfl, H.dx]
  have hxi : ¬ x = i := fun e1 => by subst e1; have := H.dx; omega
  have hiq : i ∉ q := fun hm => by rcases (H.inq i hm).2 with h1 | h1 <;> omega
  have hqi : ∀ y ∈ q, ¬ y = i := fun y hy e1 => by subst e1; exact hiq hy
  have hnd : (q ++ [i]).Nodup := by
    rw [List.nodup_append]
    exact ⟨H.nd, by simp, fun a ha b hb e1 => by rw [List.mem_singleton] at hb; subst hb; subst e1; exact hiq ha⟩
  have hrx := H.b.at_ x H.hx (by rw [H.dx]; omega)
  rw [H.dx, Int.toNat_natCast] at hrx
  have hni : reachB n e h k i = false := by
    cases hc : reachB n e h k i with
    | false => rfl
    | true => have := H.lv i hi hc; omega
  refine ⟨⟨⟨by rw [List.length_set]; exact H.b.len, fun j hj => ?_, fun j hj hj0 => ?_⟩, H.hx, by rw [hge x hxi]; exact H.dx, hnd, fun y hy => ?_, ?_, fun j hj hj0 hjq hjx s hs hes => ?_, fun j hj hr => ?_⟩, ?_⟩
  · by_cases e1 : j = i
    · subst e1; rw [hgi]; omega
    · rw [hge j e1]; exact H.b.lo j hj
  · by_cases e1 : j = i
    · subst e1
      rw [hgi, show ((k : Int) + 1).toNat = k + 1 by omega]
      refine ⟨reach_succ.2 (.inr ⟨x, H.hx, hrx.1, hei⟩), fun m hm => ?_⟩
      cases hc : reachB n e h m j with
      | false => rfl
      | true => rw [reach_mono (show m ≤ k by omega) hc] at hni; cases hni
    · rw [hge j e1] at hj0 ⊢; exact H.b.at_ j hj hj0
  · rcases List.mem_append.1 hy with hy | hy
    · rw [hge y (hqi y hy)]; exact H.inq y hy
    · rw [List.mem_singleton] at hy; subst hy; exact ⟨hi, .inr hgi⟩
  · rw [List.pairwise_append]
    refine ⟨H.srt.imp_of_mem fun {a b} ha hb hab => by rw [hge a (hqi a ha), hge b (hqi b hb)]; exact hab, by simp, fun a ha b hb => ?_⟩
    rw [List.mem_singleton] at hb
    subst hb
    rw [hgi, hge a (hqi a ha)]
    rcases (H.inq a ha).2 with h1 | h1 <;> omega
  · have hji : ¬ j = i := fun e1 => hjq (by simp [e1])
    rw [hge j hji] at hj0
    have := H.pr j hj hj0 (fun hm => hjq (by simp [hm])) hjx s hs hes
    by_cases e1 : s = i
    · subst e1; rw [hgi]; omega
    · rw [hge s e1]; exact this
  · by_cases e1 : j = i
    · subst e1; rw [hgi]; omega
    · rw [hge j e1]; exact H.lv j hj hr
  · have h1 : (q ++ [i]).length ≤ n := nodup_le hnd fun y hy => by
      rcases List.mem_append.1 hy with hy | hy
      · exact (H.inq y hy).1
      · rw [List.mem_singleton] at hy; subst hy; exact hi
    rw [List.length_append, List.length_singleton] at h1
    omega
theorem br_k {k x : Nat} {ds : List Int} {q : List Nat} (hh : h < n) (H : Br n e h k x ds q) : k ≤ n := by
  have hr := H.b.at_ x H.hx (by rw [H.dx]; omega)
  rw [H.dx, Int.toNat_natCast] at hr
  apply Classical.byContradiction
  intro hn
  have := hr.2 n (by omega)
  rw [reach_cap hh H.hx hr.1] at this; cases this
/-- All that x leads to is seen. -/
theorem br_done {k x : Nat} {ds : List Int} {q : List Nat} (H : Br n e h k x ds q) (hd : ∀ s, s < n → e x s = true → 0 ≤ dAt ds s) : Bo n e h k ds q :=
  ⟨H.b, H.nd, H.inq, H.srt, fun i hi h0 hq s hs hes => by
    by_cases e1 : i = x
    · subst e1; exact hd s hs hes
    · exact H.pr i hi h0 hq e1 s hs hes, H.lv⟩
theorem bo_end {k : Nat} {ds : List Int} (hh : h < n) (H : Bo n e h k ds []) (h0 : dAt ds h = 0) : ds = (List.range n).map fun i => distI n e h i := by
  have hall : ∀ m i, i < n → reachB n e h m i = true → 0 ≤ dAt ds i := by
    intro m
    induction m with
    | zero => intro i hi hr; rw [reachB] at hr; rw [of_decide_eq_true hr, h0]; omega
    | succ m ih =>
      intro i hi hr
      rcases reach_succ.1 hr with h1 | ⟨z, hz, hrz, hez⟩
      · exact ih i hi h1
      · exact H.pr z hz (ih z hz hrz) (by simp) i hi hez
  refine List.ext_getElem (by rw [H.b.len, List.length_map, List.length_range]) fun i hi hi2 => ?_
  rw [H.b.len] at hi
  rw [List.getElem_map, List.getElem_range, ← getD_at]
  have hlo := H.b.lo i hi
  unfold distI
  cases hd : distB n e h i with
  | none =>
    have hr := dist_none.1 hd
    show dAt ds i = -1
    apply Classical.byContradiction
    intro hn
    have h1 := (H.b.at_ i hi (by omega)).1
    have h2 := hr n (Nat.le_refl _)
    rw [reach_cap hh hi h1] at h2; cases h2
  | some s =>
    have hr := dist_some.1 hd
    show dAt ds i = (s : Int)
    have h1 := hall s i hi hr.2.1
    have h2 := bf_le H.b hi hr.2.1 h1
    have h3 := (H.b.at_ i hi h1).1
    apply Classical.byContradiction
    intro hn
    have h4 := hr.2.2 (dAt ds i).toNat (by omega)
    rw [h3] at h4; cases h4
theorem bo_start (hh : h < n) : Bo n e h 0 ((List.replicate n (-1 : Int)).set h 0) [h] := by
  have hg : ∀ j, dAt ((List.replicate n (-1 : Int)).set h 0) j = if j = h then 0 else dAt (List.replicate n (-1 : Int)) j := fun j => dAt_set (by rw [List.length_replicate]; exact hh)
  have hm : ∀ j, j < n → ¬ j = h → dAt ((List.replicate n (-1 : Int)).set h 0) j = -1 := fun j hj e1 => by
    rw [hg, if_neg e1]; unfold dAt; rw [List.getD_eq_getElem?_getD, List.getElem?_replicate, if_pos hj]; rfl
  have h0 : dAt ((List.replicate n (-1 : Int)).set h 0) h = 0 := by rw [hg, if_pos rfl]
  refine ⟨⟨by simp, fun j hj => ?_, fun j hj hj0 => ?_⟩, by simp, fun y hy => ?_, by simp, fun i hi hi0 hq => ?_, fun i hi hr => ?_⟩
  · by_cases e1 : j = h
    · subst e1; rw [h0]; omega
    · rw [hm j hj e1]; omega
  · by_cases e1 : j = h
    · subst e1; rw [h0]; exact ⟨by simp [reachB], fun m hm => by simp at hm⟩
    · rw [hm j hj e1] at hj0; omega
  · rw [List.mem_singleton] at hy; subst hy; exact ⟨hh, .inl h0⟩
  · by_cases e1 : i = h
    · subst e1; exact absurd (List.mem_singleton.2 rfl) hq
    · rw [hm i hi e1] at hi0; omega
  · rw [reachB] at hr; rw [of_decide_eq_true hr, h0]; omega
end
theorem zv_int (w : World) : (zeroValue T.int).run Tryz.prog w = .ok (int 0) w := by kernel_rfl
theorem arr_set (l : List Int) (k : Nat) (v : Int) : (rows l).toArray.setIfInBounds (0 + k * 1) (int v) = (rows (l.set k v)).toArray := by
  rw [← rows_set1 rfl (int v) v rfl]
  simp
theorem arr_take (l : List Int) : (rows l).toArray.toList.take (l.length * 1) = rows l := by
  have h1 : (rows l).length = l.length := by rw [rows_len]; exact Nat.mul_one _
  rw [List.take_of_length_le (by simp [h1])]
theorem cnt_set {l : List Int} {i : Nat} {v : Int} (hi : i < l.length) (h : l.getD i default < 0) (hv : 0 ≤ v) : (l.set i v).countP (fun z => decide (z < 0)) + 1 = l.countP fun z => decide (z < 0) := by
  rw [getD_at hi] at h
  rw [List.countP_set hi]
  have h1 : 0 < l.countP fun z => decide (z < 0) := List.countP_pos_iff.2 ⟨l[i], List.getElem_mem hi, by simpa using h⟩
  rw [if_pos (by simpa using h), if_neg (by simpa using hv)]
  omega

set_option maxHeartbeats 2000000 in
theorem trade_list_steps_meets {A B oa ka : Option Addr} {ca cb oc kc gl : Nat} (cs : List Cl) (hs : List Hd) (h : Nat) (hok : TrOK (trOf cs hs)) (hh : h < hs.length) : Meets Tryz.prog F.trade_list_steps [.pointer (some ⟨gl, 0, none⟩), int h] { LI := [Row (some ⟨gl, 0, none⟩) [.slice A cs.length ca, .slice B hs.length cb, .slice oa cs.length oc, .slice ka hs.length kc], Row ka (rows (kindsN hs hs.length)), RowsF B hs Hd.row], inv := fun x : OutC => (stepsT (trOf cs hs) (h : Int)).length ≤ x.2, val := fun x => .slice x.1 (stepsT (trOf cs hs) (h : Int)).length x.2, LO := fun x => [Row x.1 (rows (stepsT (trOf cs hs) (h : Int)))] } := by
 refine kmeets_intro F.trade_list_steps_f rfl (Nat.le_of_ble_eq_true rfl) fun w0 => ?_
 refine kc_seq (kc_region (r_assign rfl rfl (hl_nil (kthen_n (kc_seq ?_)))))
 have h6h := hok.h6
 have hln := hs_len cs hs
 rw [hln] at h6h
 refine kc_region ?_
 refine r_buildSlice _ rfl rfl (fun _ => T.bs_ints_1 ..) fun gS => ?_
 refine r_move rfl rfl (r_nilCheck rfl rfl ?_)
 refine r_fieldAddr ⟨_, 3, none⟩ rfl rfl T.fa_trade_list_2 rfl ?_
 refine r_load rfl T.cell_L_trade_kind rfl (cell_rowg (by repeat constructor) rfl) ?_
 refine r_len_sl rfl T.u_L_trade_kind rfl ?_
 refine hl_letgo (rows [(-1 : Int)]) ⟨[], List.append_nil _⟩ ?_
 refine hl_call F.slices_Repeat_ints_cb rfl rfl (slices_Repeat_ints_meets (-1) hs.length (by omega) h6h) (List.Perm.refl _) ⟨(by repeat constructor), trivial⟩ fun g5 _ => ?_
 refine r_assign rfl rfl (hl_nil (kthen_n (kc_seq (kc_region (r_move rfl rfl (r_move rfl rfl ?_))))))
 refine r_indexAddr_own h (0 + h * 1) rfl T.u_ints T.sz_int rfl rfl rfl hh rfl ?_
 refine r_store rfl rfl (.refl _) T.sz_int (own_el rfl (arr_take (List.replicate hs.length (-1))) (by rw [List.length_replicate]; exact hh) (by omega) rfl) (by rfl) ?_
 rw [arr_set]
 refine hl_nil (kthen_n (kc_seq (kc_region (r_move rfl rfl (r_nilCheck rfl rfl ?_)))))
 refine r_fieldAddr ⟨_, 3, none⟩ rfl rfl T.fa_trade_list_2 rfl ?_
 refine r_load rfl T.cell_L_trade_kind rfl (cell_rowg (by repeat constructor) rfl) ?_
 refine r_len_sl rfl T.u_L_trade_kind rfl ?_
 obtain ⟨ii, zz, hii, _, _, hby, _⟩ := T.el_ints.i
 refine r_makeChan (n := hs.length) rfl Tryz.underlying168 hii rfl (by omega) (by rw [hby]; omega) fun gC => ?_
 refine r_assign rfl rfl (hl_nil (kthen_n (kc_seq (kc_comm ?_))))
 show KL _ _ _ [0, 1, 2] _ _ _
 refine kl_move rfl rfl rfl (kl_move rfl rfl rfl ?_)
 refine kl_send (buf := []) rfl rfl rfl (List.Perm.refl _) (by simp; omega) ?_
 refine kl_nil (kthen_n (kc_seq (kc_seq (kc_region (r_assign rfl rfl (hl_nil (kthen_n (kc_block ?_))))))))
 refine kc_loop (β := Nat × List Int × List Nat × Nat × Nat) ⟨fun x => Bo hs.length (nextB (trOf cs hs)) h x.1 x.2.1 x.2.2.1 ∧ dAt x.2.1 h = 0, fun x => [(0, .pointer (some ⟨gl, 0, none⟩)), (5, .slice (some ⟨g5, 0, none⟩) hs.length hs.length), (6, .chan (some gC)), (7, int x.2.2.1.length)], fun x => [(gC, chanO hs.length (x.2.2.1.map fun y : Nat => int (y : Int)) x.2.2.2.1 x.2.2.2.2), (g5, Obj.cells (rows x.2.1).toArray T.int (0, 0))], fun _ => [Row (some ⟨gl, 0, none⟩) [.slice A cs.length ca, .slice B hs.length cb, .slice oa cs.length oc, .slice ka hs.length kc], Row ka (rows (kindsN hs hs.length)), RowsF B hs Hd.row]⟩ (fun x => 2 * x.2.1.countP (fun z => decide (z < 0)) + x.2.2.1.length) (0, (List.replicate hs.length (-1 : Int)).set h 0, [h], 1, 0) ⟨bo_start hh, by rw [dAt_set (by rw [List.length_replicate]; exact hh), if_pos rfl]⟩ ⟨rfl, rfl, rfl, rfl, trivial⟩ (List.Sublist.refl _) ⟨(by repeat constructor), (by repeat constructor), (by repeat constructor), trivial⟩ fun x hx => ?_
 obtain ⟨k, ds, q, s, r⟩ := x
 obtain ⟨hB, hd0⟩ := hx
 simp only at hB hd0
 refine kc_seq (kc_seq (kc_region (r_move rfl rfl (r_gtr rfl rfl rfl (hl_nil (kthen_n ?_))))))
 refine k_dec rfl (fun hb1 => ?_) (fun hb1 => ?_)
 ·have hb1' := hb1; try simp at hb1'
  obtain ⟨x, q, rfl⟩ : ∃ x q', q = x :: q' := by
    cases q with
    | nil => simp at hb1
    | cons x q => exact ⟨x, q, rfl⟩
  obtain ⟨k, hR⟩ := bo_pop hB
  clear hB
  have hx := hR.hx
  have hin := next_in hok hx
  have hnle := next_len hok hx
  have hnb := fun k => nextB_of hok hx k
  generalize hnl : nextL (hs.getD x default) = nl at hin hnle hnb
  refine kc_skip (kthen_n (kc_seq (kc_block (kc_seq (kc_comm ?_)))))
  show KL _ _ _ [0, 1, 2] _ _ _
  refine kl_move rfl rfl rfl ?_
  refine kl_recv (v := int x) (buf := q.map fun y : Nat => int (y : Int)) rfl rfl Tryz.underlying168 zv_int rfl (List.Perm.refl _) ?_
  refine kl_assign rfl rfl rfl (kl_nil (kthen_n (kc_seq (kc_region (r_move rfl rfl (r_nilCheck rfl rfl ?_))))))
  refine r_fieldAddr ⟨_, 3, none⟩ rfl rfl T.fa_trade_list_2 rfl ?_
  refine r_load rfl T.cell_L_trade_kind rfl (cell_rowg (by repeat constructor) rfl) ?_
  refine r_move rfl rfl ?_
  refine r_elem (α := Kd) (kindsN hs hs.length) x rfl T.u_L_trade_kind T.sz_trade_kind rfl rfl rfl (by repeat constructor) (kinds_len (Nat.le_refl _)).symm (by rw [kinds_len (Nat.le_refl _)]; exact hx) (by decide) ?_
  refine r_load (v := (kindOf (hs.getD x default)).v) rfl T.cell_trade_kind rfl (cell_row (by repeat constructor) (by rw [← kind_get hx]; exact rows_get0 (by rw [kinds_len (Nat.le_refl _)]; exact hx) rfl)) ?_
  refine hl_innerF (p := hs.getD x default) (by repeat constructor) (getD_mem hx) ?_
  refine r_next rfl rfl rfl m0 fun o => ?_
  rw [hnl]
  refine r_len_sl rfl T.u_ints rfl ?_
  refine r_move rfl rfl (hl_nil (kthen_n (kc_block ?_)))
  refine kc_loop (β := Nat × List Int × List Nat × Nat × Nat) ⟨fun y => y.1 ≤ nl.length ∧ Br hs.length (nextB (trOf cs hs)) h k x y.2.1 y.2.2.1 ∧ (∀ i, i < y.1 → 0 ≤ dAt y.2.1 (nl.getD i default).toNat) ∧ dAt y.2.1 h = 0 ∧ 2 * y.2.1.countP (fun z => decide (z < 0)) + y.2.2.1.length < 2 * ds.countP (fun z => decide (z < 0)) + (x :: q).length, fun y => [(0, .pointer (some ⟨gl, 0, none⟩)), (5, .slice (some ⟨g5, 0, none⟩) hs.length hs.length), (6, .chan (some gC)), (7, int (y.2.2.1.length + 1 : Nat)), (8, int x), (42, .slice o.1 nl.length o.2), (43, int nl.length), (44, int y.1)], fun y => [(gC, chanO hs.length (y.2.2.1.map fun y : Nat => int (y : Int)) y.2.2.2.1 y.2.2.2.2), (g5, Obj.cells (rows y.2.1).toArray T.int (0, 0))], fun _ => Row o.1 (rows nl) :: [Row (some ⟨gl, 0, none⟩) [.slice A cs.length ca, .slice B hs.length cb, .slice oa cs.length oc, .slice ka hs.length kc], Row ka (rows (kindsN hs hs.length)), RowsF B hs Hd.row]⟩ (fun y => nl.length - y.1) (0, ds, q, s, r + 1) ⟨Nat.zero_le _, hR, fun i hi => by omega, hd0, by show 2 * ds.countP (fun z => decide (z < 0)) + q.length < 2 * ds.countP (fun z => decide (z < 0)) + (x :: q).length; rw [List.length_cons]; omega⟩ ⟨rfl, rfl, rfl, rfl, rfl, rfl, rfl, rfl, trivial⟩ (List.Sublist.refl _) ⟨(by repeat constructor), (by repeat constructor), (by repeat constructor), (by repeat constructor), trivial⟩ fun y hy => ?_
  generalize 2 * ds.countP (fun z => decide (z < 0)) + (x :: q).length = M at hy ⊢
  clear hR hd0
  obtain ⟨j, ds, q, s, r⟩ := y
  obtain ⟨hj, hR, hdn, hd0, hM⟩ := hy
  simp only at hj hR hdn hd0 hM
  have hdl := hR.b.len
  have hqn := nodup_le hR.nd fun y hy => (hR.inq y hy).1
  have hdx := hR.dx
  have hkn := br_k hh hR
  refine kc_seq (kc_region (r_lss rfl rfl rfl (hl_nil (kthen_n (kc_seq ?_)))))
  refine k_dec rfl (fun hb2 => ?_) (fun hb2 => ?_)
  ·have hb2' := hb2; try simp at hb2'
   have hj2 : j < nl.length := by omega
   have hij := hin _ (getD_mem hj2)
   obtain ⟨i, hi⟩ := Int.eq_ofNat_of_zero_le hij.1
   have hil : i < hs.length := by omega
   refine kc_skip (kthen_n (kc_seq (kc_block (kc_seq (kc_region ?_)))))
   refine r_elem (α := Int) nl j rfl T.u_ints T.sz_int rfl rfl rfl (by repeat constructor) rfl hj2 (by decide) ?_
   refine r_load (v := int (i : Int)) rfl T.cell_int rfl (cell_row (by repeat constructor) (rows_get0 hj2 (by rw [← hi]; rfl))) ?_
   refine r_assign rfl rfl (hl_nil (kthen_n (kc_seq (kc_region (r_move rfl rfl (r_move rfl rfl ?_))))))
   refine r_indexAddr_own i (0 + i * 1) rfl T.u_ints T.sz_int rfl rfl rfl hil rfl ?_
   refine r_load (v := int (dAt ds i)) rfl T.cell_int rfl (cell_own (by repeat constructor) (own_el rfl (arr_take ds) (by rw [hdl]; exact hil) (by omega) rfl)) ?_
   refine r_lss rfl rfl rfl (hl_nil (kthen_n ?_))
   refine k_dec rfl (fun hb3 => ?_) (fun hb3 => ?_)
   ·have hb3' := hb3; try simp at hb3'
    obtain ⟨hR2, hql⟩ := br_put hR hil (by rw [hnb i, decide_eq_true_eq, ← hi]; exact getD_mem hj2) hb3
    have hc2 := cnt_set (v := dAt ds x + 1) (by rw [hdl]; exact hil) hb3 (by rw [hdx]; omega)
    refine kc_seq (kc_region (r_move rfl rfl (r_move rfl rfl (r_move rfl rfl (r_move rfl rfl ?_)))))
    refine r_indexAddr_own x (0 + x * 1) rfl T.u_ints T.sz_int rfl rfl rfl hx rfl ?_
    refine r_load (v := int (dAt ds x)) rfl T.cell_int rfl (cell_own (by repeat constructor) (own_el rfl (arr_take ds) (by rw [hdl]; exact hx) (by omega) rfl)) ?_
    refine r_add _ rfl rfl rfl rfl (by unfold I64; omega) ?_
    refine r_indexAddr_own i (0 + i * 1) rfl T.u_ints T.sz_int rfl rfl rfl hil rfl ?_
    refine r_store rfl rfl (.swap _ _ _) T.sz_int (own_el rfl (arr_take ds) (by rw [hdl]; exact hil) (by omega) rfl) (by rfl) ?_
    rw [arr_set]
    refine hl_nil (kthen_n (kc_seq (kc_comm ?_)))
    show KL _ _ _ [0, 1, 2] _ _ _
    refine kl_move rfl rfl rfl (kl_move rfl rfl rfl ?_)
    refine kl_send (buf := q.map fun y : Nat => int (y : Int)) rfl rfl rfl (.swap _ _ _) (by rw [List.length_map]; exact hql) ?_
    refine kl_nil (kthen_n (kc_region (r_move rfl rfl ?_)))
    refine r_add ((q.length : Int) + 2) rfl rfl rfl (by show ((q.length + 1 : Nat) : Int) + 1 = _; omega) (by unfold I64; omega) ?_
    refine r_assign rfl rfl (hl_nil (inb_n (kthen_n (kc_region ?_))))
    refine r_add _ rfl rfl rfl rfl (by unfold I64; omega) ?_
    refine r_move rfl rfl (hl_nil ?_)
    exact again _ (j + 1, ds.set i (dAt ds x + 1), q ++ [i], s + 1, r) ⟨by show j + 1 ≤ nl.length; omega, hR2, fun p hp => by show 0 ≤ dAt (ds.set i (dAt ds x + 1)) _; rw [dAt_set (by rw [hdl]; exact hil)]; split; omega; exact hdn p (by rename_i hne; rcases Nat.lt_or_ge p j with h1 | h1; exact h1; exact absurd (by rw [show p = j by omega, hi]; rfl) hne), by show dAt (ds.set i (dAt ds x + 1)) h = 0; rw [dAt_set (by rw [hdl]; exact hil), if_neg (fun e1 => by subst e1; omega)]; exact hd0, by show 2 * (ds.set i (dAt ds x + 1)).countP (fun z => decide (z < 0)) + (q ++ [i]).length < M; rw [List.length_append, List.length_singleton]; omega⟩ (by show nl.length - (j + 1) < nl.length - j; omega) ⟨rfl, rfl, rfl, congrArg (fun z : Int => some (int z)) (by show (q.length : Int) + 2 = (((q ++ [i]).length + 1 : Nat) : Int); rw [List.length_append, List.length_singleton]; omega), rfl, rfl, rfl, rfl, trivial⟩ (by show List.Sublist [(gC, chanO hs.length ((q ++ [i]).map fun y : Nat => int (y : Int)) (s + 1) r), (g5, Obj.cells (rows (ds.set i (dAt ds x + 1))).toArray T.int (0, 0))] _; rw [List.map_append]; exact List.Sublist.refl _) ⟨(by repeat constructor), (by repeat constructor), (by repeat constructor), (by repeat constructor), trivial⟩
   ·have hb3' := hb3; try simp at hb3'
    skip
    refine kc_skip (inb_n (kthen_n (kc_region ?_)))
    refine r_add _ rfl rfl rfl rfl (by unfold I64; omega) ?_
    refine r_move rfl rfl (hl_nil ?_)
    exact again _ (j + 1, ds, q, s, r) ⟨by show j + 1 ≤ nl.length; omega, hR, fun p hp => by rcases Nat.lt_or_ge p j with h1 | h1; exact hdn p h1; rw [show p = j by omega, hi]; exact Int.not_lt.1 hb3, hd0, hM⟩ (by show nl.length - (j + 1) < nl.length - j; omega) ⟨rfl, rfl, rfl, rfl, rfl, rfl, rfl, rfl, trivial⟩ (List.Sublist.refl _) ⟨(by repeat constructor), (by repeat constructor), (by repeat constructor), (by repeat constructor), trivial⟩
  ·have hb2' := hb2; try simp at hb2'
   obtain rfl : j = nl.length := by omega
   have hB := br_done hR fun t ht het => by
     rw [hnb t, decide_eq_true_eq] at het
     obtain ⟨p, hp, he⟩ := List.getElem_of_mem het
     have h1 := hdn p hp
     rw [getD_at hp, he, Int.toNat_natCast] at h1
     exact h1
   refine kc_exit (then_exit (then_exit (inb_hit (inb_n (kthen_n (kc_region (r_move rfl rfl ?_)))))))
   refine r_sub (q.length : Int) rfl rfl rfl (by show ((q.length + 1 : Nat) : Int) - 1 = _; omega) (by unfold I64; omega) ?_
   refine r_assign rfl rfl (hl_nil ?_)
   exact again _ (k, ds, q, s, r) ⟨hB, hd0⟩ hM ⟨rfl, rfl, rfl, rfl, trivial⟩ (List.Sublist.refl _) ⟨(by repeat constructor), (by repeat constructor), (by repeat constructor), trivial⟩
 ·have hb1' := hb1; try simp at hb1'
  have hq0 : q = [] := by
    cases q with
    | nil => rfl
    | cons x q => exact absurd hb1 (by simp)
  subst hq0
  have hE := bo_end hh hB hd0
  refine kc_exit (then_exit (then_exit (inb_hit (kthen_n (kc_seq (kc_region (r_move rfl rfl (r_assign rfl rfl (hl_nil (kthen_n (kc_ret ?_)))))))))))
  have hE2 : ds = (stepsT (trOf cs hs) (h : Int)) := by rw [hE]; unfold stepsT; rw [hln]; try rfl
  have hle : (stepsT (trOf cs hs) (h : Int)).length = hs.length := by rw [← hE2]; exact hB.b.len
  refine hq_perm (.swap _ _ _) ?_
  refine hq_letgo (rows ds) ⟨[], List.append_nil _⟩ ?_
  exact ret1 (some ⟨g5, 0, none⟩, hs.length) rfl (by show some (Value.slice _ hs.length hs.length) = some (Value.slice _ (stepsT (trOf cs hs) (h : Int)).length hs.length); rw [hle]) rfl (by show (stepsT (trOf cs hs) (h : Int)).length ≤ hs.length; rw [hle]; exact Nat.le_refl _) (List.nil_sublist _) (by rw [← hE2]; exact ⟨m0, trivial⟩)

def stepsE (t : Tr) (h : Int) : List Int × Int := if ¬ askE t [h] = 0 then ([], askE t [h]) else (stepsT t h, 0)
def hiB (t : Tr) (h s : Int) (i : Nat) : Bool := isTrB t (i : Int) && !decide (0 ≤ (stepsT t h).getD i default ∧ (stepsT t h).getD i default ≤ s)
def hiK (t : Tr) (h s : Int) (k : Nat) : List Int := ((List.range k).filter (hiB t h s)).map fun i : Nat => (i : Int)
def hiddenT (t : Tr) (h s : Int) : List Int := hiK t h s t.hs.length
def hiddenE (t : Tr) (h s : Int) : List Int × Int := if ¬ askE t [h] = 0 then ([], askE t [h]) else if 0 ≤ s ∧ s ≤ 6 then (hiddenT t h s, 0) else ([], 1)
theorem hiK_succ (t : Tr) (h s : Int) (k : Nat) : hiK t h s (k + 1) = if hiB t h s k = true then hiK t h s k ++ [(k : Int)] else hiK t h s k := by
  unfold hiK
  rw [List.range_succ, List.filter_append, List.map_append, List.filter_cons, List.filter_nil]
  by_cases e : hiB t h s k = true
  · rw [if_pos e, if_pos e]; rfl
  · rw [if_neg e, if_neg e]; simp
theorem hiK_len (t : Tr) (h s : Int) (k : Nat) : (hiK t h s k).length ≤ k := by
  unfold hiK
  rw [List.length_map]
  exact Nat.le_trans (List.length_filter_le _ _) (by simp)
theorem steps_len (t : Tr) (h : Int) : (stepsT t h).length = t.hs.length := by unfold stepsT; rw [List.length_map, List.length_range]


set_option maxHeartbeats 1000000 in
theorem trade_Hidden_meets {A B : Option Addr} {ca cb : Nat} (cs : List Cl) (hs : List Hd) (h s : Int) (hca : cs.length ≤ ca) (hcb : hs.length ≤ cb) (ha : ∀ h ∈ hs, h.2.2.2.l.length ≤ 1000000) : Meets Tryz.prog F.trade_Hidden [.agg #[.slice A cs.length ca, .slice B hs.length cb], int h, int s] { LI := [Row A (rows cs), RowsF B hs Hd.row], inv := fun x : OutC => (hiddenE (trOf cs hs) h s).1.length ≤ x.2, val := fun x => .tuple #[.slice x.1 (hiddenE (trOf cs hs) h s).1.length x.2, int (hiddenE (trOf cs hs) h s).2], LO := fun x => [Row x.1 (rows (hiddenE (trOf cs hs) h s).1)] } := by
 refine meets_intro F.trade_Hidden_f rfl (Nat.le_of_ble_eq_true rfl) fun w0 => ?_
 refine hc_seq (hc_region ?_)
 refine r_box rfl rfl fun gB => ?_
 refine r_assign rfl rfl (r_assign rfl rfl (hl_nil (then_n ?_)))
 refine hc_cut ⟨fun _ : Nat × OutC × OutC => True, fun x => [(1, int h), (2, int s), (3, .pointer (some ⟨gB, 0, none⟩)), (8, if askE (trOf cs hs) [h] = 0 then .pointer (some ⟨x.1, 0, none⟩) else .pointer none), (9, int (askE (trOf cs hs) [h]))], fun _ => [(gB, .cells #[.slice A cs.length ca, .slice B hs.length cb] T.api_Trades (0, 0))], fun x => (if askE (trOf cs hs) [h] = 0 then beginL cs hs A ca B cb x else []) ++ [Row A (rows cs), RowsF B hs Hd.row]⟩ ?_ ?_
 ·skip
  refine hc_region ?_
  refine r_loadA rfl T.row_api_Trades T.sz_api_Trades rfl (by repeat constructor) (by rfl) ?_
  refine r_move rfl rfl ?_
  refine r_buildSlice _ rfl rfl (fun _ => T.bs_ints_1 ..) fun gS => ?_
  refine hl_letgo (rows [h]) (List.prefix_refl _) ?_
  refine hl_call F.trade_ask_cb rfl rfl (trade_ask_meets cs hs [h] hca hcb ha (by simp)) (List.Perm.refl _) ⟨(by repeat constructor), (by repeat constructor), (by repeat constructor), trivial⟩ fun x _ => ?_
  refine r_move rfl rfl (r_extract rfl rfl rfl (r_extract rfl rfl rfl (r_assign rfl rfl (r_assign rfl rfl (hl_nil ?_)))))
  exact cut_n _ x trivial ⟨rfl, rfl, rfl, rfl, rfl, trivial⟩ (List.Sublist.refl _) (LSub.of_mem fun F hF => (List.mem_append.1 hF).elim (fun h1 => List.mem_append_left _ h1) (fun h2 => List.mem_append_right _ (List.mem_cons_of_mem _ h2)))
 ·refine fun x _ => ?_
  dsimp only
  refine hc_seq (hc_block (hc_seq (hc_region (r_move rfl rfl (r_neq rfl rfl rfl (r_assign rfl rfl (hl_nil (then_n ?_))))))))
  refine c_dec rfl (fun hb1 => ?_) (fun hb1 => ?_)
  ·have hb1' := hb1; try simp at hb1'
   have hE : hiddenE (trOf cs hs) h s = ([], askE (trOf cs hs) [h]) := by rw [hiddenE, if_pos hb1]
   refine hc_seq (hc_region (r_move rfl rfl (r_assign rfl rfl (r_assign rfl rfl (hl_nil (then_n (hc_ret (inb_ret (then_ret ?_)))))))))
   refine hq_nilrow (α := Int) ?_
   exact ret2 (none, 0) rfl rfl rfl (by show Value.tuple #[.slice none (hiddenE (trOf cs hs) h s).1.length 0, int (hiddenE (trOf cs hs) h s).2] = _; rw [hE]; rfl) rfl (by show (hiddenE (trOf cs hs) h s).1.length ≤ 0; rw [hE]; exact Nat.le_refl _) (List.nil_sublist _) (by show LSub _ [Row none (rows (hiddenE (trOf cs hs) h s).1)]; rw [hE]; exact ⟨m0, trivial⟩)
  ·have hb1' := hb1; try simp at hb1'
   have h0 := Classical.not_not.1 hb1
   rw [if_pos h0, if_pos h0]
   have hch := ask_check h0
   have hin := ask_in h0 (List.mem_singleton.2 rfl)
   rw [hs_len] at hin
   obtain ⟨i, hi⟩ := Int.eq_ofNat_of_zero_le hin.1
   have hok := tr_ok hch
   have h6 : cs.length ≤ 6 := hok.c6
   have h6h := hok.h6
   rw [hs_len] at h6h
   have hcl : ∀ i, i < cs.length → ClsOK cs i := hok.c
   obtain ⟨gl, ⟨oa, oc⟩, ⟨ka, kc⟩⟩ := x
   have hln := hs_len cs hs
   show HC _ _ _ _ _ [Row (some ⟨gl, 0, none⟩) [.slice A cs.length ca, .slice B hs.length cb, .slice oa cs.length oc, .slice ka hs.length kc], Row oa (rows (masksN cs cs.length)), Row ka (rows (kindsN hs hs.length)), Row A (rows cs), RowsF B hs Hd.row]
   refine hc_seq (hc_region (r_move rfl rfl ?_))
   refine hl_call F.trade_between_cb rfl rfl (trade_between_meets _ _ _) (List.Perm.refl _) trivial fun _ _ => ?_
   refine r_not rfl rfl (r_assign rfl rfl (hl_nil (then_n ?_)))
   refine hc_cond rfl (fun hb2 => ?_) (fun hb2 => ?_)
   ·have hb2' := hb2; try simp at hb2'
    have hE : hiddenE (trOf cs hs) h s = ([], 1) := by rw [hiddenE, if_neg hb1, if_neg (nbw hb2)]
    refine hc_seq (hc_region (r_assign rfl rfl (r_assign rfl rfl (hl_nil (then_n (hc_ret (inb_ret (then_ret ?_))))))))
    refine hq_nilrow (α := Int) ?_
    exact ret2 (none, 0) rfl rfl rfl (by show Value.tuple #[.slice none (hiddenE (trOf cs hs) h s).1.length 0, int (hiddenE (trOf cs hs) h s).2] = _; rw [hE]; rfl) rfl (by show (hiddenE (trOf cs hs) h s).1.length ≤ 0; rw [hE]; exact Nat.le_refl _) (List.nil_sublist _) (by show LSub _ [Row none (rows (hiddenE (trOf cs hs) h s).1)]; rw [hE]; exact ⟨m0, trivial⟩)
   ·have hb2' := hb2; try simp at hb2'
    have hrc : 0 ≤ s ∧ s ≤ 6 := bw hb2
    have hE : hiddenE (trOf cs hs) h s = (hiddenT (trOf cs hs) h s, 0) := by rw [hiddenE, if_neg hb1, if_pos hrc]
    subst hi
    refine hc_skip (inb_n (then_n (hc_seq (hc_region (r_assign rfl rfl (hl_nil (then_n (hc_seq (hc_seq (hc_region (r_move rfl rfl ?_)))))))))))
    refine r_move rfl rfl ?_
    refine hl_call F.trade_list_steps_cb rfl rfl (trade_list_steps_meets (A := A) (B := B) (oa := oa) (ka := ka) (ca := ca) (cb := cb) (oc := oc) (kc := kc) (gl := gl) cs hs i hok (by omega)) (List.Perm.refl _) ⟨(by repeat constructor), (by repeat constructor), (by repeat constructor), trivial⟩ fun y hy => ?_
    refine r_len_sl rfl T.u_ints rfl ?_
    refine r_move rfl rfl (hl_nil (then_n (hc_block ?_)))
    have hsl := steps_len (trOf cs hs) (i : Int)
    rw [hln] at hsl
    refine hc_loop (β := Nat × OutC × Hp) ⟨fun x => x.1 ≤ hs.length ∧ Grow T.int 1 x.2.1.1 (hiK (trOf cs hs) (i : Int) s x.1).length x.2.1.2 (rows (hiK (trOf cs hs) (i : Int) s x.1)) x.2.2, fun x => [(2, int s), (8, .pointer (some ⟨gl, 0, none⟩)), (10, .slice x.2.1.1 (hiK (trOf cs hs) (i : Int) s x.1).length x.2.1.2), (30, .slice y.1 (stepsT (trOf cs hs) (i : Int)).length y.2), (31, int (stepsT (trOf cs hs) (i : Int)).length), (32, int x.1)], fun x => x.2.2, fun _ => [Row (some ⟨gl, 0, none⟩) [.slice A cs.length ca, .slice B hs.length cb, .slice oa cs.length oc, .slice ka hs.length kc], Row ka (rows (kindsN hs hs.length)), Row y.1 (rows (stepsT (trOf cs hs) (i : Int)))]⟩ (fun x => hs.length - x.1) (0, (none, 0), []) ⟨Nat.zero_le _, Grow.nil _ _⟩ ⟨rfl, rfl, rfl, rfl, rfl, rfl, trivial⟩ (List.nil_sublist _) ⟨(by repeat constructor), (by repeat constructor), (by repeat constructor), trivial⟩ fun x hx => ?_
    obtain ⟨k, ⟨na, nc⟩, og⟩ := x
    obtain ⟨hk, hG⟩ := hx
    simp only at hk hG
    refine hc_seq (hc_region (r_lss rfl rfl rfl (hl_nil (then_n (hc_seq ?_)))))
    refine c_dec rfl (fun hb3 => ?_) (fun hb3 => ?_)
    ·have hb3' := hb3; try simp at hb3'
     have hk2 : k < hs.length := by omega
     have hkl : k < (stepsT (trOf cs hs) (i : Int)).length := by omega
     have hul := hiK_len (trOf cs hs) (i : Int) s k
     have huc := hiK_succ (trOf cs hs) (i : Int) s k
     refine hc_skip (then_n (hc_seq (hc_block (hc_seq (hc_region (r_move rfl rfl ?_))))))
     refine r_elem (α := Int) (stepsT (trOf cs hs) (i : Int)) k rfl T.u_ints T.sz_int rfl rfl rfl (by repeat constructor) rfl hkl (by decide) ?_
     refine r_load (v := int ((stepsT (trOf cs hs) (i : Int)).getD k default)) rfl T.cell_int rfl (cell_row (by repeat constructor) (rows_get0 hkl rfl)) ?_
     refine r_assign rfl rfl (r_assign rfl rfl (hl_nil (then_n ?_)))
     refine hc_cut ⟨fun _ : Unit => True, fun _ => [(2, int s), (8, .pointer (some ⟨gl, 0, none⟩)), (10, .slice (na, nc).1 (hiK (trOf cs hs) (i : Int) s k).length (na, nc).2), (30, .slice y.1 (stepsT (trOf cs hs) (i : Int)).length y.2), (31, int (stepsT (trOf cs hs) (i : Int)).length), (32, int k), (11, int k), (45, .bool (hiB (trOf cs hs) (i : Int) s k))], fun _ => og, fun _ => [Row (some ⟨gl, 0, none⟩) [.slice A cs.length ca, .slice B hs.length cb, .slice oa cs.length oc, .slice ka hs.length kc], Row ka (rows (kindsN hs hs.length)), Row y.1 (rows (stepsT (trOf cs hs) (i : Int)))]⟩ ?_ ?_
     ·skip
      refine hc_region (r_move rfl rfl (r_move rfl rfl ?_))
      refine hl_call F.trade_list_isTrade_cb rfl rfl (trade_list_isTrade_meets (A := A) (B := B) (oa := oa) (ka := ka) (ca := ca) (cb := cb) (oc := oc) (kc := kc) (gl := gl) cs hs (k : Int) (by omega) (by omega) (by omega)) (hpR := og) (List.Perm.refl _) ⟨(by repeat constructor), (by repeat constructor), trivial⟩ fun _ _ => ?_
      refine r_move rfl rfl ?_
      refine g_split rfl rfl ?_ ?_
      ·intro hg1; have hg1' := hg1; try simp at hg1'
       have hA : isTrB (trOf cs hs) (k : Int) = true := by simpa using hg1
       refine g_yes rfl rfl hg1 (r_move rfl rfl (g_yes rfl rfl hg1 (r_move rfl rfl (g_yes rfl rfl hg1 ?_))))
       refine hl_call F.trade_between_cb rfl rfl (trade_between_meets _ _ _) (List.Perm.refl _) trivial fun _ _ => ?_
       refine g_yes rfl rfl hg1 (r_not rfl rfl ?_)
       refine p_t rfl rfl (bt1 hg1) rfl ?_
       refine hl_nil ?_
       exact cut_n _ () trivial ⟨rfl, rfl, rfl, rfl, rfl, rfl, rfl, congrArg (fun b => some (Value.bool b)) (by unfold hiB; rw [hA, Bool.true_and]), trivial⟩ (List.Sublist.refl _) ⟨(by repeat constructor), (by repeat constructor), (by repeat constructor), trivial⟩
      ·intro hg1; have hg1' := hg1; try simp at hg1'
       have hA : isTrB (trOf cs hs) (k : Int) = false := by simpa using hg1
       refine g_no rfl rfl rfl rfl rfl hg1 (g_no rfl rfl rfl rfl rfl hg1 (g_no rfl rfl rfl rfl rfl hg1 (g_no rfl rfl rfl rfl rfl hg1 ?_)))
       refine p_f rfl rfl (bf2 hg1) rfl ?_
       refine hl_nil ?_
       exact cut_n _ () trivial ⟨rfl, rfl, rfl, rfl, rfl, rfl, rfl, congrArg (fun b => some (Value.bool b)) (by unfold hiB; rw [hA, Bool.false_and]), trivial⟩ (List.Sublist.refl _) ⟨(by repeat constructor), (by repeat constructor), (by repeat constructor), trivial⟩
     ·refine fun _ _ => ?_
      refine hc_cond rfl (fun hb4 => ?_) (fun hb4 => ?_)
      ·have hb4' := hb4; try simp at hb4'
       rw [if_pos hb4] at huc
       refine hc_region (r_move rfl rfl (r_move rfl rfl ?_))
       refine r_buildSlice _ rfl rfl (fun _ => T.bs_ints_1 ..) fun gS => ?_
       refine hl_letgo (rows [(k : Int)]) (List.prefix_refl _) ?_
       refine r_append ((hiK (trOf cs hs) (i : Int) s k).length + 1) (rows ((hiK (trOf cs hs) (i : Int) s k) ++ [(k : Int)])) T.el_ints rfl rfl rfl hG (hp' := []) (by first | (rw [List.append_nil]; done) | (rw [List.append_nil]; exact List.Perm.refl _)) (Src.row (news := rows [(k : Int)]) (m := 1) m0 rfl (rows_one _) (by decide)) rfl (rows_append _ _).symm (by unfold maxLen; omega) (by omega) fun A' c' og' hG' => ?_
       refine r_assign rfl rfl (hl_nil (inb_n (then_n (hc_region ?_))))
       refine r_add _ rfl rfl rfl rfl (by unfold I64; omega) ?_
       refine r_move rfl rfl (hl_nil ?_)
       exact again _ (k + 1, (A', c'), og') ⟨by show k + 1 ≤ hs.length; omega, by show Grow _ _ _ (hiK (trOf cs hs) (i : Int) s (k + 1)).length _ (rows (hiK (trOf cs hs) (i : Int) s (k + 1))) _; rw [huc, List.length_append]; exact hG'⟩ (by show hs.length - (k + 1) < hs.length - k; omega) ⟨rfl, rfl, by show some (Value.slice A' ((hiK (trOf cs hs) (i : Int) s k).length + 1) c') = some (Value.slice A' (hiK (trOf cs hs) (i : Int) s (k + 1)).length c'); rw [huc, List.length_append]; rfl, rfl, rfl, rfl, trivial⟩ (List.sublist_append_left _ _) ⟨(by repeat constructor), (by repeat constructor), (by repeat constructor), trivial⟩
      ·have hb4' := hb4; try simp at hb4'
       rw [if_neg (by rw [hb4]; decide)] at huc
       refine hc_skip (inb_n (then_n (hc_region ?_)))
       refine r_add _ rfl rfl rfl rfl (by unfold I64; omega) ?_
       refine r_move rfl rfl (hl_nil ?_)
       exact again _ (k + 1, (na, nc), og) ⟨by show k + 1 ≤ hs.length; omega, by show Grow _ _ _ (hiK (trOf cs hs) (i : Int) s (k + 1)).length _ (rows (hiK (trOf cs hs) (i : Int) s (k + 1))) _; rw [huc]; exact hG⟩ (by show hs.length - (k + 1) < hs.length - k; omega) ⟨rfl, rfl, by show some (Value.slice na (hiK (trOf cs hs) (i : Int) s k).length nc) = some (Value.slice na (hiK (trOf cs hs) (i : Int) s (k + 1)).length nc); rw [huc], rfl, rfl, rfl, trivial⟩ (List.Sublist.refl _) ⟨(by repeat constructor), (by repeat constructor), (by repeat constructor), trivial⟩
    ·have hb3' := hb3; try simp at hb3'
     obtain rfl : k = hs.length := by omega
     have hG2 := hG
     rw [show (hiK (trOf cs hs) (i : Int) s hs.length) = hiddenT (trOf cs hs) (i : Int) s from by unfold hiddenT; rw [hln]] at hG2
     refine hc_exit (then_exit (then_exit (inb_hit (then_n (hc_seq (hc_region (r_move rfl rfl (r_assign rfl rfl (r_assign rfl rfl (hl_nil (then_n ?_)))))))))))
     refine hc_ret (hq_grown0 hG2 ?_)
     exact ret2 (na, nc) rfl rfl rfl (by show Value.tuple #[.slice na (hiddenE (trOf cs hs) (i : Int) s).1.length nc, int (hiddenE (trOf cs hs) (i : Int) s).2] = Value.tuple #[.slice na (hiK (trOf cs hs) (i : Int) s hs.length).length nc, int 0]; rw [hE, show (hiK (trOf cs hs) (i : Int) s hs.length) = hiddenT (trOf cs hs) (i : Int) s from by unfold hiddenT; rw [hln]]) rfl (by show (hiddenE (trOf cs hs) (i : Int) s).1.length ≤ nc; rw [hE]; exact hG2.le) (List.nil_sublist _) (by show LSub _ [Row na (rows (hiddenE (trOf cs hs) (i : Int) s).1)]; rw [hE]; exact ⟨m0, trivial⟩)

theorem hidden_is {A B : Option Addr} {ca cb : Nat} (cs : List Cl) (hs : List Hd) (h s : Int) (hca : cs.length ≤ ca) (hcb : hs.length ≤ cb) (ha : ∀ h ∈ hs, h.2.2.2.l.length ≤ 1000000) (h0 : checkT (trOf cs hs) = 0) (hh : 0 ≤ h ∧ h ≤ ((trOf cs hs).hs.length : Int) - 1) (hsx : 0 ≤ s ∧ s ≤ 6) : Meets Tryz.prog F.trade_Hidden [.agg #[.slice A cs.length ca, .slice B hs.length cb], int h, int s] { LI := [Row A (rows cs), RowsF B hs Hd.row], inv := fun x : OutC => (hiddenT (trOf cs hs) h s).length ≤ x.2, val := fun x => .tuple #[.slice x.1 (hiddenT (trOf cs hs) h s).length x.2, int 0], LO := fun x => [Row x.1 (rows (hiddenT (trOf cs hs) h s))] } := by
  have hm := trade_Hidden_meets (A := A) (B := B) (ca := ca) (cb := cb) cs hs h s hca hcb ha
  rw [show hiddenE (trOf cs hs) h s = (hiddenT (trOf cs hs) h s, 0) by rw [hiddenE, if_neg (not_not_intro (ask_one h0 hh)), if_pos hsx]] at hm
  exact hm

end Go.Proofs.YtlpgheniajdkfaaGreat
