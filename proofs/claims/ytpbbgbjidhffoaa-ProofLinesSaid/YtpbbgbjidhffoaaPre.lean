/- Walks of price and within. -/
import Derived.Test.YtpbbgbjidhffoaaPqf
import Derived.Test.YtpbbgbjidhffoaaPra
namespace Go.Proofs.Ytpbbgbjidhffoaa
open Go Go.W
set_option linter.unusedVariables false
set_option linter.unusedSimpArgs false
set_option maxRecDepth 20000
attribute [local irreducible] HL HC HQ HB Row Rows2 Blk Facts


theorem law07_within_meets {A B : Option Addr} {ca cb : Nat} (a b : List Str) (ha : a.length ≤ 1000000) (hb : b.length ≤ 1000000) : Meets Try.prog F.law07_within [.slice A a.length ca, .slice B b.length cb] { LI := [Row A (rows a), Row B (rows b)], val := fun _ : Unit => .bool (decide (commonI a b = a.length)) } := by
  refine meets_intro F.law07_within_f rfl (Nat.le_of_ble_eq_true rfl) fun w0 => ?_
  refine hc_seq ?_
  refine hc_region ?_
  refine r_assign rfl rfl ?_
  refine hl_nil ?_
  refine then_n ?_
  refine hc_seq ?_
  refine hc_region ?_
  refine r_move rfl rfl ?_
  refine r_move rfl rfl ?_
  refine hl_call F.kit_Common_cb rfl rfl (kit_Common_meets a b ha hb) (List.Perm.refl _) ⟨m0, m1, trivial⟩ fun _ _ => ?_
  refine r_move rfl rfl ?_
  refine r_len_sl rfl T.u_strs rfl ?_
  refine r_eql rfl rfl rfl ?_
  refine r_assign rfl rfl ?_
  refine hl_nil ?_
  refine then_n ?_
  refine hc_ret ?_
  exact ret1 () rfl rfl rfl trivial (List.nil_sublist _) trivial

theorem law07_price_meets {A B : Option Addr} {ca cb : Nat} (a b : List Str) (ha : pageErr a = 0) (hb : pageErr b = 0) (hbl : ∀ s ∈ b, lineErr s = 0) : Meets Try.prog F.law07_price [.slice A a.length ca, .slice B b.length cb] { LI := [Row A (rows a), Row B (rows b)], val := fun _ : Unit => .tuple #[int ((b.length : Int) - commonI a b), .bool true] } := by
  refine meets_intro F.law07_price_f rfl (Nat.le_of_ble_eq_true rfl) fun w0 => ?_
  refine hc_seq ?_
  refine hc_region ?_
  refine r_assign rfl rfl ?_
  refine r_assign rfl rfl ?_
  refine hl_nil ?_
  refine then_n ?_
  refine hc_seq ?_
  refine hc_region ?_
  refine r_move rfl rfl ?_
  refine r_move rfl rfl ?_
  have hde := diffE_ok (diffP a b 0 0).2 ha hb
  have hd1 := proof_Diff_meets (A := A) (ca := ca) (B := B) (cb := cb) a b
  rw [hde] at hd1
  refine hl_call F.proof_Diff_cb rfl rfl hd1 (List.Perm.refl _) ⟨m0, m1, trivial⟩ fun z3 _ => ?_
  refine r_move rfl rfl ?_
  refine r_extract rfl rfl rfl ?_
  refine r_extract rfl rfl rfl ?_
  refine r_assign rfl rfl ?_
  refine r_assign rfl rfl ?_
  refine hl_nil ?_
  refine then_n ?_
  refine hc_seq ?_
  refine hc_seq ?_
  refine hc_region ?_
  refine r_move rfl rfl ?_
  refine r_neq rfl rfl rfl ?_
  refine hl_nil ?_
  refine then_n ?_
  first | refine c_dec rfl (fun hb1 => ?_) (fun hb1 => ?_) | refine hc_cond rfl (fun hb1 => ?_) (fun hb1 => ?_)
  · have hb1' := hb1; try simp at hb1'
  · have hb1' := hb1; try simp at hb1'
    refine hc_skip ?_
    refine then_n ?_
    refine hc_seq ?_
    refine hc_region ?_
    refine r_move rfl rfl ?_
    refine r_move rfl rfl ?_
    have hco := proof_Cost_meets (A := A) (ca := ca) (B := z3.1) (cb := z3.2) a (diffP a b 0 0).2
    rw [diff_cost ha hb hbl] at hco
    refine hl_call F.proof_Cost_cb rfl rfl hco (List.Perm.refl _) ⟨(by repeat constructor), (by repeat constructor), trivial⟩ fun _ _ => ?_
    refine r_move rfl rfl ?_
    refine r_extract rfl rfl rfl ?_
    refine r_extract rfl rfl rfl ?_
    refine r_assign rfl rfl ?_
    refine r_assign rfl rfl ?_
    refine hl_nil ?_
    refine then_n ?_
    refine hc_seq ?_
    refine hc_region ?_
    refine r_move rfl rfl ?_
    refine r_move rfl rfl ?_
    refine r_eql rfl rfl rfl ?_
    refine r_assign rfl rfl ?_
    refine r_assign rfl rfl ?_
    refine hl_nil ?_
    refine then_n ?_
    refine hc_ret ?_
    exact ret2 () rfl rfl rfl rfl rfl trivial (List.nil_sublist _) trivial

end Go.Proofs.Ytpbbgbjidhffoaa
