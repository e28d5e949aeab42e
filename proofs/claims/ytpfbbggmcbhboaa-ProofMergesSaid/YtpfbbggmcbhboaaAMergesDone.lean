/- The statement ProofMerges: for every input the function returns true, and its argument reads afterwards as it read before. Conditions: none. -/
import Derived.Test.YtpfbbggmcbhboaaAAp
import Derived.Test.YtpfbbggmcbhboaaRows
import Derived.Conc.LeavingOf
namespace Go.Proofs.Ytpfbbggmcbhboaa.proofMergesDone
open Go Go.RowKit Go.ChangeShapes Go.WideShapes Go.ChangeMaps Go.W Go.Conc
open Go.ChangeMaps (open_string shut_string)
set_option linter.unusedVariables false
set_option linter.unusedSimpArgs false
theorem own : ownKnob Try.prog.godebug = none := by kernel_rfl
theorem laidOut : laidOutB Try.prog = true := by kernel_rfl
set_option maxRecDepth 100000 in
theorem lifted (os : Os) (started : os.Started) (H : Type) (enc : TypeId × Value → H) :
    ReturnsInLeavingWide {} Try.checked os 3 .any (Rows.proofMergesSpec.pre6 enc Try.prog Try.f3 Rows.proofMergesRow.domain false) (Rows.proofMergesSpec.post enc Try.prog Try.f3 false true false false) := by
  refine returnsInLeavingWide_of_change_sized (C := Try.checked) own started Try.func3
    (ChangeSpec.witness6 (enc := enc) (C := Try.checked) false ⟨#[], #[.slice none 0 0, .slice none 0 0, .slice none 0 0, .slice none 0 0], []⟩ 8 (by kernel_rfl) (by kernel_rfl) (by kernel_rfl) (by kernel_rfl)) ?_
  intro W base args ds gs before hval0 hW _ _ _
  have hval : ∀ (j : Nat) t v, Try.f3.params[j]? = some t → args[j]? = some v → Value.okWide Try.prog W .any base t v := hval0
  have hW' := hW
  obtain ⟨p, q, hA0, hV, rfl, _, _⟩ := hW
  have hA : DataW.TrodAll enc Try.prog W 0 (fun _ => true) true Try.f3.params.toList args.toList ds p := hA0
  rw [Try.params3] at hA hval
  obtain ⟨v0, vs0, d0, ds0, p0, q0, hargs, rfl, rfl, h0, r0⟩ := trodAll_cons hA
  obtain ⟨v1, vs1, d1, ds1, p1, q1, rfl, rfl, rfl, h1, r1⟩ := trodAll_cons r0
  obtain ⟨v2, vs2, d2, ds2, p2, q2, rfl, rfl, rfl, h2, r2⟩ := trodAll_cons r1
  obtain ⟨v3, vs3, d3, ds3, p3, q3, rfl, rfl, rfl, h3, r3⟩ := trodAll_cons r2
  obtain ⟨rfl, rfl, rfl⟩ := trodAll_nil r3
  obtain rfl : args = #[v0, v1, v2, v3] := by cases args; simp_all
  obtain ⟨rfl, rfl⟩ := trodVars_none hV
  obtain ⟨a0, n0, c0, rfl⟩ := okWide_slice Try.underlying22 (hval 0 22 v0 rfl rfl)
  have k0 := h0
  have lt0 : ∀ x ∈ p0, x.block < W.heap.size := by obtain ⟨m, hm⟩ := k0; exact DataW.trod_lt m _ _ _ hm
  obtain ⟨l0, e0, hl0, hm0, hr0⟩ := (by obtain ⟨fuel, hf⟩ := h0; exact in_strs Try.underlying22 Try.underlying9 (by kernel_rfl) hf : ∃ l : List Str, n0 = l.length ∧ l.length ≤ c0 ∧ c0 ≤ maxLen ∧ (Row a0 (rows l)).P W)
  subst e0
  unfold maxLen at hm0
  obtain ⟨a1, n1, c1, rfl⟩ := okWide_slice Try.underlying23 (hval 1 23 v1 rfl rfl)
  have k1 := h1
  have lt1 : ∀ x ∈ p1, x.block < W.heap.size := by obtain ⟨m, hm⟩ := k1; exact DataW.trod_lt m _ _ _ hm
  obtain ⟨l1, e1, hl1, hm1, hr1⟩ := (by obtain ⟨fuel, hf⟩ := h1; exact in_marks Try.underlying23 Try.underlying44 (by kernel_rfl) rfl rfl rfl (by kernel_rfl) (by kernel_rfl) (by kernel_rfl) Try.underlying3 Try.underlying3 Try.underlying9 hf : ∃ l : List Mk, n1 = l.length ∧ l.length ≤ c1 ∧ c1 ≤ maxLen ∧ (Row a1 (rows l)).P W)
  subst e1
  unfold maxLen at hm1
  obtain ⟨a2, n2, c2, rfl⟩ := okWide_slice Try.underlying23 (hval 2 23 v2 rfl rfl)
  have k2 := h2
  have lt2 : ∀ x ∈ p2, x.block < W.heap.size := by obtain ⟨m, hm⟩ := k2; exact DataW.trod_lt m _ _ _ hm
  obtain ⟨l2, e2, hl2, hm2, hr2⟩ := (by obtain ⟨fuel, hf⟩ := h2; exact in_marks Try.underlying23 Try.underlying44 (by kernel_rfl) rfl rfl rfl (by kernel_rfl) (by kernel_rfl) (by kernel_rfl) Try.underlying3 Try.underlying3 Try.underlying9 hf : ∃ l : List Mk, n2 = l.length ∧ l.length ≤ c2 ∧ c2 ≤ maxLen ∧ (Row a2 (rows l)).P W)
  subst e2
  unfold maxLen at hm2
  obtain ⟨a3, n3, c3, rfl⟩ := okWide_slice Try.underlying24 (hval 3 24 v3 rfl rfl)
  have k3 := h3
  have lt3 : ∀ x ∈ p3, x.block < W.heap.size := by obtain ⟨m, hm⟩ := k3; exact DataW.trod_lt m _ _ _ hm
  obtain ⟨l3, e3, hl3, hm3, hr3, hz3⟩ := (by obtain ⟨fuel, hf⟩ := h3; exact in_ints Try.underlying24 Try.underlying3 (by kernel_rfl) hf : ∃ l : List Int, n3 = l.length ∧ l.length ≤ c3 ∧ c3 ≤ maxLen ∧ (Row a3 (rows l)).P W ∧ ∀ z ∈ l, I64 z)
  subst e3
  unfold maxLen at hm3
  clear hA0 hval0
  obtain ⟨M, last, o, w', t', r1, r2, r3, r4⟩ := run_of (t := 8) Try.func3 rfl (by kernel_rfl) (law_calls (law07_ProofMerges_meets l0 l1 l2 l3 (by omega) (by omega) (by omega) (by omega)) (fun F hF => by simp only [List.mem_cons, List.not_mem_nil, or_false] at hF; rcases hF with rfl | rfl | rfl | rfl <;> assumption)) (fun v w d h => ⟨h.1, ⟨h.2.os, h.2.tape, h.2.output, h.2.size, h.2.block⟩⟩)
  refine ⟨M, last, o, w', t', r1, r2, r3, r4.mono fun e hF => ?_⟩
  obtain ⟨he, bel⟩ := hF
  subst he
  exact ⟨_, _, _, [], _, [], hW', trodAll_mk1 (shut_bool Try.underlying4 _), (trodAll_cons_mk (Below.trod laidOut (by kernel_rfl) (of_decide_eq_true (by kernel_rfl)) k0 bel lt0) (trodAll_cons_mk (Below.trod laidOut (by kernel_rfl) (of_decide_eq_true (by kernel_rfl)) k1 bel lt1) (trodAll_cons_mk (Below.trod laidOut (by kernel_rfl) (of_decide_eq_true (by kernel_rfl)) k2 bel lt2) (trodAll_cons_mk (Below.trod laidOut (by kernel_rfl) (of_decide_eq_true (by kernel_rfl)) k3 bel lt3) trodAll_mk0)))), rfl, bel.frame _, fun h => by cases h⟩
theorem proved : Rows.ProofMergesSaid :=
  OpenClaim.holds_of_wide_leaving 3 Try.f3 rfl rfl rfl rfl rfl rfl rfl ⟨rfl, rfl, rfl, rfl, rfl⟩ rfl rfl rfl rfl rfl (by kernel_rfl) Try.func3 (by kernel_rfl)
    (of_decide_eq_true (by kernel_rfl)) (by unfold Func.isWrapper; first | (rw [if_pos (by decide +kernel)]; kernel_rfl) | (rw [if_neg (by decide +kernel)]; exact ⟨rfl, rfl⟩))
    (fun os started H enc _ => lifted os started H enc)
#print axioms proved
end Go.Proofs.Ytpfbbggmcbhboaa.proofMergesDone
