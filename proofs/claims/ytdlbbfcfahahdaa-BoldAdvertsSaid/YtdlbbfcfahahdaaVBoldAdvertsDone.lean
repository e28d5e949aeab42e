/- The statement BoldAdverts: for every input the function returns true, and its argument reads afterwards as it read before. Conditions: none. -/
import Derived.Test.YtdlbbfcfahahdaaVAq
import Derived.Test.YtdlbbfcfahahdaaVAr
import Derived.Test.YtdlbbfcfahahdaaRows
import Derived.Conc.LeavingOf
namespace Go.Proofs.Ytdlbbfcfahahdaa.boldAdvertsDone
open Go Go.RowKit Go.ChangeShapes Go.WideShapes Go.ChangeMaps Go.W Go.Conc
open Go.ChangeMaps (open_string shut_string)
set_option linter.unusedVariables false
set_option linter.unusedSimpArgs false
theorem own : ownKnob Try.prog.godebug = none := by kernel_rfl
theorem laidOut : laidOutB Try.prog = true := by kernel_rfl
set_option maxRecDepth 100000 in
theorem lifted (os : Os) (started : os.Started) (H : Type) (enc : TypeId × Value → H) :
    ReturnsInLeavingWide {} Try.checked os 15 .any (Rows.boldAdvertsSpec.pre6 enc Try.prog Try.f15 Rows.boldAdvertsRow.domain false) (Rows.boldAdvertsSpec.post enc Try.prog Try.f15 false true false false) := by
  refine returnsInLeavingWide_of_change_sized (C := Try.checked) own started Try.func15
    (ChangeSpec.witness6 (enc := enc) (C := Try.checked) false ⟨#[], #[.agg #[.int .i64 0, .int .i64 0, .int .i64 0, .int .i64 0, .int .i64 0, .int .i64 0, .slice none 0 0, .slice none 0 0], .agg #[.int .i64 0, .int .i64 0, .int .i64 0], .int .i64 0, .int .i64 0, .slice none 0 0], []⟩ 8 (by kernel_rfl) (by kernel_rfl) (by kernel_rfl) (by kernel_rfl)) ?_
  intro W base args ds gs before hval0 hW _ _ _
  have hval : ∀ (j : Nat) t v, Try.f15.params[j]? = some t → args[j]? = some v → Value.okWide Try.prog W .any base t v := hval0
  have hW' := hW
  obtain ⟨p, q, hA0, hV, rfl, _, _⟩ := hW
  have hA : DataW.TrodAll enc Try.prog W 0 (fun _ => true) true Try.f15.params.toList args.toList ds p := hA0
  rw [Try.params15] at hA hval
  obtain ⟨v0, vs0, d0, ds0, p0, q0, hargs, rfl, rfl, h0, r0⟩ := trodAll_cons hA
  obtain ⟨v1, vs1, d1, ds1, p1, q1, rfl, rfl, rfl, h1, r1⟩ := trodAll_cons r0
  obtain ⟨v2, vs2, d2, ds2, p2, q2, rfl, rfl, rfl, h2, r2⟩ := trodAll_cons r1
  obtain ⟨v3, vs3, d3, ds3, p3, q3, rfl, rfl, rfl, h3, r3⟩ := trodAll_cons r2
  obtain ⟨v4, vs4, d4, ds4, p4, q4, rfl, rfl, rfl, h4, r4⟩ := trodAll_cons r3
  obtain ⟨rfl, rfl, rfl⟩ := trodAll_nil r4
  obtain rfl : args = #[v0, v1, v2, v3, v4] := by cases args; simp_all
  obtain ⟨rfl, rfl⟩ := trodVars_none hV
  obtain ⟨cells0, rfl, _⟩ := okWide_struct Try.underlying36 (hval 0 36 v0 rfl rfl)
  have k0 := h0
  have lt0 : ∀ x ∈ p0, x.block < W.heap.size := by obtain ⟨m, hm⟩ := k0; exact DataW.trod_lt m _ _ _ hm
  obtain ⟨l0, e0, hl0, hl0b, hr0, hr0b⟩ := in_sales (by obtain ⟨fuel, hf⟩ := h0; exact ⟨fuel, _, hf⟩)
  subst e0
  obtain ⟨cells1, rfl, _⟩ := okWide_struct Try.underlying39 (hval 1 39 v1 rfl rfl)
  have k1 := h1
  have lt1 : ∀ x ∈ p1, x.block < W.heap.size := by obtain ⟨m, hm⟩ := k1; exact DataW.trod_lt m _ _ _ hm
  obtain ⟨l1, e1⟩ := in_advert (by obtain ⟨fuel, hf⟩ := h1; exact ⟨fuel, _, hf⟩)
  subst e1
  obtain ⟨z2, rfl, rfl, rfl, w2⟩ := open_int Try.underlying3 (hval 2 3 v2 rfl rfl) h2
  obtain ⟨z3, rfl, rfl, rfl, w3⟩ := open_int Try.underlying3 (hval 3 3 v3 rfl rfl) h3
  obtain ⟨a4, n4, c4, rfl⟩ := okWide_slice Try.underlying22 (hval 4 22 v4 rfl rfl)
  have k4 := h4
  have lt4 : ∀ x ∈ p4, x.block < W.heap.size := by obtain ⟨m, hm⟩ := k4; exact DataW.trod_lt m _ _ _ hm
  obtain ⟨l4, e4, hl4, hm4, hr4, hz4⟩ := (by obtain ⟨fuel, hf⟩ := h4; exact in_ints Try.underlying22 Try.underlying3 (by kernel_rfl) hf : ∃ l : List Int, n4 = l.length ∧ l.length ≤ c4 ∧ c4 ≤ maxLen ∧ (Row a4 (rows l)).P W ∧ ∀ z ∈ l, I64 z)
  subst e4
  unfold maxLen at hm4
  clear hA0 hval0
  obtain ⟨M, last, o, w', t', r1, r2, r3, r4⟩ := run_of (t := 10) Try.func15 rfl (by kernel_rfl) (law_calls (law09_BoldAdverts_meets l0 l1 z2 z3 l4 (by omega)) (fun F hF => by simp only [List.mem_cons, List.not_mem_nil, or_false] at hF; rcases hF with rfl | rfl | rfl <;> assumption)) (fun v w d h => ⟨h.1, ⟨h.2.os, h.2.tape, h.2.output, h.2.size, h.2.block⟩⟩)
  refine ⟨M, last, o, w', t', r1, r2, r3, r4.mono fun e hF => ?_⟩
  obtain ⟨he, bel⟩ := hF
  subst he
  exact ⟨_, _, _, [], _, [], hW', trodAll_mk1 (shut_bool Try.underlying4 _), (trodAll_cons_mk (Below.trod laidOut (by kernel_rfl) (of_decide_eq_true (by kernel_rfl)) k0 bel lt0) (trodAll_cons_mk (Below.trod laidOut (by kernel_rfl) (of_decide_eq_true (by kernel_rfl)) k1 bel lt1) (trodAll_cons_mk (shut_int Try.underlying3 w2) (trodAll_cons_mk (shut_int Try.underlying3 w3) (trodAll_cons_mk (Below.trod laidOut (by kernel_rfl) (of_decide_eq_true (by kernel_rfl)) k4 bel lt4) trodAll_mk0))))), rfl, bel.frame _, fun h => by cases h⟩
theorem proved : Rows.BoldAdvertsSaid :=
  OpenClaim.holds_of_wide_leaving 15 Try.f15 rfl rfl rfl rfl rfl rfl rfl ⟨rfl, rfl, rfl, rfl, rfl⟩ rfl rfl rfl rfl rfl (by kernel_rfl) Try.func15 (by kernel_rfl)
    (of_decide_eq_true (by kernel_rfl)) (by unfold Func.isWrapper; first | (rw [if_pos (by decide +kernel)]; kernel_rfl) | (rw [if_neg (by decide +kernel)]; exact ⟨rfl, rfl⟩))
    (fun os started H enc _ => lifted os started H enc)
#print axioms proved
end Go.Proofs.Ytdlbbfcfahahdaa.boldAdvertsDone
