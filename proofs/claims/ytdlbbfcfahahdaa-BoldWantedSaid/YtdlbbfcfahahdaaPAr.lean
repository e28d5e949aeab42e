/- Texts of this claim, one behind another. -/
import Derived.Conc.LeavingOf
import Derived.Test.YtdlbbfcfahahdaaPAa
set_option linter.unusedVariables false
set_option linter.unusedSimpArgs false
section
namespace Go.W
open Go Go.Conc
theorem Lv.at {P : Program} {fr : Frame} {w : World} {v : Value} (h : Lv P fr w v) (d : Nat) : Lv P fr (w.at d) v :=
  ⟨h.1, h.2.1, h.2.2.1, h.2.2.2.elim fun fn x => ⟨fn, x.1, fun d' => x.2 d'⟩⟩
theorem run_of {P : Program} {f : FuncId} {fn : Func} {t : Tmp} {args : Array Value} {W : World} {R : Value → World → Prop} (hf : P.funcs[f]? = some fn) (hres : fn.results = #[.tmp t]) (hin : P.inits.idxOf? f = none)
    (h : CallsB P f args W R) (hat : ∀ v w d, R v w → R v (w.at d)) :
    ∃ M last o w' t', runNT P (M + 1) (solo (G (Frame.enter P f args .normal) []) W) #[] = (.ended o w', t') ∧ runN P M (solo (G (Frame.enter P f args .normal) []) W) = .next last ∧ step P last = .ended o w' ∧ Conc.Good P R last o w' t' := by
  have hco := h [] (fun g w => ∃ v fr, g = G fr [] ∧ fr.fn = f ∧ Lv P fr w v ∧ R v w) (fun fr v w' hfr hR hl => co_done fun d => ⟨v, fr, rfl, hfr, hl.at d, hat _ _ _ hR⟩)
  obtain ⟨N, gs, g, w, sl, t0, q, B, r, h0, hL, hP, v, fr, rfl, hfr, hl, hR⟩ := hco W.drawn #[G (Frame.enter P f args .normal) []] none #[] (fun _ => 0) 0 rfl (leavers_one P _) past_nil
  have hG : Goes P true AtRel (fun _ _ es => ∀ e ∈ es, EvL noS B e) (AtEnd P noS B R) 0 (G fr []) w := by
    rintro w₁ ⟨d, rfl⟩
    refine ⟨rfl, v, #[], ?_, by simp, hat _ _ _ hR⟩
    obtain ⟨hm, hd, hn, fn', hf', hr⟩ := hl.at d
    rw [hfr, hf] at hf'
    obtain rfl := Option.some.inj hf'
    have hf2 : P.funcs[fr.fn]? = some fn := by rw [hfr]; exact hf
    have hin2 : P.inits.idxOf? fr.fn = none := by rw [hfr]; exact hin
    have he : (results fn fr.tmps).events P (w.at d) #[] = #[] := events_results_tmp hres _ _
    have hr0 : (results fn fr.tmps).run P (w.at d) = .ok v (w.at d) := hr d
    simp [G, stepG, unwind, doReturn, hn, hd, hm, hf2, hr0, he, hin2, GStep.after, seen]
  obtain ⟨M, last, o, w', t', e1, e2, e3, e4⟩ := beside_ends (P := P) (Post := R) (sl := sl) (fun _ _ _ h => h) h0 hL hP hG
  have hrun : runNT P N (solo (G (Frame.enter P f args .normal) []) W) #[] = (.next (crowd gs w sl), t0) := r
  refine ⟨N + M, last, o, w', t', ?_, ?_, e3, e4⟩
  · rw [Nat.add_assoc, runNT_two hrun]; exact e1
  · rw [runN_add, ← runNT_fst P _ _ #[], hrun]; exact e2
end Go.W
end
