/- Texts of this claim, one behind another. -/
import Derived.Conc.LeavingOf
import Derived.Test.YtdlbbfcfahahdaaVAq
import Derived.Test.YtdlbbfcfahahdaaVAa
set_option linter.unusedVariables false
set_option linter.unusedSimpArgs false
section
namespace Go.Proofs.Ytdlbbfcfahahdaa
open Go Go.W Go.RowKit Go.ChangeShapes Go.WideShapes Go.Deep
set_option maxRecDepth 20000
attribute [local irreducible] HL HC HQ HB Row Rows2 Blk Facts
section
variable {H : Type} {enc : TypeId × Value → H} {P : Program} {w : World} {base : Nat} {spare : Nat → Bool} {held : Bool}
theorem in_ads {t e : TypeId} {f0 f1 f2 : Field} {v : Value} {fuel : Nat} {x : DataW H × List MemPlace} (ht : P.underlying t = some (.slice e)) (he : P.underlying e = some (.struct #[f0, f1, f2])) (ce : P.cellsOf e = 3)
    (o0 : f0.offset = 0) (o1 : f1.offset = 1) (o2 : f2.offset = 2) (c0 : P.cellsOf f0.type = 1) (c1 : P.cellsOf f1.type = 1) (c2 : P.cellsOf f2.type = 1) (t0 : P.underlying f0.type = some (.int .i64)) (t1 : P.underlying f1.type = some (.int .i64)) (t2 : P.underlying f2.type = some (.int .i64))
    (h : DataW.trod enc P w base spare held fuel t [v] = some x) : ∃ A c, ∃ l : List Ad, v = .slice A l.length c ∧ l.length ≤ c ∧ c ≤ maxLen ∧ (Row A (rows l)).P w := by
  rcases open_slice ht h with ⟨hcs, _⟩ | ⟨a, len, cap, m, n', D, Pl, hcs, _, hl, hm, hmm, _, hx⟩
  · simp at hcs
    subst hcs; exact ⟨none, 0, [], rfl, Nat.le_refl _, by unfold maxLen; omega, Row.nil _ _⟩
  · simp at hcs
    subst hcs; have hlm : len ≤ m := by rw [hmm]; split <;> omega
    have each : ∀ i, i < len → ∃ q : Ad, ∀ k v, (El.cells q)[k]? = some v → w.cell? (a.add (i * 3 + k)) = some v := by
      intro i hi; obtain ⟨cs', h1, h2⟩ := hx i (by omega); rw [ce] at h1; obtain ⟨_, hlen, hcell⟩ := World.cells?_some h1; obtain ⟨y0, y1, y2, k, _, _, g0, g1, g2⟩ := trod_struct3 he h2
      match cs', hlen with
      | [v0, v1, v2], _ =>
        simp [o0, o1, o2, c0, c1, c2] at g0 g1 g2
        obtain ⟨z0, e0, _, _⟩ := DataW.trod_int t0 g0; obtain ⟨z1, e1, _, _⟩ := DataW.trod_int t1 g1; obtain ⟨z2, e2, _, _⟩ := DataW.trod_int t2 g2
        simp at e0 e1 e2
        subst e0 e1 e2; refine ⟨(z0, z1, z2), fun k v hv => ?_⟩; have hk : k < 3 := (List.getElem?_eq_some_iff.1 hv).1; have hc := hcell k hk; rw [add_add] at hc; rw [hc, ← hv]
        rfl
    obtain ⟨q, hq⟩ := choose_lt each; refine ⟨some a, cap, (List.range len).map q, by simp, by simpa using hl, hm, row_ofN (by decide) fun j hj i v hv => ?_⟩
    simp at hj
    refine hq j hj i v ?_; rw [← hv]
    simp [List.getD_eq_getElem?_getD, hj]
theorem trod_ch {e : TypeId} {f0 f1 f2 f3 f4 f5 : Field} {cs : List Value} {fuel : Nat} {x : DataW H × List MemPlace} (he : P.underlying e = some (.struct #[f0, f1, f2, f3, f4, f5])) (ce : P.cellsOf e = 6)
    (o0 : f0.offset = 0) (o1 : f1.offset = 1) (o2 : f2.offset = 2) (o3 : f3.offset = 3) (o4 : f4.offset = 4) (o5 : f5.offset = 5) (c0 : P.cellsOf f0.type = 1) (c1 : P.cellsOf f1.type = 1) (c2 : P.cellsOf f2.type = 1) (c3 : P.cellsOf f3.type = 1) (c4 : P.cellsOf f4.type = 1) (c5 : P.cellsOf f5.type = 1) (t0 : P.underlying f0.type = some (.int .i64)) (t1 : P.underlying f1.type = some (.int .i64)) (t2 : P.underlying f2.type = some (.int .i64)) (t3 : P.underlying f3.type = some (.int .i64)) (t4 : P.underlying f4.type = some (.int .i64)) (t5 : P.underlying f5.type = some (.int .i64))
    (h : DataW.trod enc P w base spare held fuel e cs = some x) : ∃ c : Ch, cs = [int c.1, int c.2.1, int c.2.2.1, int c.2.2.2.1, int c.2.2.2.2.1, int c.2.2.2.2.2] := by
  obtain ⟨xs, n, _, rfl, hl, hlen, hf⟩ := DataW.trod_struct he h; rw [ce] at hl
  match xs, hlen, cs, hl with
  | [y0, y1, y2, y3, y4, y5], _, [v0, v1, v2, v3, v4, v5], _ =>
    have g0 := hf 0 f0 rfl; have g1 := hf 1 f1 rfl; have g2 := hf 2 f2 rfl; have g3 := hf 3 f3 rfl; have g4 := hf 4 f4 rfl; have g5 := hf 5 f5 rfl
    simp [o0, c0, o1, c1, o2, c2, o3, c3, o4, c4, o5, c5] at g0 g1 g2 g3 g4 g5
    obtain ⟨z0, e0, _, _⟩ := DataW.trod_int t0 g0; obtain ⟨z1, e1, _, _⟩ := DataW.trod_int t1 g1; obtain ⟨z2, e2, _, _⟩ := DataW.trod_int t2 g2; obtain ⟨z3, e3, _, _⟩ := DataW.trod_int t3 g3; obtain ⟨z4, e4, _, _⟩ := DataW.trod_int t4 g4; obtain ⟨z5, e5, _, _⟩ := DataW.trod_int t5 g5
    simp at e0 e1 e2 e3 e4 e5
    subst e0 e1 e2 e3 e4 e5; exact ⟨(z0, z1, z2, z3, z4, z5), rfl⟩
end
theorem in_sales {H : Type} {enc : TypeId × Value → H} {w : World} {base : Nat} {spare : Nat → Bool} {held : Bool} {cs : Array Value} (h : ∃ fuel x, DataW.trod enc Try.prog w base spare held fuel T.api_Sales cs.toList = some x) :
    ∃ d : Sx, cs = saC d.1 d.2.1 d.2.2 ∧ (d.2.1.l.length ≤ d.2.1.c ∧ d.2.1.c ≤ maxLen) ∧ (d.2.2.l.length ≤ d.2.2.c ∧ d.2.2.c ≤ maxLen) ∧ (Row d.2.1.a (rows d.2.1.l)).P w ∧ (Row d.2.2.a (rows d.2.2.l)).P w := by
  obtain ⟨fuel, x, h⟩ := h; obtain ⟨y0, y1, y2, n, _, hl, g0, g1, g2⟩ := trod_struct3 Try.underlying36 h; have hl2 : cs.toList.length = 8 := hl.trans (by kernel_rfl)
  obtain ⟨v0, v1, v2, v3, v4, v5, v6, v7, hv⟩ : ∃ v0 v1 v2 v3 v4 v5 v6 v7, cs.toList = [v0, v1, v2, v3, v4, v5, v6, v7] := by
    match hc : cs.toList, hl2 with
    | [v0, v1, v2, v3, v4, v5, v6, v7], _ => exact ⟨v0, v1, v2, v3, v4, v5, v6, v7, rfl⟩
  rw [hv] at g0 g1 g2; have g0' : DataW.trod enc Try.prog w base spare held n T.api_Charges [v0, v1, v2, v3, v4, v5] = some y0 := g0; have g1' : DataW.trod enc Try.prog w base spare held n T.ints [v6] = some y1 := g1; have g2' : DataW.trod enc Try.prog w base spare held n T.L_api_Advert [v7] = some y2 := g2; obtain ⟨c, hc⟩ := trod_ch Try.underlying33 (by kernel_rfl) rfl rfl rfl rfl rfl rfl (by kernel_rfl) (by kernel_rfl) (by kernel_rfl) (by kernel_rfl) (by kernel_rfl) (by kernel_rfl) Try.underlying3 Try.underlying3 Try.underlying3 Try.underlying3 Try.underlying3 Try.underlying3 g0'
  obtain ⟨A, n3, c3, hv6⟩ : ∃ A n3 c3, v6 = .slice A n3 c3 := by
    rcases open_slice Try.underlying22 g1' with ⟨hcs, _⟩ | ⟨a, len, cap, m, n', D, Pl, hcs, _⟩
    · simp at hcs; exact ⟨_, _, _, hcs⟩
    · simp at hcs; exact ⟨_, _, _, hcs⟩
  rw [hv6] at g1'; obtain ⟨l, rfl, k1, k2, k3, _⟩ := in_ints Try.underlying22 Try.underlying3 (by kernel_rfl) g1'; obtain ⟨B, k, m, rfl, h4, h5, h6⟩ := in_ads Try.underlying34 Try.underlying39 (by kernel_rfl) rfl rfl rfl (by kernel_rfl) (by kernel_rfl) (by kernel_rfl) Try.underlying3 Try.underlying3 Try.underlying3 g2'; refine ⟨(c, ⟨A, c3, l⟩, ⟨B, k, m⟩), ?_, ⟨k1, k2⟩, ⟨h4, h5⟩, k3, h6⟩; rw [← Array.toArray_toList (xs := cs), hv, hv6]; simp only [List.cons.injEq, and_true] at hc; obtain ⟨rfl, rfl, rfl, rfl, rfl, rfl⟩ := hc
  rfl
theorem in_advert {H : Type} {enc : TypeId × Value → H} {w : World} {base : Nat} {spare : Nat → Bool} {held : Bool} {cs : Array Value} (h : ∃ fuel x, DataW.trod enc Try.prog w base spare held fuel T.api_Advert cs.toList = some x) : ∃ x : Ad, cs = #[int x.1, int x.2.1, int x.2.2] := by
  obtain ⟨fuel, x, h⟩ := h; obtain ⟨y0, y1, y2, n, _, hl, g0, g1, g2⟩ := trod_struct3 Try.underlying39 h; have hl2 : cs.toList.length = 3 := hl.trans (by kernel_rfl)
  obtain ⟨v0, v1, v2, hv⟩ : ∃ v0 v1 v2, cs.toList = [v0, v1, v2] := by
    match hc : cs.toList, hl2 with
    | [v0, v1, v2], _ => exact ⟨v0, v1, v2, rfl⟩
  rw [hv] at g0 g1 g2; have g0' : DataW.trod enc Try.prog w base spare held n T.int [v0] = some y0 := g0; have g1' : DataW.trod enc Try.prog w base spare held n T.int [v1] = some y1 := g1; have g2' : DataW.trod enc Try.prog w base spare held n T.int [v2] = some y2 := g2; obtain ⟨z0, e0, _, _⟩ := DataW.trod_int Try.underlying3 g0'; obtain ⟨z1, e1, _, _⟩ := DataW.trod_int Try.underlying3 g1'; obtain ⟨z2, e2, _, _⟩ := DataW.trod_int Try.underlying3 g2'
  simp at e0 e1 e2
  subst e0 e1 e2; exact ⟨(z0, z1, z2), by rw [← Array.toArray_toList (xs := cs), hv]⟩
end Go.Proofs.Ytdlbbfcfahahdaa
end
section
namespace Go.W
open Go Go.Conc
theorem Lv.at {P : Program} {fr : Frame} {w : World} {v : Value} (h : Lv P fr w v) (d : Nat) : Lv P fr (w.at d) v :=
  ⟨h.1, h.2.1, h.2.2.1, h.2.2.2.elim fun fn x => ⟨fn, x.1, fun d' => x.2 d'⟩⟩
theorem run_of {P : Program} {f : FuncId} {fn : Func} {t : Tmp} {args : Array Value} {W : World} {R : Value → World → Prop} (hf : P.funcs[f]? = some fn) (hres : fn.results = #[.tmp t]) (hin : P.inits.idxOf? f = none)
    (h : CallsB P f args W R) (hat : ∀ v w d, R v w → R v (w.at d)) :
    ∃ M last o w' t', runNT P (M + 1) (solo (G (Frame.enter P f args .normal) []) W) #[] = (.ended o w', t') ∧ runN P M (solo (G (Frame.enter P f args .normal) []) W) = .next last ∧ step P last = .ended o w' ∧ Conc.Good P R last o w' t' := by
  have hco := h [] (fun g w => ∃ v fr, g = G fr [] ∧ fr.fn = f ∧ Lv P fr w v ∧ R v w) (fun fr v w' hfr hR hl => co_done fun d => ⟨v, fr, rfl, hfr, hl.at d, hat _ _ _ hR⟩); obtain ⟨N, gs, g, w, sl, t0, q, B, r, h0, hL, hP, v, fr, rfl, hfr, hl, hR⟩ := hco W.drawn #[G (Frame.enter P f args .normal) []] none #[] (fun _ => 0) 0 rfl (leavers_one P _) past_nil
  have hG : Goes P true AtRel (fun _ _ es => ∀ e ∈ es, EvL noS B e) (AtEnd P noS B R) 0 (G fr []) w := by
    rintro w₁ ⟨d, rfl⟩; refine ⟨rfl, v, #[], ?_, by simp, hat _ _ _ hR⟩; obtain ⟨hm, hd, hn, fn', hf', hr⟩ := hl.at d; rw [hfr, hf] at hf'; obtain rfl := Option.some.inj hf'; have hf2 : P.funcs[fr.fn]? = some fn := by rw [hfr]; exact hf
    have hin2 : P.inits.idxOf? fr.fn = none := by rw [hfr]; exact hin
    have he : (results fn fr.tmps).events P (w.at d) #[] = #[] := events_results_tmp hres _ _; have hr0 : (results fn fr.tmps).run P (w.at d) = .ok v (w.at d) := hr d
    simp [G, stepG, unwind, doReturn, hn, hd, hm, hf2, hr0, he, hin2, GStep.after, seen]
  obtain ⟨M, last, o, w', t', e1, e2, e3, e4⟩ := beside_ends (P := P) (Post := R) (sl := sl) (fun _ _ _ h => h) h0 hL hP hG; have hrun : runNT P N (solo (G (Frame.enter P f args .normal) []) W) #[] = (.next (crowd gs w sl), t0) := r; refine ⟨N + M, last, o, w', t', ?_, ?_, e3, e4⟩
  · rw [Nat.add_assoc, runNT_two hrun]; exact e1
  · rw [runN_add, ← runNT_fst P _ _ #[], hrun]; exact e2
end Go.W
end
