/- What is handed in: trades, headings. -/
import Derived.Test.YtlpgheniajdkfaaGreatPna
import Derived.Test.YtlpgheniajdkfaaGreatWm
namespace Go.Proofs.YtlpgheniajdkfaaGreat
open Go Go.W Go.RowKit Go.ChangeShapes Go.WideShapes Go.Deep
set_option linter.unusedVariables false
set_option linter.unusedSimpArgs false
set_option maxRecDepth 20000
attribute [local irreducible] HL HC HQ HB Row Rows2 Blk Facts

section
variable {H : Type} {enc : TypeId × Value → H} {P : Program} {w : World} {base : Nat} {spare : Nat → Bool} {held : Bool}
theorem in_classes {t e : TypeId} {f0 f1 : Field} {v : Value} {fuel : Nat} {x : DataW H × List MemPlace} (ht : P.underlying t = some (.slice e)) (he : P.underlying e = some (.struct #[f0, f1])) (ce : P.cellsOf e = 2)
    (o0 : f0.offset = 0) (o1 : f1.offset = 1) (c0 : P.cellsOf f0.type = 1) (c1 : P.cellsOf f1.type = 1) (t0 : P.underlying f0.type = some .string) (t1 : P.underlying f1.type = some (.int .i64))
    (h : DataW.trod enc P w base spare held fuel t [v] = some x) : ∃ A c, ∃ l : List Cl, v = .slice A l.length c ∧ l.length ≤ c ∧ c ≤ maxLen ∧ (Row A (rows l)).P w := by
  rcases open_slice ht h with ⟨hcs, _⟩ | ⟨a, len, cap, m, n', D, Pl, hcs, _, hl, hm, hmm, _, hx⟩
  · simp at hcs
    subst hcs
    exact ⟨none, 0, [], rfl, Nat.le_refl _, by unfold maxLen; omega, Row.nil _ _⟩
  · simp at hcs
    subst hcs
    have hlm : len ≤ m := by rw [hmm]; split <;> omega
    have each : ∀ i, i < len → ∃ q : Cl, ∀ k v, (El.cells q)[k]? = some v → w.cell? (a.add (i * 2 + k)) = some v := by
      intro i hi
      obtain ⟨cs', h1, h2⟩ := hx i (by omega)
      rw [ce] at h1
      obtain ⟨_, hlen, hcell⟩ := World.cells?_some h1
      obtain ⟨y0, y1, k, _, _, g0, g1⟩ := trod_struct2 he h2
      match cs', hlen with
      | [v0, v1], _ =>
        simp [o0, o1, c0, c1] at g0 g1
        obtain ⟨s, e0, _, _⟩ := DataW.trod_string t0 g0
        obtain ⟨z1, e1, _, _⟩ := DataW.trod_int t1 g1
        simp at e0 e1
        subst e0 e1
        refine ⟨(s.data.toList, z1), fun k v hv => ?_⟩
        have hk : k < 2 := (List.getElem?_eq_some_iff.1 hv).1
        have hc := hcell k hk
        rw [add_add] at hc
        rw [hc, ← hv]
        show _ = [str s.data.toList, int z1][k]?
        simp [str]
    obtain ⟨q, hq⟩ := choose_lt each
    refine ⟨some a, cap, (List.range len).map q, by simp, by simpa using hl, hm, row_ofN (by decide) fun j hj i v hv => ?_⟩
    simp at hj
    refine hq j hj i v ?_
    rw [← hv]
    simp [List.getD_eq_getElem?_getD, hj]
theorem trod_head {e : TypeId} {f0 f1 f2 f3 : Field} {cs : List Value} {fuel : Nat} {x : DataW H × List MemPlace} {ei : TypeId} (he : P.underlying e = some (.struct #[f0, f1, f2, f3])) (ce : P.cellsOf e = 4)
    (o0 : f0.offset = 0) (o1 : f1.offset = 1) (o2 : f2.offset = 2) (o3 : f3.offset = 3) (c0 : P.cellsOf f0.type = 1) (c1 : P.cellsOf f1.type = 1) (c2 : P.cellsOf f2.type = 1) (c3 : P.cellsOf f3.type = 1)
    (t0 : P.underlying f0.type = some .string) (t1 : P.underlying f1.type = some (.int .i64)) (t2 : P.underlying f2.type = some (.int .i64)) (t3 : P.underlying f3.type = some (.slice ei)) (ti : P.underlying ei = some (.int .i64)) (ci : P.cellsOf ei = 1)
    (h : DataW.trod enc P w base spare held fuel e cs = some x) : ∃ q : Hd, cs = El.cells q ∧ (Hd.row q).P w := by
  obtain ⟨xs, n, _, rfl, hl, hlen, hf⟩ := DataW.trod_struct he h
  rw [ce] at hl
  match xs, hlen, cs, hl with
  | [y0, y1, y2, y3], _, [v0, v1, v2, v3], _ =>
    have g0 := hf 0 f0 rfl
    have g1 := hf 1 f1 rfl
    have g2 := hf 2 f2 rfl
    have g3 := hf 3 f3 rfl
    simp [o0, o1, o2, o3, c0, c1, c2, c3] at g0 g1 g2 g3
    obtain ⟨s, e0, _, _⟩ := DataW.trod_string t0 g0
    obtain ⟨z1, e1, _, _⟩ := DataW.trod_int t1 g1
    obtain ⟨z2, e2, _, _⟩ := DataW.trod_int t2 g2
    simp at e0 e1 e2
    subst e0 e1 e2
    obtain ⟨A, n3, c3', hv⟩ : ∃ A n3 c3', v3 = .slice A n3 c3' := by
      rcases open_slice t3 g3 with ⟨hcs, _⟩ | ⟨a, len, cap, m, n', D, Pl, hcs, _⟩
      · simp at hcs; exact ⟨_, _, _, hcs⟩
      · simp at hcs; exact ⟨_, _, _, hcs⟩
    rw [hv] at g3
    obtain ⟨l, rfl, _, _, hr, _⟩ := in_ints t3 ti ci g3
    exact ⟨(s.data.toList, z1, z2, ⟨A, c3', l⟩), by rw [hv]; rfl, hr⟩
theorem in_heads {t e : TypeId} {f0 f1 f2 f3 : Field} {v : Value} {fuel : Nat} {x : DataW H × List MemPlace} {ei : TypeId} (ht : P.underlying t = some (.slice e)) (he : P.underlying e = some (.struct #[f0, f1, f2, f3])) (ce : P.cellsOf e = 4)
    (o0 : f0.offset = 0) (o1 : f1.offset = 1) (o2 : f2.offset = 2) (o3 : f3.offset = 3) (c0 : P.cellsOf f0.type = 1) (c1 : P.cellsOf f1.type = 1) (c2 : P.cellsOf f2.type = 1) (c3 : P.cellsOf f3.type = 1)
    (t0 : P.underlying f0.type = some .string) (t1 : P.underlying f1.type = some (.int .i64)) (t2 : P.underlying f2.type = some (.int .i64)) (t3 : P.underlying f3.type = some (.slice ei)) (ti : P.underlying ei = some (.int .i64)) (ci : P.cellsOf ei = 1)
    (h : DataW.trod enc P w base spare held fuel t [v] = some x) : ∃ A c, ∃ l : List Hd, v = .slice A l.length c ∧ l.length ≤ c ∧ c ≤ maxLen ∧ (RowsF A l Hd.row).P w := by
  rcases open_slice ht h with ⟨hcs, _⟩ | ⟨a, len, cap, m, n', D, Pl, hcs, _, hl, hm, hmm, _, hx⟩
  · simp at hcs
    subst hcs
    exact ⟨none, 0, [], rfl, Nat.le_refl _, by unfold maxLen; omega, Row.nil _ _, by simp⟩
  · simp at hcs
    subst hcs
    have hlm : len ≤ m := by rw [hmm]; split <;> omega
    have each : ∀ i, i < len → ∃ q : Hd, (∀ k v, (El.cells q)[k]? = some v → w.cell? (a.add (i * 4 + k)) = some v) ∧ (Hd.row q).P w := by
      intro i hi
      obtain ⟨cs', h1, h2⟩ := hx i (by omega)
      rw [ce] at h1
      obtain ⟨_, hlen, hcell⟩ := World.cells?_some h1
      obtain ⟨q, rfl, hr⟩ := trod_head he ce o0 o1 o2 o3 c0 c1 c2 c3 t0 t1 t2 t3 ti ci h2
      refine ⟨q, fun k v hv => ?_, hr⟩
      have hk : k < 4 := (List.getElem?_eq_some_iff.1 hv).1
      have hc := hcell k hk
      rw [add_add] at hc
      rw [hc, ← hv]
    obtain ⟨q, hq⟩ := choose_lt each
    refine ⟨some a, cap, (List.range len).map q, by simp, by simpa using hl, hm, row_ofN (by decide) fun j hj i v hv => ?_, fun p hp => ?_⟩
    · simp at hj
      refine (hq j hj).1 i v ?_
      rw [← hv]
      simp [List.getD_eq_getElem?_getD, hj]
    · obtain ⟨j, hj, rfl⟩ := List.mem_map.1 hp
      exact (hq j (List.mem_range.1 hj)).2
end
theorem in_trades {H : Type} {enc : TypeId × Value → H} {w : World} {base : Nat} {spare : Nat → Bool} {held : Bool} {cs : Array Value} (h : ∃ fuel x, DataW.trod enc Tryz.prog w base spare held fuel T.api_Trades cs.toList = some x) :
    ∃ A c B k, ∃ cs0 : List Cl, ∃ hs0 : List Hd, cs = #[.slice A cs0.length c, .slice B hs0.length k] ∧ (cs0.length ≤ c ∧ c ≤ 9223372036854775807) ∧ (hs0.length ≤ k ∧ k ≤ 9223372036854775807) ∧ (Row A (rows cs0)).P w ∧ (RowsF B hs0 Hd.row).P w := by
  obtain ⟨fuel, x, h⟩ := h
  obtain ⟨y0, y1, n, _, hl, g0, g1⟩ := trod_struct2 Tryz.underlying25 h
  have hl2 : cs.toList.length = 2 := hl.trans (by kernel_rfl)
  obtain ⟨v0, v1, hv⟩ : ∃ v0 v1, cs.toList = [v0, v1] := by
    match hc : cs.toList, hl2 with
    | [v0, v1], _ => exact ⟨v0, v1, rfl⟩
  rw [hv] at g0 g1
  have g0' : DataW.trod enc Tryz.prog w base spare held n T.L_api_Class [v0] = some y0 := by
    have e : Tryz.prog.cellsOf T.L_api_Class = 1 := by kernel_rfl
    have := g0
    simp only [List.drop_zero] at this
    exact this
  have g1' : DataW.trod enc Tryz.prog w base spare held n T.L_api_Head [v1] = some y1 := g1
  obtain ⟨A, c, l, rfl, h1, h2, h3⟩ := in_classes Tryz.underlying22 Tryz.underlying78 (by kernel_rfl) rfl rfl (by kernel_rfl) (by kernel_rfl) Tryz.underlying9 Tryz.underlying3 g0'
  obtain ⟨B, k, m, rfl, h4, h5, h6⟩ := in_heads Tryz.underlying23 Tryz.underlying44 (by kernel_rfl) rfl rfl rfl rfl (by kernel_rfl) (by kernel_rfl) (by kernel_rfl) (by kernel_rfl) Tryz.underlying9 Tryz.underlying3 Tryz.underlying3 Tryz.underlying26 Tryz.underlying3 (by kernel_rfl) g1'
  exact ⟨A, c, B, k, l, m, by rw [← Array.toArray_toList (xs := cs), hv], ⟨h1, h2⟩, ⟨h4, h5⟩, h3, h6⟩
end Go.Proofs.YtlpgheniajdkfaaGreat
