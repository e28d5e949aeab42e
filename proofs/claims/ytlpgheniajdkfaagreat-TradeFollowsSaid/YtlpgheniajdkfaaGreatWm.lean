/- What is handed in: lists of marks, lists of pages. -/
import Derived.Test.YtlpgheniajdkfaaGreatWl
import Derived.Deep.Strs
namespace Go.W
open Go Go.RowKit Go.ChangeShapes Go.WideShapes Go.Deep
set_option linter.unusedVariables false
set_option linter.unusedSimpArgs false

section
variable {H : Type} {enc : TypeId × Value → H} {P : Program} {w : World} {base : Nat} {spare : Nat → Bool} {held : Bool}
/-- A row of elements of some cells each. -/
theorem row_ofN {α : Type} [El α] (h0 : 0 < El.sz α) {a : Addr} {l : List α} (h : ∀ j, j < l.length → ∀ i v, (El.cells (l.getD j default))[i]? = some v → w.cell? (a.add (j * El.sz α + i)) = some v) : (Row (some a) (rows l)).P w := by
  intro k u hu
  refine ⟨a, rfl, ?_⟩
  have hk := (List.getElem?_eq_some_iff.1 hu).1
  rw [rows_len] at hk
  have hj : k / El.sz α < l.length := Nat.div_lt_of_lt_mul (by rw [Nat.mul_comm]; exact hk)
  have hd : k / El.sz α * El.sz α + k % El.sz α = k := by rw [Nat.mul_comm]; exact Nat.div_add_mod _ _
  have h2 := rows_get' l (k / El.sz α) (k % El.sz α) hj (Nat.mod_lt _ h0)
  rw [hd, hu] at h2
  have := h _ hj _ _ h2.symm
  rwa [hd] at this
theorem in_marks {t e : TypeId} {f0 f1 f2 : Field} {A : Option Addr} {n c fuel : Nat} {x : DataW H × List MemPlace} (ht : P.underlying t = some (.slice e)) (he : P.underlying e = some (.struct #[f0, f1, f2])) (ce : P.cellsOf e = 3)
    (o0 : f0.offset = 0) (o1 : f1.offset = 1) (o2 : f2.offset = 2) (c0 : P.cellsOf f0.type = 1) (c1 : P.cellsOf f1.type = 1) (c2 : P.cellsOf f2.type = 1) (t0 : P.underlying f0.type = some (.int .i64)) (t1 : P.underlying f1.type = some (.int .i64)) (t2 : P.underlying f2.type = some .string)
    (h : DataW.trod enc P w base spare held fuel t [.slice A n c] = some x) : ∃ l : List Mk, n = l.length ∧ l.length ≤ c ∧ c ≤ maxLen ∧ (Row A (rows l)).P w := by
  rcases open_slice ht h with ⟨hcs, _⟩ | ⟨a, len, cap, m, n', D, Pl, hcs, _, hl, hm, hmm, _, hx⟩
  · simp at hcs
    obtain ⟨rfl, rfl, rfl⟩ := hcs
    exact ⟨[], rfl, Nat.le_refl _, by unfold maxLen; omega, Row.nil _ _⟩
  · simp at hcs
    obtain ⟨rfl, rfl, rfl⟩ := hcs
    have hlm : n ≤ m := by rw [hmm]; split <;> omega
    have each : ∀ i, i < n → ∃ q : Mk, ∀ k v, (El.cells q)[k]? = some v → w.cell? (a.add (i * 3 + k)) = some v := by
      intro i hi
      obtain ⟨cs', h1, h2⟩ := hx i (by omega)
      rw [ce] at h1
      obtain ⟨_, hlen, hcell⟩ := World.cells?_some h1
      obtain ⟨y0, y1, y2, k, _, _, g0, g1, g2⟩ := trod_struct3 he h2
      match cs', hlen with
      | [v0, v1, v2], _ =>
        simp [o0, o1, o2, c0, c1, c2] at g0 g1 g2
        obtain ⟨z0, e0, _, _⟩ := DataW.trod_int t0 g0
        obtain ⟨z1, e1, _, _⟩ := DataW.trod_int t1 g1
        obtain ⟨s, e2, _, _⟩ := DataW.trod_string t2 g2
        simp at e0 e1 e2
        subst e0 e1 e2
        refine ⟨(z0, z1, s.data.toList), fun k v hv => ?_⟩
        have hk : k < 3 := (List.getElem?_eq_some_iff.1 hv).1
        have hc := hcell k hk
        rw [add_add] at hc
        rw [hc, ← hv]
        show _ = [int z0, int z1, str s.data.toList][k]?
        simp [str]
    obtain ⟨q, hq⟩ := choose_lt each
    refine ⟨(List.range n).map q, by simp, by simpa using hl, hm, row_ofN (by decide) fun j hj i v hv => ?_⟩
    simp at hj
    refine hq j hj i v ?_
    rw [← hv]
    simp [List.getD_eq_getElem?_getD, hj]
theorem in_pages {t e e2 : TypeId} {A : Option Addr} {n c fuel : Nat} {x : DataW H × List MemPlace} (ht : P.underlying t = some (.slice e)) (he : P.underlying e = some (.slice e2)) (hc : P.cellsOf e = 1) (he2 : P.underlying e2 = some .string) (hc2 : P.cellsOf e2 = 1)
    (h : DataW.trod enc P w base spare held fuel t [.slice A n c] = some x) : ∃ l : List (Sl Str), n = l.length ∧ l.length ≤ c ∧ c ≤ maxLen ∧ (Rows2 A l).P w ∧ ∀ q ∈ l, q.l.length ≤ q.c ∧ q.c ≤ maxLen := by
  rcases open_slice1 ht hc h with ⟨hcs, _⟩ | ⟨a, len, cap, m, n', V, D, Pl, hcs, _, hl, hm, hmm, _, hx⟩
  · simp at hcs
    obtain ⟨rfl, rfl, rfl⟩ := hcs
    exact ⟨[], rfl, Nat.le_refl _, by unfold maxLen; omega, ⟨Row.nil _ _, by simp⟩, by simp⟩
  · simp at hcs
    obtain ⟨rfl, rfl, rfl⟩ := hcs
    have hlm : n ≤ m := by rw [hmm]; split <;> omega
    have each : ∀ i, i < n → ∃ q : Sl Str, w.cell? (a.add i) = some (.slice q.a q.l.length q.c) ∧ (Row q.a (rows q.l)).P w ∧ q.l.length ≤ q.c ∧ q.c ≤ maxLen := by
      intro i hi
      obtain ⟨h1, h2⟩ := hx i (by omega)
      obtain ⟨A', n2, c', hv⟩ : ∃ A' n2 c', V i = .slice A' n2 c' := by
        rcases open_strings he he2 hc2 h2 with ⟨h3, _⟩ | ⟨a', l', c', _, h3, _⟩
        · simp at h3; exact ⟨_, _, _, h3⟩
        · simp at h3; exact ⟨_, _, _, h3⟩
      rw [hv] at h1 h2
      obtain ⟨l, rfl, hl1, hl2, hr⟩ := in_strs he he2 hc2 h2
      exact ⟨⟨A', c', l⟩, h1, hr, hl1, hl2⟩
    obtain ⟨q, hq⟩ := choose_lt each
    refine ⟨(List.range n).map q, by simp, by simpa using hl, hm, ⟨row_ofN (by decide) fun j hj i v hv => ?_, fun p hp => ?_⟩, fun p hp => ?_⟩
    · simp at hj
      have h1 := (hq j hj).1
      have hi : i < 1 := (List.getElem?_eq_some_iff.1 hv).1
      obtain rfl : i = 0 := by omega
      have e : ((List.range n).map q).getD j default = q j := by simp [List.getD_eq_getElem?_getD, hj]
      rw [e] at hv
      have hv2 : some (Value.slice (q j).a (q j).l.length (q j).c) = some v := hv
      rw [← hv2, ← h1]
      show w.cell? (a.add (j * 1 + 0)) = _
      rw [Nat.mul_one, Nat.add_zero]
    · obtain ⟨j, hj, rfl⟩ := List.mem_map.1 hp
      exact (hq j (List.mem_range.1 hj)).2.1
    · obtain ⟨j, hj, rfl⟩ := List.mem_map.1 hp
      exact (hq j (List.mem_range.1 hj)).2.2
end
end Go.W
