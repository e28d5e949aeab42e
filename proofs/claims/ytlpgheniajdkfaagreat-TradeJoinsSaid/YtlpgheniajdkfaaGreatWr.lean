/- Channels in one goroutine: code of which some regions send or receive where nothing waits. -/
import Derived.Test.YtlpgheniajdkfaaGreatWq
import Derived.Conc.LoneCalls
import Derived.Laws.CopyRow
import Derived.Laws.Tables
namespace Go.W
open Go Go.RowKit Go.Conc
set_option linter.unusedVariables false
set_option linter.unusedSimpArgs false

/-- What a code comes to, in a frame of the plain kind. -/
def wpk (P : Program) (x : Code) (Q : Exit → Act → World → Prop) (a : Act) (w : World) : Prop :=
  ∀ (b : Frame) (k : List Item) (cs : List Frame), b.kind = .normal → ∃ e a' w', Q e a' w' ∧ Arrives P (lone (b.at a (.code x :: k)) cs w) b k cs e a' w'
section
variable {P : Program} {Q : Exit → Act → World → Prop} {a : Act} {w : World}

/-! Regions that communicate. -/
/-- One step of the machine: the operation yields this. -/
def OpSteps (P : Program) (o : Oper) (a : Act) (w : World) (v : Value) (w' : World) : Prop :=
  ∀ (b : Frame) (k : List Item) (cs : List Frame) (ops : Array Oper) (i : Nat) (rest : List Nat), b.kind = .normal → ops[i]? = some o → o.guard = none →
    step P (lone (b.at a (.inRegion ops (i :: rest) :: k)) cs w) = .next (lone (b.at (a.put o.dst v) (.inRegion ops rest :: k)) cs w')
def opsK (P : Program) (ops : Array Oper) (Q : Exit → Act → World → Prop) : List Nat → Act → World → Prop
  | [], a, w => Q .normal a w
  | i :: rest, a, w => ∃ o v w', ops[i]? = some o ∧ o.guard = none ∧ OpSteps P o a w v w' ∧ opsK P ops Q rest (a.put o.dst v) w'
end

/-! The rules. -/
def kw (c : Cx) (x : Code) (Q : Exit → Act → World → Prop) : Act → World → Prop := wpk c.P x Q
def KC (c : Cx) (x : Code) (Q : Exit → Act → World → Prop) (fr : Fr) (hp : Hp) (L : List Fact) : Prop := ∀ a w, Ok c a fr → WI c.b w hp L → kw c x Q a w
def KL (c : Cx) (ops : Array Oper) (Q : Exit → Act → World → Prop) (l : List Nat) (fr : Fr) (hp : Hp) (L : List Fact) : Prop := ∀ a w, Ok c a fr → WI c.b w hp L → opsK c.P ops Q l a w
section
variable {c : Cx} {Q : Exit → Act → World → Prop} {fr : Fr} {hp : Hp} {L : List Fact} {ops : Array Oper}
variable {i : Nat} {rest : List Nat} {d : Tmp} {ty : TypeId} {pos : String} {af : Array Edge}
abbrev chanO (cap : Nat) (buf : List Value) (s r : Nat) : Obj := .chan cap buf.toArray false s r false
end
section
variable {c : Cx} {Q : Exit → Act → World → Prop} {fr : Fr} {hp : Hp} {L : List Fact} {ops : Array Oper} {rest : List Oper}
variable {d : Tmp} {ty : TypeId} {pos : String} {af : Array Edge}
end
/-! ### Slices that grow from nothing, whose cells are written -/
section
/-- A slice that grew from one without room: its own block, or nothing. -/
def GrowE (e : TypeId) (sz : Nat) (A : Option Addr) (n cap : Nat) (xs : List Value) (og : Hp) : Prop := Grow e sz A n cap xs og ∨ (n = 0 ∧ cap = 0 ∧ xs = [] ∧ og = [])
theorem GrowE.grow {e : TypeId} {sz n cap : Nat} {A : Option Addr} {xs : List Value} {og : Hp} (h : GrowE e sz A n cap xs og) (hn : 0 < n) : Grow e sz A n cap xs og := by
  rcases h with h | ⟨h, _⟩
  · exact h
  · omega
theorem GrowE.le {e : TypeId} {sz n cap : Nat} {A : Option Addr} {xs : List Value} {og : Hp} (h : GrowE e sz A n cap xs og) : n ≤ cap := by
  rcases h with h | ⟨h, h2, _⟩
  · exact h.le
  · omega
/-- The block of a slice that is not empty. -/
theorem GrowE.blk {e : TypeId} {sz n cap : Nat} {A : Option Addr} {xs : List Value} {og : Hp} (h : GrowE e sz A n cap xs og) (hn : 0 < n) : ∃ g cur, A = some ⟨g, 0, none⟩ ∧ og = [(g, .cells cur e (0, 0))] ∧ n ≤ cap ∧ cap ≤ maxLen ∧ cur.size = cap * sz ∧ cur.toList.take (n * sz) = xs := by
  rcases (h.grow hn).2 with ⟨_, h1, _⟩ | h1
  · omega
  · exact h1
variable {c : Cx} {Q : Exit → Act → World → Prop} {fr : Fr} {hp : Hp} {L : List Fact} {ops : Array Oper} {rest : List Oper}
theorem wi_rowE {b : Bx} {w : World} {A : Option Addr} (h : WI b w hp L) : WI b w hp (Row A [] :: L) :=
  h.add (fun j u hu => by simp at hu) (fun p hp hk => by obtain ⟨_, _, _, hne⟩ := hk; exact hne rfl) (fun k hk => by obtain ⟨_, _, _, hne⟩ := hk; exact absurd rfl hne)
theorem wi_grownE {b : Bx} {w : World} {e : TypeId} {sz n cap : Nat} {A : Option Addr} {xs : List Value} {og : Hp} (hG : GrowE e sz A n cap xs og) (h : WI b w (og ++ hp) L) : WI b w hp (Row A xs :: L) := by
  rcases hG with hG | ⟨_, _, rfl, rfl⟩
  · exact wi_grown hG h
  · exact wi_rowE (by simpa using h)
theorem hl_grownE {e : TypeId} {sz n cap : Nat} {A : Option Addr} {xs : List Value} {og : Hp} (hG : GrowE e sz A n cap xs og) (k : HL c ops Q rest fr hp (Row A xs :: L)) : HL c ops Q rest fr (og ++ hp) L := fun a w ha hw => k a w ha (wi_grownE hG hw)
variable {d : Tmp} {ty : TypeId} {pos : String} {af : Array Edge}
/-- append onto a slice without room. -/
theorem r_append_new {t e : TypeId} {x y : Operand} {sz bytes m cp : Nat} {A B : Option Addr} {news : List Value} (el : ElT c.P t e sz bytes) (hd : Nat.blt d c.n = true)
    (hx : ev fr x = some (.slice A 0 0)) (hy : ev fr y = some (.slice B m cp)) (hs : Src c.b hp L B m sz news) (hn : m ≤ maxLen) (hby : m * bytes ≤ 140737488355328)
    (k : ∀ A' cap' og', GrowE e sz A' m cap' news og' → HL c ops Q rest ((d, .slice A' m cap') :: fr) (og' ++ hp) L) :
    HL c ops Q (⟨some d, .call ⟨.builtin .append, #[x, y], #[t, t]⟩, ty, pos, af, none⟩ :: rest) fr hp L :=
  hl_gen rfl rfl hd fun a w ha hw => by
    obtain ⟨i, z, hi, hz, hsz, hb, hzs⟩ := el.i
    have hgs : Go.Src c.P i.size t (.slice B m cp) m news w := by
      rcases hs.2.2 with ⟨rfl, rfl⟩ | h
      · have : news = [] := List.eq_nil_of_length_eq_zero (by simpa using hs.1)
        subst this
        exact Go.Src.ofNil w el.u cp
      · obtain ⟨ad, rfl, hc⟩ := h w hw
        exact Go.Src.ofSlice w el.u ad m cp news (by rw [hsz]; exact hs.1) hc hs.2.1
    by_cases hm : m = 0
    · subst hm
      have : news = [] := List.eq_nil_of_length_eq_zero (by simpa using hs.1)
      subst this
      refine ⟨.slice A 0 0, w, hp, L, ?_, hw, k A 0 [] (.inr ⟨rfl, rfl, rfl, rfl⟩)⟩
      have := run_append_nothing w t t ty e i el.u hi A 0 0 (Nat.le_refl _) (.slice B 0 cp) hgs
      simp only [execOp, resolve, invoke, builtin, Sem.run_bind, Sem.run_pure, Result.andThen_ok, List.map_toArray, List.map_cons, List.map_nil, ha.ev hx, ha.ev hy, this]
    · have hold : ∀ A : Option Addr, (Builtin.firstCells i.size 0 (.slice A 0 0)).run c.P w.drew = .ok ([] : List Value).toArray w.drew := fun A => by
        cases A with
        | none => exact run_firstCells_none _ _ _ _ _
        | some ad => exact run_firstCells_some _ _ _ _ _ _ [] (by simp) (fun j u hu => by simp at hu)
      have h1 : ∀ A : Option Addr, _ := fun A => run_append_grow_src w t t ty e i z el.u hi hz A 0 0 [] (hold A) (.slice B m cp) m news hgs (by omega) (by unfold maxLen at hn; omega) (growslice_fits (by omega) (by rw [hb, Nat.zero_add]; exact hby))
      obtain ⟨A', cap', og', w', hrun, hG', hw'⟩ := append_step (og := []) el (Grow.nil e sz) (by simpa using hw) hs (by omega) (by rw [Nat.zero_add]; exact hby) ty
      rw [h1 none, ← h1 A] at hrun
      simp only [Nat.zero_add, List.nil_append] at hrun hG'
      refine ⟨.slice A' m cap', w', og' ++ hp, L, ?_, hw', k A' cap' og' (.inl hG')⟩
      simp only [execOp, resolve, invoke, builtin, Sem.run_bind, Sem.run_pure, Result.andThen_ok, List.map_toArray, List.map_cons, List.map_nil, ha.ev hx, ha.ev hy, hrun]
/-! ### Cells of rows that are written -/
theorem rows_setf {α : Type} [El α] {v : Value} {a : α} {f : Nat} (hf : f < El.sz α) : ∀ {l : List α} {k : Nat}, k < l.length → El.cells a = (El.cells (l.getD k default)).set f v → (rows l).set (k * El.sz α + f) v = rows (l.set k a)
  | [], k, hk, _ => by simp at hk
  | b :: l, 0, _, hc => by
    show (El.cells b ++ rows l).set _ v = El.cells a ++ rows l
    rw [Nat.zero_mul, Nat.zero_add, List.set_append_left _ _ (by rw [El.len]; exact hf), hc]
    rfl
  | b :: l, k + 1, hk, hc => by
    have ih := rows_setf hf (l := l) (k := k) (by simpa using hk) (by simpa using hc)
    show (El.cells b ++ rows l).set _ v = El.cells b ++ rows (l.set k a)
    rw [List.set_append_right _ _ (by rw [El.len, Nat.add_mul]; omega), El.len, ← ih]
    congr 2
    rw [Nat.add_mul]; omega
theorem take_setf {α : Type} [El α] {v : Value} {a : α} {k f : Nat} {l : List α} {cur : Array Value} (hf : f < El.sz α) (hk : k < l.length) (hc : El.cells a = (El.cells (l.getD k default)).set f v) (h : cur.toList.take (l.length * El.sz α) = rows l) : (cur.setIfInBounds (k * El.sz α + f) v).toList.take ((l.set k a).length * El.sz α) = rows (l.set k a) := by
  rw [Array.toList_setIfInBounds, List.length_set, List.take_set, h, rows_setf hf hk hc]
theorem own_f {α : Type} [El α] {cur : Array Value} {l : List α} {k f q : Nat} {v : Value} (h : cur.toList.take (l.length * El.sz α) = rows l) (hk : k < l.length) (hq : q = k * El.sz α + f) (hv : (El.cells (l.getD k default))[f]? = some v) : cur[q]? = some v := by
  subst hq
  have h2 := rows_get (j := f) hk hv
  rw [← h, List.getElem?_take] at h2
  split at h2
  · simpa using h2
  · cases h2
end
section
variable {c : Cx} {Q : Exit → Act → World → Prop} {fr : Fr} {hp : Hp} {L : List Fact} {ops : Array Oper} {rest : List Oper} {ty : TypeId} {pos : String} {af : Array Edge}
end
end Go.W
