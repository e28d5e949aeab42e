/- The rules of the walks for memory: rows of cells that last, owned blocks, new blocks, slices, append, calls. -/
import Derived.Test.YtlpgheniajdkfaaGreatWb
namespace Go.W
open Go Go.RowKit
set_option linter.unusedVariables false
set_option linter.unusedSimpArgs false

def adr (A : Option Addr) : Addr := A.getD ⟨0, 0, none⟩
theorem block_add (a : Addr) (n : Nat) : (a.add n).block = a.block := by unfold Addr.add; split <;> rfl
theorem add_add' (a : Addr) (i j : Nat) : (a.add i).add j = a.add (i + j) := by
  unfold Addr.add
  by_cases hi : i = 0 <;> by_cases hj : j = 0 <;> simp [hi, hj, Nat.add_assoc]
theorem add_mk (b o j : Nat) : (⟨b, o, none⟩ : Addr).add j = ⟨b, o + j, none⟩ := by unfold Addr.add; split <;> simp_all

/-- The cells cs lie at A. -/
def Row (A : Option Addr) (cs : List Value) : Fact where
  P w := ∀ j u, cs[j]? = some u → ∃ ad, A = some ad ∧ w.cell? (ad.add j) = some u
  fp k := ∃ ad, A = some ad ∧ ad.block = k ∧ cs ≠ []
  st w w' h hP j u hu := by
    obtain ⟨ad, e, hc⟩ := hP j u hu
    refine ⟨ad, e, (World.cell?_of_block (w := w) (w' := w') (a := ad.add j) ?_).trans hc⟩
    rw [block_add]
    exact h _ ⟨ad, e, rfl, by rintro rfl; simp at hu⟩
  lt w hP k hk := by
    obtain ⟨ad, e, rfl, hne⟩ := hk
    obtain ⟨u, r, rfl⟩ := List.exists_cons_of_ne_nil hne
    obtain ⟨ad', e', hc⟩ := hP 0 u (by simp)
    have := World.block_lt_of_cell? w _ hc
    rw [block_add] at this
    rw [e] at e'
    injection e' with e'
    rwa [e']

theorem Row.cell {A : Option Addr} {cs : List Value} {w : World} (h : (Row A cs).P w) {j : Nat} {u : Value} (hu : cs[j]? = some u) : w.cell? ((adr A).add j) = some u := by
  obtain ⟨ad, rfl, hc⟩ := h j u hu
  exact hc
theorem Row.some_ {A : Option Addr} {cs : List Value} {w : World} (h : (Row A cs).P w) {j : Nat} (hj : j < cs.length) : A = some (adr A) := by
  obtain ⟨ad, rfl, hc⟩ := h j cs[j] (List.getElem?_eq_getElem hj)
  rfl
theorem Row.nil (A : Option Addr) (w : World) : (Row A []).P w := fun j u h => by simp at h

/-- What is known of a cell, of some cells. -/
def Cell (b : Bx) (hp : Hp) (L : List Fact) (p : Addr) (v : Value) : Prop := ∀ w, WI b w hp L → w.cell? p = some v
def Cells (b : Bx) (hp : Hp) (L : List Fact) (p : Addr) (cs : List Value) : Prop := ∀ w, WI b w hp L → ∀ j v, cs[j]? = some v → w.cell? (p.add j) = some v

section
variable {b : Bx} {hp : Hp} {L : List Fact}
theorem cell_row {A : Option Addr} {cs : List Value} {j : Nat} {v : Value} (h : Row A cs ∈ L) (hv : cs[j]? = some v) : Cell b hp L ((adr A).add j) v := fun w hw => Row.cell (hw.fs _ h) hv
theorem cell_row_f {A : Option Addr} {cs : List Value} {j o : Nat} {v : Value} (h : Row A cs ∈ L) (hv : cs[j + o]? = some v) : Cell b hp L (((adr A).add j).add o) v := fun w hw => by rw [add_add']; exact Row.cell (hw.fs _ h) hv
theorem cells_row {A : Option Addr} {cs us : List Value} {j : Nat} (h : Row A cs ∈ L) (hv : ∀ i u, us[i]? = some u → cs[j + i]? = some u) : Cells b hp L ((adr A).add j) us := fun w hw i u hu => by rw [add_add']; exact Row.cell (hw.fs _ h) (hv i u hu)
theorem cell_own {g o : Nat} {cs : Array Value} {t : TypeId} {fz : Nat × Nat} {v : Value} (h : (g, Obj.cells cs t fz) ∈ hp) (hv : cs[o]? = some v) : Cell b hp L ⟨g, o, none⟩ v := fun w hw => by
  have := hw.own _ h
  simp only at this
  simp [World.cell?, this, hv]
theorem cells_own {g o : Nat} {cs : Array Value} {us : List Value} {t : TypeId} {fz : Nat × Nat} (h : (g, Obj.cells cs t fz) ∈ hp) (hv : ∀ i u, us[i]? = some u → cs[o + i]? = some u) : Cells b hp L ⟨g, o, none⟩ us := fun w hw i u hu => by
  have := hw.own _ h
  simp only at this
  rw [add_mk]
  simp [World.cell?, this, hv i u hu]
end

section
variable {c : Cx} {Q : Exit → Act → World → Prop} {fr : Fr} {hp : Hp} {L : List Fact} {ops : Array Oper} {rest : List Oper}
variable {d : Tmp} {ty : TypeId} {pos : String} {af : Array Edge}

/-! ### Letting go of an owned block -/
theorem own_row {g : Nat} {cs : Array Value} {t : TypeId} {w : World} (h : w.heap[g]? = some (.cells cs t (0, 0))) {us : List Value} (hu : us <+: cs.toList) : (Row (some ⟨g, 0, none⟩) us).P w := fun j u hj => by
  refine ⟨_, rfl, ?_⟩
  rw [add_mk, Nat.zero_add]
  obtain ⟨r, hr⟩ := hu
  have : cs[j]? = some u := by
    rw [← Array.getElem?_toList, ← hr, List.getElem?_append]
    have hlt : j < us.length := (List.getElem?_eq_some_iff.1 hj).1
    rw [if_pos hlt, hj]
  simp [World.cell?, h, this]
theorem wi_letgo {b : Bx} {w : World} {g : Nat} {cs : Array Value} {t : TypeId} {us : List Value} (h : WI b w ((g, .cells cs t (0, 0)) :: hp) L) (hu : us <+: cs.toList) : WI b w hp (Row (some ⟨g, 0, none⟩) us :: L) :=
  h.letgo (own_row (h.own (g, .cells cs t (0, 0)) (by simp)) hu) (fun k hk => by obtain ⟨ad, e, h1, _⟩ := hk; cases e; exact h1.symm)
theorem hl_letgo {g : Nat} {cs : Array Value} {t : TypeId} (us : List Value) (hu : us <+: cs.toList) (k : HL c ops Q rest fr hp (Row (some ⟨g, 0, none⟩) us :: L)) : HL c ops Q rest fr ((g, .cells cs t (0, 0)) :: hp) L :=
  fun a w ha hw => k a w ha (wi_letgo hw hu)
theorem hc_letgo {g : Nat} {cs : Array Value} {t : TypeId} {x : Code} (us : List Value) (hu : us <+: cs.toList) (k : HC c x Q fr hp (Row (some ⟨g, 0, none⟩) us :: L)) : HC c x Q fr ((g, .cells cs t (0, 0)) :: hp) L :=
  fun a w ha hw => k a w ha (wi_letgo hw hu)
theorem hq_letgo {g : Nat} {cs : Array Value} {t : TypeId} {e : Exit} (us : List Value) (hu : us <+: cs.toList) (k : HQ c Q e fr hp (Row (some ⟨g, 0, none⟩) us :: L)) : HQ c Q e fr ((g, .cells cs t (0, 0)) :: hp) L :=
  fun a w ha hw => k a w ha (wi_letgo hw hu)

/-- A fact that follows. -/
theorem wi_more {b : Bx} {w : World} {F : Fact} (h : WI b w hp L) (hF : F.P w) (hfp : ∀ k, F.fp k → ∃ G ∈ L, G.fp k) : WI b w hp (F :: L) :=
  h.add hF (fun p hp hk => by obtain ⟨G, hG, h1⟩ := hfp _ hk; exact h.ap G hG p hp h1) (fun k hk => by obtain ⟨G, hG, h1⟩ := hfp _ hk; exact h.al G hG k h1)
theorem hl_more {F : Fact} (hF : ∀ w, WI c.b w hp L → F.P w) (hfp : ∀ k, F.fp k → ∃ G ∈ L, G.fp k) (k : HL c ops Q rest fr hp (F :: L)) : HL c ops Q rest fr hp L := fun a w ha hw => k a w ha (wi_more hw (hF w hw) hfp)
theorem hq_more {F : Fact} {e : Exit} (hF : ∀ w, WI c.b w hp L → F.P w) (hfp : ∀ k, F.fp k → ∃ G ∈ L, G.fp k) (k : HQ c Q e fr hp (F :: L)) : HQ c Q e fr hp L := fun a w ha hw => k a w ha (wi_more hw (hF w hw) hfp)

/-! ### Addresses and loads -/
/-- A type whose variables are one cell, or several. -/
def NoR (P : Program) (t : TypeId) : Prop := ∃ dd, P.underlying t = some dd ∧ dd.isRow = false
def IsR (P : Program) (t : TypeId) : Prop := ∃ dd, P.underlying t = some dd ∧ dd.isRow = true
def Sz (P : Program) (t : TypeId) (n : Nat) : Prop := (P.info? t).map (·.size) = some n
theorem r_fieldAddr {s : TypeId} {f : Nat} {x : Operand} {p : Addr} {off : Nat} (q : Addr) (hd : Nat.blt d c.n = true) (hx : ev fr x = some (.pointer (some p)))
    (hrun : ∀ p w, (Instr.fieldAt s (.pointer (some p)) f).run c.P w = .ok (.pointer (some (p.add off))) w) (hq : p.add off = q) (k : HL c ops Q rest ((d, .pointer (some q)) :: fr) hp L) :
    HL c ops Q (⟨some d, .fieldAddr s x f, ty, pos, af, none⟩ :: rest) fr hp L :=
  hl_val _ rfl rfl hd (fun a w ha _ => by simp only [execOp, ha.ev hx, Sem.run_bind, hrun, Result.andThen_ok, Sem.run_pure, hq]) k
theorem r_build {t : TypeId} {parts : Array (Nat × Operand)} {v : Value} (vs : List (Nat × Value)) (hd : Nat.blt d c.n = true) (hx : parts.toList.mapM (fun p => (ev fr p.2).map (p.1, ·)) = some vs)
    (hrun : ∀ w, (Instr.build t vs.toArray).run c.P w = .ok v w) (k : HL c ops Q rest ((d, v) :: fr) hp L) : HL c ops Q (⟨some d, .build t parts, ty, pos, af, none⟩ :: rest) fr hp L :=
  hl_val _ rfl rfl hd (fun a w ha _ => by
    have key : ∀ (xs : List (Nat × Operand)) (vs : List (Nat × Value)), xs.mapM (fun p => (ev fr p.2).map (p.1, ·)) = some vs → xs.map (fun p => (p.1, a.eval p.2)) = vs := by
      intro xs
      induction xs with
      | nil => intro vs h; simpa using h
      | cons x xs ih =>
        intro vs h
        simp only [List.mapM_cons, Option.bind_eq_bind, Option.bind_eq_some_iff, Option.pure_def, Option.some.injEq, Option.map_eq_some_iff] at h
        obtain ⟨v, ⟨u, hu, rfl⟩, us, hus, rfl⟩ := h
        rw [List.map_cons, ha.ev hu, ih us hus]
    have e1 : (parts.map fun (i, x) => (i, a.eval x)) = vs.toArray := by apply Array.ext'; simpa using key _ _ hx
    simp only [execOp, e1, Sem.run_bind, hrun, Result.andThen_ok, Sem.run_pure]) k
theorem r_load {t : TypeId} {x : Operand} {p : Addr} {v : Value} (hd : Nat.blt d c.n = true) (ht' : NoR c.P t) (hx : ev fr x = some (.pointer (some p))) (hc : Cell c.b hp L p v)
    (k : HL c ops Q rest ((d, v) :: fr) hp L) : HL c ops Q (⟨some d, .load t x, ty, pos, af, none⟩ :: rest) fr hp L :=
  hl_val _ rfl rfl hd (fun a w ha hw => by
    obtain ⟨dd, ht, hr⟩ := ht'
    have hagg : (isAgg t).run c.P w = .ok false w := by
      unfold isAgg
      rw [Sem.run_bind, run_underlying ht w]
      cases dd <;> simp_all [TypeDesc.isRow]
    simp only [execOp, ha.ev hx, Instr.loadAt, Instr.sureAddr, loadVar, Sem.run_bind, Sem.run_pure, Result.andThen_ok, hagg, Bool.false_eq_true, if_false, run_load, hc w hw]) k
theorem r_loadS {t : TypeId} {x : Operand} {p : Addr} {cs : List Value} {n : Nat} (hd : Nat.blt d c.n = true) (ht' : IsR c.P t) (hz' : Sz c.P t n) (hx : ev fr x = some (.pointer (some p))) (hn : cs.length = n) (hc : Cells c.b hp L p cs)
    (k : HL c ops Q rest ((d, .agg cs.toArray) :: fr) hp L) : HL c ops Q (⟨some d, .load t x, ty, pos, af, none⟩ :: rest) fr hp L :=
  hl_val _ rfl rfl hd (fun a w ha hw => by
    obtain ⟨dd, ht, hr⟩ := ht'
    have hz : (c.P.info? t).map (·.size) = some cs.length := by rw [hn]; exact hz'
    have hagg : (isAgg t).run c.P w = .ok true w := by
      unfold isAgg
      rw [Sem.run_bind, run_underlying ht w]
      cases dd <;> simp_all [TypeDesc.isRow]
    have hl := run_loadCells_list (P := c.P) w p cs (hc w hw)
    cases hq : c.P.info? t with
    | none => simp [hq] at hz
    | some i =>
      have hs : i.size = cs.length := by simpa [hq] using hz
      simp only [execOp, ha.ev hx, Instr.loadAt, Instr.sureAddr, loadVar, Sem.run_bind, Sem.run_pure, Result.andThen_ok, hagg, if_true, sizeOf, typeInfo, run_program, hq, hs, hl]) k
theorem size_of {P : Program} {e : TypeId} {sz : Nat} (h : Sz P e sz) (w : World) : (sizeOf e).run P w = .ok sz w := by
  unfold Sz at h
  cases hq : P.info? e with
  | none => simp [hq] at h
  | some i =>
    have hs : i.size = sz := by simpa [hq] using h
    simp [sizeOf, typeInfo, hq, hs]
theorem run_indexAt {P : Program} {t e : TypeId} {ad : Addr} {n cp sz j : Nat} {kd : IntKind} (w : World) (ht : P.underlying t = some (.slice e)) (hz : Sz P e sz) (hj : j < n) :
    (Instr.indexAt t (.slice (some ad) n cp) (.int kd (j : Int))).run P w = .ok (.pointer (some (ad.add (j * sz)))) w := by
  simp [Instr.indexAt, asIntOf, run_underlying ht, size_of hz, hj]
theorem r_indexAddr {t e : TypeId} {x i : Operand} {A : Option Addr} {n cp sz : Nat} {kd : IntKind} {z : Int} {cs : List Value} (j : Nat) (hd : Nat.blt d c.n = true) (ht : c.P.underlying t = some (.slice e)) (hz : Sz c.P e sz)
    (hx : ev fr x = some (.slice A n cp)) (hi : ev fr i = some (.int kd z)) (hjz : z = (j : Int)) (hj : j < n) (hr : Row A cs ∈ L) (hlen : j * sz < cs.length)
    (k : HL c ops Q rest ((d, .pointer (some ((adr A).add (j * sz)))) :: fr) hp L) : HL c ops Q (⟨some d, .indexAddr t x i, ty, pos, af, none⟩ :: rest) fr hp L :=
  hl_val _ rfl rfl hd (fun a w ha hw => by
    have hA := Row.some_ (hw.fs _ hr) hlen
    have h1 := ha.ev hx
    rw [hA] at h1
    subst hjz
    simp only [execOp, h1, ha.ev hi, Sem.run_bind, run_indexAt w ht hz hj, Result.andThen_ok, Sem.run_pure]) k
theorem r_indexAddr_own {t e : TypeId} {x i : Operand} {g o n cp sz : Nat} {kd : IntKind} {z : Int} (j q : Nat) (hd : Nat.blt d c.n = true) (ht : c.P.underlying t = some (.slice e)) (hz : Sz c.P e sz)
    (hx : ev fr x = some (.slice (some ⟨g, o, none⟩) n cp)) (hi : ev fr i = some (.int kd z)) (hjz : z = (j : Int)) (hj : j < n) (hq : o + j * sz = q)
    (k : HL c ops Q rest ((d, .pointer (some ⟨g, q, none⟩)) :: fr) hp L) : HL c ops Q (⟨some d, .indexAddr t x i, ty, pos, af, none⟩ :: rest) fr hp L :=
  hl_val _ rfl rfl hd (fun a w ha hw => by
    subst hjz
    simp only [execOp, ha.ev hx, ha.ev hi, Sem.run_bind, run_indexAt w ht hz hj, Result.andThen_ok, Sem.run_pure, add_mk, hq]) k
theorem r_index_str {t : TypeId} {x i : Operand} {s : Str} {kd : IntKind} {z : Int} {u : UInt8} (j : Nat) (hd : Nat.blt d c.n = true) (ht : c.P.underlying t = some .string)
    (hx : ev fr x = some (str s)) (hi : ev fr i = some (.int kd z)) (hjz : z = (j : Int)) (hu : s[j]? = some u) (k : HL c ops Q rest ((d, .int .u8 u.toNat) :: fr) hp L) : HL c ops Q (⟨some d, .index t x i, ty, pos, af, none⟩ :: rest) fr hp L :=
  hl_val _ rfl rfl hd (fun a w ha hw => by
    subst hjz
    have e1 : (ByteArray.mk s.toArray)[j]? = some u := by
      have hlt : j < s.length := (List.getElem?_eq_some_iff.1 hu).1
      have h3 : j < (ByteArray.mk s.toArray).size := hlt
      rw [getElem?_pos (ByteArray.mk s.toArray) j h3]
      have h4 : s[j] = u := by rw [List.getElem?_eq_getElem hlt] at hu; injection hu
      show some (s.toArray[j]) = some u
      simp [h4]
    simp [execOp, ha.ev hx, ha.ev hi, Instr.index, asIntOf, run_underlying ht, str, e1]) k

/-! ### Stores into owned blocks -/
theorem ext_setRow {w : World} {g : Nat} (cs : Array Value) : Ext [g] w (w.setRow g cs) := ⟨rfl, rfl, rfl, by simp, fun k _ hn => setRow_other w g k cs (by simpa using hn)⟩
theorem r_storeS {t : TypeId} {x y : Operand} {g : Nat} {old cs : Array Value} {e : TypeId} {hp' : Hp} (hx : ev fr x = some (.pointer (some ⟨g, 0, none⟩))) (hy : ev fr y = some (.agg cs)) (hpp : hp.Perm ((g, .cells old e (0, 0)) :: hp'))
    (hz : Sz c.P t cs.size) (ho : old.size = cs.size) (h1 : cs.toList.all (·.oneCell') = true)
    (k : HL c ops Q rest fr ((g, .cells cs e (0, 0)) :: hp') L) : HL c ops Q (⟨none, .store t x y, ty, pos, af, none⟩ :: rest) fr hp L :=
  hl_unit rfl rfl fun a w ha hw => by
    have hw' := hw.perm hpp
    have hg := hw'.own (g, .cells old e (0, 0)) (by simp)
    refine ⟨w.setRow g cs, _, L, ?_, hw'.write (ext_setRow cs) (setRow_heap w g old cs e (0, 0) hg), k⟩
    simp only [execOp, ha.ev hx, ha.ev hy, Instr.storeAt, Instr.sureAddr, Sem.run_bind, Sem.run_pure, Result.andThen_ok, run_storeVar_row w g e t old cs hg hz ho (by rw [← Array.all_toList]; exact h1)]
theorem r_store {t : TypeId} {x y : Operand} {g o : Nat} {old : Array Value} {v u : Value} {e : TypeId} {hp' : Hp} (hx : ev fr x = some (.pointer (some ⟨g, o, none⟩))) (hy : ev fr y = some v) (hpp : hp.Perm ((g, .cells old e (0, 0)) :: hp'))
    (hz : Sz c.P t 1) (ho : old[o]? = some u) (h1 : v.oneCell' = true)
    (k : HL c ops Q rest fr ((g, .cells (old.setIfInBounds o v) e (0, 0)) :: hp') L) : HL c ops Q (⟨none, .store t x y, ty, pos, af, none⟩ :: rest) fr hp L :=
  hl_unit rfl rfl fun a w ha hw => by
    have hw' := hw.perm hpp
    have hg := hw'.own (g, .cells old e (0, 0)) (by simp)
    simp only at hg
    refine ⟨w.setCell ⟨g, o, none⟩ v, _, L, ?_, hw'.write (o' := .cells (old.setIfInBounds o v) e (0, 0)) ⟨rfl, rfl, rfl, by simp [World.setCell], fun k _ hn => Below.heap_setCell w ⟨g, o, none⟩ v k (by simpa using hn)⟩ ?_, k⟩
    · have hc : w.cell? ⟨g, o, none⟩ = some u := by simp [World.cell?, hg, ho]
      have hf : w.frozen? ⟨g, o, none⟩ = false := by simp [World.frozen?, hg]
      have hcs : v.cells = #[v] := by cases v <;> simp_all [Value.cells, Value.oneCell']
      simp only [execOp, ha.ev hx, ha.ev hy, Instr.storeAt, Instr.sureAddr, Sem.run_bind, Sem.run_pure, Result.andThen_ok, storeVar, hcs, size_of hz, List.size_toArray, List.length_cons, List.length_nil, Nat.zero_add, ne_eq, not_true, if_false, storeCells, Addr.add, if_true, run_store c.P w _ v _ h1, hc, hf, Bool.false_eq_true]
    · simp [World.setCell, Array.getElem?_modify, hg]

/-! ### New blocks -/
theorem hl_new {o : Oper} (obj : Obj) (mk : Nat → Value) (ho : o.dst = some d) (hg : o.guard = none) (hd : Nat.blt d c.n = true) (hrun : ∀ a w, Ok c a fr → WI c.b w hp L → (execOp a.eval o).run c.P w = .ok (.value (mk w.heap.size)) (w.alloc obj))
    (k : ∀ g, HL c ops Q rest ((d, mk g) :: fr) ((g, obj) :: hp) L) : HL c ops Q (o :: rest) fr hp L :=
  hl_gen ho hg hd fun a w ha hw => ⟨_, _, _, L, hrun a w ha hw, hw.alloc obj, k _⟩
theorem r_box {e : TypeId} {x : Operand} {v : Value} (hd : Nat.blt d c.n = true) (hx : ev fr x = some v) (k : ∀ g, HL c ops Q rest ((d, .pointer (some ⟨g, 0, none⟩)) :: fr) ((g, .cells v.cells e (0, 0)) :: hp) L) :
    HL c ops Q (⟨some d, .box e x, ty, pos, af, none⟩ :: rest) fr hp L :=
  hl_new (.cells v.cells e (0, 0)) (fun g => .pointer (some ⟨g, 0, none⟩)) rfl rfl hd (fun a w ha _ => by simp only [execOp, ha.ev hx]; rfl) k
theorem r_alloc {e : TypeId} {cs : Array Value} (hd : Nat.blt d c.n = true) (hrun : ∀ w, (Instr.alloc e true (.tuple #[])).run c.P w = .ok (.pointer (some ⟨w.heap.size, 0, none⟩)) (w.alloc (.cells cs e (0, 0))))
    (k : ∀ g, HL c ops Q rest ((d, .pointer (some ⟨g, 0, none⟩)) :: fr) ((g, .cells cs e (0, 0)) :: hp) L) : HL c ops Q (⟨some d, .alloc e, ty, pos, af, none⟩ :: rest) fr hp L :=
  hl_new (.cells cs e (0, 0)) (fun g => .pointer (some ⟨g, 0, none⟩)) rfl rfl hd (fun a w _ _ => by simp only [execOp, Sem.run_bind, hrun, Result.andThen_ok, Sem.run_pure]) k
theorem r_makeMap {t : TypeId} (hd : Nat.blt d c.n = true) (k : ∀ g, HL c ops Q rest ((d, .map (some g)) :: fr) ((g, .map #[] 0) :: hp) L) : HL c ops Q (⟨some d, .makeMap t none, ty, pos, af, none⟩ :: rest) fr hp L :=
  hl_new (.map #[] 0) (fun g => .map (some g)) rfl rfl hd (fun a w _ _ => rfl) k
theorem r_buildSlice {t e : TypeId} {n : Nat} {parts : Array (Nat × Operand)} {cs : Array Value} (vs : List (Nat × Value)) (hd : Nat.blt d c.n = true) (hx : parts.toList.mapM (fun p => (ev fr p.2).map (p.1, ·)) = some vs)
    (hrun : ∀ w, (Instr.buildSlice t n vs.toArray).run c.P w = .ok (.slice (some ⟨w.heap.size, 0, none⟩) n n) (w.alloc (.cells cs e (0, 0))))
    (k : ∀ g, HL c ops Q rest ((d, .slice (some ⟨g, 0, none⟩) n n) :: fr) ((g, .cells cs e (0, 0)) :: hp) L) : HL c ops Q (⟨some d, .buildSlice t n parts, ty, pos, af, none⟩ :: rest) fr hp L :=
  hl_new (.cells cs e (0, 0)) (fun g => .slice (some ⟨g, 0, none⟩) n n) rfl rfl hd (fun a w ha _ => by
    have key : ∀ (xs : List (Nat × Operand)) (vs : List (Nat × Value)), xs.mapM (fun p => (ev fr p.2).map (p.1, ·)) = some vs → xs.map (fun p => (p.1, a.eval p.2)) = vs := by
      intro xs
      induction xs with
      | nil => intro vs h; simpa using h
      | cons x xs ih =>
        intro vs h
        simp only [List.mapM_cons, Option.bind_eq_bind, Option.bind_eq_some_iff, Option.pure_def, Option.some.injEq, Option.map_eq_some_iff] at h
        obtain ⟨v, ⟨u, hu, rfl⟩, us, hus, rfl⟩ := h
        rw [List.map_cons, ha.ev hu, ih us hus]
    have e1 : (parts.map fun (i, x) => (i, a.eval x)) = vs.toArray := by apply Array.ext'; simpa using key _ _ hx
    simp only [execOp, e1, Sem.run_bind, hrun, Result.andThen_ok, Sem.run_pure]) k

/-! ### Calls -/
theorem hl_call {f : Nat} {as : Array Operand} {ats : Array TypeId} {vs : List Value} {β : Type} {k : Con β} {hpR : Hp} (hcb : Callable c.P f) (hd : Nat.blt d c.n = true) (hx : as.toList.mapM (ev fr) = some vs)
    (hm : Meets c.P f vs k) (h1 : hp.Perm (k.hpI ++ hpR)) (h2 : LSub L k.LI) (kk : ∀ x, k.inv x → HL c ops Q rest ((d, k.val x) :: fr) (k.hpO x ++ hpR) (k.LO x ++ L)) :
    HL c ops Q (⟨some d, .call ⟨.value (.func f), as, ats⟩, ty, pos, af, none⟩ :: rest) fr hp L := by
  intro a w ha hw
  refine wpL_plain rfl fun K hK => ?_
  have key : ∀ (xs : List Operand) (vs : List Value), xs.mapM (ev fr) = some vs → xs.map a.eval = vs := by
    intro xs
    induction xs with
    | nil => intro vs h; simpa using h
    | cons x xs ih =>
      intro vs h
      simp only [List.mapM_cons, Option.bind_eq_bind, Option.bind_eq_some_iff, Option.pure_def, Option.some.injEq] at h
      obtain ⟨v, hv, us, hus, rfl⟩ := h
      rw [List.map_cons, ha.ev hv, ih us hus]
  have e1 : (#[] ++ as.map a.eval ++ #[]) = vs.toArray := by simp; apply Array.ext'; simpa using key _ _ hx
  unfold Oper.wp
  rw [execOp_call_go, hcb.run, Oper.upon_enter, e1]
  refine (hm w (hw.entry h1 h2.mem)).mono fun e w' hp => ?_
  obtain ⟨x, rfl, hi, hwi⟩ := hp
  exact hK _ _ (kk x hi _ _ (ha.put (by simpa using hd) _) (hw.back h1 h2.mem hwi))
theorem hl_callv {f : Nat} {x : Operand} {as : Array Operand} {ats : Array TypeId} {vs cap : List Value} {β : Type} {k : Con β} {hpR : Hp} (hcb : Callable c.P f) (hd : Nat.blt d c.n = true) (hf : ev fr x = some (.func (.func f) #[] cap.toArray)) (hx : as.toList.mapM (ev fr) = some vs)
    (hm : Meets c.P f (vs ++ cap) k) (h1 : hp.Perm (k.hpI ++ hpR)) (h2 : LSub L k.LI) (kk : ∀ x, k.inv x → HL c ops Q rest ((d, k.val x) :: fr) (k.hpO x ++ hpR) (k.LO x ++ L)) :
    HL c ops Q (⟨some d, .call ⟨.value x, as, ats⟩, ty, pos, af, none⟩ :: rest) fr hp L := by
  intro a w ha hw
  refine wpL_plain rfl fun K hK => ?_
  have key : ∀ (xs : List Operand) (vs : List Value), xs.mapM (ev fr) = some vs → xs.map a.eval = vs := by
    intro xs
    induction xs with
    | nil => intro vs h; simpa using h
    | cons x xs ih =>
      intro vs h
      simp only [List.mapM_cons, Option.bind_eq_bind, Option.bind_eq_some_iff, Option.pure_def, Option.some.injEq] at h
      obtain ⟨v, hv, us, hus, rfl⟩ := h
      rw [List.map_cons, ha.ev hv, ih us hus]
  have e1 : as.map a.eval = vs.toArray := by apply Array.ext'; simpa using key _ _ hx
  unfold Oper.wp
  have e2 : (execOp a.eval (⟨some d, .call ⟨.value x, as, ats⟩, ty, pos, af, none⟩ : Oper)).run c.P w = .ok (.enter f (vs ++ cap).toArray) w := by
    show ((do let dd ← resolve a.eval ⟨.value x, as, ats⟩ ty; invoke dd.target dd.args) : Sem Next).run c.P w = _
    simp only [resolve, ha.ev hf, e1, Deferred.ofValue, Sem.run_bind, Sem.run_pure, Result.andThen_ok, invoke]
    have e3 : (#[] ++ vs.toArray ++ cap.toArray) = (vs ++ cap).toArray := by simp
    rw [e3]
    exact hcb.run _ _
  rw [e2, Oper.upon_enter]
  refine (hm w (hw.entry h1 h2.mem)).mono fun e w' hp => ?_
  obtain ⟨x, rfl, hi, hwi⟩ := hp
  exact hK _ _ (kk x hi _ _ (ha.put (by simpa using hd) _) (hw.back h1 h2.mem hwi))
end
end Go.W
