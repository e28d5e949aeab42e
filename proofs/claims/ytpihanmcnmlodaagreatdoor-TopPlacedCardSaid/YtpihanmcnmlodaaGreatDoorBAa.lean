/- Texts. -/
import Derived.WalkKit
import Derived.TacticsIn
import Derived.OrdersIn
import Derived.Sort.LoopGhostIn
import Derived.Maps.AppendAt
import Derived.Deep.Draws
import Derived.Deep.LoopGhost
import Derived.Deep.MidRow
import Derived.Laws.Tables
import Derived.Laws.Build
import Derived.Laws.Strings
import Derived.Lib.Strings

set_option linter.unusedVariables false
set_option linter.unusedSimpArgs false
section
namespace Go.W
open Go Go.RowKit
abbrev Fr := List (Nat × Value)
abbrev Hp := List (Nat × Obj)
def lk : Fr → Nat → Option Value
  | [], _ => none
  | (k, v) :: r, t => cond (Nat.beq k t) (some v) (lk r t)
theorem z8 (k : Nat) (v : Value) (r : Fr) (t : Nat) : lk ((k, v) :: r) t = if k = t then some v else lk r t := by
  by_cases h : k = t
  · subst h; simp [lk, Nat.beq_refl]
  have : Nat.beq k t = false := by
    cases hb : Nat.beq k t
    · rfl
    exact absurd (Nat.eq_of_beq_eq_true hb) h
  simp [lk, this, h]
def ev (fr : Fr) : Operand → Option Value
  | .tmp t => lk fr t
  | .const v => some v
  | .global g => some (.pointer (some ⟨g, 0, none⟩))
  | .func f => some (.func (.func f) #[] #[])
structure Fact where
  P : World → Prop
  fp : Nat → Prop
  st : ∀ w w', (∀ k, fp k → w'.heap[k]? = w.heap[k]?) → P w → P w'
  lt : ∀ w, P w → ∀ k, fp k → k < w.heap.size
/-! ### What is drawn grows -/
structure Ext (S : List Nat) (w w' : World) : Prop where
  os : w'.os = w.os
  tape : w'.tape = w.tape
  output : w'.output = w.output
  size : w.heap.size ≤ w'.heap.size
  block : ∀ k, k < w.heap.size → k ∉ S → w'.heap[k]? = w.heap[k]?
  dr : 0 ≤ 0
theorem Ext.refl (S : List Nat) (w : World) : Ext S w w := ⟨rfl, rfl, rfl, Nat.le_refl _, fun _ _ _ => rfl, Nat.le_refl _⟩
theorem Ext.trans {S : List Nat} {a b c : World} (h : Ext S a b) (k : Ext S b c) : Ext S a c :=
  ⟨k.os.trans h.os, k.tape.trans h.tape, k.output.trans h.output, Nat.le_trans h.size k.size,
    fun i hi hn => (k.block i (Nat.lt_of_lt_of_le hi h.size) hn).trans (h.block i hi hn), Nat.le_trans h.dr k.dr⟩
theorem Ext.below {w w' : World} (h : Ext [] w w') : Below w.heap.size w w' :=
  ⟨h.os, h.tape, h.output, h.size, fun k hk => h.block k hk (by simp)⟩
structure Bx where
  w0 : World
  S0 : List Nat
  A0 : Nat → Prop
structure Cx where
  P : Program
  n : Nat
  b : Bx
  /-- the calls that have been put off -/
  D : List Deferred
  /-- the round of a range over a function, if it is one -/
  rd : Option Nat
structure Ok (c : Cx) (a : Act) (fr : Fr) : Prop where
  d : a.defers = c.D
  sz : a.tmps.size = c.n
  at_ : ∀ t v, lk fr t = some v → a.tmps.getD t undef = v
theorem Ok.ev {c : Cx} {a : Act} {fr : Fr} {x : Operand} {v : Value} (h : Ok c a fr) (hx : ev fr x = some v) : a.eval x = v := by
  cases x with
  | tmp t => exact h.at_ t v hx
  | const u => simpa [W.ev, Act.eval] using hx
  | global g => simpa [W.ev, Act.eval] using hx
  | func f => simpa [W.ev, Act.eval] using hx
theorem Ok.put {c : Cx} {a : Act} {fr : Fr} {d : Nat} (h : Ok c a fr) (hd : d < c.n) (v : Value) : Ok c (a.put (some d) v) ((d, v) :: fr) := by
  refine ⟨h.d, by simp [Act.put, h.sz], fun t u hu => ?_⟩; rw [z8] at hu; have hdn : d < a.tmps.size := by rw [h.sz]; exact hd
  by_cases e : d = t
  · subst e
    simp at hu
    subst hu
    simp [Act.put, hdn]
  rw [if_neg e] at hu; have := h.at_ t u hu
  simpa [Act.put, Array.getElem?_setIfInBounds_ne e] using this
theorem Ok.skip {c : Cx} {a : Act} {fr : Fr} (h : Ok c a fr) (v : Value) : Ok c (a.put none v) fr := h
structure WI (c : Bx) (w : World) (hp : Hp) (L : List Fact) : Prop where
  ext : Ext c.S0 c.w0 w
  own : ∀ p ∈ hp, w.heap[p.1]? = some p.2
  nd : (hp.map (·.1)).Nodup
  s0 : ∀ p ∈ hp, p.1 ∈ c.S0 ∨ c.w0.heap.size ≤ p.1
  fs : ∀ F ∈ L, F.P w
  ap : ∀ F ∈ L, ∀ p ∈ hp, ¬ F.fp p.1
  al : ∀ F ∈ L, ∀ k, F.fp k → c.w0.heap.size ≤ k ∨ k ∈ c.S0 ∨ c.A0 k
theorem J4 {w : World} {k : Nat} {o : Obj} (h : w.heap[k]? = some o) : k < w.heap.size := by
  rcases Nat.lt_or_ge k w.heap.size with h' | h'
  · exact h'
  simp [Array.getElem?_eq_none h'] at h
theorem WI.quiet {c : Bx} {w w' : World} {hp : Hp} {L : List Fact} (h : WI c w hp L) (e : Ext [] w w') : WI c w' hp L :=
  { ext := h.ext.trans ⟨e.os, e.tape, e.output, e.size, fun k hk _ => e.block k hk (by simp), e.dr⟩
    own := fun p hp => (e.block _ (J4 (h.own p hp)) (by simp)).trans (h.own p hp)
    nd := h.nd, s0 := h.s0, ap := h.ap, al := h.al
    fs := fun F hF => F.st w w' (fun k hk => e.block k (F.lt w (h.fs F hF) k hk) (by simp)) (h.fs F hF) }
theorem WI.weak {c : Bx} {w : World} {hp hp' : Hp} {L L' : List Fact} (h : WI c w hp L) (h1 : hp'.Sublist hp) (h2 : ∀ F ∈ L', F ∈ L) : WI c w hp' L' :=
  { ext := h.ext, own := fun p hp => h.own p (h1.subset hp), nd := h.nd.sublist (h1.map _), s0 := fun p hp => h.s0 p (h1.subset hp),
    fs := fun F hF => h.fs F (h2 F hF), ap := fun F hF p hp => h.ap F (h2 F hF) p (h1.subset hp), al := fun F hF => h.al F (h2 F hF) }
theorem WI.perm {c : Bx} {w : World} {hp hp' : Hp} {L : List Fact} (h : WI c w hp L) (h1 : hp.Perm hp') : WI c w hp' L :=
  { ext := h.ext, own := fun p hp => h.own p (h1.mem_iff.2 hp), nd := (h1.map _).nodup_iff.1 h.nd, s0 := fun p hp => h.s0 p (h1.mem_iff.2 hp),
    fs := h.fs, ap := fun F hF p hp => h.ap F hF p (h1.mem_iff.2 hp), al := h.al }
theorem aq9 (w : World) (o : Obj) {k : Nat} (h : k < w.heap.size) : (w.alloc o).heap[k]? = w.heap[k]? := Below.heap_alloc w o k h
theorem kj4 (w : World) (o : Obj) : Ext [] w (w.alloc o) := ⟨rfl, rfl, rfl, by simp, fun _ hk _ => aq9 w o hk, Nat.le_refl _⟩
theorem mq5 (w : World) : Ext [] w w.drew := ⟨rfl, rfl, rfl, by simp, fun _ _ _ => rfl, Nat.le_refl _⟩
theorem WI.alloc {c : Bx} {w : World} {hp : Hp} {L : List Fact} (h : WI c w hp L) (o : Obj) : WI c (w.alloc o) ((w.heap.size, o) :: hp) L := by
  have q := h.quiet (kj4 w o); have hne : ∀ p ∈ hp, p.1 ≠ w.heap.size := fun p hp e => by have := J4 (h.own p hp); omega
  refine { ext := q.ext, own := ?_, nd := ?_, s0 := ?_, fs := q.fs, ap := ?_, al := q.al }
  · intro p hp
    rcases List.mem_cons.1 hp with rfl | hp
    · show (w.heap.push o)[w.heap.size]? = some o
      simp
    exact q.own p hp
  · simp only [List.map_cons, List.nodup_cons]
    refine ⟨fun hm => ?_, h.nd⟩; obtain ⟨p, hp, e⟩ := List.mem_map.1 hm; exact hne p hp e
  · intro p hp
    rcases List.mem_cons.1 hp with rfl | hp
    · exact .inr h.ext.size
    exact h.s0 p hp
  intro F hF p hp
  rcases List.mem_cons.1 hp with rfl | hp
  · intro hk
    have := F.lt w (h.fs F hF) _ hk
    simp at this
  exact h.ap F hF p hp
theorem WI.write {c : Bx} {w w' : World} {g : Nat} {o o' : Obj} {hp : Hp} {L : List Fact} (h : WI c w ((g, o) :: hp) L) (e : Ext [g] w w') (hg : w'.heap[g]? = some o') : WI c w' ((g, o') :: hp) L := by
  have hgn : ∀ p ∈ hp, p.1 ≠ g := by
    intro p hp e; have := h.nd; simp only [List.map_cons, List.nodup_cons] at this; exact this.1 (List.mem_map.2 ⟨p, hp, e⟩)
  refine { ext := ?_, own := ?_, nd := h.nd, s0 := ?_, fs := ?_, ap := ?_, al := h.al }
  · refine ⟨e.os.trans h.ext.os, e.tape.trans h.ext.tape, e.output.trans h.ext.output, Nat.le_trans h.ext.size e.size, fun k hk hn => ?_, Nat.le_trans h.ext.dr e.dr⟩
    have hkg : k ≠ g := by
      rintro rfl
      rcases h.s0 (k, o) (by simp) with h1 | h1
      · exact hn h1
      simp at h1; omega
    exact (e.block k (Nat.lt_of_lt_of_le hk h.ext.size) (by simpa using hkg)).trans (h.ext.block k hk hn)
  · intro p hp
    rcases List.mem_cons.1 hp with rfl | hp
    · exact hg
    have h1 := h.own p (by simp [hp]); exact (e.block p.1 (J4 h1) (by simpa using hgn p hp)).trans h1
  · intro p hp
    rcases List.mem_cons.1 hp with rfl | hp
    · exact h.s0 (g, o) (by simp)
    exact h.s0 p (by simp [hp])
  · intro F hF
    refine F.st w w' (fun k hk => e.block k (F.lt w (h.fs F hF) k hk) ?_) (h.fs F hF); have := h.ap F hF (g, o) (by simp); simp only [List.mem_singleton]; rintro rfl; exact this hk
  intro F hF p hp
  rcases List.mem_cons.1 hp with rfl | hp
  · exact h.ap F hF (g, o) (by simp)
  exact h.ap F hF p (by simp [hp])
theorem WI.add {c : Bx} {w : World} {hp : Hp} {L : List Fact} (h : WI c w hp L) {F : Fact} (hF : F.P w) (ha : ∀ p ∈ hp, ¬ F.fp p.1) (hl : ∀ k, F.fp k → c.w0.heap.size ≤ k ∨ k ∈ c.S0 ∨ c.A0 k) : WI c w hp (F :: L) :=
  { ext := h.ext, own := h.own, nd := h.nd, s0 := h.s0
    fs := fun G hG => by rcases List.mem_cons.1 hG with rfl | hG; exact hF; exact h.fs G hG
    ap := fun G hG => by rcases List.mem_cons.1 hG with rfl | hG; exact ha; exact h.ap G hG
    al := fun G hG => by rcases List.mem_cons.1 hG with rfl | hG; exact hl; exact h.al G hG }
theorem WI.letgo {c : Bx} {w : World} {g : Nat} {o : Obj} {hp : Hp} {L : List Fact} (h : WI c w ((g, o) :: hp) L) {F : Fact} (hF : F.P w) (hfp : ∀ k, F.fp k → k = g) : WI c w hp (F :: L) := by
  have hgn : ∀ p ∈ hp, p.1 ≠ g := by
    intro p hp e; have := h.nd; simp only [List.map_cons, List.nodup_cons] at this; exact this.1 (List.mem_map.2 ⟨p, hp, e⟩)
  refine (h.weak (L' := L) (List.sublist_cons_self _ _) (fun _ h => h)).add hF (fun p hp hk => hgn p hp (hfp _ hk)) (fun k hk => ?_); rw [hfp k hk]
  rcases h.s0 (g, o) (by simp) with h1 | h1
  · exact .inr (.inl h1)
  exact .inl h1
/-! ### Lists of operations -/
def isDefer (o : Oper) : Bool := match o.op with | .defer _ => true | _ => false
def owp (P : Program) (o : Oper) (a : Act) (w : World) (K : Act → World → Prop) (Q : Exit → Act → World → Prop) : Prop :=
  o.wp P a w K Q ∨ (isDefer o = false ∧ ∃ l f tmps assign body, (execOp a.eval o).run P w = .ok (.round l f tmps assign body) w ∧
    RoundIn Fence.wide 0 P l f tmps assign body w fun e w' => ∃ v, e = .returned v ∧ K (a.put o.dst v) w')
theorem dx3 {P : Program} {o : Oper} {a : Act} {w : World} {K K' : Act → World → Prop} {Q : Exit → Act → World → Prop} (h : ∀ a w, K a w → K' a w) (hh : owp P o a w K Q) : owp P o a w K' Q := by
  rcases hh with hh | ⟨h0, l, f, tmps, assign, body, h1, h2⟩
  · exact .inl (Oper.wp_mono h hh)
  exact .inr ⟨h0, l, f, tmps, assign, body, h1, h2.mono fun e w' ⟨v, e1, hk⟩ => ⟨v, e1, h _ _ hk⟩⟩
def wpL (P : Program) (ops : Array Oper) (Q : Exit → Act → World → Prop) : List Oper → Act → World → Prop
  | [], a, w => Q .normal a w
  | o :: rest, a, w => if Region.wanted o (yielded ops a.tmps) then owp P o a w (wpL P ops Q rest) Q else wpL P ops Q rest (a.put o.dst undef) w
theorem cD {P : Program} {ops : Array Oper} {Q : Exit → Act → World → Prop} {a : Act} {w : World} {rest : List Oper} {o : Oper} (hg : o.guard = none)
    (h : ∀ K : Act → World → Prop, (∀ a w, wpL P ops Q rest a w → K a w) → o.wp P a w K Q) : wpL P ops Q (o :: rest) a w := by
  unfold wpL; rw [if_pos (by simp [Region.wanted, hg])]; exact .inl (h _ fun _ _ h => h)
theorem gx2 {P : Program} {ops : Array Oper} {Q : Exit → Act → World → Prop} {a : Act} {w : World} {rest : List Oper} {o : Oper} (hg : o.guard = none)
    (h : owp P o a w (wpL P ops Q rest) Q) : wpL P ops Q (o :: rest) a w := by
  unfold wpL; rw [if_pos (by simp [Region.wanted, hg])]; exact h
theorem cz4 {P : Program} {ops : Array Oper} {Q : Exit → Act → World → Prop} {a : Act} {w : World} {rest : List Oper} {o : Oper} (hw : Region.wanted o (yielded ops a.tmps) = false)
    (h : wpL P ops Q rest (a.put o.dst undef) w) : wpL P ops Q (o :: rest) a w := by
  unfold wpL; rw [if_neg (by rw [hw]; decide)]; exact h
def FF (rd : Option Nat) : Fence := { Fence.wide with round := rd }
theorem xB {rd : Option Nat} {ρ : Operand → Value} {o : Oper} (h : rd.isNone = true ∨ isDefer o = false) : o.semAt rd ρ = execOp ρ o := by
  cases rd with
  | none => rfl
  | some l => exact Oper.semAt_eq _ _ _ fun c hc => by rcases h with h | h <;> simp_all [isDefer]
theorem gj9 {rd : Option Nat} {n : Nat} {P : Program} {f : FuncId} {args : Array Value} {w : World} {R : Ending → World → Prop} (h : Calls P f args w R) : CallsIn (FF rd) n P f args w R := by
  have h1 : CallsIn Fence.wide n P f args w R := callsIn_wide.2 h
  cases rd with
  | none => exact h1
  | some l => exact h1
theorem rows_in {rd : Option Nat} {n : Nat} {P : Program} {row : String} {args : Array Value} {w : World} {R : Value → World → Prop} (h : Rows P row args w R) : RowsIn (FF rd) n P row args w R :=
  fun c cs _ => let ⟨v, w', r, s⟩ := h c cs; ⟨v, w', r, stepsIn_wide.2 s⟩
theorem oper_in {rd : Option Nat} {n : Nat} {P : Program} {o : Oper} {a : Act} {w : World} {K : Act → World → Prop} {Q : Exit → Act → World → Prop} (hd : rd.isNone = true ∨ isDefer o = false) (h : o.wp P a w K Q) : o.wpIn (FF rd) n P a w K Q := by
  refine ⟨fun _ _ => trivial, ?_⟩; have e : (o.semAt (FF rd).round a.eval).run P w = (execOp a.eval o).run P w := congrArg (fun s => Sem.run P s w) (xB (rd := rd) hd); rw [e]; unfold Oper.wp at h; have hno : (FF rd).depth.isSome = true → 1 ≤ n := fun h => by cases h
  generalize (execOp a.eval o).run P w = r at *
  cases r with
  | ok x w' =>
    cases x <;> simp only [Oper.upon] at h <;> simp only [Oper.uponIn]
    all_goals first | exact h | exact ⟨hno, gj9 (h.mono fun e _ he => by cases e <;> exact he)⟩ | exact ⟨hno, rows_in h⟩ | exact h.elim
  | halt x w' => cases x <;> simp only [Oper.upon] at h <;> simp only [Oper.uponIn] <;> first | exact h | exact h.elim
theorem lj9 {rd : Option Nat} {n : Nat} {P : Program} {o : Oper} {a : Act} {w : World} {K : Act → World → Prop} {Q : Exit → Act → World → Prop} (hd : rd.isNone = true ∨ isDefer o = false) (h : owp P o a w K Q) : o.wpIn (FF rd) n P a w K Q := by
  rcases h with h | ⟨h0, l, f, tmps, assign, body, h1, h2⟩
  · exact oper_in hd h
  refine ⟨fun _ _ => trivial, ?_⟩; have e : (o.semAt (FF rd).round a.eval).run P w = (execOp a.eval o).run P w := congrArg (fun s => Sem.run P s w) (xB (rd := rd) hd); rw [e, h1]; have hno : (FF rd).depth.isSome = true → 1 ≤ n := fun h => by cases h
  refine ⟨hno, trivial, fun c cs _ => ?_⟩; obtain ⟨e, w', hR, hs⟩ := h2.2 c cs (room_wide _); obtain ⟨v, rfl, hk⟩ := hR; exact ⟨.returned v, w', hk, hs⟩
def noDefer (rd : Option Nat) (l : List Oper) : Bool := rd.isNone || l.all fun o => !isDefer o
theorem gx3 {rd : Option Nat} {n : Nat} {P : Program} {ops : Array Oper} {Q : Exit → Act → World → Prop} : ∀ {l : List Oper} {a : Act} {w : World}, noDefer rd l = true → wpL P ops Q l a w → wpListIn (FF rd) n P ops Q l a w
  | [], _, _, _, h => h
  | o :: l, a, w, hn, h => by
    have h1 : rd.isNone = true ∨ isDefer o = false := by simp only [noDefer, List.all_cons, Bool.or_eq_true, Bool.and_eq_true] at hn; simp at hn ⊢; exact hn.imp id fun h => h.1
    have h2 : noDefer rd l = true := by simp only [noDefer, List.all_cons, Bool.or_eq_true, Bool.and_eq_true] at hn ⊢; exact hn.imp id fun h => h.2
    unfold wpL at h; unfold wpListIn
    split
    · rename_i hw
      rw [if_pos hw] at h; exact Oper.wpIn_mono (fun a w h => gx3 h2 h) (lj9 h1 h)
    rename_i hw
    rw [if_neg hw] at h; exact ⟨fun _ _ => trivial, gx3 h2 h⟩
def wpO (P : Program) (ops : Array Oper) (Q : Exit → Act → World → Prop) (i : Nat) (K : Act → World → Prop) (a : Act) (w : World) : Prop :=
  match ops[i]? with
  | none => K a w
  | some o => if Region.wanted o (yielded ops a.tmps) then owp P o a w K Q else K (a.put o.dst undef) w
def wpX (P : Program) (md : Region.Mode) (ops : Array Oper) (Q : Exit → Act → World → Prop) : Nat → Array Bool → Act → World → Prop
  | 0, listed, a, w => Region.ready md ops listed = [] ∧ Q .normal a w
  | fuel + 1, listed, a, w =>
    (Region.ready md ops listed = [] → Q .normal a w) ∧
    ∀ i ∈ Region.ready md ops listed, wpO P ops Q i (wpX P md ops Q fuel (listed.setIfInBounds i true)) a w
theorem bx0 {rd : Option Nat} {n : Nat} {P : Program} {md : Region.Mode} {ops : Array Oper} {Q : Exit → Act → World → Prop} (hn : noDefer rd ops.toList = true) : ∀ {fuel : Nat} {listed : Array Bool} {a : Act} {w : World}, wpX P md ops Q fuel listed a w → wpAnyIn (FF rd) n P md ops Q fuel listed a w
  | 0, _, _, _, h => h
  | fuel + 1, listed, a, w, h => by
    refine ⟨h.1, fun i hi => ?_⟩; have h1 := h.2 i hi; unfold wpO at h1; unfold wpOpIn
    cases ho : ops[i]? with
    | none => rw [ho] at h1; exact bx0 hn h1
    | some o =>
      rw [ho] at h1; simp only at h1 ⊢
      have hd : rd.isNone = true ∨ isDefer o = false := by
        simp only [noDefer, Bool.or_eq_true, List.all_eq_true] at hn; refine hn.imp id fun h => ?_; have := h o (by simpa using Array.mem_of_getElem? ho)
        simpa using this
      split
      · rename_i hw
        rw [if_pos hw] at h1; exact Oper.wpIn_mono (fun a w h => bx0 hn h) (lj9 hd h1)
      rename_i hw
      rw [if_neg hw] at h1; exact ⟨fun _ _ => trivial, bx0 hn h1⟩
/-! ### Triples -/
def HL (c : Cx) (ops : Array Oper) (Q : Exit → Act → World → Prop) (rest : List Oper) (fr : Fr) (hp : Hp) (L : List Fact) : Prop :=
  ∀ a w, Ok c a fr → WI c.b w hp L → wpL c.P ops Q rest a w
def cw (c : Cx) (code : Code) (Q : Exit → Act → World → Prop) : Act → World → Prop := code.wpIn (FF c.rd) 0 c.P Q
def HC (c : Cx) (code : Code) (Q : Exit → Act → World → Prop) (fr : Fr) (hp : Hp) (L : List Fact) : Prop :=
  ∀ a w, Ok c a fr → WI c.b w hp L → cw c code Q a w
def HQ (c : Cx) (Q : Exit → Act → World → Prop) (e : Exit) (fr : Fr) (hp : Hp) (L : List Fact) : Prop :=
  ∀ a w, Ok c a fr → WI c.b w hp L → Q e a w
section
variable {c : Cx} {Q : Exit → Act → World → Prop} {fr : Fr} {hp : Hp} {L : List Fact} {ops : Array Oper} {rest : List Oper}
theorem d1 {x y : Code} (h : HC c x (Exit.then (cw c y Q) Q) fr hp L) : HC c (.seq x y) Q fr hp L := fun a w ha hw => wpIn_seq (h a w ha hw)
theorem c7 {y : Code} (h : HC c y Q fr hp L) : HQ c (Exit.then (cw c y Q) Q) .normal fr hp L := fun a w ha hw => h a w ha hw
theorem w4 {K : Act → World → Prop} {id : Nat} (h : HQ c Q (.exit id) fr hp L) : HQ c (Exit.then K Q) (.exit id) fr hp L := fun a w ha hw => h a w ha hw
theorem u4 {K : Act → World → Prop} (h : HQ c Q .ret fr hp L) : HQ c (Exit.then K Q) .ret fr hp L := fun a w ha hw => h a w ha hw
theorem q8 {id : Nat} (h : HQ c Q .normal fr hp L) : HQ c (Exit.inBlock id Q) .normal fr hp L := fun a w ha hw => h a w ha hw
theorem W6 {id : Nat} (h : HQ c Q .ret fr hp L) : HQ c (Exit.inBlock id Q) .ret fr hp L := fun a w ha hw => h a w ha hw
theorem l9 {id : Nat} (h : HQ c Q .normal fr hp L) : HQ c (Exit.inBlock id Q) (.exit id) fr hp L := fun a w ha hw => by
  show if id = id then _ else _; rw [if_pos rfl]; exact h a w ha hw
theorem J6 {id id' : Nat} (hne : Nat.beq id' id = false) (h : HQ c Q (.exit id') fr hp L) : HQ c (Exit.inBlock id Q) (.exit id') fr hp L := fun a w ha hw => by
  show if id' = id then _ else _; rw [if_neg (fun e => by subst e; simp [Nat.beq_refl] at hne)]; exact h a w ha hw
theorem lB {id : Nat} {l : List Oper} (hn : noDefer c.rd l = true) (h : HL c l.toArray Q l fr hp L) : HC c (.region id l.toArray false) Q fr hp L := fun a w ha hw => wpIn_region_lit (gx3 hn (h a w ha hw))
theorem c9 {P : Program} {n : Nat} {b : Bx} {D : List Deferred} {id : Nat} {l : List Oper} (h : HL ⟨P, n, b, D, none⟩ l.toArray Q l fr hp L) : HC ⟨P, n, b, D, none⟩ (.region id l.toArray false) Q fr hp L := lB rfl h
theorem b7 (h : HQ c Q .normal fr hp L) : HL c ops Q [] fr hp L := fun a w ha hw => h a w ha hw
theorem i4 (h : HQ c Q .normal fr hp L) : HC c .skip Q fr hp L := fun a w ha hw => wpIn_skip (h a w ha hw)
theorem m4 {id : Nat} (h : HQ c Q (.exit id) fr hp L) : HC c (.exit id) Q fr hp L := fun a w ha hw => wpIn_exit (h a w ha hw)
theorem j6 (h : HQ c Q .ret fr hp L) : HC c .ret Q fr hp L := fun a w ha hw => wpIn_ret (h a w ha hw)
theorem i8 {id : Nat} {x : Code} (h : HC c x (Exit.inBlock id Q) fr hp L) : HC c (.block id x) Q fr hp L := fun a w ha hw => wpIn_block (h a w ha hw)
theorem d6 {x : Operand} {b : Bool} {thn els : Code} (hx : ev fr x = some (.bool b)) (ht : b = true → HC c thn Q fr hp L) (hf : b = false → HC c els Q fr hp L) : HC c (.cond x thn els) Q fr hp L :=
  fun a w ha hw => wpIn_cond_split (ha.ev hx) (fun e => ht e a w ha hw) (fun e => hf e a w ha hw)
theorem jx5 {x : Operand} {thn els : Code} (hx : ev fr x = some (.bool true)) (ht : HC c thn Q fr hp L) : HC c (.cond x thn els) Q fr hp L :=
  fun a w ha hw => wpIn_cond_true (ha.ev hx) (ht a w ha hw)
theorem jx6 {x : Operand} {thn els : Code} (hx : ev fr x = some (.bool false)) (hf : HC c els Q fr hp L) : HC c (.cond x thn els) Q fr hp L :=
  fun a w ha hw => wpIn_cond_false (ha.ev hx) (hf a w ha hw)
def FrSub (fr : Fr) : Fr → Prop
  | [] => True
  | (t, v) :: r => lk fr t = some v ∧ FrSub fr r
theorem FrSub.lk {fr : Fr} : ∀ {fr' : Fr}, FrSub fr fr' → ∀ t v, W.lk fr' t = some v → W.lk fr t = some v
  | [], _, t, v, h => by simp [W.lk] at h
  | (k, u) :: r, hs, t, v, h => by
    rw [z8] at h
    split at h
    · rename_i e; subst e; cases h; exact hs.1
    exact FrSub.lk hs.2 t v h
theorem Ok.sub {a : Act} {fr fr' : Fr} (h : Ok c a fr) (hs : FrSub fr fr') : Ok c a fr' := ⟨h.d, h.sz, fun t v hv => h.at_ t v (hs.lk t v hv)⟩
def LSub (L : List Fact) : List Fact → Prop
  | [] => True
  | F :: r => F ∈ L ∧ LSub L r
theorem LSub.mem {L : List Fact} : ∀ {L' : List Fact}, LSub L L' → ∀ F ∈ L', F ∈ L
  | [], _, F, h => by simp at h
  | G :: r, hs, F, h => by
    rcases List.mem_cons.1 h with rfl | h
    · exact hs.1
    exact LSub.mem hs.2 F h
theorem LSub.of_mem {L : List Fact} : ∀ {L' : List Fact}, (∀ F ∈ L', F ∈ L) → LSub L L'
  | [], _ => trivial
  | G :: r, h => ⟨h G (by simp), LSub.of_mem fun F hF => h F (by simp [hF])⟩
theorem gN {code : Code} {hp' : Hp} (h1 : hp.Perm hp') (h : HC c code Q fr hp' L) : HC c code Q fr hp L := fun a w ha hw => h a w ha (hw.perm h1)
theorem P8 {hp' : Hp} (h1 : hp.Perm hp') (h : HL c ops Q rest fr hp' L) : HL c ops Q rest fr hp L := fun a w ha hw => h a w ha (hw.perm h1)
theorem bY {e : Exit} {hp' : Hp} (h1 : hp.Perm hp') (h : HQ c Q e fr hp' L) : HQ c Q e fr hp L := fun a w ha hw => h a w ha (hw.perm h1)
structure Sta (β : Type) where
  inv : β → Prop
  fr : β → Fr
  hp : β → Hp
  L : β → List Fact
def Sta.holds {β : Type} (s : Sta β) (c : Cx) (a : Act) (w : World) : Prop := ∃ y, s.inv y ∧ Ok c a (s.fr y) ∧ WI c.b w (s.hp y) (s.L y)
theorem M6 {β : Type} (s : Sta β) {x y : Code} (h : HC c x (Exit.then (s.holds c) Q) fr hp L) (k : ∀ z, s.inv z → HC c y Q (s.fr z) (s.hp z) (s.L z)) : HC c (.seq x y) Q fr hp L :=
  fun a w ha hw => wpIn_seq (wpIn_mono (h a w ha hw) (fun e a w hq => by
    cases e <;> first | exact hq | (obtain ⟨z, hz, hok, hwi⟩ := hq; exact k z hz a w hok hwi)))
theorem E3 {β : Type} (s : Sta β) (z : β) (hz : s.inv z) (h1 : FrSub fr (s.fr z)) (h2 : (s.hp z).Sublist hp) (h3 : LSub L (s.L z)) : HQ c (Exit.then (s.holds c) Q) .normal fr hp L :=
  fun _ _ ha hw => ⟨z, hz, ha.sub h1, hw.weak h2 h3.mem⟩
def AgainQ {β : Type} (s : Sta β) (μ : β → Nat) (m : Nat) (c : Cx) (a : Act) (w : World) : Prop := ∃ y, s.inv y ∧ μ y < m ∧ Ok c a (s.fr y) ∧ WI c.b w (s.hp y) (s.L y)
theorem p6 {β : Type} (s : Sta β) (μ : β → Nat) {body : Code} (z0 : β) (hz0 : s.inv z0) (h1 : FrSub fr (s.fr z0)) (h2 : (s.hp z0).Sublist hp) (h3 : LSub L (s.L z0))
    (round : ∀ z, s.inv z → HC c body (Exit.then (AgainQ s μ (μ z) c) Q) (s.fr z) (s.hp z) (s.L z)) : HC c (.loop body) Q fr hp L :=
  fun a w ha hw => wpIn_loop_ghost (fun m a w => ∃ y, μ y = m ∧ s.inv y ∧ Ok c a (s.fr y) ∧ WI c.b w (s.hp y) (s.L y)) (μ z0) ⟨z0, rfl, hz0, ha.sub h1, hw.weak h2 h3.mem⟩
    fun m a w ⟨y, hm, hy, hok, hwi⟩ => wpIn_mono (round y hy a w hok hwi) fun e a w hq => by
      cases e <;> first | exact hq | (obtain ⟨z, hz, hlt, hok', hwi'⟩ := hq; exact ⟨μ z, by rw [← hm]; exact hlt, z, rfl, hz, hok', hwi'⟩)
theorem again {β : Type} (s : Sta β) {μ : β → Nat} {m : Nat} (y : β) (hy : s.inv y) (hlt : μ y < m) (h1 : FrSub fr (s.fr y)) (h2 : (s.hp y).Sublist hp) (h3 : LSub L (s.L y)) :
    HQ c (Exit.then (AgainQ s μ m c) Q) .normal fr hp L :=
  fun _ _ ha hw => ⟨y, hy, hlt, ha.sub h1, hw.weak h2 h3.mem⟩
/-! ### Contracts -/
structure Con (β : Type) where
  hpI : Hp := []
  LI : List Fact := []
  inv : β → Prop := fun _ => True
  val : β → Value
  hpO : β → Hp := fun _ => []
  LO : β → List Fact := fun _ => []
def Con.entry {β : Type} (k : Con β) (w : World) : Bx := ⟨w, k.hpI.map (·.1), fun b => ∃ F ∈ k.LI, F.fp b⟩
def Con.post {β : Type} (k : Con β) (w : World) (e : Ending) (w' : World) : Prop := ∃ x, e = .returned (k.val x) ∧ k.inv x ∧ WI (k.entry w) w' (k.hpO x) (k.LO x)
def Meets (P : Program) (f : Nat) (args : List Value) {β : Type} (k : Con β) : Prop :=
  ∀ w, WI (k.entry w) w k.hpI k.LI → Calls P f args.toArray w (k.post w)
def argFr (i : Nat) : List Value → Fr
  | [] => []
  | v :: r => (i, v) :: argFr (i + 1) r
theorem tQ : ∀ (l : List Value) (i t : Nat) (v : Value), lk (argFr i l) t = some v → i ≤ t ∧ l[t - i]? = some v
  | [], i, t, v, h => by simp [argFr, lk] at h
  | u :: r, i, t, v, h => by
    rw [argFr, z8] at h
    split at h
    · rename_i e; subst e; cases h; simp
    obtain ⟨h1, h2⟩ := tQ r (i + 1) t v h; refine ⟨by omega, ?_⟩; have : t - i = (t - (i + 1)) + 1 := by omega
    rw [this]; simpa using h2
theorem d3 {β : Type} {P : Program} {f : Nat} {args : List Value} {k : Con β} {fn : Func} {code : Code} (hf : P.funcs[f]? = some fn) (hb : fn.body = some code) (hn : args.length ≤ fn.ntmps)
    (h : ∀ w, HC ⟨P, fn.ntmps, k.entry w, [], none⟩ code (bodyPost P fn (k.post w)) (argFr 0 args) k.hpI k.LI) : Meets P f args k := by
  intro w hw; refine callsIn_wide.1 (callsIn_of_wp (n := 0) hf hb trivial (h w _ w ⟨rfl, by simp; omega, fun t v hv => ?_⟩ hw)); obtain ⟨_, h2⟩ := tQ args 0 t v hv; simp only [Nat.sub_zero] at h2
  have hlt : t < args.length := by
    rcases Nat.lt_or_ge t args.length with h' | h'
    · exact h'
    rw [List.getElem?_eq_none h'] at h2; cases h2
  rw [List.getElem?_eq_getElem hlt] at h2
  injection h2 with h2
  simp [Array.getElem?_append, hlt, h2]
theorem tJ {β : Type} {k : Con β} {fn : Func} {w0 : World} (x : β) (hr : ∀ a w, Ok c a fr → WI c.b w hp L → (results fn a.tmps).run c.P w = .ok (k.val x) w) (hb : c.b = k.entry w0) (hi : k.inv x) (h2 : (k.hpO x).Sublist hp) (h3 : LSub L (k.LO x)) (hD : c.D = [] := by exact rfl) :
    HQ c (bodyPost c.P fn (k.post w0)) .ret fr hp L := fun a w ha hw => ⟨ha.d.trans hD, k.val x, hr a w ha hw, x, rfl, hi, hb ▸ hw.weak h2 h3.mem⟩
theorem jj4 {β : Type} {k : Con β} {fn : Func} {w0 : World} (x : β) (hr : ∀ a w, Ok c a fr → WI c.b w hp L → (results fn a.tmps).run c.P w = .ok (k.val x) w) (hb : c.b = k.entry w0) (hi : k.inv x) (h2 : (k.hpO x).Sublist hp) (h3 : LSub L (k.LO x)) (hD : c.D = [] := by exact rfl) :
    HQ c (bodyPost c.P fn (k.post w0)) .normal fr hp L := fun a w ha hw => ⟨ha.d.trans hD, k.val x, hr a w ha hw, x, rfl, hi, hb ▸ hw.weak h2 h3.mem⟩
theorem ret1 {β : Type} {k : Con β} {fn : Func} {w0 : World} (x : β) {t : Tmp} (hres : fn.results = #[.tmp t]) (hv : lk fr t = some (k.val x)) (hb : c.b = k.entry w0) (hi : k.inv x) (h2 : (k.hpO x).Sublist hp) (h3 : LSub L (k.LO x)) (hD : c.D = [] := by exact rfl) :
    HQ c (bodyPost c.P fn (k.post w0)) .ret fr hp L :=
  tJ x (fun a w ha _ => by rw [results_tmp hres, ha.at_ _ _ hv]) hb hi h2 h3 hD
theorem ret2 {β : Type} {k : Con β} {fn : Func} {w0 : World} (x : β) {t u : Tmp} {v1 v2 : Value} (hres : fn.results = #[.tmp t, .tmp u]) (hv1 : lk fr t = some v1) (hv2 : lk fr u = some v2) (hk : k.val x = .tuple #[v1, v2]) (hb : c.b = k.entry w0) (hi : k.inv x) (h2 : (k.hpO x).Sublist hp) (h3 : LSub L (k.LO x)) (hD : c.D = [] := by exact rfl) :
    HQ c (bodyPost c.P fn (k.post w0)) .ret fr hp L :=
  tJ x (fun a w ha _ => by rw [results_tmp2 hres, ha.at_ _ _ hv1, ha.at_ _ _ hv2, hk]) hb hi h2 h3 hD
theorem ret0n {β : Type} {k : Con β} {fn : Func} {w0 : World} (x : β) (hres : fn.results = #[]) (hk : k.val x = .tuple #[]) (hb : c.b = k.entry w0) (hi : k.inv x) (h2 : (k.hpO x).Sublist hp) (h3 : LSub L (k.LO x)) (hD : c.D = [] := by exact rfl) :
    HQ c (bodyPost c.P fn (k.post w0)) .normal fr hp L :=
  jj4 x (fun a w _ _ => by rw [results_none hres, hk]) hb hi h2 h3 hD
end
theorem WI.entry {b : Bx} {w : World} {hp hpR : Hp} {L : List Fact} {β : Type} {k : Con β} (h : WI b w hp L) (h1 : hp.Perm (k.hpI ++ hpR)) (h2 : ∀ F ∈ k.LI, F ∈ L) : WI (k.entry w) w k.hpI k.LI := by
  have h' := h.perm h1; have hs : k.hpI.Sublist (k.hpI ++ hpR) := List.sublist_append_left _ _
  exact ⟨Ext.refl _ _, fun p hp => h'.own p (by simp [hp]), h'.nd.sublist (hs.map _), fun p hp => .inl (List.mem_map.2 ⟨p, hp, rfl⟩),
    fun F hF => h.fs F (h2 F hF), fun F hF p hp => h'.ap F (h2 F hF) p (by simp [hp]), fun F hF x hx => .inr (.inr ⟨F, hF, hx⟩)⟩
theorem WI.back {b : Bx} {w w' : World} {hp hpR : Hp} {L : List Fact} {β : Type} {k : Con β} {x : β} (h : WI b w hp L) (h1 : hp.Perm (k.hpI ++ hpR)) (h2 : ∀ F ∈ k.LI, F ∈ L)
    (r : WI (k.entry w) w' (k.hpO x) (k.LO x)) : WI b w' (k.hpO x ++ hpR) (k.LO x ++ L) := by
  have h' := h.perm h1
  have hnd : ∀ p ∈ k.hpI, ∀ q ∈ hpR, p.1 ≠ q.1 := by
    have := h'.nd; rw [List.map_append, List.nodup_append] at this; intro p hp q hq; exact this.2.2 p.1 (List.mem_map.2 ⟨p, hp, rfl⟩) q.1 (List.mem_map.2 ⟨q, hq, rfl⟩)
  have hlt : ∀ q ∈ hpR, q.1 < w.heap.size := fun q hq => J4 (h'.own q (by simp [hq]))
  have hoR : ∀ p ∈ k.hpO x, ∀ q ∈ hpR, p.1 ≠ q.1 := by
    intro p hp q hq e
    rcases r.s0 p hp with h3 | h3
    · obtain ⟨p', hp', e'⟩ := List.mem_map.1 h3
      exact hnd p' hp' q hq (e'.trans e)
    have := hlt q hq; simp only [Con.entry] at h3; omega
  refine { ext := ?_, own := ?_, nd := ?_, s0 := ?_, fs := ?_, ap := ?_, al := ?_ }
  · refine ⟨r.ext.os.trans h.ext.os, r.ext.tape.trans h.ext.tape, r.ext.output.trans h.ext.output, Nat.le_trans h.ext.size r.ext.size, fun i hi hn => ?_, Nat.le_trans h.ext.dr r.ext.dr⟩
    refine (r.ext.block i (Nat.lt_of_lt_of_le hi h.ext.size) (fun hm => ?_)).trans (h.ext.block i hi hn); obtain ⟨p, hp, e⟩ := List.mem_map.1 hm
    rcases h'.s0 p (by simp [hp]) with h3 | h3
    · exact hn (e ▸ h3)
    omega
  · intro p hp
    rcases List.mem_append.1 hp with hp | hp
    · exact r.own p hp
    refine (r.ext.block p.1 (hlt p hp) (fun hm => ?_)).trans (h'.own p (by simp [hp])); obtain ⟨q, hq, e⟩ := List.mem_map.1 hm; exact hnd q hq p hp e
  · rw [List.map_append, List.nodup_append]
    refine ⟨r.nd, ?_, fun i hi j hj => ?_⟩
    · have := h'.nd
      rw [List.map_append, List.nodup_append] at this; exact this.2.1
    obtain ⟨p, hp, rfl⟩ := List.mem_map.1 hi; obtain ⟨q, hq, rfl⟩ := List.mem_map.1 hj; exact hoR p hp q hq
  · intro p hp
    rcases List.mem_append.1 hp with hp | hp
    · rcases r.s0 p hp with h3 | h3
      · obtain ⟨p', hp', e'⟩ := List.mem_map.1 h3
        exact e' ▸ h'.s0 p' (by simp [hp'])
      exact .inr (Nat.le_trans h.ext.size h3)
    exact h'.s0 p (by simp [hp])
  · intro F hF
    rcases List.mem_append.1 hF with hF | hF
    · exact r.fs F hF
    refine F.st w w' (fun i hi => r.ext.block i (F.lt w (h.fs F hF) i hi) (fun hm => ?_)) (h.fs F hF); obtain ⟨p, hp, e⟩ := List.mem_map.1 hm; exact h'.ap F hF p (by simp [hp]) (e ▸ hi)
  · intro F hF p hp hk
    rcases List.mem_append.1 hF with hF | hF
    · rcases List.mem_append.1 hp with hp | hp
      · exact r.ap F hF p hp hk
      rcases r.al F hF p.1 hk with h3 | h3 | ⟨G, hG, h3⟩
      · have := hlt p hp; simp only [Con.entry] at h3; omega
      · obtain ⟨q, hq, e⟩ := List.mem_map.1 h3
        exact hnd q hq p hp e
      exact h'.ap G (h2 G hG) p (by simp [hp]) h3
    rcases List.mem_append.1 hp with hp | hp
    · rcases r.s0 p hp with h3 | h3
      · obtain ⟨q, hq, e⟩ := List.mem_map.1 h3
        exact h'.ap F hF q (by simp [hq]) (e ▸ hk)
      have := F.lt w (h.fs F hF) _ hk; simp only [Con.entry] at h3; omega
    exact h'.ap F hF p (by simp [hp]) hk
  intro F hF i hk
  rcases List.mem_append.1 hF with hF | hF
  · rcases r.al F hF i hk with h3 | h3 | ⟨G, hG, h3⟩
    · exact .inl (Nat.le_trans h.ext.size h3)
    · obtain ⟨q, hq, e⟩ := List.mem_map.1 h3
      rcases h'.s0 q (by simp [hq]) with h4 | h4
      · exact .inr (.inl (e ▸ h4))
      exact .inl (e ▸ h4)
    exact h.al G (h2 G hG) i h3
  exact h.al F hF i hk
structure Callable (P : Program) (f : Nat) : Prop where
  ex : ∃ fn, P.funcs[f]? = some fn ∧ (fn.name == "runtime.NumGoroutine") = false ∧ fn.body.isNone = false
theorem Callable.run {P : Program} {f : Nat} (h : Callable P f) (args : Array Value) (w : World) : (callFunc f args).run P w = .ok (.enter f args) w := by
  obtain ⟨fn, h1, h2, h3⟩ := h.ex; simp only [callFunc, Sem.run_bind, run_program, Result.andThen_ok, h1, h2, h3, Bool.false_eq_true, if_false, Sem.run_pure]
theorem mB {α : Type _} {a : α} {l : List α} (h : a ∈ l := by repeat constructor) : a ∈ l := h
end Go.W
end
section
namespace Go.W
open Go Go.RowKit
abbrev Str := List UInt8
def str (s : Str) : Value := .string ⟨s.toArray⟩
abbrev int (n : Int) : Value := .int .i64 n
def I64 (n : Int) : Prop := -9223372036854775808 ≤ n ∧ n ≤ 9223372036854775807
section
variable {c : Cx} {Q : Exit → Act → World → Prop} {fr : Fr} {hp : Hp} {L : List Fact} {ops : Array Oper} {rest : List Oper}
variable {d : Tmp} {ty : TypeId} {pos : String} {af : Array Edge}
theorem vZ {o : Oper} (ho : o.dst = some d) (hg : o.guard = none) (hd : Nat.blt d c.n = true)
    (h : ∀ a w, Ok c a fr → WI c.b w hp L → ∃ v w' hp' L', (execOp a.eval o).run c.P w = .ok (.value v) w' ∧ WI c.b w' hp' L' ∧ HL c ops Q rest ((d, v) :: fr) hp' L') : HL c ops Q (o :: rest) fr hp L := by
  intro a w ha hw; obtain ⟨v, w', hp', L', hr, hw', hk⟩ := h a w ha hw; refine cD hg fun K hK => ?_; unfold Oper.wp; rw [hr, Oper.upon_value, ho]; exact hK _ _ (hk _ _ (ha.put (by simpa using hd) v) hw')
theorem y3 {o : Oper} (v : Value) (ho : o.dst = some d) (hg : o.guard = none) (hd : Nat.blt d c.n = true)
    (hr : ∀ a w, Ok c a fr → WI c.b w hp L → (execOp a.eval o).run c.P w = .ok (.value v) w) (k : HL c ops Q rest ((d, v) :: fr) hp L) : HL c ops Q (o :: rest) fr hp L :=
  vZ ho hg hd fun a w ha hw => ⟨v, w, hp, L, hr a w ha hw, hw, k⟩
theorem cj8 {o : Oper} (ho : o.dst = none) (hg : o.guard = none)
    (h : ∀ a w, Ok c a fr → WI c.b w hp L → ∃ w' hp' L', (execOp a.eval o).run c.P w = .ok .skip w' ∧ WI c.b w' hp' L' ∧ HL c ops Q rest fr hp' L') : HL c ops Q (o :: rest) fr hp L := by
  intro a w ha hw; obtain ⟨w', hp', L', hr, hw', hk⟩ := h a w ha hw; refine cD hg fun K hK => ?_; unfold Oper.wp; rw [hr, Oper.upon_skip, ho]; exact hK _ _ (hk _ _ ha hw')
/-! Guards -/
theorem yS {a : Act} {j : Nat} {t : Tmp} {b : Bool} (ha : Ok c a fr) (hj : (ops[j]?).bind (·.dst) = some t) (hv : lk fr t = some (.bool b)) : yielded ops a.tmps j = some b := by
  have h1 := ha.at_ t _ hv; unfold yielded; rw [hj]; simp only [Option.bind_some]
  have : a.tmps[t]? = some (.bool b) := by
    cases h2 : a.tmps[t]? with
    | none => simp [Array.getD_eq_getD_getElem?, h2, undef] at h1
    | some u => simp [Array.getD_eq_getD_getElem?, h2] at h1; rw [h1]
  rw [this]
theorem D8 {o : Oper} {j : Nat} {want b : Bool} {t : Tmp} (ho : o.dst = some d) (hg : o.guard = some (j, want)) (hd : Nat.blt d c.n = true) (hj : (ops[j]?).bind (·.dst) = some t) (hv : lk fr t = some (.bool b)) (hb : (b == want) = false)
    (k : HL c ops Q rest ((d, undef) :: fr) hp L) : HL c ops Q (o :: rest) fr hp L := by
  intro a w ha hw; refine cz4 ?_ ?_
  · rw [Region.wanted, hg]
    show (yielded ops a.tmps j == some want) = false; rw [yS ha hj hv]
    simpa using hb
  rw [ho]; exact k _ _ (ha.put (by simpa using hd) _) hw
theorem cY {dst : Option Tmp} {op : Op} {j : Nat} {want b : Bool} {t : Tmp} (hj : (ops[j]?).bind (·.dst) = some t) (hv : lk fr t = some (.bool b)) (hb : (b == want) = true)
    (k : HL c ops Q (⟨dst, op, ty, pos, af, none⟩ :: rest) fr hp L) : HL c ops Q (⟨dst, op, ty, pos, af, some (j, want)⟩ :: rest) fr hp L := by
  intro a w ha hw; have h1 := k a w ha hw
  have hw1 : Region.wanted ⟨dst, op, ty, pos, af, some (j, want)⟩ (yielded ops a.tmps) = true := by
    show (yielded ops a.tmps j == some want) = true; rw [yS ha hj hv]
    simpa using hb
  unfold wpL at h1 ⊢; rw [if_pos hw1]; rw [if_pos (by simp [Region.wanted])] at h1; exact h1
/-! Plain values -/
theorem rE {x : Operand} {v : Value} (hd : Nat.blt d c.n = true) (hx : ev fr x = some v) (k : HL c ops Q rest ((d, v) :: fr) hp L) : HL c ops Q (⟨some d, .move x, ty, pos, af, none⟩ :: rest) fr hp L :=
  y3 v rfl rfl hd (fun a w ha _ => by show Result.ok (Next.value (a.eval x)) w = _; rw [ha.ev hx]) k
theorem lj1 {x : Operand} {v : Value} (hd : Nat.blt d c.n = true) (hx : ev fr x = some v) (k : HL c ops Q rest ((d, v) :: fr) hp L) : HL c ops Q (⟨some d, .assign x, ty, pos, af, none⟩ :: rest) fr hp L :=
  y3 v rfl rfl hd (fun a w ha _ => by show Result.ok (Next.value (a.eval x)) w = _; rw [ha.ev hx]) k
theorem kz6 {x y z : Operand} {v : Value} (hd : Nat.blt d c.n = true) (hx : ev fr x = some (.bool true)) (hy : ev fr y = some v) (k : HL c ops Q rest ((d, v) :: fr) hp L) : HL c ops Q (⟨some d, .pick x y z, ty, pos, af, none⟩ :: rest) fr hp L :=
  y3 v rfl rfl hd (fun a w ha _ => by show ((do pure (.value (if ← asBool (a.eval x) then a.eval y else a.eval z)) : Sem Next)).run c.P w = _; rw [ha.ev hx, ha.ev hy]; rfl) k
theorem kz7 {x y z : Operand} {v : Value} (hd : Nat.blt d c.n = true) (hx : ev fr x = some (.bool false)) (hz : ev fr z = some v) (k : HL c ops Q rest ((d, v) :: fr) hp L) : HL c ops Q (⟨some d, .pick x y z, ty, pos, af, none⟩ :: rest) fr hp L :=
  y3 v rfl rfl hd (fun a w ha _ => by show ((do pure (.value (if ← asBool (a.eval x) then a.eval y else a.eval z)) : Sem Next)).run c.P w = _; rw [ha.ev hx, ha.ev hz]; rfl) k
theorem I6 {t : TypeId} {x : Operand} {b : Bool} (hd : Nat.blt d c.n = true) (hx : ev fr x = some (.bool b)) (k : HL c ops Q rest ((d, .bool (!b)) :: fr) hp L) : HL c ops Q (⟨some d, .unOp .not t x, ty, pos, af, none⟩ :: rest) fr hp L :=
  y3 _ rfl rfl hd (fun a w ha _ => by show ((do pure (.value (← Op.unary .not (a.eval x))) : Sem Next)).run c.P w = _; rw [ha.ev hx]; rfl) k
theorem l7 {x : Operand} {p : Addr} (hd : Nat.blt d c.n = true) (hx : ev fr x = some (.pointer (some p))) (k : HL c ops Q rest ((d, .pointer (some p)) :: fr) hp L) : HL c ops Q (⟨some d, .nilCheck x, ty, pos, af, none⟩ :: rest) fr hp L :=
  y3 _ rfl rfl hd (fun a w ha _ => by simp only [execOp]; rw [ha.ev hx]; rfl) k
theorem k4 {x : Operand} {vs : Array Value} {i : Nat} {v : Value} (hd : Nat.blt d c.n = true) (hx : ev fr x = some (.tuple vs)) (hv : vs[i]? = some v) (k : HL c ops Q rest ((d, v) :: fr) hp L) : HL c ops Q (⟨some d, .extract x i, ty, pos, af, none⟩ :: rest) fr hp L :=
  y3 _ rfl rfl hd (fun a w ha _ => by simp only [execOp]; rw [ha.ev hx]; simp [Instr.extract, hv]) k
theorem N4 {fn : Fn} {first cap : Array Operand} {v1 v2 : List Value} (hd : Nat.blt d c.n = true) (h1 : first.toList.mapM (ev fr) = some v1) (h2 : cap.toList.mapM (ev fr) = some v2)
    (k : HL c ops Q rest ((d, .func fn v1.toArray v2.toArray) :: fr) hp L) : HL c ops Q (⟨some d, .makeFunc fn first cap, ty, pos, af, none⟩ :: rest) fr hp L :=
  y3 _ rfl rfl hd (fun a w ha _ => by
    have key : ∀ (xs : List Operand) (vs : List Value), xs.mapM (ev fr) = some vs → xs.map a.eval = vs := by
      intro xs
      induction xs with
      | nil => intro vs h; simpa using h
      | cons x xs ih =>
        intro vs h; simp only [List.mapM_cons, Option.bind_eq_bind, Option.bind_eq_some_iff, Option.pure_def, Option.some.injEq] at h; obtain ⟨v, hv, us, hus, rfl⟩ := h; rw [List.map_cons, ha.ev hv, ih us hus]
    have e1 : first.map a.eval = v1.toArray := by apply Array.ext'; simpa using key _ _ h1
    have e2 : cap.map a.eval = v2.toArray := by apply Array.ext'; simpa using key _ _ h2
    simp only [execOp, e1, e2]; rfl) k
/-! Numbers -/
theorem N2 {a : Act} {w : World} {op : BinOp} {t yt : TypeId} {x y : Operand} {u v r : Value} {P : Program} (hx : a.eval x = u) (hy : a.eval y = v) (hg : (eqGuard op t x y u v).run P w = .ok () w) (hr : (binOp op t u v).run P w = .ok r w) :
    (execOp a.eval ⟨some d, .binOp op t x y yt, ty, pos, af, none⟩).run P w = .ok (.value r) w := by
  simp only [execOp, hx, hy, Sem.run_bind, hg, hr, Result.andThen_ok, Sem.run_pure]
theorem r4 {t yt : TypeId} {x y : Operand} {a b : Int} (z : Int) (hd : Nat.blt d c.n = true) (hx : ev fr x = some (int a)) (hy : ev fr y = some (int b)) (hz : a + b = z) (hr : I64 z) (k : HL c ops Q rest ((d, int z) :: fr) hp L) :
    HL c ops Q (⟨some d, .binOp .add t x y yt, ty, pos, af, none⟩ :: rest) fr hp L :=
  y3 _ rfl rfl hd (fun a' w ha _ => N2 (ha.ev hx) (ha.ev hy) rfl (by
    show Result.ok (Value.int .i64 (IntKind.i64.wrap (a + b))) w = _
    rw [IntWalk.i64_in _ (hz ▸ hr), hz])) k
theorem H3 {t yt : TypeId} {x y : Operand} {a b : Int} (z : Int) (hd : Nat.blt d c.n = true) (hx : ev fr x = some (int a)) (hy : ev fr y = some (int b)) (hz : a - b = z) (hr : I64 z) (k : HL c ops Q rest ((d, int z) :: fr) hp L) :
    HL c ops Q (⟨some d, .binOp .sub t x y yt, ty, pos, af, none⟩ :: rest) fr hp L :=
  y3 _ rfl rfl hd (fun a' w ha _ => N2 (ha.ev hx) (ha.ev hy) rfl (by
    show Result.ok (Value.int .i64 (IntKind.i64.wrap (a - b))) w = _
    rw [IntWalk.i64_in _ (hz ▸ hr), hz])) k
theorem I2 {t yt : TypeId} {x y : Operand} {kd : IntKind} {a b : Int} (hd : Nat.blt d c.n = true) (hx : ev fr x = some (.int kd a)) (hy : ev fr y = some (.int kd b)) (k : HL c ops Q rest ((d, .bool (decide (a = b))) :: fr) hp L) :
    HL c ops Q (⟨some d, .binOp .eql t x y yt, ty, pos, af, none⟩ :: rest) fr hp L :=
  y3 _ rfl rfl hd (fun a' w ha _ => N2 (u := .int kd a) (v := .int kd b) (ha.ev hx) (ha.ev hy) rfl (by cases kd <;> rfl)) k
theorem B9 {t yt : TypeId} {x y : Operand} {kd : IntKind} {a b : Int} (hd : Nat.blt d c.n = true) (hx : ev fr x = some (.int kd a)) (hy : ev fr y = some (.int kd b)) (k : HL c ops Q rest ((d, .bool (decide (¬ a = b))) :: fr) hp L) :
    HL c ops Q (⟨some d, .binOp .neq t x y yt, ty, pos, af, none⟩ :: rest) fr hp L :=
  y3 _ rfl rfl hd (fun a' w ha _ => N2 (u := .int kd a) (v := .int kd b) (ha.ev hx) (ha.ev hy) rfl (by
    have e : (binOp .neq t (.int kd a) (.int kd b)).run c.P w = .ok (.bool (a != b)) w := by cases kd <;> rfl
    rw [e, show (a != b) = decide (¬ a = b) by by_cases h : a = b <;> simp [h]])) k
theorem u7 {t yt : TypeId} {x y : Operand} {kd : IntKind} {a b : Int} (hd : Nat.blt d c.n = true) (hx : ev fr x = some (.int kd a)) (hy : ev fr y = some (.int kd b)) (k : HL c ops Q rest ((d, .bool (decide (a < b))) :: fr) hp L) :
    HL c ops Q (⟨some d, .binOp .lss t x y yt, ty, pos, af, none⟩ :: rest) fr hp L :=
  y3 _ rfl rfl hd (fun a' w ha _ => N2 (u := .int kd a) (v := .int kd b) (ha.ev hx) (ha.ev hy) rfl (by cases kd <;> rfl)) k
theorem nY {t yt : TypeId} {x y : Operand} {kd : IntKind} {a b : Int} (hd : Nat.blt d c.n = true) (hx : ev fr x = some (.int kd a)) (hy : ev fr y = some (.int kd b)) (k : HL c ops Q rest ((d, .bool (decide (a ≤ b))) :: fr) hp L) :
    HL c ops Q (⟨some d, .binOp .leq t x y yt, ty, pos, af, none⟩ :: rest) fr hp L :=
  y3 _ rfl rfl hd (fun a' w ha _ => N2 (u := .int kd a) (v := .int kd b) (ha.ev hx) (ha.ev hy) rfl (by cases kd <;> rfl)) k
theorem K5 {t yt : TypeId} {x y : Operand} {kd : IntKind} {a b : Int} (hd : Nat.blt d c.n = true) (hx : ev fr x = some (.int kd a)) (hy : ev fr y = some (.int kd b)) (k : HL c ops Q rest ((d, .bool (decide (b < a))) :: fr) hp L) :
    HL c ops Q (⟨some d, .binOp .gtr t x y yt, ty, pos, af, none⟩ :: rest) fr hp L :=
  y3 _ rfl rfl hd (fun a' w ha _ => N2 (u := .int kd a) (v := .int kd b) (ha.ev hx) (ha.ev hy) rfl (by cases kd <;> rfl)) k
theorem cT {t yt : TypeId} {x y : Operand} {kd : IntKind} {a b : Int} (hd : Nat.blt d c.n = true) (hx : ev fr x = some (.int kd a)) (hy : ev fr y = some (.int kd b)) (k : HL c ops Q rest ((d, .bool (decide (b ≤ a))) :: fr) hp L) :
    HL c ops Q (⟨some d, .binOp .geq t x y yt, ty, pos, af, none⟩ :: rest) fr hp L :=
  y3 _ rfl rfl hd (fun a' w ha _ => N2 (u := .int kd a) (v := .int kd b) (ha.ev hx) (ha.ev hy) rfl (by cases kd <;> rfl)) k
theorem vM {t yt : TypeId} {x y : Operand} {x' y' : Str} (hd : Nat.blt d c.n = true) (hx : ev fr x = some (str x')) (hy : ev fr y = some (str y')) (k : HL c ops Q rest ((d, .bool (decide (x' = y'))) :: fr) hp L) :
    HL c ops Q (⟨some d, .binOp .eql t x y yt, ty, pos, af, none⟩ :: rest) fr hp L :=
  y3 _ rfl rfl hd (fun a' w ha _ => N2 (ha.ev hx) (ha.ev hy) rfl (by
    unfold str; rw [binOp_string_eql]; simp only [ByteArray.toList_mk, Sem.run_pure]
    by_cases h : x' = y' <;> simp [h])) k
theorem kz2 {t yt : TypeId} {x y : Operand} {x' y' : Str} (hd : Nat.blt d c.n = true) (hx : ev fr x = some (str x')) (hy : ev fr y = some (str y')) (k : HL c ops Q rest ((d, .bool (decide (¬ x' = y'))) :: fr) hp L) :
    HL c ops Q (⟨some d, .binOp .neq t x y yt, ty, pos, af, none⟩ :: rest) fr hp L :=
  y3 _ rfl rfl hd (fun a' w ha _ => N2 (ha.ev hx) (ha.ev hy) rfl (by
    unfold str; rw [binOp_string_neq]; simp only [ByteArray.toList_mk, Sem.run_pure]
    by_cases h : x' = y' <;> simp [h])) k
theorem kz3 {t yt : TypeId} {x y : Operand} {x' y' : Str} (hd : Nat.blt d c.n = true) (hx : ev fr x = some (str x')) (hy : ev fr y = some (str y')) (k : HL c ops Q rest ((d, .bool (Op.bytesLess x' y')) :: fr) hp L) :
    HL c ops Q (⟨some d, .binOp .lss t x y yt, ty, pos, af, none⟩ :: rest) fr hp L :=
  y3 _ rfl rfl hd (fun a' w ha _ => N2 (ha.ev hx) (ha.ev hy) rfl (by
    unfold str; rw [binOp_string_lss]
    simp only [ByteArray.toList_mk, Sem.run_pure])) k
theorem r_sgtr {t yt : TypeId} {x y : Operand} {x' y' : Str} (hd : Nat.blt d c.n = true) (hx : ev fr x = some (str x')) (hy : ev fr y = some (str y')) (k : HL c ops Q rest ((d, .bool (!(Op.bytesLess x' y' || x' == y'))) :: fr) hp L) :
    HL c ops Q (⟨some d, .binOp .gtr t x y yt, ty, pos, af, none⟩ :: rest) fr hp L :=
  y3 _ rfl rfl hd (fun a' w ha _ => N2 (ha.ev hx) (ha.ev hy) rfl (by
    show Result.ok (Value.bool (!(Op.bytesLess (ByteArray.mk x'.toArray).toList (ByteArray.mk y'.toArray).toList || (ByteArray.mk x'.toArray).toList == (ByteArray.mk y'.toArray).toList))) w = _
    simp only [ByteArray.toList_mk])) k
theorem gz7 {t yt : TypeId} {x y : Operand} {x' y' : Str} (hd : Nat.blt d c.n = true) (hx : ev fr x = some (str x')) (hy : ev fr y = some (str y')) (hr : x'.length + y'.length ≤ 9223372036854775807) (k : HL c ops Q rest ((d, str (x' ++ y')) :: fr) hp L) :
    HL c ops Q (⟨some d, .binOp .add t x y yt, ty, pos, af, none⟩ :: rest) fr hp L :=
  y3 _ rfl rfl hd (fun a' w ha _ => N2 (ha.ev hx) (ha.ev hy) rfl (by
    have e1 : (ByteArray.mk x'.toArray).size = x'.length := rfl; have e2 : (ByteArray.mk y'.toArray).size = y'.length := rfl
    have e3 : (ByteArray.mk x'.toArray ++ ByteArray.mk y'.toArray) = ByteArray.mk (x' ++ y').toArray := by
      apply ByteArray.ext
      simp
    unfold str; show (Op.stringOp .add _ _).run c.P w = _; simp only [Op.stringOp, e1, e2]; rw [if_neg (by simp only [IntKind.max, IntKind.signed, IntKind.bits]; simp; omega), e3]
    rfl)) k
theorem l1 {op : BinOp} {t yt : TypeId} {x y : Operand} {u v : Value} (r : Value) (hd : Nat.blt d c.n = true) (hx : ev fr x = some u) (hy : ev fr y = some v) (hg : ∀ w, (eqGuard op t x y u v).run c.P w = .ok () w) (hr : ∀ w, (binOp op t u v).run c.P w = .ok r w)
    (k : HL c ops Q rest ((d, r) :: fr) hp L) : HL c ops Q (⟨some d, .binOp op t x y yt, ty, pos, af, none⟩ :: rest) fr hp L :=
  y3 _ rfl rfl hd (fun _ w ha _ => N2 (ha.ev hx) (ha.ev hy) (hg w) (hr w)) k
theorem k5 {t : TypeId} {x : Operand} {A : Option Addr} {n cp : Nat} {e : TypeId} (hd : Nat.blt d c.n = true) (ht : c.P.underlying t = some (.slice e)) (hx : ev fr x = some (.slice A n cp)) (k : HL c ops Q rest ((d, int n) :: fr) hp L) :
    HL c ops Q (⟨some d, .call ⟨.builtin .len, #[x], #[t]⟩, ty, pos, af, none⟩ :: rest) fr hp L :=
  y3 _ rfl rfl hd (fun a w ha _ => by
    simp [execOp, resolve, invoke, builtin, Builtin.len_, ha.ev hx, run_underlying ht, goInt]) k
theorem Z3 {t : TypeId} {x : Operand} {s : Str} (hd : Nat.blt d c.n = true) (ht : c.P.underlying t = some .string) (hx : ev fr x = some (str s)) (k : HL c ops Q rest ((d, int s.length) :: fr) hp L) :
    HL c ops Q (⟨some d, .call ⟨.builtin .len, #[x], #[t]⟩, ty, pos, af, none⟩ :: rest) fr hp L :=
  y3 _ rfl rfl hd (fun a w ha _ => by
    have e1 : (ByteArray.mk s.toArray).size = s.length := rfl
    simp [execOp, resolve, invoke, builtin, Builtin.len_, ha.ev hx, run_underlying ht, goInt, str, e1]) k
end
end Go.W
end
section
namespace Go.W
open Go Go.RowKit
def adr (A : Option Addr) : Addr := A.getD ⟨0, 0, none⟩
theorem bq8 (a : Addr) (n : Nat) : (a.add n).block = a.block := by unfold Addr.add; split <;> rfl
theorem add_add' (a : Addr) (i j : Nat) : (a.add i).add j = a.add (i + j) := by
  unfold Addr.add
  by_cases hi : i = 0 <;> by_cases hj : j = 0 <;> simp [hi, hj, Nat.add_assoc]
theorem sR (b o j : Nat) : (⟨b, o, none⟩ : Addr).add j = ⟨b, o + j, none⟩ := by unfold Addr.add; split <;> simp_all
def Row (A : Option Addr) (cs : List Value) : Fact where
  P w := ∀ j u, cs[j]? = some u → ∃ ad, A = some ad ∧ w.cell? (ad.add j) = some u
  fp k := ∃ ad, A = some ad ∧ ad.block = k ∧ cs ≠ []
  st w w' h hP j u hu := by
    obtain ⟨ad, e, hc⟩ := hP j u hu; refine ⟨ad, e, (World.cell?_of_block (w := w) (w' := w') (a := ad.add j) ?_).trans hc⟩; rw [bq8]; exact h _ ⟨ad, e, rfl, by rintro rfl; simp at hu⟩
  lt w hP k hk := by
    obtain ⟨ad, e, rfl, hne⟩ := hk; obtain ⟨u, r, rfl⟩ := List.exists_cons_of_ne_nil hne; obtain ⟨ad', e', hc⟩ := hP 0 u (by simp); have := World.block_lt_of_cell? w _ hc; rw [bq8] at this; rw [e] at e'
    injection e' with e'
    rwa [e']
theorem Row.cell {A : Option Addr} {cs : List Value} {w : World} (h : (Row A cs).P w) {j : Nat} {u : Value} (hu : cs[j]? = some u) : w.cell? ((adr A).add j) = some u := by
  obtain ⟨ad, rfl, hc⟩ := h j u hu; exact hc
theorem Row.some_ {A : Option Addr} {cs : List Value} {w : World} (h : (Row A cs).P w) {j : Nat} (hj : j < cs.length) : A = some (adr A) := by
  obtain ⟨ad, rfl, hc⟩ := h j cs[j] (List.getElem?_eq_getElem hj)
  rfl
theorem Row.nil (A : Option Addr) (w : World) : (Row A []).P w := fun j u h => by simp at h
def Cell (b : Bx) (hp : Hp) (L : List Fact) (p : Addr) (v : Value) : Prop := ∀ w, WI b w hp L → w.cell? p = some v
def Cells (b : Bx) (hp : Hp) (L : List Fact) (p : Addr) (cs : List Value) : Prop := ∀ w, WI b w hp L → ∀ j v, cs[j]? = some v → w.cell? (p.add j) = some v
section
variable {b : Bx} {hp : Hp} {L : List Fact}
theorem i1 {A : Option Addr} {cs : List Value} {j : Nat} {v : Value} (h : Row A cs ∈ L) (hv : cs[j]? = some v) : Cell b hp L ((adr A).add j) v := fun w hw => Row.cell (hw.fs _ h) hv
theorem i3 {A : Option Addr} {cs : List Value} {j o : Nat} {v : Value} (h : Row A cs ∈ L) (hv : cs[j + o]? = some v) : Cell b hp L (((adr A).add j).add o) v := fun w hw => by rw [add_add']; exact Row.cell (hw.fs _ h) hv
theorem w5 {A : Option Addr} {cs us : List Value} {j : Nat} (h : Row A cs ∈ L) (hv : ∀ i u, us[i]? = some u → cs[j + i]? = some u) : Cells b hp L ((adr A).add j) us := fun w hw i u hu => by rw [add_add']; exact Row.cell (hw.fs _ h) (hv i u hu)
theorem j3 {g o : Nat} {cs : Array Value} {t : TypeId} {fz : Nat × Nat} {v : Value} (h : (g, Obj.cells cs t fz) ∈ hp) (hv : cs[o]? = some v) : Cell b hp L ⟨g, o, none⟩ v := fun w hw => by
  have := hw.own _ h; simp only at this
  simp [World.cell?, this, hv]
theorem wW {g o : Nat} {cs : Array Value} {us : List Value} {t : TypeId} {fz : Nat × Nat} (h : (g, Obj.cells cs t fz) ∈ hp) (hv : ∀ i u, us[i]? = some u → cs[o + i]? = some u) : Cells b hp L ⟨g, o, none⟩ us := fun w hw i u hu => by
  have := hw.own _ h; simp only at this; rw [sR]
  simp [World.cell?, this, hv i u hu]
end
section
variable {c : Cx} {Q : Exit → Act → World → Prop} {fr : Fr} {hp : Hp} {L : List Fact} {ops : Array Oper} {rest : List Oper}
variable {d : Tmp} {ty : TypeId} {pos : String} {af : Array Edge}
/-! ### Letting go of an owned block -/
theorem own_row {g : Nat} {cs : Array Value} {t : TypeId} {w : World} (h : w.heap[g]? = some (.cells cs t (0, 0))) {us : List Value} (hu : us <+: cs.toList) : (Row (some ⟨g, 0, none⟩) us).P w := fun j u hj => by
  refine ⟨_, rfl, ?_⟩; rw [sR, Nat.zero_add]; obtain ⟨r, hr⟩ := hu
  have : cs[j]? = some u := by
    rw [← Array.getElem?_toList, ← hr, List.getElem?_append]; have hlt : j < us.length := (List.getElem?_eq_some_iff.1 hj).1; rw [if_pos hlt, hj]
  simp [World.cell?, h, this]
theorem sW {b : Bx} {w : World} {g : Nat} {cs : Array Value} {t : TypeId} {us : List Value} (h : WI b w ((g, .cells cs t (0, 0)) :: hp) L) (hu : us <+: cs.toList) : WI b w hp (Row (some ⟨g, 0, none⟩) us :: L) :=
  h.letgo (own_row (h.own (g, .cells cs t (0, 0)) (by simp)) hu) (fun k hk => by obtain ⟨ad, e, h1, _⟩ := hk; cases e; exact h1.symm)
theorem v8 {g : Nat} {cs : Array Value} {t : TypeId} (us : List Value) (hu : us <+: cs.toList) (k : HL c ops Q rest fr hp (Row (some ⟨g, 0, none⟩) us :: L)) : HL c ops Q rest fr ((g, .cells cs t (0, 0)) :: hp) L :=
  fun a w ha hw => k a w ha (sW hw hu)
theorem tZ {g : Nat} {cs : Array Value} {t : TypeId} {x : Code} (us : List Value) (hu : us <+: cs.toList) (k : HC c x Q fr hp (Row (some ⟨g, 0, none⟩) us :: L)) : HC c x Q fr ((g, .cells cs t (0, 0)) :: hp) L :=
  fun a w ha hw => k a w ha (sW hw hu)
theorem J7 {g : Nat} {cs : Array Value} {t : TypeId} {e : Exit} (us : List Value) (hu : us <+: cs.toList) (k : HQ c Q e fr hp (Row (some ⟨g, 0, none⟩) us :: L)) : HQ c Q e fr ((g, .cells cs t (0, 0)) :: hp) L :=
  fun a w ha hw => k a w ha (sW hw hu)
theorem bU {b : Bx} {w : World} {F : Fact} (h : WI b w hp L) (hF : F.P w) (hfp : ∀ k, F.fp k → ∃ G ∈ L, G.fp k) : WI b w hp (F :: L) :=
  h.add hF (fun p hp hk => by obtain ⟨G, hG, h1⟩ := hfp _ hk; exact h.ap G hG p hp h1) (fun k hk => by obtain ⟨G, hG, h1⟩ := hfp _ hk; exact h.al G hG k h1)
theorem hl_more {F : Fact} (hF : ∀ w, WI c.b w hp L → F.P w) (hfp : ∀ k, F.fp k → ∃ G ∈ L, G.fp k) (k : HL c ops Q rest fr hp (F :: L)) : HL c ops Q rest fr hp L := fun a w ha hw => k a w ha (bU hw (hF w hw) hfp)
theorem hq_more {F : Fact} {e : Exit} (hF : ∀ w, WI c.b w hp L → F.P w) (hfp : ∀ k, F.fp k → ∃ G ∈ L, G.fp k) (k : HQ c Q e fr hp (F :: L)) : HQ c Q e fr hp L := fun a w ha hw => k a w ha (bU hw (hF w hw) hfp)
/-! ### Addresses and loads -/
def NoR (P : Program) (t : TypeId) : Prop := ∃ dd, P.underlying t = some dd ∧ dd.isRow = false
def IsR (P : Program) (t : TypeId) : Prop := ∃ dd, P.underlying t = some dd ∧ dd.isRow = true
def Sz (P : Program) (t : TypeId) (n : Nat) : Prop := (P.info? t).map (·.size) = some n
theorem b2 {s : TypeId} {f : Nat} {x : Operand} {p : Addr} {off : Nat} (q : Addr) (hd : Nat.blt d c.n = true) (hx : ev fr x = some (.pointer (some p)))
    (hrun : ∀ p w, (Instr.fieldAt s (.pointer (some p)) f).run c.P w = .ok (.pointer (some (p.add off))) w) (hq : p.add off = q) (k : HL c ops Q rest ((d, .pointer (some q)) :: fr) hp L) :
    HL c ops Q (⟨some d, .fieldAddr s x f, ty, pos, af, none⟩ :: rest) fr hp L :=
  y3 _ rfl rfl hd (fun a w ha _ => by simp only [execOp, ha.ev hx, Sem.run_bind, hrun, Result.andThen_ok, Sem.run_pure, hq]) k
theorem H6 {t : TypeId} {parts : Array (Nat × Operand)} {v : Value} (vs : List (Nat × Value)) (hd : Nat.blt d c.n = true) (hx : parts.toList.mapM (fun p => (ev fr p.2).map (p.1, ·)) = some vs)
    (hrun : ∀ w, (Instr.build t vs.toArray).run c.P w = .ok v w) (k : HL c ops Q rest ((d, v) :: fr) hp L) : HL c ops Q (⟨some d, .build t parts, ty, pos, af, none⟩ :: rest) fr hp L :=
  y3 _ rfl rfl hd (fun a w ha _ => by
    have key : ∀ (xs : List (Nat × Operand)) (vs : List (Nat × Value)), xs.mapM (fun p => (ev fr p.2).map (p.1, ·)) = some vs → xs.map (fun p => (p.1, a.eval p.2)) = vs := by
      intro xs
      induction xs with
      | nil => intro vs h; simpa using h
      | cons x xs ih =>
        intro vs h; simp only [List.mapM_cons, Option.bind_eq_bind, Option.bind_eq_some_iff, Option.pure_def, Option.some.injEq, Option.map_eq_some_iff] at h; obtain ⟨v, ⟨u, hu, rfl⟩, us, hus, rfl⟩ := h; rw [List.map_cons, ha.ev hu, ih us hus]
    have e1 : (parts.map fun (i, x) => (i, a.eval x)) = vs.toArray := by apply Array.ext'; simpa using key _ _ hx
    simp only [execOp, e1, Sem.run_bind, hrun, Result.andThen_ok, Sem.run_pure]) k
theorem b3 {t : TypeId} {x : Operand} {p : Addr} {v : Value} (hd : Nat.blt d c.n = true) (ht' : NoR c.P t) (hx : ev fr x = some (.pointer (some p))) (hc : Cell c.b hp L p v)
    (k : HL c ops Q rest ((d, v) :: fr) hp L) : HL c ops Q (⟨some d, .load t x, ty, pos, af, none⟩ :: rest) fr hp L :=
  y3 _ rfl rfl hd (fun a w ha hw => by
    obtain ⟨dd, ht, hr⟩ := ht'
    have hagg : (isAgg t).run c.P w = .ok false w := by
      unfold isAgg; rw [Sem.run_bind, run_underlying ht w]
      cases dd <;> simp_all [TypeDesc.isRow]
    simp only [execOp, ha.ev hx, Instr.loadAt, Instr.sureAddr, loadVar, Sem.run_bind, Sem.run_pure, Result.andThen_ok, hagg, Bool.false_eq_true, if_false, run_load, hc w hw]) k
theorem y9 {t : TypeId} {x : Operand} {p : Addr} {cs : List Value} {n : Nat} (hd : Nat.blt d c.n = true) (ht' : IsR c.P t) (hz' : Sz c.P t n) (hx : ev fr x = some (.pointer (some p))) (hn : cs.length = n) (hc : Cells c.b hp L p cs)
    (k : HL c ops Q rest ((d, .agg cs.toArray) :: fr) hp L) : HL c ops Q (⟨some d, .load t x, ty, pos, af, none⟩ :: rest) fr hp L :=
  y3 _ rfl rfl hd (fun a w ha hw => by
    obtain ⟨dd, ht, hr⟩ := ht'; have hz : (c.P.info? t).map (·.size) = some cs.length := by rw [hn]; exact hz'
    have hagg : (isAgg t).run c.P w = .ok true w := by
      unfold isAgg; rw [Sem.run_bind, run_underlying ht w]
      cases dd <;> simp_all [TypeDesc.isRow]
    have hl := run_loadCells_list (P := c.P) w p cs (hc w hw)
    cases hq : c.P.info? t with
    | none => simp [hq] at hz
    | some i =>
      have hs : i.size = cs.length := by simpa [hq] using hz
      simp only [execOp, ha.ev hx, Instr.loadAt, Instr.sureAddr, loadVar, Sem.run_bind, Sem.run_pure, Result.andThen_ok, hagg, if_true, sizeOf, typeInfo, run_program, hq, hs, hl]) k
theorem kY {P : Program} {e : TypeId} {sz : Nat} (h : Sz P e sz) (w : World) : (sizeOf e).run P w = .ok sz w := by
  unfold Sz at h
  cases hq : P.info? e with
  | none => simp [hq] at h
  | some i =>
    have hs : i.size = sz := by simpa [hq] using h
    simp [sizeOf, typeInfo, hq, hs]
theorem xC {P : Program} {t e : TypeId} {ad : Addr} {n cp sz j : Nat} {kd : IntKind} (w : World) (ht : P.underlying t = some (.slice e)) (hz : Sz P e sz) (hj : j < n) :
    (Instr.indexAt t (.slice (some ad) n cp) (.int kd (j : Int))).run P w = .ok (.pointer (some (ad.add (j * sz)))) w := by
  simp [Instr.indexAt, asIntOf, run_underlying ht, kY hz, hj]
theorem dq7 {t e : TypeId} {x i : Operand} {A : Option Addr} {n cp sz : Nat} {kd : IntKind} {z : Int} {cs : List Value} (j : Nat) (hd : Nat.blt d c.n = true) (ht : c.P.underlying t = some (.slice e)) (hz : Sz c.P e sz)
    (hx : ev fr x = some (.slice A n cp)) (hi : ev fr i = some (.int kd z)) (hjz : z = (j : Int)) (hj : j < n) (hr : Row A cs ∈ L) (hlen : j * sz < cs.length)
    (k : HL c ops Q rest ((d, .pointer (some ((adr A).add (j * sz)))) :: fr) hp L) : HL c ops Q (⟨some d, .indexAddr t x i, ty, pos, af, none⟩ :: rest) fr hp L :=
  y3 _ rfl rfl hd (fun a w ha hw => by
    have hA := Row.some_ (hw.fs _ hr) hlen; have h1 := ha.ev hx; rw [hA] at h1; subst hjz
    simp only [execOp, h1, ha.ev hi, Sem.run_bind, xC w ht hz hj, Result.andThen_ok, Sem.run_pure]) k
theorem p7 {t e : TypeId} {x i : Operand} {g o n cp sz : Nat} {kd : IntKind} {z : Int} (j q : Nat) (hd : Nat.blt d c.n = true) (ht : c.P.underlying t = some (.slice e)) (hz : Sz c.P e sz)
    (hx : ev fr x = some (.slice (some ⟨g, o, none⟩) n cp)) (hi : ev fr i = some (.int kd z)) (hjz : z = (j : Int)) (hj : j < n) (hq : o + j * sz = q)
    (k : HL c ops Q rest ((d, .pointer (some ⟨g, q, none⟩)) :: fr) hp L) : HL c ops Q (⟨some d, .indexAddr t x i, ty, pos, af, none⟩ :: rest) fr hp L :=
  y3 _ rfl rfl hd (fun a w ha hw => by
    subst hjz
    simp only [execOp, ha.ev hx, ha.ev hi, Sem.run_bind, xC w ht hz hj, Result.andThen_ok, Sem.run_pure, sR, hq]) k
theorem dq6 {t : TypeId} {x i : Operand} {s : Str} {kd : IntKind} {z : Int} {u : UInt8} (j : Nat) (hd : Nat.blt d c.n = true) (ht : c.P.underlying t = some .string)
    (hx : ev fr x = some (str s)) (hi : ev fr i = some (.int kd z)) (hjz : z = (j : Int)) (hu : s[j]? = some u) (k : HL c ops Q rest ((d, .int .u8 u.toNat) :: fr) hp L) : HL c ops Q (⟨some d, .index t x i, ty, pos, af, none⟩ :: rest) fr hp L :=
  y3 _ rfl rfl hd (fun a w ha hw => by
    subst hjz
    have e1 : (ByteArray.mk s.toArray)[j]? = some u := by
      have hlt : j < s.length := (List.getElem?_eq_some_iff.1 hu).1; have h3 : j < (ByteArray.mk s.toArray).size := hlt; rw [getElem?_pos (ByteArray.mk s.toArray) j h3]; have h4 : s[j] = u := by rw [List.getElem?_eq_getElem hlt] at hu; injection hu
      show some (s.toArray[j]) = some u
      simp [h4]
    simp [execOp, ha.ev hx, ha.ev hi, Instr.index, asIntOf, run_underlying ht, str, e1]) k
/-! ### Stores into owned blocks -/
theorem aq0 {w : World} {g : Nat} (cs : Array Value) : Ext [g] w (w.setRow g cs) := ⟨rfl, rfl, rfl, by simp, fun k _ hn => setRow_other w g k cs (by simpa using hn), Nat.le_refl _⟩
theorem E0 {t : TypeId} {x y : Operand} {g : Nat} {old cs : Array Value} {e : TypeId} {hp' : Hp} (hx : ev fr x = some (.pointer (some ⟨g, 0, none⟩))) (hy : ev fr y = some (.agg cs)) (hpp : hp.Perm ((g, .cells old e (0, 0)) :: hp'))
    (hz : Sz c.P t cs.size) (ho : old.size = cs.size) (h1 : cs.toList.all (·.oneCell') = true)
    (k : HL c ops Q rest fr ((g, .cells cs e (0, 0)) :: hp') L) : HL c ops Q (⟨none, .store t x y, ty, pos, af, none⟩ :: rest) fr hp L :=
  cj8 rfl rfl fun a w ha hw => by
    have hw' := hw.perm hpp; have hg := hw'.own (g, .cells old e (0, 0)) (by simp); refine ⟨w.setRow g cs, _, L, ?_, hw'.write (aq0 cs) (setRow_heap w g old cs e (0, 0) hg), k⟩; simp only [execOp, ha.ev hx, ha.ev hy, Instr.storeAt, Instr.sureAddr, Sem.run_bind, Sem.run_pure, Result.andThen_ok, run_storeVar_row w g e t old cs hg hz ho (by rw [← Array.all_toList]; exact h1)]
theorem u9 {t : TypeId} {x y : Operand} {g o : Nat} {old : Array Value} {v u : Value} {e : TypeId} {hp' : Hp} (hx : ev fr x = some (.pointer (some ⟨g, o, none⟩))) (hy : ev fr y = some v) (hpp : hp.Perm ((g, .cells old e (0, 0)) :: hp'))
    (hz : Sz c.P t 1) (ho : old[o]? = some u) (h1 : v.oneCell' = true)
    (k : HL c ops Q rest fr ((g, .cells (old.setIfInBounds o v) e (0, 0)) :: hp') L) : HL c ops Q (⟨none, .store t x y, ty, pos, af, none⟩ :: rest) fr hp L :=
  cj8 rfl rfl fun a w ha hw => by
    have hw' := hw.perm hpp; have hg := hw'.own (g, .cells old e (0, 0)) (by simp); simp only at hg; refine ⟨w.setCell ⟨g, o, none⟩ v, _, L, ?_, hw'.write (o' := .cells (old.setIfInBounds o v) e (0, 0)) ⟨rfl, rfl, rfl, by simp [World.setCell], fun k _ hn => Below.heap_setCell w ⟨g, o, none⟩ v k (by simpa using hn), Nat.le_refl _⟩ ?_, k⟩
    · have hc : w.cell? ⟨g, o, none⟩ = some u := by simp [World.cell?, hg, ho]
      have hf : w.frozen? ⟨g, o, none⟩ = false := by simp [World.frozen?, hg]
      have hcs : v.cells = #[v] := by cases v <;> simp_all [Value.cells, Value.oneCell']
      simp only [execOp, ha.ev hx, ha.ev hy, Instr.storeAt, Instr.sureAddr, Sem.run_bind, Sem.run_pure, Result.andThen_ok, storeVar, hcs, kY hz, List.size_toArray, List.length_cons, List.length_nil, Nat.zero_add, ne_eq, not_true, if_false, storeCells, Addr.add, if_true, run_store c.P w _ v _ h1, hc, hf, Bool.false_eq_true]
    simp [World.setCell, Array.getElem?_modify, hg]
/-! ### New blocks -/
theorem rT {o : Oper} (obj : Obj) (mk : Nat → Value) (ho : o.dst = some d) (hg : o.guard = none) (hd : Nat.blt d c.n = true) (hrun : ∀ a w, Ok c a fr → WI c.b w hp L → (execOp a.eval o).run c.P w = .ok (.value (mk w.heap.size)) (w.alloc obj))
    (k : ∀ g, HL c ops Q rest ((d, mk g) :: fr) ((g, obj) :: hp) L) : HL c ops Q (o :: rest) fr hp L :=
  vZ ho hg hd fun a w ha hw => ⟨_, _, _, L, hrun a w ha hw, hw.alloc obj, k _⟩
theorem B7 {e : TypeId} {x : Operand} {v : Value} (hd : Nat.blt d c.n = true) (hx : ev fr x = some v) (k : ∀ g, HL c ops Q rest ((d, .pointer (some ⟨g, 0, none⟩)) :: fr) ((g, .cells v.cells e (0, 0)) :: hp) L) :
    HL c ops Q (⟨some d, .box e x, ty, pos, af, none⟩ :: rest) fr hp L :=
  rT (.cells v.cells e (0, 0)) (fun g => .pointer (some ⟨g, 0, none⟩)) rfl rfl hd (fun a w ha _ => by simp only [execOp, ha.ev hx]; rfl) k
theorem B2 {e : TypeId} {cs : Array Value} (hd : Nat.blt d c.n = true) (hrun : ∀ w, (Instr.alloc e true (.tuple #[])).run c.P w = .ok (.pointer (some ⟨w.heap.size, 0, none⟩)) (w.alloc (.cells cs e (0, 0))))
    (k : ∀ g, HL c ops Q rest ((d, .pointer (some ⟨g, 0, none⟩)) :: fr) ((g, .cells cs e (0, 0)) :: hp) L) : HL c ops Q (⟨some d, .alloc e, ty, pos, af, none⟩ :: rest) fr hp L :=
  rT (.cells cs e (0, 0)) (fun g => .pointer (some ⟨g, 0, none⟩)) rfl rfl hd (fun a w _ _ => by simp only [execOp, Sem.run_bind, hrun, Result.andThen_ok, Sem.run_pure]) k
theorem l5 {t e : TypeId} {n : Nat} {parts : Array (Nat × Operand)} {cs : Array Value} (vs : List (Nat × Value)) (hd : Nat.blt d c.n = true) (hx : parts.toList.mapM (fun p => (ev fr p.2).map (p.1, ·)) = some vs)
    (hrun : ∀ w, (Instr.buildSlice t n vs.toArray).run c.P w = .ok (.slice (some ⟨w.heap.size, 0, none⟩) n n) (w.alloc (.cells cs e (0, 0))))
    (k : ∀ g, HL c ops Q rest ((d, .slice (some ⟨g, 0, none⟩) n n) :: fr) ((g, .cells cs e (0, 0)) :: hp) L) : HL c ops Q (⟨some d, .buildSlice t n parts, ty, pos, af, none⟩ :: rest) fr hp L :=
  rT (.cells cs e (0, 0)) (fun g => .slice (some ⟨g, 0, none⟩) n n) rfl rfl hd (fun a w ha _ => by
    have key : ∀ (xs : List (Nat × Operand)) (vs : List (Nat × Value)), xs.mapM (fun p => (ev fr p.2).map (p.1, ·)) = some vs → xs.map (fun p => (p.1, a.eval p.2)) = vs := by
      intro xs
      induction xs with
      | nil => intro vs h; simpa using h
      | cons x xs ih =>
        intro vs h; simp only [List.mapM_cons, Option.bind_eq_bind, Option.bind_eq_some_iff, Option.pure_def, Option.some.injEq, Option.map_eq_some_iff] at h; obtain ⟨v, ⟨u, hu, rfl⟩, us, hus, rfl⟩ := h; rw [List.map_cons, ha.ev hu, ih us hus]
    have e1 : (parts.map fun (i, x) => (i, a.eval x)) = vs.toArray := by apply Array.ext'; simpa using key _ _ hx
    simp only [execOp, e1, Sem.run_bind, hrun, Result.andThen_ok, Sem.run_pure]) k
/-! ### Calls -/
theorem i5 {f : Nat} {aS9 : Array Operand} {ats : Array TypeId} {vs : List Value} {β : Type} {k : Con β} {hpR : Hp} (hcb : Callable c.P f) (hd : Nat.blt d c.n = true) (hx : aS9.toList.mapM (ev fr) = some vs)
    (hm : Meets c.P f vs k) (h1 : hp.Perm (k.hpI ++ hpR)) (h2 : LSub L k.LI) (kk : ∀ x, k.inv x → HL c ops Q rest ((d, k.val x) :: fr) (k.hpO x ++ hpR) (k.LO x ++ L)) :
    HL c ops Q (⟨some d, .call ⟨.value (.func f), aS9, ats⟩, ty, pos, af, none⟩ :: rest) fr hp L := by
  intro a w ha hw; refine cD rfl fun K hK => ?_
  have key : ∀ (xs : List Operand) (vs : List Value), xs.mapM (ev fr) = some vs → xs.map a.eval = vs := by
    intro xs
    induction xs with
    | nil => intro vs h; simpa using h
    | cons x xs ih =>
      intro vs h; simp only [List.mapM_cons, Option.bind_eq_bind, Option.bind_eq_some_iff, Option.pure_def, Option.some.injEq] at h; obtain ⟨v, hv, us, hus, rfl⟩ := h; rw [List.map_cons, ha.ev hv, ih us hus]
  have e1 : (#[] ++ aS9.map a.eval ++ #[]) = vs.toArray := by simp; apply Array.ext'; simpa using key _ _ hx
  unfold Oper.wp; rw [execOp_call_go, hcb.run, Oper.upon_enter, e1]; refine (hm w (hw.entry h1 h2.mem)).mono fun e w' hp => ?_; obtain ⟨x, rfl, hi, hwi⟩ := hp; exact hK _ _ (kk x hi _ _ (ha.put (by simpa using hd) _) (hw.back h1 h2.mem hwi))
theorem aR {f : Nat} {x : Operand} {aS9 : Array Operand} {ats : Array TypeId} {vs cap : List Value} {β : Type} {k : Con β} {hpR : Hp} (hcb : Callable c.P f) (hd : Nat.blt d c.n = true) (hf : ev fr x = some (.func (.func f) #[] cap.toArray)) (hx : aS9.toList.mapM (ev fr) = some vs)
    (hm : Meets c.P f (vs ++ cap) k) (h1 : hp.Perm (k.hpI ++ hpR)) (h2 : LSub L k.LI) (kk : ∀ x, k.inv x → HL c ops Q rest ((d, k.val x) :: fr) (k.hpO x ++ hpR) (k.LO x ++ L)) :
    HL c ops Q (⟨some d, .call ⟨.value x, aS9, ats⟩, ty, pos, af, none⟩ :: rest) fr hp L := by
  intro a w ha hw; refine cD rfl fun K hK => ?_
  have key : ∀ (xs : List Operand) (vs : List Value), xs.mapM (ev fr) = some vs → xs.map a.eval = vs := by
    intro xs
    induction xs with
    | nil => intro vs h; simpa using h
    | cons x xs ih =>
      intro vs h; simp only [List.mapM_cons, Option.bind_eq_bind, Option.bind_eq_some_iff, Option.pure_def, Option.some.injEq] at h; obtain ⟨v, hv, us, hus, rfl⟩ := h; rw [List.map_cons, ha.ev hv, ih us hus]
  have e1 : aS9.map a.eval = vs.toArray := by apply Array.ext'; simpa using key _ _ hx
  unfold Oper.wp
  have e2 : (execOp a.eval (⟨some d, .call ⟨.value x, aS9, ats⟩, ty, pos, af, none⟩ : Oper)).run c.P w = .ok (.enter f (vs ++ cap).toArray) w := by
    show ((do let dd ← resolve a.eval ⟨.value x, aS9, ats⟩ ty; invoke dd.target dd.args) : Sem Next).run c.P w = _; simp only [resolve, ha.ev hf, e1, Deferred.ofValue, Sem.run_bind, Sem.run_pure, Result.andThen_ok, invoke]; have e3 : (#[] ++ vs.toArray ++ cap.toArray) = (vs ++ cap).toArray := by simp
    rw [e3]; exact hcb.run _ _
  rw [e2, Oper.upon_enter]; refine (hm w (hw.entry h1 h2.mem)).mono fun e w' hp => ?_; obtain ⟨x, rfl, hi, hwi⟩ := hp; exact hK _ _ (kk x hi _ _ (ha.put (by simpa using hd) _) (hw.back h1 h2.mem hwi))
end
end Go.W
end
section
namespace Go.W
open Go Go.RowKit
def Grow (e : TypeId) (sz : Nat) (A : Option Addr) (n cap : Nat) (xs : List Value) (og : Hp) : Prop :=
  xs.length = n * sz ∧ ((A = none ∧ n = 0 ∧ cap = 0 ∧ og = []) ∨
    ∃ g cur, A = some ⟨g, 0, none⟩ ∧ og = [(g, .cells cur e (0, 0))] ∧ n ≤ cap ∧ cap ≤ maxLen ∧ cur.size = cap * sz ∧ cur.toList.take (n * sz) = xs)
theorem Grow.nil (e : TypeId) (sz : Nat) : Grow e sz none 0 0 [] [] := ⟨by simp, .inl ⟨rfl, rfl, rfl, rfl⟩⟩
theorem Grow.new {e : TypeId} {sz g n : Nat} {cs : Array Value} (h : cs.size = n * sz) (hn : n ≤ maxLen) : Grow e sz (some ⟨g, 0, none⟩) n n cs.toList [(g, .cells cs e (0, 0))] :=
  ⟨by simpa using h, .inr ⟨g, cs, rfl, rfl, Nat.le_refl _, hn, h, by rw [List.take_of_length_le (by simp [h])]⟩⟩
theorem Grow.len {e : TypeId} {sz n cap : Nat} {A : Option Addr} {xs : List Value} {og : Hp} (h : Grow e sz A n cap xs og) : xs.length = n * sz := h.1
theorem Grow.le {e : TypeId} {sz n cap : Nat} {A : Option Addr} {xs : List Value} {og : Hp} (h : Grow e sz A n cap xs og) : n ≤ cap := by
  rcases h.2 with ⟨_, h1, h2, _⟩ | ⟨g, cur, _, _, h1, _⟩ <;> omega
section
variable {c : Cx} {Q : Exit → Act → World → Prop} {fr : Fr} {hp : Hp} {L : List Fact} {ops : Array Oper} {rest : List Oper}
variable {d : Tmp} {ty : TypeId} {pos : String} {af : Array Edge}
theorem sX {b : Bx} {w : World} {e : TypeId} {sz n cap : Nat} {A : Option Addr} {xs : List Value} {og : Hp} (hG : Grow e sz A n cap xs og) (h : WI b w (og ++ hp) L) : WI b w hp (Row A xs :: L) := by
  rcases hG with ⟨hl, ⟨rfl, rfl, rfl, rfl⟩ | ⟨g, cur, rfl, rfl, h1, h2, h3, h4⟩⟩
  · have : xs = [] := List.eq_nil_of_length_eq_zero (by simpa using hl)
    subst this; exact bU (by simpa using h) (Row.nil _ _) (fun k hk => by obtain ⟨_, e, _⟩ := hk; cases e)
  exact sW (by simpa using h) (by rw [← h4]; exact List.take_prefix _ _)
theorem lx9 {e : TypeId} {sz n cap : Nat} {A : Option Addr} {xs : List Value} {og : Hp} (hG : Grow e sz A n cap xs og) (k : HL c ops Q rest fr hp (Row A xs :: L)) : HL c ops Q rest fr (og ++ hp) L := fun a w ha hw => k a w ha (sX hG hw)
theorem pE {e : TypeId} {sz n cap : Nat} {A : Option Addr} {xs : List Value} {og : Hp} {x : Code} (hG : Grow e sz A n cap xs og) (k : HC c x Q fr hp (Row A xs :: L)) : HC c x Q fr (og ++ hp) L := fun a w ha hw => k a w ha (sX hG hw)
theorem cX {e : TypeId} {sz n cap : Nat} {A : Option Addr} {xs : List Value} {og : Hp} {x : Exit} (hG : Grow e sz A n cap xs og) (k : HQ c Q x fr hp (Row A xs :: L)) : HQ c Q x fr (og ++ hp) L := fun a w ha hw => k a w ha (sX hG hw)
theorem jx9 {b : Bx} {w : World} {e : TypeId} {sz n cap : Nat} {A : Option Addr} {xs : List Value} {og : Hp} (hG : Grow e sz A n cap xs og) (h : WI b w (og ++ hp) L) : w.ownsRow 0 e sz (.slice A n cap) n xs := by
  rcases hG with ⟨hl, ⟨rfl, rfl, rfl, rfl⟩ | ⟨g, cur, rfl, rfl, h1, h2, h3, h4⟩⟩
  · exact ⟨hl, .inl ⟨rfl, rfl⟩⟩
  exact ⟨hl, .inr ⟨g, cap, cur, rfl, Nat.zero_le _, h.own (g, .cells cur e (0, 0)) (by simp), h1, h2, h3, h4⟩⟩
structure ElT (P : Program) (t e : TypeId) (sz bytes : Nat) : Prop where
  u : P.underlying t = some (.slice e)
  i : ∃ i z, P.info? e = some i ∧ i.zero = some z ∧ i.size = sz ∧ i.bytes = bytes ∧ z.cells.size = sz
  pos : 0 < sz
theorem ElT.of {P : Program} {t e : TypeId} {sz bytes : Nat} {z : Value} (h : P.underlying t = some (.slice e)) (hi : (P.info? e).map (fun i => (i.zero, i.size, i.bytes)) = some (some z, sz, bytes)) (hz : z.cells.size = sz) (hp : 0 < sz) : ElT P t e sz bytes := by
  obtain ⟨i, h1, h2, h3, h4⟩ := info_parts hi; exact ⟨h, ⟨i, z, h1, h2, h3, h4, hz⟩, hp⟩
theorem xM {P : Program} (w : World) (base : Nat) (t ty e : TypeId) (i : TypeInfo) (size : Nat) (ht : P.underlying t = some (.slice e)) (hi : P.info? e = some i)
    (v : Value) (n : Nat) (xs : List Value) (hown : w.ownsRow base e size v n xs) (c : Nat) : (Builtin.append_ #[t, t] ty #[v, .slice none 0 c]).run P w = .ok v w := by
  rcases hown.2 with ⟨rfl, rfl⟩ | ⟨g, cap, cur, rfl, _, _, hnc, _⟩
  · simp [Builtin.append_, run_underlying ht, sizeOf, typeInfo, hi, Builtin.lenOf, Builtin.firstCells]
  simp [Builtin.append_, run_underlying ht, sizeOf, typeInfo, hi, Builtin.lenOf, Builtin.firstCells, hnc, storeCells]
def Src (b : Bx) (hp : Hp) (L : List Fact) (B : Option Addr) (m sz : Nat) (news : List Value) : Prop :=
  news.length = m * sz ∧ (∀ u ∈ news, u.oneCell' = true) ∧ ((m = 0 ∧ B = none) ∨ ∀ w, WI b w hp L → ∃ ad, B = some ad ∧ ∀ j u, news[j]? = some u → w.cell? (ad.add j) = some u)
theorem Src.own {b : Bx} {g m sz : Nat} {cs : Array Value} {e : TypeId} {fz : Nat × Nat} (h : (g, Obj.cells cs e fz) ∈ hp) (h1 : cs.size = m * sz) (h2 : cs.toList.all (·.oneCell') = true) : Src b hp L (some ⟨g, 0, none⟩) m sz cs.toList :=
  ⟨by simpa using h1, fun u hu => (List.all_eq_true.1 h2) u hu, .inr fun w hw => ⟨_, rfl, fun j u hu => by
    have := hw.own _ h; simp only at this; rw [sR, Nat.zero_add]
    simp at hu
    simp [World.cell?, this, hu]⟩⟩
theorem Src.row {b : Bx} {B : Option Addr} {m sz : Nat} {news : List Value} (h : Row B news ∈ L) (h1 : news.length = m * sz) (h2 : ∀ u ∈ news, u.oneCell' = true) (h3 : 0 < sz) : Src b hp L B m sz news := by
  refine ⟨h1, h2, ?_⟩
  cases B with
  | none =>
    by_cases hm : m = 0
    · exact .inl ⟨hm, rfl⟩
    refine .inr fun w hw => ?_; have : 0 < news.length := by rw [h1]; exact Nat.mul_pos (by omega) h3
    obtain ⟨ad, e, _⟩ := hw.fs _ h 0 news[0] (List.getElem?_eq_getElem this)
    cases e
  | some ad =>
    refine .inr fun w hw => ⟨ad, rfl, fun j u hu => ?_⟩; obtain ⟨ad', e, hc⟩ := hw.fs _ h j u hu
    cases e
    exact hc
theorem gq2 {b : Bx} {P : Program} {w : World} {t e : TypeId} {sz bytes n cap m cp : Nat} {A B : Option Addr} {xs news : List Value} {og : Hp} (el : ElT P t e sz bytes) (hG : Grow e sz A n cap xs og) (hw : WI b w (og ++ hp) L)
    (hs : Src b (og ++ hp) L B m sz news) (hn : n + m ≤ maxLen) (hby : (n + m) * bytes ≤ 140737488355328) (ty : TypeId) :
    ∃ A' cap' og' w', (Builtin.append_ #[t, t] ty #[.slice A n cap, .slice B m cp]).run P w = .ok (.slice A' (n + m) cap') w' ∧ Grow e sz A' (n + m) cap' (xs ++ news) og' ∧ WI b w' (og' ++ hp) L := by
  obtain ⟨i, z, hi, hz, hsz, hb, hzs⟩ := el.i; have hown := jx9 hG hw
  rcases hs.2.2 with ⟨rfl, rfl⟩ | hc
  · have : news = [] := List.eq_nil_of_length_eq_zero (by simpa using hs.1)
    subst this; exact ⟨A, cap, og, w, by simpa using xM w 0 t ty e i sz el.u hi _ n xs hown cp, by simpa using hG, hw⟩
  obtain ⟨ad, hBe, hcc⟩ := hc w hw; subst hBe; obtain ⟨v', w', hrun, h2, h3, h4, h5⟩ := run_append_own_at (P := P) w 0 t ty e i z sz bytes el.u hi hz hsz hb hzs el.pos _ n xs hown ad m cp news hs.1 hcc hs.2.1 hn hby (Nat.zero_le _); obtain ⟨hl', h2'⟩ := h2
  rcases h2' with ⟨rfl, h0⟩ | ⟨g', cap', cur', rfl, _, hg', hle, hcm, hcs, htk⟩
  · -- nothing was there and nothing came
    have hm : n = 0 ∧ m = 0 := by omega
    obtain ⟨rfl, rfl⟩ := hm; have hv := (h4.1 rfl).1
    cases hv
    have e1 : xs ++ news = [] := List.eq_nil_of_length_eq_zero (by simpa using hl'); refine ⟨none, 0, [], w', hrun, ⟨by simp [e1], .inl ⟨rfl, rfl, rfl, rfl⟩⟩, ?_⟩
    have hog : og = [] := by
      rcases hG.2 with ⟨_, _, _, h⟩ | ⟨g, cur, h, _⟩
      · exact h
      cases h
    subst hog; exact hw.quiet ⟨h3.os, h3.tape, h3.output, h3.size, fun k hk _ => h3.block k hk (by simp [Value.ownBlock]), Nat.le_refl _⟩
  refine ⟨some ⟨g', 0, none⟩, cap', [(g', .cells cur' e (0, 0))], w', hrun, ⟨hl', .inr ⟨g', cur', rfl, rfl, hle, hcm, hcs, htk⟩⟩, ?_⟩
  have hnew : ∀ (hpw : WI b w hp L), Value.ownBlock (.slice (some ⟨g', 0, none⟩) (n + m) cap') = some w.heap.size → (∀ k, k < w.heap.size → (∃ p ∈ hp, p.1 = k) ∨ (∃ F ∈ L, F.fp k) ∨ (k < b.w0.heap.size ∧ k ∉ b.S0) → w'.heap[k]? = w.heap[k]?) → WI b w' ((g', .cells cur' e (0, 0)) :: hp) L := by
    intro hpw hb' hkeep; have hgs : g' = w.heap.size := by simpa [Value.ownBlock] using hb'
    have hne : ∀ p ∈ hp, p.1 ≠ g' := fun p hp e => by have := J4 (hpw.own p hp); omega
    refine { ext := ⟨h3.os.trans hpw.ext.os, h3.tape.trans hpw.ext.tape, h3.output.trans hpw.ext.output, Nat.le_trans hpw.ext.size h3.size, fun k hk hn => ?_, Nat.le_trans hpw.ext.dr (Nat.le_refl _)⟩, own := ?_, nd := ?_, s0 := ?_, fs := ?_, ap := ?_, al := hpw.al }
    · exact (hkeep k (Nat.lt_of_lt_of_le hk hpw.ext.size) (.inr (.inr ⟨hk, hn⟩))).trans (hpw.ext.block k hk hn)
    · intro p hp
      rcases List.mem_cons.1 hp with rfl | hp
      · exact hg'
      exact (hkeep p.1 (J4 (hpw.own p hp)) (.inl ⟨p, hp, rfl⟩)).trans (hpw.own p hp)
    · simp only [List.map_cons, List.nodup_cons]
      exact ⟨fun hm => by obtain ⟨p, hp, e⟩ := List.mem_map.1 hm; exact hne p hp e, hpw.nd⟩
    · intro p hp
      rcases List.mem_cons.1 hp with rfl | hp
      · right
        show b.w0.heap.size ≤ g'; rw [hgs]; exact hpw.ext.size
      exact hpw.s0 p hp
    · intro F hF
      exact F.st w w' (fun k hk => hkeep k (F.lt w (hpw.fs F hF) k hk) (.inr (.inl ⟨F, hF, hk⟩))) (hpw.fs F hF)
    intro F hF p hp hk
    rcases List.mem_cons.1 hp with rfl | hp
    · have := F.lt w (hpw.fs F hF) _ hk
      simp only at this
      omega
    exact hpw.ap F hF p hp hk
  rcases hG with ⟨hl, ⟨rfl, rfl, rfl, rfl⟩ | ⟨g, cur, rfl, rfl, q1, q2, q3, q4⟩⟩
  · rcases h5 with h5 | h5
    · simp [Value.ownBlock] at h5
    exact hnew (by simpa using hw) h5 (fun k hk _ => h3.block k hk (by simp [Value.ownBlock]))
  have hw' : WI b w ((g, .cells cur e (0, 0)) :: hp) L := by simpa using hw
  rcases h5 with h5 | h5
  · have hgg : g' = g := by simpa [Value.ownBlock] using h5
    subst hgg; exact hw'.write (o' := .cells cur' e (0, 0)) ⟨h3.os, h3.tape, h3.output, h3.size, fun k hk hn => h3.block k hk (by simp [Value.ownBlock]; simpa using hn), Nat.le_refl _⟩ hg'
  refine hnew (hw'.weak (List.sublist_cons_self _ _) fun _ h => h) h5 (fun k hk hor => h3.block k hk ?_); simp only [Value.ownBlock, ne_eq, Option.some.injEq]; rintro rfl
  rcases hor with ⟨p, hp, e⟩ | ⟨F, hF, hk⟩ | ⟨hk1, hk2⟩
  · have := hw'.nd
    simp only [List.map_cons, List.nodup_cons] at this; exact this.1 (List.mem_map.2 ⟨p, hp, e⟩)
  · exact hw'.ap F hF (k, .cells cur e (0, 0)) (by simp) hk
  rcases hw'.s0 (k, .cells cur e (0, 0)) (by simp) with h6 | h6
  · exact hk2 h6
  simp only at h6; omega
theorem C0 {t e : TypeId} {x y : Operand} {sz bytes n cap m cp : Nat} {A B : Option Addr} {xs news : List Value} {og hp' : Hp} (n' : Nat) (xs' : List Value) (el : ElT c.P t e sz bytes) (hd : Nat.blt d c.n = true)
    (hx : ev fr x = some (.slice A n cap)) (hy : ev fr y = some (.slice B m cp)) (hG : Grow e sz A n cap xs og) (hpp : hp.Perm (og ++ hp')) (hs : Src c.b (og ++ hp') L B m sz news) (hn' : n + m = n') (hxs : xs ++ news = xs') (hn : n' ≤ maxLen) (hby : n' * bytes ≤ 140737488355328)
    (k : ∀ A' cap' og', Grow e sz A' n' cap' xs' og' → HL c ops Q rest ((d, .slice A' n' cap') :: fr) (og' ++ hp') L) :
    HL c ops Q (⟨some d, .call ⟨.builtin .append, #[x, y], #[t, t]⟩, ty, pos, af, none⟩ :: rest) fr hp L :=
  vZ rfl rfl hd fun a w ha hw => by
    subst hn'; subst hxs; obtain ⟨A', cap', og', w', hrun, hG', hw'⟩ := gq2 (cp := cp) el hG (hw.perm hpp) hs hn hby ty; refine ⟨_, w', _, L, ?_, hw', k A' cap' og' hG'⟩; simp only [execOp, resolve, invoke, builtin, Sem.run_bind, Sem.run_pure, Result.andThen_ok, List.map_toArray, List.map_cons, List.map_nil, ha.ev hx, ha.ev hy, hrun]
/-! ### Cuts -/
theorem aq2 {P : Program} {w : World} {kd : IntKind} {z : Int} {j y : Nat} {code : BoundsCode} (hz : z = (j : Int)) (hj : j ≤ y) : (Instr.sliceBound (.int kd z) y code).run P w = .ok j w := by
  subst hz
  simp [Instr.sliceBound, asIntOf, hj]
def cutA (A : Option Addr) (cap l sz : Nat) : Option Addr := if cap = l then A else A.map (·.add (l * sz))
theorem kj5 (A : Option Addr) (cap sz : Nat) : cutA A cap 0 sz = A := by
  unfold cutA
  split
  · rfl
  cases A <;> simp [Addr.add]
theorem ix0 {P : Program} {t e : TypeId} (ht : P.underlying t = some (.slice e)) (w : World) (x : Value) (lo hi mx : Option Value) : (Instr.sliceAt t x lo hi mx).run P w = (Instr.slice t x lo hi mx).run P w := by
  simp [Instr.sliceAt, run_underlying ht]
theorem gz6 {t e : TypeId} {x lo : Operand} {A : Option Addr} {n cap sz : Nat} {kd : IntKind} {z : Int} (l : Nat) (hd : Nat.blt d c.n = true) (ht : c.P.underlying t = some (.slice e)) (hz : Sz c.P e sz)
    (hx : ev fr x = some (.slice A n cap)) (hl : ev fr lo = some (.int kd z)) (hlz : z = (l : Int)) (hle : l ≤ n)
    (k : HL c ops Q rest ((d, .slice (cutA A cap l sz) (n - l) (cap - l)) :: fr) hp L) : HL c ops Q (⟨some d, .slice t x (some lo) none none, ty, pos, af, none⟩ :: rest) fr hp L :=
  y3 _ rfl rfl hd (fun a w ha _ => by
    simp only [execOp, ha.ev hx, Option.map_some, Option.map_none, ha.ev hl, Sem.run_bind, ix0 ht]
    simp [Instr.slice, Instr.sliceBounds, run_underlying ht, aq2 hlz hle, kY hz, cutA]) k
theorem rD {t e : TypeId} {x hi : Operand} {A : Option Addr} {n cap sz : Nat} {kd : IntKind} {z : Int} (h : Nat) (hd : Nat.blt d c.n = true) (ht : c.P.underlying t = some (.slice e)) (hz : Sz c.P e sz)
    (hx : ev fr x = some (.slice A n cap)) (hh : ev fr hi = some (.int kd z)) (hhz : z = (h : Int)) (hle : h ≤ cap)
    (k : HL c ops Q rest ((d, .slice A h cap) :: fr) hp L) : HL c ops Q (⟨some d, .slice t x none (some hi) none, ty, pos, af, none⟩ :: rest) fr hp L :=
  y3 _ rfl rfl hd (fun a w ha _ => by
    simp only [execOp, ha.ev hx, Option.map_some, Option.map_none, ha.ev hh, Sem.run_bind, ix0 ht]; have := kj5 A cap sz; simp only [cutA] at this
    simp [Instr.slice, Instr.sliceBounds, run_underlying ht, aq2 hhz hle, kY hz]
    simpa using this) k
theorem dj6 (s : Str) (l h : Nat) : (ByteArray.mk s.toArray).extract l h = ⟨((s.drop l).take (h - l)).toArray⟩ := by
  rw [Lib.extract_eq]
theorem dq4 {t : TypeId} {x hi : Operand} {s : Str} {kd : IntKind} {z : Int} (h : Nat) (hd : Nat.blt d c.n = true) (ht : c.P.underlying t = some .string)
    (hx : ev fr x = some (str s)) (hh : ev fr hi = some (.int kd z)) (hhz : z = (h : Int)) (hle : h ≤ s.length)
    (k : HL c ops Q rest ((d, str (s.take h)) :: fr) hp L) : HL c ops Q (⟨some d, .slice t x none (some hi) none, ty, pos, af, none⟩ :: rest) fr hp L :=
  y3 _ rfl rfl hd (fun a w ha _ => by
    have e1 : (ByteArray.mk s.toArray).size = s.length := rfl; simp only [execOp, ha.ev hx, Option.map_some, Option.map_none, ha.ev hh, Sem.run_bind, Instr.sliceAt, run_underlying ht]; simp only [Result.andThen_ok]
    simp [Instr.slice, Instr.sliceBounds, run_underlying ht, str, e1, aq2 hhz hle, dj6]) k
end
end Go.W
end
