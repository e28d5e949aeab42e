/- The logic of the walks: states as lists of slots, owned blocks and lasting facts; rules for code, calls and returns. No program in sight. -/
import Derived.WalkKit
import Derived.TacticsIn
import Derived.OrdersIn
import Derived.Sort.LoopGhostIn
import Derived.Maps.AppendAt
import Derived.Deep.Draws
import Derived.Deep.LoopGhost
namespace Go.W
open Go Go.RowKit
set_option linter.unusedVariables false
set_option linter.unusedSimpArgs false

abbrev Fr := List (Nat × Value)
abbrev Hp := List (Nat × Obj)

def lk : Fr → Nat → Option Value
  | [], _ => none
  | (k, v) :: r, t => cond (Nat.beq k t) (some v) (lk r t)

theorem lk_cons (k : Nat) (v : Value) (r : Fr) (t : Nat) : lk ((k, v) :: r) t = if k = t then some v else lk r t := by
  by_cases h : k = t
  · subst h; simp [lk, Nat.beq_refl]
  · have : Nat.beq k t = false := by
      cases hb : Nat.beq k t
      · rfl
      · exact absurd (Nat.eq_of_beq_eq_true hb) h
    simp [lk, this, h]

def ev (fr : Fr) : Operand → Option Value
  | .tmp t => lk fr t
  | .const v => some v
  | .global g => some (.pointer (some ⟨g, 0, none⟩))
  | .func f => some (.func (.func f) #[] #[])

/-- What lasts: a fact about some blocks, which stays while these blocks stay. -/
structure Fact where
  P : World → Prop
  fp : Nat → Prop
  st : ∀ w w', (∀ k, fp k → w'.heap[k]? = w.heap[k]?) → P w → P w'
  lt : ∀ w, P w → ∀ k, fp k → k < w.heap.size

structure Ext (S : List Nat) (w w' : World) : Prop where
  os : w'.os = w.os
  tape : w'.tape = w.tape
  output : w'.output = w.output
  size : w.heap.size ≤ w'.heap.size
  block : ∀ k, k < w.heap.size → k ∉ S → w'.heap[k]? = w.heap[k]?

theorem Ext.refl (S : List Nat) (w : World) : Ext S w w := ⟨rfl, rfl, rfl, Nat.le_refl _, fun _ _ _ => rfl⟩
theorem Ext.trans {S : List Nat} {a b c : World} (h : Ext S a b) (k : Ext S b c) : Ext S a c :=
  ⟨k.os.trans h.os, k.tape.trans h.tape, k.output.trans h.output, Nat.le_trans h.size k.size,
    fun i hi hn => (k.block i (Nat.lt_of_lt_of_le hi h.size) hn).trans (h.block i hi hn)⟩
theorem Ext.below {w w' : World} (h : Ext [] w w') : Below w.heap.size w w' :=
  ⟨h.os, h.tape, h.output, h.size, fun k hk => h.block k hk (by simp)⟩

/-- The world at the entry, the blocks that may be written, the blocks of which the given facts speak. -/
structure Bx where
  w0 : World
  S0 : List Nat
  A0 : Nat → Prop
/-- The context of a function's body: the program, the number of slots, and the above. -/
structure Cx where
  P : Program
  n : Nat
  b : Bx
  /-- the calls that have been put off -/
  D : List Deferred
  /-- the round of a range over a function, if it is one -/
  rd : Option Nat

structure Ok (c : Cx) (a : Act) (fr : Fr) : Prop where
  d : a.defers = c.D
  sz : a.tmps.size = c.n
  at_ : ∀ t v, lk fr t = some v → a.tmps.getD t undef = v

theorem Ok.ev {c : Cx} {a : Act} {fr : Fr} {x : Operand} {v : Value} (h : Ok c a fr) (hx : ev fr x = some v) : a.eval x = v := by
  cases x with
  | tmp t => exact h.at_ t v hx
  | const u => simpa [W.ev, Act.eval] using hx
  | global g => simpa [W.ev, Act.eval] using hx
  | func f => simpa [W.ev, Act.eval] using hx

theorem Ok.put {c : Cx} {a : Act} {fr : Fr} {d : Nat} (h : Ok c a fr) (hd : d < c.n) (v : Value) : Ok c (a.put (some d) v) ((d, v) :: fr) := by
  refine ⟨h.d, by simp [Act.put, h.sz], fun t u hu => ?_⟩
  rw [lk_cons] at hu
  have hdn : d < a.tmps.size := by rw [h.sz]; exact hd
  by_cases e : d = t
  · subst e
    simp at hu
    subst hu
    simp [Act.put, hdn]
  · rw [if_neg e] at hu
    have := h.at_ t u hu
    simpa [Act.put, Array.getElem?_setIfInBounds_ne e] using this

theorem Ok.skip {c : Cx} {a : Act} {fr : Fr} (h : Ok c a fr) (v : Value) : Ok c (a.put none v) fr := h


structure WI (c : Bx) (w : World) (hp : Hp) (L : List Fact) : Prop where
  ext : Ext c.S0 c.w0 w
  own : ∀ p ∈ hp, w.heap[p.1]? = some p.2
  nd : (hp.map (·.1)).Nodup
  s0 : ∀ p ∈ hp, p.1 ∈ c.S0 ∨ c.w0.heap.size ≤ p.1
  fs : ∀ F ∈ L, F.P w
  ap : ∀ F ∈ L, ∀ p ∈ hp, ¬ F.fp p.1
  al : ∀ F ∈ L, ∀ k, F.fp k → c.w0.heap.size ≤ k ∨ k ∈ c.S0 ∨ c.A0 k

theorem lt_of_own {w : World} {k : Nat} {o : Obj} (h : w.heap[k]? = some o) : k < w.heap.size := by
  rcases Nat.lt_or_ge k w.heap.size with h' | h'
  · exact h'
  · simp [Array.getElem?_eq_none h'] at h

/-- The world goes on, nothing that is owned or known turns: a quiet step. -/
theorem WI.quiet {c : Bx} {w w' : World} {hp : Hp} {L : List Fact} (h : WI c w hp L) (e : Ext [] w w') : WI c w' hp L :=
  { ext := h.ext.trans ⟨e.os, e.tape, e.output, e.size, fun k hk _ => e.block k hk (by simp)⟩
    own := fun p hp => (e.block _ (lt_of_own (h.own p hp)) (by simp)).trans (h.own p hp)
    nd := h.nd, s0 := h.s0, ap := h.ap, al := h.al
    fs := fun F hF => F.st w w' (fun k hk => e.block k (F.lt w (h.fs F hF) k hk) (by simp)) (h.fs F hF) }

theorem WI.weak {c : Bx} {w : World} {hp hp' : Hp} {L L' : List Fact} (h : WI c w hp L) (h1 : hp'.Sublist hp) (h2 : ∀ F ∈ L', F ∈ L) : WI c w hp' L' :=
  { ext := h.ext, own := fun p hp => h.own p (h1.subset hp), nd := h.nd.sublist (h1.map _), s0 := fun p hp => h.s0 p (h1.subset hp),
    fs := fun F hF => h.fs F (h2 F hF), ap := fun F hF p hp => h.ap F (h2 F hF) p (h1.subset hp), al := fun F hF => h.al F (h2 F hF) }

theorem WI.perm {c : Bx} {w : World} {hp hp' : Hp} {L : List Fact} (h : WI c w hp L) (h1 : hp.Perm hp') : WI c w hp' L :=
  { ext := h.ext, own := fun p hp => h.own p (h1.mem_iff.2 hp), nd := (h1.map _).nodup_iff.1 h.nd, s0 := fun p hp => h.s0 p (h1.mem_iff.2 hp),
    fs := h.fs, ap := fun F hF p hp => h.ap F hF p (h1.mem_iff.2 hp), al := h.al }

theorem heap_alloc_lt (w : World) (o : Obj) {k : Nat} (h : k < w.heap.size) : (w.alloc o).heap[k]? = w.heap[k]? := Below.heap_alloc w o k h

theorem ext_alloc (w : World) (o : Obj) : Ext [] w (w.alloc o) := ⟨rfl, rfl, rfl, by simp, fun _ hk _ => heap_alloc_lt w o hk⟩
theorem ext_drew (w : World) : Ext [] w w.drew := ⟨rfl, rfl, rfl, by simp, fun _ _ _ => rfl⟩

/-- A new block, owned. -/
theorem WI.alloc {c : Bx} {w : World} {hp : Hp} {L : List Fact} (h : WI c w hp L) (o : Obj) : WI c (w.alloc o) ((w.heap.size, o) :: hp) L := by
  have q := h.quiet (ext_alloc w o)
  have hne : ∀ p ∈ hp, p.1 ≠ w.heap.size := fun p hp e => by have := lt_of_own (h.own p hp); omega
  refine { ext := q.ext, own := ?_, nd := ?_, s0 := ?_, fs := q.fs, ap := ?_, al := q.al }
  · intro p hp
    rcases List.mem_cons.1 hp with rfl | hp
    · show (w.heap.push o)[w.heap.size]? = some o
      simp
    · exact q.own p hp
  · simp only [List.map_cons, List.nodup_cons]
    refine ⟨fun hm => ?_, h.nd⟩
    obtain ⟨p, hp, e⟩ := List.mem_map.1 hm
    exact hne p hp e
  · intro p hp
    rcases List.mem_cons.1 hp with rfl | hp
    · exact .inr h.ext.size
    · exact h.s0 p hp
  · intro F hF p hp
    rcases List.mem_cons.1 hp with rfl | hp
    · intro hk
      have := F.lt w (h.fs F hF) _ hk
      simp at this
    · exact h.ap F hF p hp

/-- A write to an owned block. -/
theorem WI.write {c : Bx} {w w' : World} {g : Nat} {o o' : Obj} {hp : Hp} {L : List Fact} (h : WI c w ((g, o) :: hp) L) (e : Ext [g] w w') (hg : w'.heap[g]? = some o') : WI c w' ((g, o') :: hp) L := by
  have hgn : ∀ p ∈ hp, p.1 ≠ g := by
    intro p hp e
    have := h.nd
    simp only [List.map_cons, List.nodup_cons] at this
    exact this.1 (List.mem_map.2 ⟨p, hp, e⟩)
  refine { ext := ?_, own := ?_, nd := h.nd, s0 := ?_, fs := ?_, ap := ?_, al := h.al }
  · refine ⟨e.os.trans h.ext.os, e.tape.trans h.ext.tape, e.output.trans h.ext.output, Nat.le_trans h.ext.size e.size, fun k hk hn => ?_⟩
    have hkg : k ≠ g := by
      rintro rfl
      rcases h.s0 (k, o) (by simp) with h1 | h1
      · exact hn h1
      · simp at h1; omega
    exact (e.block k (Nat.lt_of_lt_of_le hk h.ext.size) (by simpa using hkg)).trans (h.ext.block k hk hn)
  · intro p hp
    rcases List.mem_cons.1 hp with rfl | hp
    · exact hg
    · have h1 := h.own p (by simp [hp])
      exact (e.block p.1 (lt_of_own h1) (by simpa using hgn p hp)).trans h1
  · intro p hp
    rcases List.mem_cons.1 hp with rfl | hp
    · exact h.s0 (g, o) (by simp)
    · exact h.s0 p (by simp [hp])
  · intro F hF
    refine F.st w w' (fun k hk => e.block k (F.lt w (h.fs F hF) k hk) ?_) (h.fs F hF)
    have := h.ap F hF (g, o) (by simp)
    simp only [List.mem_singleton]
    rintro rfl
    exact this hk
  · intro F hF p hp
    rcases List.mem_cons.1 hp with rfl | hp
    · exact h.ap F hF (g, o) (by simp)
    · exact h.ap F hF p (by simp [hp])

/-- A fact more. -/
theorem WI.add {c : Bx} {w : World} {hp : Hp} {L : List Fact} (h : WI c w hp L) {F : Fact} (hF : F.P w) (ha : ∀ p ∈ hp, ¬ F.fp p.1) (hl : ∀ k, F.fp k → c.w0.heap.size ≤ k ∨ k ∈ c.S0 ∨ c.A0 k) : WI c w hp (F :: L) :=
  { ext := h.ext, own := h.own, nd := h.nd, s0 := h.s0
    fs := fun G hG => by rcases List.mem_cons.1 hG with rfl | hG; exact hF; exact h.fs G hG
    ap := fun G hG => by rcases List.mem_cons.1 hG with rfl | hG; exact ha; exact h.ap G hG
    al := fun G hG => by rcases List.mem_cons.1 hG with rfl | hG; exact hl; exact h.al G hG }

/-- An owned block is let go, and what it holds becomes a fact. -/
theorem WI.letgo {c : Bx} {w : World} {g : Nat} {o : Obj} {hp : Hp} {L : List Fact} (h : WI c w ((g, o) :: hp) L) {F : Fact} (hF : F.P w) (hfp : ∀ k, F.fp k → k = g) : WI c w hp (F :: L) := by
  have hgn : ∀ p ∈ hp, p.1 ≠ g := by
    intro p hp e
    have := h.nd
    simp only [List.map_cons, List.nodup_cons] at this
    exact this.1 (List.mem_map.2 ⟨p, hp, e⟩)
  refine (h.weak (L' := L) (List.sublist_cons_self _ _) (fun _ h => h)).add hF (fun p hp hk => hgn p hp (hfp _ hk)) (fun k hk => ?_)
  rw [hfp k hk]
  rcases h.s0 (g, o) (by simp) with h1 | h1
  · exact .inr (.inl h1)
  · exact .inl h1

/-! ### Lists of operations -/
def isDefer (o : Oper) : Bool := match o.op with | .defer _ => true | _ => false
/-- An operation: as the kit has it; or a call of a loop's yield. -/
def owp (P : Program) (o : Oper) (a : Act) (w : World) (K : Act → World → Prop) (Q : Exit → Act → World → Prop) : Prop :=
  o.wp P a w K Q ∨ (isDefer o = false ∧ ∃ l f tmps assign body, (execOp a.eval o).run P w = .ok (.round l f tmps assign body) w ∧
    RoundIn Fence.wide 0 P l f tmps assign body w fun e w' => ∃ v, e = .returned v ∧ K (a.put o.dst v) w')
theorem owp_mono {P : Program} {o : Oper} {a : Act} {w : World} {K K' : Act → World → Prop} {Q : Exit → Act → World → Prop} (h : ∀ a w, K a w → K' a w) (hh : owp P o a w K Q) : owp P o a w K' Q := by
  rcases hh with hh | ⟨h0, l, f, tmps, assign, body, h1, h2⟩
  · exact .inl (Oper.wp_mono h hh)
  · exact .inr ⟨h0, l, f, tmps, assign, body, h1, h2.mono fun e w' ⟨v, e1, hk⟩ => ⟨v, e1, h _ _ hk⟩⟩
def wpL (P : Program) (ops : Array Oper) (Q : Exit → Act → World → Prop) : List Oper → Act → World → Prop
  | [], a, w => Q .normal a w
  | o :: rest, a, w => if Region.wanted o (yielded ops a.tmps) then owp P o a w (wpL P ops Q rest) Q else wpL P ops Q rest (a.put o.dst undef) w
theorem wpL_plain {P : Program} {ops : Array Oper} {Q : Exit → Act → World → Prop} {a : Act} {w : World} {rest : List Oper} {o : Oper} (hg : o.guard = none)
    (h : ∀ K : Act → World → Prop, (∀ a w, wpL P ops Q rest a w → K a w) → o.wp P a w K Q) : wpL P ops Q (o :: rest) a w := by
  unfold wpL
  rw [if_pos (by simp [Region.wanted, hg])]
  exact .inl (h _ fun _ _ h => h)
theorem wpL_plainO {P : Program} {ops : Array Oper} {Q : Exit → Act → World → Prop} {a : Act} {w : World} {rest : List Oper} {o : Oper} (hg : o.guard = none)
    (h : owp P o a w (wpL P ops Q rest) Q) : wpL P ops Q (o :: rest) a w := by
  unfold wpL
  rw [if_pos (by simp [Region.wanted, hg])]
  exact h
theorem wpL_skip {P : Program} {ops : Array Oper} {Q : Exit → Act → World → Prop} {a : Act} {w : World} {rest : List Oper} {o : Oper} (hw : Region.wanted o (yielded ops a.tmps) = false)
    (h : wpL P ops Q rest (a.put o.dst undef) w) : wpL P ops Q (o :: rest) a w := by
  unfold wpL
  rw [if_neg (by rw [hw]; decide)]
  exact h
/-- All functions are let in; the frame may be a round's. -/
def FF (rd : Option Nat) : Fence := { Fence.wide with round := rd }
theorem semAt_plain {rd : Option Nat} {ρ : Operand → Value} {o : Oper} (h : rd.isNone = true ∨ isDefer o = false) : o.semAt rd ρ = execOp ρ o := by
  cases rd with
  | none => rfl
  | some l => exact Oper.semAt_eq _ _ _ fun c hc => by rcases h with h | h <;> simp_all [isDefer]
theorem calls_in {rd : Option Nat} {n : Nat} {P : Program} {f : FuncId} {args : Array Value} {w : World} {R : Ending → World → Prop} (h : Calls P f args w R) : CallsIn (FF rd) n P f args w R := by
  have h1 : CallsIn Fence.wide n P f args w R := callsIn_wide.2 h
  cases rd with
  | none => exact h1
  | some l => exact h1
theorem rows_in {rd : Option Nat} {n : Nat} {P : Program} {row : String} {args : Array Value} {w : World} {R : Value → World → Prop} (h : Rows P row args w R) : RowsIn (FF rd) n P row args w R :=
  fun c cs _ => let ⟨v, w', r, s⟩ := h c cs; ⟨v, w', r, stepsIn_wide.2 s⟩
theorem oper_in {rd : Option Nat} {n : Nat} {P : Program} {o : Oper} {a : Act} {w : World} {K : Act → World → Prop} {Q : Exit → Act → World → Prop} (hd : rd.isNone = true ∨ isDefer o = false) (h : o.wp P a w K Q) : o.wpIn (FF rd) n P a w K Q := by
  refine ⟨fun _ _ => trivial, ?_⟩
  have e : (o.semAt (FF rd).round a.eval).run P w = (execOp a.eval o).run P w := congrArg (fun s => Sem.run P s w) (semAt_plain (rd := rd) hd)
  rw [e]
  unfold Oper.wp at h
  have hno : (FF rd).depth.isSome = true → 1 ≤ n := fun h => by cases h
  generalize (execOp a.eval o).run P w = r at *
  cases r with
  | ok x w' =>
    cases x <;> simp only [Oper.upon] at h <;> simp only [Oper.uponIn]
    all_goals first | exact h | exact ⟨hno, calls_in (h.mono fun e _ he => by cases e <;> exact he)⟩ | exact ⟨hno, rows_in h⟩ | exact h.elim
  | halt x w' => cases x <;> simp only [Oper.upon] at h <;> simp only [Oper.uponIn] <;> first | exact h | exact h.elim
theorem owp_in {rd : Option Nat} {n : Nat} {P : Program} {o : Oper} {a : Act} {w : World} {K : Act → World → Prop} {Q : Exit → Act → World → Prop} (hd : rd.isNone = true ∨ isDefer o = false) (h : owp P o a w K Q) : o.wpIn (FF rd) n P a w K Q := by
  rcases h with h | ⟨h0, l, f, tmps, assign, body, h1, h2⟩
  · exact oper_in hd h
  · refine ⟨fun _ _ => trivial, ?_⟩
    have e : (o.semAt (FF rd).round a.eval).run P w = (execOp a.eval o).run P w := congrArg (fun s => Sem.run P s w) (semAt_plain (rd := rd) hd)
    rw [e, h1]
    have hno : (FF rd).depth.isSome = true → 1 ≤ n := fun h => by cases h
    refine ⟨hno, trivial, fun c cs _ => ?_⟩
    obtain ⟨e, w', hR, hs⟩ := h2.2 c cs (room_wide _)
    obtain ⟨v, rfl, hk⟩ := hR
    exact ⟨.returned v, w', hk, hs⟩
def noDefer (rd : Option Nat) (l : List Oper) : Bool := rd.isNone || l.all fun o => !isDefer o
theorem wpL_in {rd : Option Nat} {n : Nat} {P : Program} {ops : Array Oper} {Q : Exit → Act → World → Prop} : ∀ {l : List Oper} {a : Act} {w : World}, noDefer rd l = true → wpL P ops Q l a w → wpListIn (FF rd) n P ops Q l a w
  | [], _, _, _, h => h
  | o :: l, a, w, hn, h => by
    have h1 : rd.isNone = true ∨ isDefer o = false := by simp only [noDefer, List.all_cons, Bool.or_eq_true, Bool.and_eq_true] at hn; simp at hn ⊢; exact hn.imp id fun h => h.1
    have h2 : noDefer rd l = true := by simp only [noDefer, List.all_cons, Bool.or_eq_true, Bool.and_eq_true] at hn ⊢; exact hn.imp id fun h => h.2
    unfold wpL at h
    unfold wpListIn
    split
    · rename_i hw
      rw [if_pos hw] at h
      exact Oper.wpIn_mono (fun a w h => wpL_in h2 h) (owp_in h1 h)
    · rename_i hw
      rw [if_neg hw] at h
      exact ⟨fun _ _ => trivial, wpL_in h2 h⟩
/-- Any order. -/
def wpO (P : Program) (ops : Array Oper) (Q : Exit → Act → World → Prop) (i : Nat) (K : Act → World → Prop) (a : Act) (w : World) : Prop :=
  match ops[i]? with
  | none => K a w
  | some o => if Region.wanted o (yielded ops a.tmps) then owp P o a w K Q else K (a.put o.dst undef) w
def wpX (P : Program) (md : Region.Mode) (ops : Array Oper) (Q : Exit → Act → World → Prop) : Nat → Array Bool → Act → World → Prop
  | 0, listed, a, w => Region.ready md ops listed = [] ∧ Q .normal a w
  | fuel + 1, listed, a, w =>
    (Region.ready md ops listed = [] → Q .normal a w) ∧
    ∀ i ∈ Region.ready md ops listed, wpO P ops Q i (wpX P md ops Q fuel (listed.setIfInBounds i true)) a w
theorem wpX_in {rd : Option Nat} {n : Nat} {P : Program} {md : Region.Mode} {ops : Array Oper} {Q : Exit → Act → World → Prop} (hn : noDefer rd ops.toList = true) : ∀ {fuel : Nat} {listed : Array Bool} {a : Act} {w : World}, wpX P md ops Q fuel listed a w → wpAnyIn (FF rd) n P md ops Q fuel listed a w
  | 0, _, _, _, h => h
  | fuel + 1, listed, a, w, h => by
    refine ⟨h.1, fun i hi => ?_⟩
    have h1 := h.2 i hi
    unfold wpO at h1
    unfold wpOpIn
    cases ho : ops[i]? with
    | none => rw [ho] at h1; exact wpX_in hn h1
    | some o =>
      rw [ho] at h1
      simp only at h1 ⊢
      have hd : rd.isNone = true ∨ isDefer o = false := by
        simp only [noDefer, Bool.or_eq_true, List.all_eq_true] at hn
        refine hn.imp id fun h => ?_
        have := h o (by simpa using Array.mem_of_getElem? ho)
        simpa using this
      split
      · rename_i hw
        rw [if_pos hw] at h1
        exact Oper.wpIn_mono (fun a w h => wpX_in hn h) (owp_in hd h1)
      · rename_i hw
        rw [if_neg hw] at h1
        exact ⟨fun _ _ => trivial, wpX_in hn h1⟩

/-! ### Triples -/
def HL (c : Cx) (ops : Array Oper) (Q : Exit → Act → World → Prop) (rest : List Oper) (fr : Fr) (hp : Hp) (L : List Fact) : Prop :=
  ∀ a w, Ok c a fr → WI c.b w hp L → wpL c.P ops Q rest a w
def cw (c : Cx) (code : Code) (Q : Exit → Act → World → Prop) : Act → World → Prop := code.wpIn (FF c.rd) 0 c.P Q
def HC (c : Cx) (code : Code) (Q : Exit → Act → World → Prop) (fr : Fr) (hp : Hp) (L : List Fact) : Prop :=
  ∀ a w, Ok c a fr → WI c.b w hp L → cw c code Q a w
def HQ (c : Cx) (Q : Exit → Act → World → Prop) (e : Exit) (fr : Fr) (hp : Hp) (L : List Fact) : Prop :=
  ∀ a w, Ok c a fr → WI c.b w hp L → Q e a w

section
variable {c : Cx} {Q : Exit → Act → World → Prop} {fr : Fr} {hp : Hp} {L : List Fact} {ops : Array Oper} {rest : List Oper}

theorem hc_seq {x y : Code} (h : HC c x (Exit.then (cw c y Q) Q) fr hp L) : HC c (.seq x y) Q fr hp L := fun a w ha hw => wpIn_seq (h a w ha hw)
theorem then_n {y : Code} (h : HC c y Q fr hp L) : HQ c (Exit.then (cw c y Q) Q) .normal fr hp L := fun a w ha hw => h a w ha hw
theorem then_exit {K : Act → World → Prop} {id : Nat} (h : HQ c Q (.exit id) fr hp L) : HQ c (Exit.then K Q) (.exit id) fr hp L := fun a w ha hw => h a w ha hw
theorem then_ret {K : Act → World → Prop} (h : HQ c Q .ret fr hp L) : HQ c (Exit.then K Q) .ret fr hp L := fun a w ha hw => h a w ha hw
theorem inb_n {id : Nat} (h : HQ c Q .normal fr hp L) : HQ c (Exit.inBlock id Q) .normal fr hp L := fun a w ha hw => h a w ha hw
theorem inb_ret {id : Nat} (h : HQ c Q .ret fr hp L) : HQ c (Exit.inBlock id Q) .ret fr hp L := fun a w ha hw => h a w ha hw
theorem inb_hit {id : Nat} (h : HQ c Q .normal fr hp L) : HQ c (Exit.inBlock id Q) (.exit id) fr hp L := fun a w ha hw => by
  show if id = id then _ else _
  rw [if_pos rfl]; exact h a w ha hw
theorem inb_miss {id id' : Nat} (hne : Nat.beq id' id = false) (h : HQ c Q (.exit id') fr hp L) : HQ c (Exit.inBlock id Q) (.exit id') fr hp L := fun a w ha hw => by
  show if id' = id then _ else _
  rw [if_neg (fun e => by subst e; simp [Nat.beq_refl] at hne)]; exact h a w ha hw
theorem hc_regionR {id : Nat} {l : List Oper} (hn : noDefer c.rd l = true) (h : HL c l.toArray Q l fr hp L) : HC c (.region id l.toArray false) Q fr hp L := fun a w ha hw => wpIn_region_lit (wpL_in hn (h a w ha hw))
theorem hc_region {P : Program} {n : Nat} {b : Bx} {D : List Deferred} {id : Nat} {l : List Oper} (h : HL ⟨P, n, b, D, none⟩ l.toArray Q l fr hp L) : HC ⟨P, n, b, D, none⟩ (.region id l.toArray false) Q fr hp L := hc_regionR rfl h
theorem hl_nil (h : HQ c Q .normal fr hp L) : HL c ops Q [] fr hp L := fun a w ha hw => h a w ha hw
theorem hc_skip (h : HQ c Q .normal fr hp L) : HC c .skip Q fr hp L := fun a w ha hw => wpIn_skip (h a w ha hw)
theorem hc_exit {id : Nat} (h : HQ c Q (.exit id) fr hp L) : HC c (.exit id) Q fr hp L := fun a w ha hw => wpIn_exit (h a w ha hw)
theorem hc_ret (h : HQ c Q .ret fr hp L) : HC c .ret Q fr hp L := fun a w ha hw => wpIn_ret (h a w ha hw)
theorem hc_block {id : Nat} {x : Code} (h : HC c x (Exit.inBlock id Q) fr hp L) : HC c (.block id x) Q fr hp L := fun a w ha hw => wpIn_block (h a w ha hw)
theorem hc_cond {x : Operand} {b : Bool} {thn els : Code} (hx : ev fr x = some (.bool b)) (ht : b = true → HC c thn Q fr hp L) (hf : b = false → HC c els Q fr hp L) : HC c (.cond x thn els) Q fr hp L :=
  fun a w ha hw => wpIn_cond_split (ha.ev hx) (fun e => ht e a w ha hw) (fun e => hf e a w ha hw)
theorem hc_cond_t {x : Operand} {thn els : Code} (hx : ev fr x = some (.bool true)) (ht : HC c thn Q fr hp L) : HC c (.cond x thn els) Q fr hp L :=
  fun a w ha hw => wpIn_cond_true (ha.ev hx) (ht a w ha hw)
theorem hc_cond_f {x : Operand} {thn els : Code} (hx : ev fr x = some (.bool false)) (hf : HC c els Q fr hp L) : HC c (.cond x thn els) Q fr hp L :=
  fun a w ha hw => wpIn_cond_false (ha.ev hx) (hf a w ha hw)

/-- The slots that are looked at again. -/
def FrSub (fr : Fr) : Fr → Prop
  | [] => True
  | (t, v) :: r => lk fr t = some v ∧ FrSub fr r
theorem FrSub.lk {fr : Fr} : ∀ {fr' : Fr}, FrSub fr fr' → ∀ t v, W.lk fr' t = some v → W.lk fr t = some v
  | [], _, t, v, h => by simp [W.lk] at h
  | (k, u) :: r, hs, t, v, h => by
    rw [lk_cons] at h
    split at h
    · rename_i e; subst e; cases h; exact hs.1
    · exact FrSub.lk hs.2 t v h
theorem Ok.sub {a : Act} {fr fr' : Fr} (h : Ok c a fr) (hs : FrSub fr fr') : Ok c a fr' := ⟨h.d, h.sz, fun t v hv => h.at_ t v (hs.lk t v hv)⟩

def LSub (L : List Fact) : List Fact → Prop
  | [] => True
  | F :: r => F ∈ L ∧ LSub L r
theorem LSub.mem {L : List Fact} : ∀ {L' : List Fact}, LSub L L' → ∀ F ∈ L', F ∈ L
  | [], _, F, h => by simp at h
  | G :: r, hs, F, h => by
    rcases List.mem_cons.1 h with rfl | h
    · exact hs.1
    · exact LSub.mem hs.2 F h
theorem LSub.of_mem {L : List Fact} : ∀ {L' : List Fact}, (∀ F ∈ L', F ∈ L) → LSub L L'
  | [], _ => trivial
  | G :: r, h => ⟨h G (by simp), LSub.of_mem fun F hF => h F (by simp [hF])⟩

theorem hc_perm {code : Code} {hp' : Hp} (h1 : hp.Perm hp') (h : HC c code Q fr hp' L) : HC c code Q fr hp L := fun a w ha hw => h a w ha (hw.perm h1)
theorem hl_perm {hp' : Hp} (h1 : hp.Perm hp') (h : HL c ops Q rest fr hp' L) : HL c ops Q rest fr hp L := fun a w ha hw => h a w ha (hw.perm h1)
theorem hq_perm {e : Exit} {hp' : Hp} (h1 : hp.Perm hp') (h : HQ c Q e fr hp' L) : HQ c Q e fr hp L := fun a w ha hw => h a w ha (hw.perm h1)

/-- A state with a variable in it. -/
structure Sta (β : Type) where
  inv : β → Prop
  fr : β → Fr
  hp : β → Hp
  L : β → List Fact
def Sta.holds {β : Type} (s : Sta β) (c : Cx) (a : Act) (w : World) : Prop := ∃ y, s.inv y ∧ Ok c a (s.fr y) ∧ WI c.b w (s.hp y) (s.L y)

/-- What x comes to is named; the rest is walked once. -/
theorem hc_cut {β : Type} (s : Sta β) {x y : Code} (h : HC c x (Exit.then (s.holds c) Q) fr hp L) (k : ∀ z, s.inv z → HC c y Q (s.fr z) (s.hp z) (s.L z)) : HC c (.seq x y) Q fr hp L :=
  fun a w ha hw => wpIn_seq (wpIn_mono (h a w ha hw) (fun e a w hq => by
    cases e <;> first | exact hq | (obtain ⟨z, hz, hok, hwi⟩ := hq; exact k z hz a w hok hwi)))
theorem cut_n {β : Type} (s : Sta β) (z : β) (hz : s.inv z) (h1 : FrSub fr (s.fr z)) (h2 : (s.hp z).Sublist hp) (h3 : LSub L (s.L z)) : HQ c (Exit.then (s.holds c) Q) .normal fr hp L :=
  fun _ _ ha hw => ⟨z, hz, ha.sub h1, hw.weak h2 h3.mem⟩

def AgainQ {β : Type} (s : Sta β) (μ : β → Nat) (m : Nat) (c : Cx) (a : Act) (w : World) : Prop := ∃ y, s.inv y ∧ μ y < m ∧ Ok c a (s.fr y) ∧ WI c.b w (s.hp y) (s.L y)
theorem hc_loop {β : Type} (s : Sta β) (μ : β → Nat) {body : Code} (z0 : β) (hz0 : s.inv z0) (h1 : FrSub fr (s.fr z0)) (h2 : (s.hp z0).Sublist hp) (h3 : LSub L (s.L z0))
    (round : ∀ z, s.inv z → HC c body (Exit.then (AgainQ s μ (μ z) c) Q) (s.fr z) (s.hp z) (s.L z)) : HC c (.loop body) Q fr hp L :=
  fun a w ha hw => wpIn_loop_ghost (fun m a w => ∃ y, μ y = m ∧ s.inv y ∧ Ok c a (s.fr y) ∧ WI c.b w (s.hp y) (s.L y)) (μ z0) ⟨z0, rfl, hz0, ha.sub h1, hw.weak h2 h3.mem⟩
    fun m a w ⟨y, hm, hy, hok, hwi⟩ => wpIn_mono (round y hy a w hok hwi) fun e a w hq => by
      cases e <;> first | exact hq | (obtain ⟨z, hz, hlt, hok', hwi'⟩ := hq; exact ⟨μ z, by rw [← hm]; exact hlt, z, rfl, hz, hok', hwi'⟩)
theorem again {β : Type} (s : Sta β) {μ : β → Nat} {m : Nat} (y : β) (hy : s.inv y) (hlt : μ y < m) (h1 : FrSub fr (s.fr y)) (h2 : (s.hp y).Sublist hp) (h3 : LSub L (s.L y)) :
    HQ c (Exit.then (AgainQ s μ m c) Q) .normal fr hp L :=
  fun _ _ ha hw => ⟨y, hy, hlt, ha.sub h1, hw.weak h2 h3.mem⟩

/-! ### Contracts -/
structure Con (β : Type) where
  hpI : Hp := []
  LI : List Fact := []
  inv : β → Prop := fun _ => True
  val : β → Value
  hpO : β → Hp := fun _ => []
  LO : β → List Fact := fun _ => []
def Con.entry {β : Type} (k : Con β) (w : World) : Bx := ⟨w, k.hpI.map (·.1), fun b => ∃ F ∈ k.LI, F.fp b⟩
def Con.post {β : Type} (k : Con β) (w : World) (e : Ending) (w' : World) : Prop := ∃ x, e = .returned (k.val x) ∧ k.inv x ∧ WI (k.entry w) w' (k.hpO x) (k.LO x)
def Meets (P : Program) (f : Nat) (args : List Value) {β : Type} (k : Con β) : Prop :=
  ∀ w, WI (k.entry w) w k.hpI k.LI → Calls P f args.toArray w (k.post w)

def argFr (i : Nat) : List Value → Fr
  | [] => []
  | v :: r => (i, v) :: argFr (i + 1) r
theorem lk_argFr : ∀ (l : List Value) (i t : Nat) (v : Value), lk (argFr i l) t = some v → i ≤ t ∧ l[t - i]? = some v
  | [], i, t, v, h => by simp [argFr, lk] at h
  | u :: r, i, t, v, h => by
    rw [argFr, lk_cons] at h
    split at h
    · rename_i e; subst e; cases h; simp
    · obtain ⟨h1, h2⟩ := lk_argFr r (i + 1) t v h
      refine ⟨by omega, ?_⟩
      have : t - i = (t - (i + 1)) + 1 := by omega
      rw [this]; simpa using h2

theorem meets_intro {β : Type} {P : Program} {f : Nat} {args : List Value} {k : Con β} {fn : Func} {code : Code} (hf : P.funcs[f]? = some fn) (hb : fn.body = some code) (hn : args.length ≤ fn.ntmps)
    (h : ∀ w, HC ⟨P, fn.ntmps, k.entry w, [], none⟩ code (bodyPost P fn (k.post w)) (argFr 0 args) k.hpI k.LI) : Meets P f args k := by
  intro w hw
  refine callsIn_wide.1 (callsIn_of_wp (n := 0) hf hb trivial (h w _ w ⟨rfl, by simp; omega, fun t v hv => ?_⟩ hw))
  obtain ⟨_, h2⟩ := lk_argFr args 0 t v hv
  simp only [Nat.sub_zero] at h2
  have hlt : t < args.length := by
    rcases Nat.lt_or_ge t args.length with h' | h'
    · exact h'
    · rw [List.getElem?_eq_none h'] at h2; cases h2
  rw [List.getElem?_eq_getElem hlt] at h2
  injection h2 with h2
  simp [Array.getElem?_append, hlt, h2]

theorem ret_run {β : Type} {k : Con β} {fn : Func} {w0 : World} (x : β) (hr : ∀ a w, Ok c a fr → WI c.b w hp L → (results fn a.tmps).run c.P w = .ok (k.val x) w) (hb : c.b = k.entry w0) (hi : k.inv x) (h2 : (k.hpO x).Sublist hp) (h3 : LSub L (k.LO x)) (hD : c.D = [] := by exact rfl) :
    HQ c (bodyPost c.P fn (k.post w0)) .ret fr hp L := fun a w ha hw => ⟨ha.d.trans hD, k.val x, hr a w ha hw, x, rfl, hi, hb ▸ hw.weak h2 h3.mem⟩
theorem ret_run_n {β : Type} {k : Con β} {fn : Func} {w0 : World} (x : β) (hr : ∀ a w, Ok c a fr → WI c.b w hp L → (results fn a.tmps).run c.P w = .ok (k.val x) w) (hb : c.b = k.entry w0) (hi : k.inv x) (h2 : (k.hpO x).Sublist hp) (h3 : LSub L (k.LO x)) (hD : c.D = [] := by exact rfl) :
    HQ c (bodyPost c.P fn (k.post w0)) .normal fr hp L := fun a w ha hw => ⟨ha.d.trans hD, k.val x, hr a w ha hw, x, rfl, hi, hb ▸ hw.weak h2 h3.mem⟩
theorem ret1 {β : Type} {k : Con β} {fn : Func} {w0 : World} (x : β) {t : Tmp} (hres : fn.results = #[.tmp t]) (hv : lk fr t = some (k.val x)) (hb : c.b = k.entry w0) (hi : k.inv x) (h2 : (k.hpO x).Sublist hp) (h3 : LSub L (k.LO x)) (hD : c.D = [] := by exact rfl) :
    HQ c (bodyPost c.P fn (k.post w0)) .ret fr hp L :=
  ret_run x (fun a w ha _ => by rw [results_tmp hres, ha.at_ _ _ hv]) hb hi h2 h3 hD
theorem ret2 {β : Type} {k : Con β} {fn : Func} {w0 : World} (x : β) {t u : Tmp} {v1 v2 : Value} (hres : fn.results = #[.tmp t, .tmp u]) (hv1 : lk fr t = some v1) (hv2 : lk fr u = some v2) (hk : k.val x = .tuple #[v1, v2]) (hb : c.b = k.entry w0) (hi : k.inv x) (h2 : (k.hpO x).Sublist hp) (h3 : LSub L (k.LO x)) (hD : c.D = [] := by exact rfl) :
    HQ c (bodyPost c.P fn (k.post w0)) .ret fr hp L :=
  ret_run x (fun a w ha _ => by rw [results_tmp2 hres, ha.at_ _ _ hv1, ha.at_ _ _ hv2, hk]) hb hi h2 h3 hD
theorem ret0 {β : Type} {k : Con β} {fn : Func} {w0 : World} (x : β) (hres : fn.results = #[]) (hk : k.val x = .tuple #[]) (hb : c.b = k.entry w0) (hi : k.inv x) (h2 : (k.hpO x).Sublist hp) (h3 : LSub L (k.LO x)) (hD : c.D = [] := by exact rfl) :
    HQ c (bodyPost c.P fn (k.post w0)) .ret fr hp L :=
  ret_run x (fun a w _ _ => by rw [results_none hres, hk]) hb hi h2 h3 hD
theorem ret0n {β : Type} {k : Con β} {fn : Func} {w0 : World} (x : β) (hres : fn.results = #[]) (hk : k.val x = .tuple #[]) (hb : c.b = k.entry w0) (hi : k.inv x) (h2 : (k.hpO x).Sublist hp) (h3 : LSub L (k.LO x)) (hD : c.D = [] := by exact rfl) :
    HQ c (bodyPost c.P fn (k.post w0)) .normal fr hp L :=
  ret_run_n x (fun a w _ _ => by rw [results_none hres, hk]) hb hi h2 h3 hD
end

/-- What a call leaves to its caller. -/
theorem WI.entry {b : Bx} {w : World} {hp hpR : Hp} {L : List Fact} {β : Type} {k : Con β} (h : WI b w hp L) (h1 : hp.Perm (k.hpI ++ hpR)) (h2 : ∀ F ∈ k.LI, F ∈ L) : WI (k.entry w) w k.hpI k.LI := by
  have h' := h.perm h1
  have hs : k.hpI.Sublist (k.hpI ++ hpR) := List.sublist_append_left _ _
  exact ⟨Ext.refl _ _, fun p hp => h'.own p (by simp [hp]), h'.nd.sublist (hs.map _), fun p hp => .inl (List.mem_map.2 ⟨p, hp, rfl⟩),
    fun F hF => h.fs F (h2 F hF), fun F hF p hp => h'.ap F (h2 F hF) p (by simp [hp]), fun F hF x hx => .inr (.inr ⟨F, hF, hx⟩)⟩

theorem WI.back {b : Bx} {w w' : World} {hp hpR : Hp} {L : List Fact} {β : Type} {k : Con β} {x : β} (h : WI b w hp L) (h1 : hp.Perm (k.hpI ++ hpR)) (h2 : ∀ F ∈ k.LI, F ∈ L)
    (r : WI (k.entry w) w' (k.hpO x) (k.LO x)) : WI b w' (k.hpO x ++ hpR) (k.LO x ++ L) := by
  have h' := h.perm h1
  have hnd : ∀ p ∈ k.hpI, ∀ q ∈ hpR, p.1 ≠ q.1 := by
    have := h'.nd
    rw [List.map_append, List.nodup_append] at this
    intro p hp q hq
    exact this.2.2 p.1 (List.mem_map.2 ⟨p, hp, rfl⟩) q.1 (List.mem_map.2 ⟨q, hq, rfl⟩)
  have hlt : ∀ q ∈ hpR, q.1 < w.heap.size := fun q hq => lt_of_own (h'.own q (by simp [hq]))
  have hoR : ∀ p ∈ k.hpO x, ∀ q ∈ hpR, p.1 ≠ q.1 := by
    intro p hp q hq e
    rcases r.s0 p hp with h3 | h3
    · obtain ⟨p', hp', e'⟩ := List.mem_map.1 h3
      exact hnd p' hp' q hq (e'.trans e)
    · have := hlt q hq; simp only [Con.entry] at h3; omega
  refine { ext := ?_, own := ?_, nd := ?_, s0 := ?_, fs := ?_, ap := ?_, al := ?_ }
  · refine ⟨r.ext.os.trans h.ext.os, r.ext.tape.trans h.ext.tape, r.ext.output.trans h.ext.output, Nat.le_trans h.ext.size r.ext.size, fun i hi hn => ?_⟩
    refine (r.ext.block i (Nat.lt_of_lt_of_le hi h.ext.size) (fun hm => ?_)).trans (h.ext.block i hi hn)
    obtain ⟨p, hp, e⟩ := List.mem_map.1 hm
    rcases h'.s0 p (by simp [hp]) with h3 | h3
    · exact hn (e ▸ h3)
    · omega
  · intro p hp
    rcases List.mem_append.1 hp with hp | hp
    · exact r.own p hp
    · refine (r.ext.block p.1 (hlt p hp) (fun hm => ?_)).trans (h'.own p (by simp [hp]))
      obtain ⟨q, hq, e⟩ := List.mem_map.1 hm
      exact hnd q hq p hp e
  · rw [List.map_append, List.nodup_append]
    refine ⟨r.nd, ?_, fun i hi j hj => ?_⟩
    · have := h'.nd
      rw [List.map_append, List.nodup_append] at this
      exact this.2.1
    · obtain ⟨p, hp, rfl⟩ := List.mem_map.1 hi
      obtain ⟨q, hq, rfl⟩ := List.mem_map.1 hj
      exact hoR p hp q hq
  · intro p hp
    rcases List.mem_append.1 hp with hp | hp
    · rcases r.s0 p hp with h3 | h3
      · obtain ⟨p', hp', e'⟩ := List.mem_map.1 h3
        exact e' ▸ h'.s0 p' (by simp [hp'])
      · exact .inr (Nat.le_trans h.ext.size h3)
    · exact h'.s0 p (by simp [hp])
  · intro F hF
    rcases List.mem_append.1 hF with hF | hF
    · exact r.fs F hF
    · refine F.st w w' (fun i hi => r.ext.block i (F.lt w (h.fs F hF) i hi) (fun hm => ?_)) (h.fs F hF)
      obtain ⟨p, hp, e⟩ := List.mem_map.1 hm
      exact h'.ap F hF p (by simp [hp]) (e ▸ hi)
  · intro F hF p hp hk
    rcases List.mem_append.1 hF with hF | hF
    · rcases List.mem_append.1 hp with hp | hp
      · exact r.ap F hF p hp hk
      · rcases r.al F hF p.1 hk with h3 | h3 | ⟨G, hG, h3⟩
        · have := hlt p hp; simp only [Con.entry] at h3; omega
        · obtain ⟨q, hq, e⟩ := List.mem_map.1 h3
          exact hnd q hq p hp e
        · exact h'.ap G (h2 G hG) p (by simp [hp]) h3
    · rcases List.mem_append.1 hp with hp | hp
      · rcases r.s0 p hp with h3 | h3
        · obtain ⟨q, hq, e⟩ := List.mem_map.1 h3
          exact h'.ap F hF q (by simp [hq]) (e ▸ hk)
        · have := F.lt w (h.fs F hF) _ hk; simp only [Con.entry] at h3; omega
      · exact h'.ap F hF p (by simp [hp]) hk
  · intro F hF i hk
    rcases List.mem_append.1 hF with hF | hF
    · rcases r.al F hF i hk with h3 | h3 | ⟨G, hG, h3⟩
      · exact .inl (Nat.le_trans h.ext.size h3)
      · obtain ⟨q, hq, e⟩ := List.mem_map.1 h3
        rcases h'.s0 q (by simp [hq]) with h4 | h4
        · exact .inr (.inl (e ▸ h4))
        · exact .inl (e ▸ h4)
      · exact h.al G (h2 G hG) i h3
    · exact h.al F hF i hk

/-- A function that can be called: it has a body. -/
structure Callable (P : Program) (f : Nat) : Prop where
  ex : ∃ fn, P.funcs[f]? = some fn ∧ (fn.name == "runtime.NumGoroutine") = false ∧ fn.body.isNone = false
theorem Callable.run {P : Program} {f : Nat} (h : Callable P f) (args : Array Value) (w : World) : (callFunc f args).run P w = .ok (.enter f args) w := by
  obtain ⟨fn, h1, h2, h3⟩ := h.ex
  simp only [callFunc, Sem.run_bind, run_program, Result.andThen_ok, h1, h2, h3, Bool.false_eq_true, if_false, Sem.run_pure]
end Go.W
