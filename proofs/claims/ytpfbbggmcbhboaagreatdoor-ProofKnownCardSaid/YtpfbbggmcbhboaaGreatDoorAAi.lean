/- Texts. -/
import Derived.Laws.Cover3
import Derived.Test.YtpfbbggmcbhboaaGreatDoorAAf
import Derived.Test.YtpfbbggmcbhboaaGreatDoorAAh
set_option linter.unusedVariables false
set_option linter.unusedSimpArgs false
section
namespace Go.W
open Go Go.RowKit
/-! ### The first of a list of slices -/
theorem lz2 {α : Type} [El α] {b : Bx} {hp : Hp} {L : List Fact} {w : World} {A : Option Addr} {ps : List (Sl α)} (n : Nat) (h : Rows2 A ps ∈ L) (hw : WI b w hp L) : WI b w hp (Rows2 A (ps.take n) :: L) := by
  have h1 := hw.fs _ h; refine cH hw ⟨fun j u hu => ?_, fun p hp => h1.2 p (List.mem_of_mem_take hp)⟩ (fun k hk => ⟨_, h, ?_⟩)
  · refine h1.1 j u ?_
    rw [← uK] at hu; rw [List.getElem?_take] at hu
    split at hu
    · exact hu
    cases hu
  rcases hk with ⟨ad, e, hb, hne⟩ | ⟨p, hp, hk⟩
  · exact .inl ⟨ad, e, hb, fun e => hne (by rw [← uK, e]; simp)⟩
  exact .inr ⟨p, List.mem_of_mem_take hp, hk⟩
theorem rz2 {α : Type} [El α] {c : Cx} {Q : Exit → Act → World → Prop} {fr : Fr} {hp : Hp} {L : List Fact} {ops : Array Oper} {rest : List Oper} {A : Option Addr} {ps : List (Sl α)} (n : Nat) (h : Rows2 A ps ∈ L) (k : HL c ops Q rest fr hp (Rows2 A (ps.take n) :: L)) : HL c ops Q rest fr hp L := fun a w ha hw => k a w ha (lz2 n h hw)
theorem jz7 {α : Type} [El α] {b : Bx} {hp : Hp} {L : List Fact} {w : World} {A : Option Addr} {ps : List (Sl α)} (h : Row A (rows ps) ∈ L) (h2 : ∀ p ∈ ps, Row p.a (rows p.l) ∈ L) (hw : WI b w hp L) : WI b w hp (Rows2 A ps :: L) :=
  cH hw ⟨hw.fs _ h, fun p hp => hw.fs _ (h2 p hp)⟩ (fun k hk => by
    rcases hk with hk | ⟨p, hp, hk⟩
    · exact ⟨_, h, hk⟩
    exact ⟨_, h2 p hp, hk⟩)
section
variable {α : Type} [El α] {c : Cx} {Q : Exit → Act → World → Prop} {fr : Fr} {hp : Hp} {L : List Fact} {ops : Array Oper} {rest : List Oper} {A : Option Addr} {ps : List (Sl α)}
theorem rz7 {x : Code} (h : Row A (rows ps) ∈ L) (h2 : ∀ p ∈ ps, Row p.a (rows p.l) ∈ L) (k : HC c x Q fr hp (Rows2 A ps :: L)) : HC c x Q fr hp L := fun a w ha hw => k a w ha (jz7 h h2 hw)
theorem rz0 {e : Exit} (h : Row A (rows ps) ∈ L) (h2 : ∀ p ∈ ps, Row p.a (rows p.l) ∈ L) (k : HQ c Q e fr hp (Rows2 A ps :: L)) : HQ c Q e fr hp L := fun a w ha hw => k a w ha (jz7 h h2 hw)
end
/-! ### Facts that follow from the world; nil -/
section
variable {c : Cx} {Q : Exit → Act → World → Prop} {fr : Fr} {hp : Hp} {L : List Fact} {ops : Array Oper} {rest : List Oper}
theorem hc_pure {φ : Prop} {x : Code} (h : ∀ w, WI c.b w hp L → φ) (k : φ → HC c x Q fr hp L) : HC c x Q fr hp L := fun a w ha hw => k (h w hw) a w ha hw
theorem pq5 {g : Nat} {o : Obj} {e : Exit} (k : HQ c Q e fr hp (Blk g o :: L)) : HQ c Q e fr ((g, o) :: hp) L := fun a w ha hw => k a w ha (bW hw)
theorem qz7 {α : Type} [El α] {l : List α} {w : World} (h0 : 0 < El.sz α) (h : (Row none (rows l)).P w) : l = [] := by
  cases l with
  | nil => rfl
  | cons a l =>
    have hl : 0 < (rows (a :: l)).length := by rw [O9]; exact Nat.mul_pos (by simp) h0
    obtain ⟨ad, e, _⟩ := h 0 _ (List.getElem?_eq_getElem hl)
    cases e
variable {d : Tmp} {ty : TypeId} {pos : String} {af : Array Edge}
theorem rj5 {t e yt : TypeId} {x y : Operand} {A : Option Addr} {n cp : Nat} (hd : Nat.blt d c.n = true) (ht : c.P.underlying t = some (.slice e)) (hx : ev fr x = some (.slice A n cp)) (hy : ev fr y = some (.slice none 0 0)) (k : HL c ops Q rest ((d, .bool A.isNone) :: fr) hp L) :
    HL c ops Q (⟨some d, .binOp .eql t x y yt, ty, pos, af, none⟩ :: rest) fr hp L :=
  vS _ hd hx hy (fun _ => rfl) (fun w => by
    show ((do pure (Value.bool (← Op.equal t (.slice A n cp) (.slice none 0 0)))) : Sem Value).run c.P w = _
    simp only [Sem.run_bind, run_equal_slice_nil w t e A n cp ht, Result.andThen_ok, Sem.run_pure]) k
end
/-! ### A store into a slice of the call's own -/
theorem Grow.open_ {e : TypeId} {sz n cap : Nat} {A : Option Addr} {xs : List Value} {og : Hp} (h : Grow e sz A n cap xs og) (hn : 0 < n) : ∃ g cur, A = some ⟨g, 0, none⟩ ∧ og = [(g, Obj.cells cur e (0, 0))] ∧ n ≤ cap ∧ cap ≤ maxLen ∧ cur.size = cap * sz ∧ cur.toList.take (n * sz) = xs ∧ xs.length = n * sz := by
  rcases h with ⟨hl, ⟨_, h, _⟩ | ⟨g, cur, h1, h2, h3, h4, h5, h6⟩⟩
  · omega
  exact ⟨g, cur, h1, h2, h3, h4, h5, h6, hl⟩
theorem hz4 {α : Type} [El α] (h1 : El.sz α = 1) (v : Value) (a : α) (hv : El.cells a = [v]) : ∀ (l : List α) (k : Nat), (rows l).set k v = rows (l.set k a)
  | [], k => by simp [tB]
  | b :: l, 0 => by
    have hb : ∃ u, El.cells b = [u] := by
      have := El.len b; rw [h1] at this; exact List.length_eq_one_iff.1 this
    obtain ⟨u, hu⟩ := hb; rw [List.set_cons_zero, W4, W4, hu, hv]
    rfl
  | b :: l, k + 1 => by
    have hb : ∃ u, El.cells b = [u] := by
      have := El.len b; rw [h1] at this; exact List.length_eq_one_iff.1 this
    obtain ⟨u, hu⟩ := hb; rw [List.set_cons_succ, W4, W4, hu, ← hz4 h1 v a hv l k]
    rfl
theorem Grow.set {α : Type} [El α] {e : TypeId} {cap g k : Nat} {cur : Array Value} {l : List α} {v : Value} {a : α} (h1 : El.sz α = 1) (hv : El.cells a = [v]) (h3 : l.length ≤ cap) (h4 : cap ≤ maxLen) (h5 : cur.size = cap * 1) (h6 : cur.toList.take (l.length * 1) = rows l) :
    Grow e 1 (k5 g) l.length cap (rows (l.set k a)) [(g, Obj.cells (cur.setIfInBounds k v) e (0, 0))] := by
  refine ⟨by rw [O9, h1, List.length_set], .inr ⟨g, _, rfl, rfl, h3, h4, by simpa using h5, ?_⟩⟩; rw [← hz4 h1 v a hv, ← h6, Array.toList_setIfInBounds, List.take_set]
/-! ### make -/
/-! ### Scopes and labels -/
section
variable {Q : Exit → Act → World → Prop} {fr : Fr} {hp : Hp} {L : List Fact}
def noGoto (Q : Exit → Act → World → Prop) : Exit → Act → World → Prop
  | .goto _, _, _ => False
  | e, a, w => Q e a w
theorem rz6 {P : Program} {n : Nat} {b : Bx} {D : List Deferred} {x : Code} (h : HC ⟨P, n, b, D, none⟩ x (noGoto Q) fr hp L) : HC ⟨P, n, b, D, none⟩ (.scope x) Q fr hp L :=
  fun a w ha hw => mq3 (gq2 (h a w ha hw) fun e a w hq => by cases e <;> first | exact ⟨fun _ h => (by cases h), hq⟩ | exact hq.elim)
theorem aq2 {c : Cx} (h : HQ c Q .ret fr hp L) : HQ c (noGoto Q) .ret fr hp L := fun a w ha hw => h a w ha hw
theorem rz8 {c : Cx} {l : Nat} (h : HQ c Q .normal fr hp L) : HC c (.label l) Q fr hp L := fun a w ha hw => px5 (h a w ha hw)
end
theorem evals {n : Cx} {a : Act} {fr : Fr} (ha : Ok n a fr) : ∀ (xs : List Operand) (vs : List Value), xs.mapM (ev fr) = some vs → xs.map a.eval = vs := by
  intro xs
  induction xs with
  | nil => intro vs h; simpa using h
  | cons x xs ih =>
    intro vs h; simp only [List.mapM_cons, Option.bind_eq_bind, Option.bind_eq_some_iff, Option.pure_def, Option.some.injEq] at h; obtain ⟨v, hv, us, hus, rfl⟩ := h; rw [List.map_cons, ha.ev hv, ih us hus]
def markOf (d : Nat) : Deferred := { target := .collected d, args := #[] }
def shutM (ds : List Nat) : Hp := ds.map fun d => (d, Obj.deferred (some []))
theorem P5 {c : Cx} {fr : Fr} {hp : Hp} {L : List Fact} {fn : Func} {t u : Tmp} {ty tz : TypeId} {p q : Addr} {v1 v2 : Value} (hres : fn.results = #[.cell t ty, .cell u tz]) (hv : lk fr t = some (.pointer (some p))) (hv2 : lk fr u = some (.pointer (some q))) (ht : NoR c.P ty) (hz : NoR c.P tz)
    (h1 : Cell c.b hp L p v1) (h2 : Cell c.b hp L q v2) (a : Act) (w : World) (hsz : a.tmps.size = c.n) (hfr : ∀ t v, lk fr t = some v → a.tmps.getD t undef = v) (hw : WI c.b w hp L) : (results fn a.tmps).run c.P w = .ok (.tuple #[v1, v2]) w := by
  have hload : ∀ {ty : TypeId} {p : Addr} {v : Value}, NoR c.P ty → Cell c.b hp L p v → (loadVar ty p).run c.P w = .ok v w := by
    intro ty p v ht hc; obtain ⟨dd, ht, hr⟩ := ht
    have hagg : (isAgg ty).run c.P w = .ok false w := by
      unfold isAgg; rw [Sem.run_bind, run_underlying ht w]
      cases dd <;> simp_all [TypeDesc.isRow]
    simp only [loadVar, Sem.run_bind, hagg, Result.andThen_ok, Bool.false_eq_true, if_false, run_load, hc w hw]
  have h5 : a.tmps[t]?.getD undef = .pointer (some p) := by simpa using hfr _ _ hv
  have h6 : a.tmps[u]?.getD undef = .pointer (some q) := by simpa using hfr _ _ hv2
  unfold results; rw [hres]
  simp [h5, h6, asAddr, hload ht h1, hload hz h2]
/-! ### Rounds of a range over a function -/
instance (l : Nat) : QC (Instr.getLoop l) := ⟨by unfold Instr.getLoop; exact k4⟩
instance (l : Nat) (args : Array Value) : QC (Instr.yield l args) := ⟨by unfold Instr.yield; exact k4⟩
instance (l : Nat) : QC (Instr.beginRound l) := ⟨by unfold Instr.beginRound; exact k4⟩
instance (l : Nat) (j : Option Code) : QC (Instr.endRound l j) := ⟨by unfold Instr.endRound; exact k4⟩
instance (l : Nat) : QC (Instr.endLoop l) := ⟨by unfold Instr.endLoop; exact k4⟩
instance (l : Nat) : QC (Instr.takeDeferred l) := ⟨by unfold Instr.takeDeferred; exact k4⟩
instance (fn : FuncId) (tmps : Array Value) (ps : Array Tmp) (x y : Code) (o : Option Nat) : QC (Instr.enterLoop fn tmps ps x y o) := ⟨by unfold Instr.enterLoop; exact k4⟩
section
open Go.Conc
variable {P : Program} {main : Bool} {b : Frame} {a : Act} {k : List Item} {cs : List Frame} {w w' : World} {l : Nat} {v : Value} {c : Frame}
theorem gz2 (hb : b.roundOf = some l) (hk : b.kind ≠ .early) (hr : (Instr.beginRound l).run P w = .ok () w') :
    stepG P main (G (b.atR a (.beginRound :: k)) cs) w = .go (G (b.atR a k) cs) w' (seen P b.fn ((Instr.beginRound l).events P w #[])) := by
  have hk' : (b.kind == CallKind.early) = false := by simpa using hk
  simp [G, stepG, stepG.exec, Frame.atR, stepG.apply, hb, hr, hk', Frame.finish, GStep.after]
theorem iz4 (hb : b.roundOf = some l) (hk : b.kind = .normal) (hr : (Instr.endRound l none).run P w = .ok v w') :
    stepG P main (G (b.atR a []) (c :: cs)) w = .go (G (c.finish v) cs) w' (seen P b.fn ((Instr.endRound l none).events P w #[])) := by
  simp [G, stepG, stepG.exec, Frame.atR, hb, hr, hk, doReturn, GStep.after]
theorem iz3 (hb : b.roundOf = some l) (hk : b.kind = .normal) (hr : (Instr.endRound l (some .ret)).run P w = .ok v w') :
    stepG P main (G (b.atR a (.code .ret :: k)) (c :: cs)) w = .go (G (c.finish v) cs) w' (seen P b.fn ((Instr.endRound l (some .ret)).events P w #[])) := by
  simp [G, stepG, stepG.exec, Frame.atR, hb, hr, hk, doReturn, GStep.after]
theorem gz0 {id : Nat} (hb : b.roundOf = some l) (hk : b.kind = .normal) (hx : exitTo id k = none) (hr : (Instr.endRound l (some (.exit id))).run P w = .ok v w') :
    stepG P main (G (b.atR a (.code (.exit id) :: k)) (c :: cs)) w = .go (G (c.finish v) cs) w' (seen P b.fn ((Instr.endRound l (some (.exit id))).events P w #[])) := by
  simp [G, stepG, stepG.exec, Frame.atR, hb, hr, hk, hx, doReturn, GStep.after]
def roundPost (P : Program) (l : Nat) (R : Value → World → Prop) : Exit → Act → World → Prop
  | .normal, _, w => ∃ v w', (∀ d, (Instr.endRound l none).run P (w.at d) = .ok v (w'.at d)) ∧ R v w'
  | .ret, _, w => ∃ v w', (∀ d, (Instr.endRound l (some .ret)).run P (w.at d) = .ok v (w'.at d)) ∧ R v w'
  | .exit id, _, w => ∃ v w', (∀ d, (Instr.endRound l (some (.exit id))).run P (w.at d) = .ok v (w'.at d)) ∧ R v w'
  | _, _, _ => False
def BeginQ (c : Cx) (l : Nat) (body : Code) (Q : Exit → Act → World → Prop) (a : Act) (w : World) : Prop :=
  nd body = true ∧ ∃ w2, (∀ d, (Instr.beginRound l).run c.P (w.at d) = .ok () (w2.at d)) ∧ cwp c.rd c.P body Q a w2
theorem nz0 {f : FuncId} {tmps : Array Value} {assign body : Code} {R : Value → World → Prop} {n : Nat} {bx : Bx} (n1 : nd assign = true)
    (h : cwp (some l) P assign (Exit.then (BeginQ ⟨P, n, bx, [], some l⟩ l body (roundPost P l R)) (fun _ _ _ => False)) { tmps := tmps, defers := [] } w) : RoundB P l f tmps assign body w R := by
  intro c cs Goal hk
  let b : Frame := { (default : Frame) with fn := f, kind := .normal, roundOf := some l }
  have hb0 : Frame.round l f tmps assign body .normal = b.atR { tmps := tmps, defers := [] } [.code assign, .beginRound, .code body] := by simp [Frame.round, Frame.atR, b]
  rw [hb0]; refine h b [.beginRound, .code body] (c :: cs) Goal (by simp [b]) ⟨rfl, .inr n1⟩ fun e a' w' hq => ?_
  cases e with
  | normal =>
    obtain ⟨n2, w2, hbr, hbody⟩ := hq; show Co P (G (b.atR a' [.beginRound, .code body]) (c :: cs)) w' Goal; refine X9 rfl fun d => ⟨_, _, _, gz2 rfl (by simp [b]) (hbr d), S9 (D7 QC.out _), lC ?_ d⟩; refine hbody b [] (c :: cs) Goal (by simp [b]) ⟨rfl, .inr n2⟩ fun e a3 w3 hq => ?_
    cases e with
    | normal =>
      obtain ⟨v, w4, hend, hR⟩ := hq; exact X9 rfl fun d => ⟨_, _, _, iz4 rfl rfl (hend d), S9 (D7 QC.out _), lC (hk v w4 hR) d⟩
    | ret =>
      obtain ⟨v, w4, hend, hR⟩ := hq; exact fun k₁ => X9 rfl fun d => ⟨_, _, _, iz3 rfl rfl (hend d), S9 (D7 QC.out _), lC (hk v w4 hR) d⟩
    | exit id =>
      obtain ⟨v, w4, hend, hR⟩ := hq; exact fun k₁ h1 => X9 rfl fun d => ⟨_, _, _, gz0 rfl rfl (h1.trans rfl) (hend d), S9 (D7 QC.out _), lC (hk v w4 hR) d⟩
    | goto t => exact hq.elim
    | panic ch => exact hq.elim
    | outgrown => trivial
  | ret => exact hq.elim
  | exit id => exact hq.elim
  | goto t => exact hq.elim
  | panic ch => exact hq.elim
  | outgrown => trivial
end
def recL (fn : FuncId) (tmps : Array Value) (ps : Array Tmp) (assign body : Code) (d : Nat) (j : Option Code) : Loop := { state := if j.isNone then .ready else .done, pending := j, fn, tmps, params := ps, assign, body, defers := d }
def recB (fn : FuncId) (tmps : Array Value) (ps : Array Tmp) (assign body : Code) (d : Nat) : Loop := { state := .busy, pending := none, fn, tmps, params := ps, assign, body, defers := d }
def yieldV (l : Nat) : Value := .func (.yield l) #[] #[]
def MeetsY (P : Program) (l : Nat) (args : List Value) {β : Type} (k : Con β) : Prop :=
  ∀ w, WI (k.entry w) w k.hpI k.LI → ∃ f tmps assign body, (∀ d, (Instr.yield l args.toArray).run P (w.at d) = .ok (.round l f tmps assign body) (w.at d)) ∧ RoundB P l f tmps assign body w (k.post w)
section
variable {c : Cx} {Q : Exit → Act → World → Prop} {fr : Fr} {hp : Hp} {L : List Fact} {ops : Array Oper} {rest : List Oper}
variable {d : Tmp} {ty : TypeId} {pos : String} {af : Array Edge}
theorem rz1 {l : Nat} {x : Operand} {aS9 : Array Operand} {ats : Array TypeId} {vs : List Value} {β : Type} {k : Con β} {hpR : Hp} (hd : Nat.blt d c.n = true) (hf : ev fr x = some (yieldV l)) (hx : aS9.toList.mapM (ev fr) = some vs)
    (hm : MeetsY c.P l vs k) (h1 : hp.Perm (k.hpI ++ hpR)) (h2 : LSub L k.LI) (kk : ∀ x, k.inv x → HL c ops Q rest ((d, k.val x) :: fr) (k.hpO x ++ hpR) (k.LO x ++ L)) :
    HL c ops Q (⟨some d, .call ⟨.value x, aS9, ats⟩, ty, pos, af, none⟩ :: rest) fr hp L := by
  intro a w ha hw; refine W3 rfl fun K hK => ?_; have e1 : aS9.map a.eval = vs.toArray := by apply Array.ext'; simpa using evals ha _ _ hx
  have e2 : execOp a.eval (⟨some d, .call ⟨.value x, aS9, ats⟩, ty, pos, af, none⟩ : Oper) = Instr.yield l vs.toArray := by
    show ((do let dd ← resolve a.eval ⟨.value x, aS9, ats⟩ ty; invoke dd.target dd.args) : Sem Next) = _; have e3 : (#[] ++ vs.toArray ++ #[] : Array Value) = vs.toArray := by simp
    simp only [resolve, ha.ev hf, yieldV, e1, Deferred.ofValue]; show Instr.yield l (#[] ++ vs.toArray ++ #[]) = _; rw [e3]
  obtain ⟨f, tmps, assign, body, h3, h4⟩ := hm w (hw.entry h1 h2.mem); refine fun d0 => ⟨by rw [e2]; exact D7 QC.out _, ?_⟩; rw [e2, h3 d0]; refine RoundB.mono (R := (k.post w)) (fun c cs Goal hk => lC (h4 c cs Goal hk) d0) fun v w' hp => ?_; obtain ⟨x, rfl, hi, hwi⟩ := hp; exact hK _ _ (kk x hi _ _ (ha.put (by simpa using hd) _) (hw.back h1 h2.mem hwi))
end
def setAll (ps : List (Tmp × Value)) (fr : Fr) : Fr := ps.foldl (fun fr p => p :: fr) fr
theorem hz2 : ∀ (ps : List (Tmp × Value)) (tmps : Array Value) (fr : Fr), (∀ p ∈ ps, p.1 < tmps.size) → (∀ t v, lk fr t = some v → tmps.getD t undef = v) →
    (ps.foldl (fun tmps p => tmps.setIfInBounds p.1 p.2) tmps).size = tmps.size ∧ ∀ t v, lk (setAll ps fr) t = some v → (ps.foldl (fun tmps p => tmps.setIfInBounds p.1 p.2) tmps).getD t undef = v
  | [], tmps, fr, _, h => ⟨rfl, h⟩
  | (p, u) :: ps, tmps, fr, hlt, h => by
    have h1 := hz2 ps (tmps.setIfInBounds p u) ((p, u) :: fr) (fun q hq => by simpa using hlt q (by simp [hq])) (fun t v hv => by
      rw [p9] at hv; have hp : p < tmps.size := hlt (p, u) (by simp)
      by_cases e : p = t
      · subst e
        simp at hv
        subst hv
        simp [hp]
      rw [if_neg e] at hv; have := h t v hv
      simpa [Array.getElem?_setIfInBounds_ne e] using this)
    exact ⟨by simpa using h1.1, h1.2⟩
theorem WI.putObj {b : Bx} {w : World} {hp : Hp} {L : List Fact} {g : Nat} {o : Obj} (o' : Obj) (h : WI b w ((g, o) :: hp) L) : WI b (w.putObj g o') ((g, o') :: hp) L :=
  h.write ⟨rfl, rfl, rfl, by simp, fun k _ hn => World.putObj_heap_other (by simpa using hn), Nat.le_refl _⟩ (World.putObj_heap_same (E1 (h.own (g, o) (by simp))))
section
variable {c : Cx} {fr : Fr} {hp : Hp} {L : List Fact} {fn : FuncId} {tmps : Array Value} {ps : Array Tmp} {assign body : Code} {d l : Nat} {β : Type} {k : Con β} {w0 : World}
theorem lx4 {Q : Exit → Act → World → Prop} {hp' : Hp} (hpp : hp.Perm ((l, .loop (recL fn tmps ps assign body d none)) :: hp')) (h : HC c body Q fr ((l, .loop (recB fn tmps ps assign body d)) :: hp') L) (n2 : nd body = true := by kernel_rfl) : HQ c (Exit.then (BeginQ c l body Q) (fun _ _ _ => False)) .normal fr hp L := by
  intro a w ha hw; have hw' := hw.perm hpp; have hl := hw'.own (l, .loop (recL fn tmps ps assign body d none)) (by simp); exact ⟨n2, _, fun d0 => run_beginRound (w := w.at d0) hl rfl, h a _ ha (hw'.putObj _)⟩
theorem qz6 {hp' : Hp} (x : β) (j : Option Code) (hpp : hp.Perm ((l, .loop (recB fn tmps ps assign body d)) :: hp')) (hb : c.b = k.entry w0) (hv : k.val x = .bool j.isNone) (hi : k.inv x) (h2 : (k.hpO x).Sublist ((l, .loop (recL fn tmps ps assign body d j)) :: hp')) (h3 : LSub L (k.LO x)) {a : Act} {w : World} (hw : WI c.b w hp L) :
    ∃ v w', (∀ d, (Instr.endRound l j).run c.P (w.at d) = .ok v (w'.at d)) ∧ (k.post w0) v w' := by
  have hw' := hw.perm hpp; have hl := hw'.own (l, .loop (recB fn tmps ps assign body d)) (by simp); exact ⟨_, _, fun d0 => run_endRound (w := w.at d0) j hl, x, by rw [hv], hi, hb ▸ (hw'.putObj _).weak h2 h3.mem⟩
theorem rp_n {hp' : Hp} (x : β) (hpp : hp.Perm ((l, .loop (recB fn tmps ps assign body d)) :: hp')) (hb : c.b = k.entry w0) (hv : k.val x = .bool true) (hi : k.inv x) (h2 : (k.hpO x).Sublist ((l, .loop (recL fn tmps ps assign body d none)) :: hp')) (h3 : LSub L (k.LO x)) : HQ c (roundPost c.P l (k.post w0)) .normal fr hp L :=
  fun a w _ hw => qz6 (a := a) x none hpp hb hv hi h2 h3 hw
theorem rp_ret {hp' : Hp} (x : β) (hpp : hp.Perm ((l, .loop (recB fn tmps ps assign body d)) :: hp')) (hb : c.b = k.entry w0) (hv : k.val x = .bool false) (hi : k.inv x) (h2 : (k.hpO x).Sublist ((l, .loop (recL fn tmps ps assign body d (some .ret))) :: hp')) (h3 : LSub L (k.LO x)) : HQ c (roundPost c.P l (k.post w0)) .ret fr hp L :=
  fun a w _ hw => qz6 (a := a) x (some .ret) hpp hb hv hi h2 h3 hw
end
theorem jj4 {β : Type} {P : Program} {l n d : Nat} {args : List Value} {k : Con β} {fn : FuncId} {tmps : Array Value} {ps : Array Tmp} {assign body : Code} {fr : Fr} (hI : (l, Obj.loop (recL fn tmps ps assign body d none)) ∈ k.hpI)
    (hsz : tmps.size = n) (hfr : ∀ t v, lk fr t = some v → tmps.getD t undef = v) (hlen : args.length = ps.size) (hps : ∀ t ∈ ps, t < n)
    (h : ∀ w, HC ⟨P, n, k.entry w, [], some l⟩ assign (Exit.then (BeginQ ⟨P, n, k.entry w, [], some l⟩ l body (roundPost P l (k.post w))) (fun _ _ _ => False)) (setAll (ps.toList.zip args) fr) k.hpI k.LI) (n1 : nd assign = true := by kernel_rfl) : MeetsY P l args k := by
  intro w hw; have hl := hw.own _ hI; refine ⟨_, _, _, _, fun d0 => run_yield (w := w.at d0) hl (by simpa [recL] using hlen), ?_⟩
  have h1 := hz2 (ps.toList.zip args) tmps fr (fun p hp => by
    have := List.of_mem_zip hp; rw [hsz]
    exact hps _ (by simpa using this.1)) hfr
  have e : ((ps.zip args.toArray).foldl (fun tmps (x : Tmp × Value) => tmps.setIfInBounds x.1 x.2) tmps) = (ps.toList.zip args).foldl (fun tmps p => tmps.setIfInBounds p.1 p.2) tmps := by
    rw [← Array.foldl_toList]
    simp
  refine nz0 (n := n) (bx := k.entry w) n1 ?_; refine h w _ w ⟨rfl, ?_, fun t v hv => ?_⟩ hw
  · exact (congrArg Array.size e).trans (h1.1.trans hsz)
  have := h1.2 t v hv; rw [← e] at this; exact this
/-! ### The statement -/
section
open Go.Conc
variable {P : Program} {main : Bool} {b : Frame} {a : Act} {k : List Item} {cs : List Frame} {w w' : World} {l : Nat} {v : Value} {c : Frame}
abbrev rangeCallB (g : Operand) (l : Nat) : Call := { callee := .value g, args := #[.const (.func (.yield l) #[] #[])], argTypes := #[] }
theorem iz5 {g : Operand} {ps : Array Tmp} {assign body : Code} {mark : List Deferred} {w₁ : World} {f : FuncId} {args : Array Value} (hk : b.kind ≠ .early)
    (he : (Instr.enterLoop b.fn a.tmps ps assign body b.roundOf).run P w = .ok (l, mark) w₁)
    (hcall : ∀ ρ : Operand → Value, ρ = ({ a with defers := mark ++ a.defers } : Act).eval → (do let d ← resolve ρ (rangeCallB g l) 0; invoke d.target d.args : Sem Next) = callFunc f args) (hcb : Callable P f) :
    ∃ es, stepG P main (G (b.atR a (.code (.rangeFunc g ps assign body) :: k)) cs) w = .go (G (Frame.enter P f args .normal) (b.atR { a with defers := mark ++ a.defers } (.inRangeFunc l :: k) :: cs)) w₁ es ∧ ∀ e ∈ es, Calm e := by
  have hk' : (b.kind == CallKind.early) = false := by simpa using hk
  have hev := Frame.eval_atR b { a with defers := mark ++ a.defers } (.inRangeFunc l :: k); have hc := hcall _ hev; simp only [Frame.atR] at hc; refine ⟨seen P b.fn ((Instr.enterLoop b.fn a.tmps ps assign body b.roundOf).events P w #[]) ++ seen P b.fn ((callFunc f args).events P w₁ #[]), ?_, fun e hm => ?_⟩
  · simp [G, stepG, stepG.exec, Frame.atR, he, GStep.after, stepG.apply, hc, hcb.run, hk']
  rcases Array.mem_append.1 hm with hm | hm
  · exact S9 (D7 QC.out _) e hm
  rw [hcb.events, seen_none] at hm; simp at hm
theorem bz4 {jump : Option Code} (h : (Instr.endLoop l).run P w = .ok jump w') :
    stepG P main (G (b.atR a (.endRangeFunc l :: k)) cs) w = .go (G (b.atR a ((jump.map Item.code).toList ++ k)) cs) w' (seen P b.fn ((Instr.endLoop l).events P w #[])) := by
  simp [G, stepG, stepG.exec, Frame.atR, h, GStep.after]
theorem az7 : (b.atR a (.inRangeFunc l :: k)).finish v = b.atR a (.endRangeFunc l :: k) := by simp [Frame.finish, Frame.atR]
theorem iz6 {fr : Frame} {r : Nat} {ds : List Deferred} (hm : fr.mode = .returning) (hd : fr.defers = markOf r :: ds) (hr : (Instr.takeDeferred r).run P w = .ok [] w') :
    stepG P main (G fr cs) w = .go (G { fr with defers := ds } cs) w' (seen P fr.fn ((Instr.takeDeferred r).events P w #[])) := by
  simp [G, stepG, unwind, hm, hd, markOf, hr, GStep.after]
end
theorem jq6 {P : Program} {n : Nat} {b : Bx} {D : List Deferred} {Q : Exit → Act → World → Prop} {fr : Fr} {hp hpR : Hp} {L : List Fact} {g : Operand} {ps : Array Tmp} {assign body : Code} {f : Nat} {cap : List Value} {β : Type}
    (R : Hp) (LI : List Fact) (inv : β → Prop) (val : β → Value) (pend : β → Option Code) (RO : β → Hp) (LO : β → List Fact)
    (hg : ev fr g = some (.func (.func f) #[] cap.toArray)) (hcb : Callable P f) (hpp : hp.Perm (R ++ hpR)) (hL : LSub L LI)
    (hm : ∀ l d fn tmps, tmps.size = n → (∀ t v, lk fr t = some v → tmps.getD t undef = v) →
      Meets P f (yieldV l :: cap) ({ hpI := (l, .loop (recL fn tmps ps assign body d none)) :: R, LI := LI, inv := inv, val := val, hpO := fun x => (l, .loop (recL fn tmps ps assign body d (pend x))) :: RO x, LO := LO } : Con β))
    (k1 : ∀ x d, inv x → pend x = none → HQ ⟨P, n, b, markOf d :: D, none⟩ Q .normal fr ((d, .deferred (some [])) :: (RO x ++ hpR)) (LO x ++ L))
    (k2 : ∀ x d j, inv x → pend x = some j → HC ⟨P, n, b, markOf d :: D, none⟩ j Q fr ((d, .deferred (some [])) :: (RO x ++ hpR)) (LO x ++ L)) :
    HC ⟨P, n, b, D, none⟩ (.rangeFunc g ps assign body) Q fr hp L := by
  intro a w ha hw b0 k cs Goal hk ho hc; have hro : b0.roundOf = none := ho.1; have hsz : a.tmps.size = n := ha.sz; have hwa := (hw.perm hpp).alloc (.deferred (some [])); have hwb := hwa.alloc (.loop (recL b0.fn a.tmps ps assign body w.heap.size none)); have hs1 : (w.alloc (.deferred (some []))).heap.size = w.heap.size + 1 := by simp
  rw [hs1] at hwb
  let W2 := (w.alloc (.deferred (some []))).alloc (.loop (recL b0.fn a.tmps ps assign body w.heap.size none))
  have hcall : ∀ ρ : Operand → Value, ρ = ({ a with defers := [markOf w.heap.size] ++ a.defers } : Act).eval → (do let d ← resolve ρ (rangeCallB g (w.heap.size + 1)) 0; invoke d.target d.args : Sem Next) = callFunc f (yieldV (w.heap.size + 1) :: cap).toArray := by
    rintro ρ rfl; have e1 : ({ a with defers := [markOf w.heap.size] ++ a.defers } : Act).eval g = .func (.func f) #[] cap.toArray := (show _ = a.eval g by cases g <;> rfl).trans (ha.ev hg); have e2 : ({ a with defers := [markOf w.heap.size] ++ a.defers } : Act).eval (.const (.func (.yield (w.heap.size + 1)) #[] #[])) = yieldV (w.heap.size + 1) := rfl; have e3 : (#[] ++ #[yieldV (w.heap.size + 1)] ++ cap.toArray : Array Value) = (yieldV (w.heap.size + 1) :: cap).toArray := by simp
    simp only [rangeCallB, resolve, e1, e2, Deferred.ofValue, List.map_toArray, List.map_cons, List.map_nil]; show callFunc f (#[] ++ #[yieldV (w.heap.size + 1)] ++ cap.toArray) = _; rw [e3]
  have hmm := hm (w.heap.size + 1) w.heap.size b0.fn a.tmps hsz ha.at_
  let kk : Con β := { hpI := (w.heap.size + 1, .loop (recL b0.fn a.tmps ps assign body w.heap.size none)) :: R, LI := LI, inv := inv, val := val, hpO := fun x => (w.heap.size + 1, .loop (recL b0.fn a.tmps ps assign body w.heap.size (pend x))) :: RO x, LO := LO }
  have hperm : ((w.heap.size + 1, Obj.loop (recL b0.fn a.tmps ps assign body w.heap.size none)) :: (w.heap.size, Obj.deferred (some [])) :: (R ++ hpR)).Perm (kk.hpI ++ ((w.heap.size, Obj.deferred (some [])) :: hpR)) := by
    refine C0 fun p => ?_; simp only [kk, List.cons_append, List.countP_cons, List.countP_append]
    omega
  have hcb2 := hmm _ (WI.entry (k := kk) hwb hperm hL.mem)
  have goal2 : Co P (Go.Conc.G (Frame.enter P f (yieldV (w.heap.size + 1) :: cap).toArray .normal) (b0.atR { a with defers := [markOf w.heap.size] ++ a.defers } (.inRangeFunc (w.heap.size + 1) :: k) :: cs)) W2 Goal := by
    refine hcb2 _ _ fun fr' v w3 hfn hpo hl => ?_; refine lj8 hl ?_; rw [az7]; obtain ⟨x, rfl, hi, hwi⟩ := hpo; have hwi2 := WI.back (k := kk) (x := x) hwb hperm hL.mem hwi; have hlo := hwi2.own (w.heap.size + 1, .loop (recL b0.fn a.tmps ps assign body w.heap.size (pend x))) (by simp [kk])
    have hwi3 : WI b (w3.putObj (w.heap.size + 1) (.loop { recL b0.fn a.tmps ps assign body w.heap.size (pend x) with state := .exhausted })) ((w.heap.size, .deferred (some [])) :: (RO x ++ hpR)) (LO x ++ L) := by
      have h5 := WI.putObj (.loop { recL b0.fn a.tmps ps assign body w.heap.size (pend x) with state := .exhausted }) (by simpa [kk] using hwi2); refine (h5.weak (List.sublist_cons_self _ _) (fun _ h => h)).perm (C0 fun p => ?_); simp only [List.countP_cons, List.countP_append]
      omega
    have hend : ∀ d0, (Instr.endLoop (w.heap.size + 1)).run P (w3.at d0) = .ok (pend x) _ := fun d0 => run_endLoop (w := w3.at d0) hlo (by show (if (pend x).isNone = true then LoopState.ready else LoopState.done) ≠ .busy; split <;> simp); refine X9 rfl fun d0 => ⟨_, (w3.putObj (w.heap.size + 1) (.loop { recL b0.fn a.tmps ps assign body w.heap.size (pend x) with state := .exhausted })).at d0, _, bz4 (hend d0), S9 (D7 QC.out _), lC ?_ d0⟩; have hok : Ok ⟨P, n, b, markOf w.heap.size :: D, none⟩ { a with defers := [markOf w.heap.size] ++ a.defers } fr := ⟨by show markOf w.heap.size :: a.defers = _; rw [ha.d], ha.sz, ha.at_⟩
    cases hpx : pend x with
    | none =>
      rw [hpx] at hwi3; exact hc .normal _ _ (k1 x w.heap.size hi hpx _ _ hok hwi3)
    | some j =>
      rw [hpx] at hwi3; exact k2 x w.heap.size j hi hpx _ _ hok hwi3 b0 k cs Goal hk ⟨hro, .inl rfl⟩ hc
  refine X9 rfl fun d0 => ?_
  have he : (Instr.enterLoop b0.fn a.tmps ps assign body b0.roundOf).run P (w.at d0) = .ok (w.heap.size + 1, [markOf w.heap.size]) (W2.at d0) := by
    rw [hro]; exact run_enterLoop_outer (w := w.at d0) b0.fn a.tmps ps assign body
  obtain ⟨es, h1, h2⟩ := iz5 (main := true) (b := b0) (a := a) (k := k) (cs := cs) hk he hcall hcb; exact ⟨_, _, es, h1, h2, lC goal2 d0⟩
/-! ### Functions that leave with marks -/
def ShutR (P : Program) (fn : Func) (tmps : Array Value) (R : Value → World → Prop) : List Nat → World → Prop
  | [], w => ∃ v, (∀ d, (results fn tmps).run P (w.at d) = .ok v (w.at d)) ∧ R v w
  | r :: ds, w => ∃ w', (∀ d, (Instr.takeDeferred r).run P (w.at d) = .ok [] (w'.at d)) ∧ ShutR P fn tmps R ds w'
def postM (P : Program) (fn : Func) (R : Value → World → Prop) : Exit → Act → World → Prop
  | .normal, a, w | .ret, a, w => ∃ ds : List Nat, a.defers = ds.map markOf ∧ ShutR P fn a.tmps R ds w
  | _, _, _ => False
theorem iz2 {P : Program} {f : FuncId} {fn : Func} {R : Value → World → Prop} (hf : P.funcs[f]? = some fn) {cs : List Frame} {Goal : Goroutine → World → Prop} (hk : ∀ fr v w', fr.fn = f → R v w' → Lv P fr w' v → Co P (Go.Conc.G fr cs) w' Goal) :
    ∀ (ds : List Nat) (fr : Frame) (w : World), fr.fn = f → fr.mode = .returning → fr.kind = .normal → fr.defers = ds.map markOf → ShutR P fn fr.tmps R ds w → Co P (Go.Conc.G fr cs) w Goal
  | [], fr, w, h0, h1, h2, h3, ⟨v, hv, hR⟩ => hk fr v w h0 hR ⟨h1, h3, h2, fn, by rw [h0]; exact hf, hv⟩
  | r :: ds, fr, w, h0, h1, h2, h3, ⟨w', hr, hs⟩ =>
    X9 rfl fun d => ⟨_, _, _, iz6 h1 h3 (hr d), S9 (D7 QC.out _), lC (iz2 hf hk ds { fr with defers := ds.map markOf } w' h0 h1 h2 rfl hs) d⟩
theorem okArgsW {P : Program} {fn : Func} {bx : Bx} {args : List Value} (hn : args.length ≤ fn.ntmps) : Ok ⟨P, fn.ntmps, bx, [], none⟩ { tmps := args.toArray ++ Array.replicate (fn.ntmps - args.toArray.size) undef, defers := [] } (argFr 0 args) := by
  refine ⟨rfl, by simp; omega, fun t v hv => ?_⟩; obtain ⟨_, h2⟩ := nZ args 0 t v hv; simp only [Nat.sub_zero] at h2
  have hlt : t < args.length := by
    rcases Nat.lt_or_ge t args.length with h' | h'
    · exact h'
    rw [List.getElem?_eq_none h'] at h2; cases h2
  rw [List.getElem?_eq_getElem hlt] at h2
  injection h2 with h2
  simp [Array.getElem?_append, hlt, h2]
theorem jj5 {β : Type} {P : Program} {f : Nat} {args : List Value} {k : Con β} {fn : Func} {code : Code} (hf : P.funcs[f]? = some fn) (hb : fn.body = some code) (hn : args.length ≤ fn.ntmps)
    (h : ∀ w, HC ⟨P, fn.ntmps, k.entry w, [], none⟩ code (postM P fn (k.post w)) (argFr 0 args) k.hpI k.LI) : Meets P f args k := by
  intro w hw cs Goal hk; rw [Go.Conc.enter_at args.toArray hf hb, ← Frame.atR_of_none (b := Go.Conc.base f) rfl]; refine h w _ w (okArgsW hn) hw (Go.Conc.base f) [] cs Goal (by simp [Go.Conc.base]) ⟨rfl, .inl rfl⟩ fun e a' w' hq => ?_
  cases e with
  | normal =>
    obtain ⟨ds, hd, hs⟩ := hq; exact E0 rfl (fun _ => Go.Conc.stepG_end) (iz2 hf hk ds _ w' rfl rfl rfl hd hs)
  | ret =>
    obtain ⟨ds, hd, hs⟩ := hq; exact fun k₁ => E0 rfl (fun _ => Go.Conc.stepG_ret') (iz2 hf hk ds _ w' rfl rfl rfl hd hs)
  | exit id => exact hq.elim
  | goto l => exact hq.elim
  | panic ch => exact hq.elim
  | outgrown => trivial
theorem yM {c : Cx} {β : Type} {k : Con β} {fn : Func} {w0 : World} {tmps : Array Value} {hp' : Hp} {L : List Fact} (x : β)
    (hr : ∀ w, WI c.b w hp' L → (results fn tmps).run c.P w = .ok (k.val x) w) (hb : c.b = k.entry w0) (hi : k.inv x) (h2 : (k.hpO x).Sublist hp') (h3 : LSub L (k.LO x)) :
    ∀ (ds : List Nat) (w : World), WI c.b w (shutM ds ++ hp') L → ShutR c.P fn tmps (k.post w0) ds w
  | [], w, hw => ⟨k.val x, fun d => hr _ (hw.at d), x, rfl, hi, hb ▸ hw.weak h2 h3.mem⟩
  | d :: ds, w, hw => by
    have hw' : WI c.b w ((d, Obj.deferred (some [])) :: (shutM ds ++ hp')) L := hw; have ho := hw'.own (d, Obj.deferred (some [])) (by simp); exact ⟨_, fun d0 => run_takeDeferred (w := w.at d0) ho, yM x hr hb hi h2 h3 ds _ ((hw'.putObj _).weak (List.sublist_cons_self _ _) fun _ h => h)⟩
theorem jM {c : Cx} {fr : Fr} {hp hp' : Hp} {L : List Fact} {β : Type} {k : Con β} {fn : Func} {w0 : World} (ds : List Nat) (x : β) (hD : c.D = ds.map markOf) (hpp : hp.Perm (shutM ds ++ hp'))
    (hr : ∀ (a : Act) w, a.tmps.size = c.n → (∀ t v, lk fr t = some v → a.tmps.getD t undef = v) → WI c.b w hp' L → (results fn a.tmps).run c.P w = .ok (k.val x) w) (hb : c.b = k.entry w0) (hi : k.inv x) (h2 : (k.hpO x).Sublist hp') (h3 : LSub L (k.LO x)) :
    HQ c (postM c.P fn (k.post w0)) .ret fr hp L := fun a w ha hw =>
  ⟨ds, by rw [ha.d, hD], yM x (fun w hw => hr a w ha.sz ha.at_ hw) hb hi h2 h3 ds w (hw.perm hpp)⟩
end Go.W
end
section
namespace Go.Proofs.YtpfbbggmcbhboaaGreatDoor
open Go Go.W Tryz T F
set_option maxRecDepth 20000
attribute [local irreducible] HL HC HQ HB Row Rows2 Blk Facts
def stockN (ps : List (Sl Str)) (s : Str) : Nat := ps.foldl (fun n p => max n (countN p.l s)) 0
theorem kj7 {ps : List (Sl Str)} {s : Str} {k : Nat} (h : k < ps.length) : stockN (ps.take (k + 1)) s = max (stockN (ps.take k) s) (countN (ps.getD k default).l s) := by
  rw [v7 ps k h]; unfold stockN; rw [List.foldl_append]
  rfl
theorem yD {ps : List (Sl Str)} {s : Str} {n : Nat} : ∀ k, k ≤ n → n ≤ ps.length → originN (ps.take n) s k = originN ps s k
  | 0, _, _ => rfl
  | k + 1, h, h2 => by
    have : (ps.take n).getD k default = ps.getD k default := by
      rw [N1 (by rw [List.length_take]; omega), N1 (by omega), List.getElem_take]
    rw [originN, originN, this, yD k (by omega) h2]
theorem yC {A : Option Addr} {c : Nat} {ps : List (Sl Str)} (s : Str) {n : Nat} (hn : n ≤ ps.length) (hl : ps.length ≤ 1000000) (hp : ∀ p ∈ ps, p.l.length ≤ 1000000) : Meets prog bG [.slice A n c, str s] { LI := [Rows2 A (ps.take n)], val := fun _ : Unit => int (originN ps s n) } := by
  have h := bO (A := A) (c := c) (ps.take n) s (by rw [List.length_take]; omega) (fun q hq => hp q (List.mem_of_mem_take hq)); rw [List.length_take, Nat.min_eq_left hn, yD _ (Nat.le_refl _) hn] at h; exact h
theorem mx6 (p : List Str) (l : List Mk) : (applyP p l).1.length ≤ 6 := by
  unfold applyP
  split
  · simp
  split
  · simp
  simp only; omega
def lastP (ps : List (Sl Str)) : Sl Str := ps.getD (ps.length - 1) default
def flawP (ps : List (Sl Str)) (r : List Str) (m : Mk) : Int × Int := (if m.1 = 3 then 1 else if ¬ m.2.2 ∈ r ∧ 0 ≤ originN ps m.2.2 (ps.length - 1) then 2 else 3, m.2.1)
def flawR (ps : List (Sl Str)) (r : List Str) (m : Mk) : Int × Int := (if m.1 = 3 then 1 else if countN r m.2.2 = 0 ∧ 0 < stockN (ps.take (ps.length - 1)) m.2.2 then 2 else 3, m.2.1)
def lookP (ps : List (Sl Str)) (l : List Mk) (p : List Str) : (Int × Int) × Int :=
  if ¬ yearsErr (years ps) = 0 then ((0, 0), yearsErr (years ps)) else if ps.length = 0 then ((0, 0), 7)
  else if ¬ (applyP (lastP ps).l l).2 = 0 then ((0, 0), (applyP (lastP ps).l l).2) else if ¬ pageErr p = 0 then ((0, 0), pageErr p)
  else if (diffP (applyP (lastP ps).l l).1 p 0 0).2.length = 0 then ((0, 0), 0)
  else (flawP ps (applyP (lastP ps).l l).1 ((diffP (applyP (lastP ps).l l).1 p 0 0).2.getD 0 default), 0)
def lookR (ps : List (Sl Str)) (l : List Mk) (p : List Str) : (Int × Int) × Int :=
  if ¬ yearsErr (years ps) = 0 then ((0, 0), yearsErr (years ps)) else if ps.length = 0 then ((0, 0), 7)
  else if ¬ (applyR (lastP ps).l l).2 = 0 then ((0, 0), (applyR (lastP ps).l l).2)
  else if ¬ (diffE (applyR (lastP ps).l l).1 p (diffR (applyR (lastP ps).l l).1 p 0 0)).2 = 0 then ((0, 0), (diffE (applyR (lastP ps).l l).1 p (diffR (applyR (lastP ps).l l).1 p 0 0)).2)
  else if (diffE (applyR (lastP ps).l l).1 p (diffR (applyR (lastP ps).l l).1 p 0 0)).1.length = 0 then ((0, 0), 0)
  else (flawR ps (applyR (lastP ps).l l).1 ((diffE (applyR (lastP ps).l l).1 p (diffR (applyR (lastP ps).l l).1 p 0 0)).1.getD 0 default), 0)
def lookV (r : (Int × Int) × Int) : Value := .tuple #[.agg #[int r.1.1, int r.1.2], int r.2]
theorem nU {A B C : Option Addr} {ca cb cc : Nat} (ps : List (Sl Str)) (l : List Mk) (p : List Str) (hca : ps.length ≤ ca) (hcap : ∀ q ∈ ps, q.l.length ≤ q.c) : Meets prog aZ [.slice A ps.length ca, .slice B l.length cb, .slice C p.length cc] { LI := [Rows2 A ps, Row B (rows l), Row C (rows p)], val := fun _ : Unit => lookV (lookP ps l p) } := by
 refine i3 cq2 rfl q6 fun w0 => c7 (y9 rfl (fun _ => jZ _) fun gA => ?_); refine c3 rfl (b8 (c8 (c7 (b7 rfl ?_)))); refine d5 V4 rfl rfl (V0 ps) l6 ⟨m0, tK⟩ fun _ _ => ?_; refine c3 rfl (n7 (b7 rfl (y5 rfl rfl rfl (b8 ?_))))
 first | refine k8 rfl (fun hb1 => ?_) (fun hb1 => ?_) | refine d9 rfl (fun hb1 => ?_) (fun hb1 => ?_)
 ·have hb1' := hb1; try simp at hb1'
  have e : lookP ps l p = ((0, 0), yearsErr (years ps)) := by rw [lookP, if_pos hb1]
  rw [e]; refine c7 (A9 _ rfl rfl (fun _ => O4 ..) (b7 rfl (u0 rfl rfl M6 n8 (by rfl) (by rfl) ?_))); refine c3 rfl (b8 (D4 ?_)); exact L6 () rfl rfl rfl v5 n8 rfl m0 rfl rfl tK nK tK
 have hb1' := hb1; try simp at hb1'
 obtain ⟨h3, h4⟩ := aV (Classical.not_not.1 hb1); refine d8 (d4 (c8 (c7 (b7 rfl ?_)))); refine l8 rfl G2 rfl ?_; refine E3 rfl rfl rfl (b8 ?_)
 first | refine k8 rfl (fun hb2 => ?_) (fun hb2 => ?_) | refine d9 rfl (fun hb2 => ?_) (fun hb2 => ?_)
 ·have hb2' := hb2; try simp at hb2'
  have e : lookP ps l p = ((0, 0), 7) := by rw [lookP, if_neg hb1, if_pos (by omega)]
  rw [e]; refine c7 (A9 _ rfl rfl (fun _ => O4 ..) (u0 rfl rfl M6 n8 (by rfl) (by rfl) ?_)); refine c3 rfl (b8 (D4 ?_)); exact L6 () rfl rfl rfl v5 n8 rfl m0 rfl rfl tK nK tK
 have hb2' := hb2; try simp at hb2'
 have hb2 : ¬ ps.length = 0 := by omega
 have hmem : lastP ps ∈ ps := W0 (by omega); refine d8 (d4 (c7 (b7 rfl ?_))); refine l8 rfl G2 rfl (iF ((ps.length - 1 : Nat) : Int) rfl rfl rfl (by omega) r6 ?_); refine c3 rfl (b8 (c8 (yU m0 (i4 (b7 rfl (b7 rfl ?_)))))); refine z5 (α := Sl Str) ps (ps.length - 1) rfl G2 U1 rfl rfl rfl m0 rfl (by omega) (by decide) (b6 rfl j1 rfl (i9 mB (d7 (by omega) rfl)) (b7 rfl (tO (p := lastP ps) m1 hmem (d5 J7 rfl rfl (J6 (lastP ps).l l (hcap _ hmem)) l6 ⟨m0, m3, tK⟩ fun x hx => ?_)))); have hx : (applyP (lastP ps).l l).1.length ≤ x.2 := hx; have hal := mx6 (lastP ps).l l; refine b7 rfl (j6 rfl rfl rfl (j6 rfl rfl rfl (c3 rfl (c3 rfl (b8 (c8 (c7 (b7 rfl (y5 rfl rfl rfl ?_))))))))); refine b8 ?_
 first | refine k8 rfl (fun hb3 => ?_) (fun hb3 => ?_) | refine d9 rfl (fun hb3 => ?_) (fun hb3 => ?_)
 ·have hb3' := hb3; try simp at hb3'
  have e : lookP ps l p = ((0, 0), (applyP (lastP ps).l l).2) := by rw [lookP, if_neg hb1, if_neg hb2, if_pos hb3]
  rw [e]; refine c7 (A9 _ rfl rfl (fun _ => O4 ..) (b7 rfl (u0 rfl rfl M6 n8 (by rfl) (by rfl) ?_))); refine c3 rfl (b8 (D4 ?_)); exact L6 () rfl rfl rfl v5 n8 rfl m0 rfl rfl tK nK tK
 have hb3' := hb3; try simp at hb3'
 refine d8 (d4 (c8 (c7 (b7 rfl ?_)))); refine d5 B4 rfl rfl (B3 p) l6 ⟨m5, tK⟩ fun _ _ => ?_; refine c3 rfl (n7 (b7 rfl (y5 rfl rfl rfl (b8 ?_))))
 first | refine k8 rfl (fun hb4 => ?_) (fun hb4 => ?_) | refine d9 rfl (fun hb4 => ?_) (fun hb4 => ?_)
 ·have hb4' := hb4; try simp at hb4'
  have e : lookP ps l p = ((0, 0), pageErr p) := by rw [lookP, if_neg hb1, if_neg hb2, if_neg hb3, if_pos hb4]
  rw [e]; refine c7 (A9 _ rfl rfl (fun _ => O4 ..) (b7 rfl (u0 rfl rfl M6 n8 (by rfl) (by rfl) ?_))); refine c3 rfl (b8 (D4 ?_)); exact L6 () rfl rfl rfl v5 n8 rfl m0 rfl rfl tK nK tK
 have hb4' := hb4; try simp at hb4'
 have hp6 := V1 (Classical.not_not.1 hb4); refine d8 (d4 (c7 (b7 rfl (b7 rfl ?_)))); refine d5 pL rfl rfl (nS (applyP (lastP ps).l l).1 p (by omega) (by omega)) l6 ⟨m0, m5, tK⟩ fun y _ => ?_; refine c3 rfl (b8 (c8 (c7 (b7 rfl ?_)))); refine l8 rfl l9 rfl ?_; refine E3 rfl rfl rfl (b8 ?_)
 first | refine k8 rfl (fun hb5 => ?_) (fun hb5 => ?_) | refine d9 rfl (fun hb5 => ?_) (fun hb5 => ?_)
 ·have hb5' := hb5; try simp at hb5'
  have e : lookP ps l p = ((0, 0), 0) := by rw [lookP, if_neg hb1, if_neg hb2, if_neg hb3, if_neg hb4, if_pos (by omega)]
  rw [e]; refine c7 (A9 _ rfl rfl (fun _ => O4 ..) (u0 rfl rfl M6 n8 (by rfl) (by rfl) ?_)); refine c3 rfl (b8 (D4 ?_)); exact L6 () rfl rfl rfl v5 n8 rfl m0 rfl rfl tK nK tK
 have hb5' := hb5; try simp at hb5'
 have hb5 : ¬ (diffP (applyP (lastP ps).l l).1 p 0 0).2.length = 0 := by omega
 have e : lookP ps l p = (flawP ps (applyP (lastP ps).l l).1 ((diffP (applyP (lastP ps).l l).1 p 0 0).2.getD 0 default), 0) := by rw [lookP, if_neg hb1, if_neg hb2, if_neg hb3, if_neg hb4, if_neg hb5]
 rw [e]; refine d8 (d4 (c7 (b7 rfl ?_))); refine z5 (α := Mk) (diffP (applyP (lastP ps).l l).1 p 0 0).2 0 rfl l9 c6 rfl rfl rfl m0 rfl (by omega) (by decide) (u3 rfl j0 c6 rfl rfl (q8 m0 (s6 (l := (diffP (applyP (lastP ps).l l).1 p 0 0).2) (i := 0) (by omega))) (y9 rfl (fun _ => r7 _) fun gA => u0 rfl rfl M6 c6 (by rfl) (by rfl) ?_)); refine n7 (c3 rfl (b8 (c8 (k6 (c8 ?_))))); generalize ((diffP (applyP (lastP ps).l l).1 p 0 0).2.getD 0 default) = m at *; generalize (applyP (lastP ps).l l) = r at *; obtain ⟨mk, ma, mt⟩ := m; refine i4 ?_
 first | refine b3 ⟨_, 0, none⟩ rfl rfl j9 rfl ?_ | refine b3 _ rfl rfl j9 rfl ?_
 first | refine b6 rfl a9 rfl (i5 mB rfl) ?_ | refine b6 rfl a9 rfl (j4 mB rfl) ?_ | refine b6 rfl a9 rfl (i9 mB (d7 (by omega) rfl)) ?_ | refine b6 rfl a9 rfl (i7 mB (rows_get (by omega) rfl)) ?_
 refine E3 rfl rfl rfl (c3 rfl (b8 ?_))
 first | refine k8 rfl (fun hb6 => ?_) (fun hb6 => ?_) | refine d9 rfl (fun hb6 => ?_) (fun hb6 => ?_)
 ·have hb6' := hb6; try simp at hb6'
  simp only at hb6; refine i4 (c3 rfl (d6 (u7 (d4 (c7 (b7 rfl ?_))))))
  first | refine b3 ⟨_, 1, none⟩ rfl rfl i8 rfl ?_ | refine b3 _ rfl rfl i8 rfl ?_
  first | refine b6 rfl a9 rfl (i5 mB rfl) ?_ | refine b6 rfl a9 rfl (j4 mB rfl) ?_ | refine b6 rfl a9 rfl (i9 mB (d7 (by omega) rfl)) ?_ | refine b6 rfl a9 rfl (i7 mB (rows_get (by omega) rfl)) ?_
  refine A9 _ rfl rfl (fun _ => E5 ..) (u0 rfl rfl M6 n8 (by rfl) (by rfl) ?_); refine c3 rfl (b8 (l4 ?_)); exact L6 () rfl rfl rfl v5 n8 rfl m0 (by rw [lookV, flawP, if_pos hb6]) rfl tK nK tK
 have hb6' := hb6; try simp at hb6'
 refine c8 (V3 11 mixed (by decide) (by decide) rfl rfl (v0 rfl ?_))
 apply q9 _ rfl rfl rfl
 ·intro w1
  first | refine b3 ⟨_, 2, none⟩ rfl rfl q7 rfl ?_ | refine b3 _ rfl rfl q7 rfl ?_
  refine d6 ?_; exact l3 rfl
 apply q9 _ rfl rfl rfl
 ·intro w1
  first | refine b6 rfl j5 rfl (j4 mB rfl) ?_ | refine b6 rfl j5 rfl (i5 mB rfl) ?_ | refine b6 rfl j5 rfl (i9 mB (d7 (by omega) rfl)) ?_ | refine b6 rfl j5 rfl (i7 mB (rows_get (by omega) rfl)) ?_
  refine d6 ?_; exact l3 rfl
 refine u9 (fun w1 => d5 M7 rfl rfl (M4 r.1 mt (by omega)) l6 ⟨m3, tK⟩ fun _ _ => (q_z rfl)) ?_; refine u9 (fun w1 => cO rfl rfl (q_z rfl)) (v0 rfl ?_); refine yV (t := 68) (want := true) rfl ?_ ?_
 ·intro hg1; have hg1' := hg1; try simp at hg1'
  apply q9 _ rfl rfl rfl
  ·intro w1; refine k9 hg1 (b7 rfl (d6 ?_)); exact l3 rfl
  apply q9 _ rfl rfl rfl
  ·intro w1; refine k9 hg1 (b7 rfl (d6 ?_)); exact l3 rfl
  apply q9 _ rfl rfl rfl
  ·intro w1; refine k9 hg1 (lz5 (ps.length - 1) rfl G2 U1 rfl rfl rfl (by omega) (d6 ?_)); exact l3 rfl
  apply q9 _ rfl rfl rfl
  ·intro w1; refine k9 hg1 ?_
   first | refine b3 ⟨_, 2, none⟩ rfl rfl q7 rfl ?_ | refine b3 _ rfl rfl q7 rfl ?_
   refine d6 ?_; exact l3 rfl
  apply q9 _ rfl rfl rfl
  ·intro w1; refine k9 hg1 ?_
   first | refine b6 rfl j5 rfl (j4 mB rfl) ?_ | refine b6 rfl j5 rfl (i5 mB rfl) ?_ | refine b6 rfl j5 rfl (i9 mB (d7 (by omega) rfl)) ?_ | refine b6 rfl j5 rfl (i7 mB (rows_get (by omega) rfl)) ?_
   refine d6 ?_; exact l3 rfl
  refine E8 ⟨rfl, ?_⟩; refine k9 hg1 (rz2 (A := A) (ps := ps) (ps.length - 1) m4 ?_); refine d5 (vs := [.slice A (ps.length - 1) ca, str mt]) bS rfl rfl (yC mt (by omega) (by omega) (fun q hq => by have := h4 q hq; omega)) l6 ⟨m0, tK⟩ fun _ _ => ?_; refine k9 hg1 (lN rfl rfl rfl ?_); refine p_t rfl rfl (bt1 hg1) rfl ?_; refine c3 rfl (b8 ?_)
  first | refine k8 rfl (fun hb7 => ?_) (fun hb7 => ?_) | refine d9 rfl (fun hb7 => ?_) (fun hb7 => ?_)
  ·have hb7' := hb7; try simp at hb7'
   refine i4 (c3 rfl (d6 (u7 (d4 (c7 (b7 rfl ?_))))))
   first | refine b3 ⟨_, 1, none⟩ rfl rfl i8 rfl ?_ | refine b3 _ rfl rfl i8 rfl ?_
   first | refine b6 rfl a9 rfl (i5 mB rfl) ?_ | refine b6 rfl a9 rfl (j4 mB rfl) ?_ | refine b6 rfl a9 rfl (i9 mB (d7 (by omega) rfl)) ?_ | refine b6 rfl a9 rfl (i7 mB (rows_get (by omega) rfl)) ?_
   refine A9 _ rfl rfl (fun _ => E5 ..) (u0 rfl rfl M6 n8 (by rfl) (by rfl) ?_); refine c3 rfl (b8 (l4 ?_)); exact L6 () rfl rfl rfl v5 n8 rfl m0 (by rw [lookV, flawP, if_neg hb6, if_pos (by simpa using ⟨hg1', hb7⟩)]) rfl tK nK tK
  have hb7' := hb7; try simp at hb7'
  refine d8 (u7 (d4 (c7 (b7 rfl ?_))))
  first | refine b3 ⟨_, 1, none⟩ rfl rfl i8 rfl ?_ | refine b3 _ rfl rfl i8 rfl ?_
  first | refine b6 rfl a9 rfl (i5 mB rfl) ?_ | refine b6 rfl a9 rfl (j4 mB rfl) ?_ | refine b6 rfl a9 rfl (i9 mB (d7 (by omega) rfl)) ?_ | refine b6 rfl a9 rfl (i7 mB (rows_get (by omega) rfl)) ?_
  refine A9 _ rfl rfl (fun _ => E5 ..) (u0 rfl rfl M6 n8 (by rfl) (by rfl) ?_); refine c3 rfl (b8 (l4 ?_)); exact L6 () rfl rfl rfl v5 n8 rfl m0 (by rw [lookV, flawP, if_neg hb6, if_neg (by simp_all)]) rfl tK nK tK
 intro hg1; have hg1' := hg1; try simp at hg1'
 refine u9 (fun w1 => u2 hg1 (q_z rfl)) (u9 (fun w1 => u2 hg1 (q_z rfl)) (u9 (fun w1 => u2 hg1 (q_z rfl)) (u9 (fun w1 => u2 hg1 (q_z rfl)) (u9 (fun w1 => u2 hg1 (q_z rfl)) ?_)))); refine E8 ⟨rfl, ?_⟩; refine u2 hg1 (u2 hg1 ?_); refine p_f rfl rfl (bf2 hg1) rfl ?_; refine c3 rfl (b8 (c_f rfl rfl (d8 (u7 (d4 (c7 (b7 rfl ?_)))))))
 first | refine b3 ⟨_, 1, none⟩ rfl rfl i8 rfl ?_ | refine b3 _ rfl rfl i8 rfl ?_
 first | refine b6 rfl a9 rfl (i5 mB rfl) ?_ | refine b6 rfl a9 rfl (j4 mB rfl) ?_ | refine b6 rfl a9 rfl (i9 mB (d7 (by omega) rfl)) ?_ | refine b6 rfl a9 rfl (i7 mB (rows_get (by omega) rfl)) ?_
 refine A9 _ rfl rfl (fun _ => E5 ..) (u0 rfl rfl M6 n8 (by rfl) (by rfl) ?_); refine c3 rfl (b8 (l4 ?_)); exact L6 () rfl rfl rfl v5 n8 rfl m0 (by rw [lookV, flawP, if_neg hb6, if_neg (by simp_all)]) rfl tK nK tK
theorem iq1 {α : Type} {f : Nat → Option α} {k : Nat} (h : (List.range k).findSome? f = none) (h1 : f k = none) : (List.range (k + 1)).findSome? f = none := by
  rw [List.range_succ, List.findSome?_append, h]; simp [h1]
theorem find_at {α : Type} {f : Nat → Option α} {k n : Nat} {x : α} (hk : k < n) (h : (List.range k).findSome? f = none) (h1 : f k = some x) : (List.range n).findSome? f = some x := by
  have e : List.range n = List.range (k + 1) ++ (List.range (n - (k + 1))).map (fun i => (k + 1) + i) := by
    have := List.range_add (n := k + 1) (m := n - (k + 1)); rw [← this]
    congr 1
    omega
  rw [e, List.range_succ, List.findSome?_append, List.findSome?_append, h]
  simp [h1]
def growF (n : Nat) (p : List Int → Bool) : Nat → List Int → Option (List Int)
  | 0, l => if p l = true then some l else none
  | d + 1, l => (List.range n).findSome? fun i : Nat => if (i : Int) ∈ l then none else growF n p d (l ++ [(i : Int)])
def InR (n : Nat) (l : List Int) : Prop := ∀ i ∈ l, 0 ≤ i ∧ i < (n : Int)
theorem InR.snoc {n : Nat} {l : List Int} {i : Nat} (h : InR n l) (hi : i < n) : InR n (l ++ [(i : Int)]) := by
  intro x hx
  rcases List.mem_append.1 hx with hx | hx
  · exact h x hx
  simp at hx; omega
abbrev GrowI (o : OutC) (l : List Int) (og : Hp) : Prop := Grow I6 1 o.1 l.length o.2 (rows l) og
theorem nJ {A : Option Addr} {c : Nat} (l : List Int) (hl : l.length ≤ 1000000) : Meets prog Z2 [.slice A l.length c] { LI := [Row A (rows l)], inv := fun x : OutC × Hp => GrowI x.1 l x.2, val := fun x => .slice x.1.1 l.length x.1.2, hpO := fun x => x.2 } := by
 refine i3 rD rfl q6 fun w0 => ?_; refine c7 (c3 rfl (b8 (c8 (c7 (b7 rfl (rj5 rfl L8 rfl rfl (b8 ?_))))))); refine d9 rfl (fun hb1 => ?_) (fun hb1 => ?_)
 ·have hb1' := hb1; try simp at hb1'
  have hA : A = none := by cases A with | none => rfl | some a => cases hb1
  subst hA; refine hc_pure (φ := l = []) (fun w hw => qz7 (by decide) (hw.fs (Row none (rows l)) m0)) fun hl0 => ?_; subst hl0; refine c7 (c3 rfl (b8 (D4 ?_))); exact ret1 ((none, 0), []) rfl rfl rfl (Grow.nil _ _) (.refl _) tK
 have hb1' := hb1; try simp at hb1'
 refine d8 (d4 (c7 ?_)); refine j8 _ rfl rfl (fun _ => ix3 ..) fun gS => b7 rfl ?_; refine E7 l.length (rows l) qA rfl rfl rfl (Grow.new (cs := #[]) (n := 0) rfl (Nat.zero_le _)) (.refl _) (Src.row m0 (O9 l) (aW l) (by decide)) (by omega) rfl (by unfold maxLen; omega) (by omega) fun A' c' og' hG => ?_; refine c3 rfl (b8 (l4 ?_)); exact ret1 ((A', c'), og') rfl rfl rfl hG (List.sublist_append_left _ _) tK
section
variable (lb : Nat) (rc : Option Code → Loop) (R0 : Hp) (R1 : List Int → OutC → Hp) (LI0 : List Fact) (p : List Int → Bool)
def yCon (o : List Int) (A : Option Addr) (c : Nat) : Con Unit :=
  { hpI := (lb, .loop (rc none)) :: R0, LI := Row A (rows o) :: LI0, val := fun _ => .bool (!(p o)), hpO := fun _ => if p o = true then (lb, .loop (rc (some .ret))) :: R1 o (A, c) else (lb, .loop (rc none)) :: R0 }
abbrev OrdO := Option (List Int × OutC)
def ordR (x : OrdO) : Hp := match x with | none => R0 | some y => R1 y.1 y.2
def ordL (x : OrdO) : List Fact := match x with | none => [] | some y => [Row y.2.1 (rows y.1)]
def ordJ (x : OrdO) : Option Code := match x with | none => none | some _ => some .ret
def ordCon (LI : List Fact) (q : Option (List Int)) (val : OrdO → Value) : Con OrdO :=
  { hpI := (lb, .loop (rc none)) :: R0, LI := LI ++ LI0, inv := fun x => q = x.map (·.1), val := val, hpO := fun x => (lb, .loop (rc (ordJ x))) :: ordR R0 R1 x, LO := ordL }
end
def boxN (g : Nat) (n : Int) : Fact := Blk g (.cells #[int n] I6 (0, 0))
def boxF (g : Nat) (v : Value) : Fact := Blk g (.cells #[v] bJ (0, 0))
def ptr (g : Nat) : Value := .pointer (k5 g)
def growV (gn gy gg : Nat) : Value := .func (.func Q8) #[] [ptr gn, ptr gy, ptr gg].toArray
theorem qR {lb : Nat} {rc : Option Code → Loop} {R0 : Hp} {R1 : List Int → OutC → Hp} {LI0 : List Fact} {p : List Int → Bool} {n : Nat} {gn gy gg : Nat} (hn : n ≤ 1000) (hY : ∀ (o : List Int) (A : Option Addr) (c : Nat), o.length = n → InR n o → MeetsY prog lb [.slice A o.length c] (yCon lb rc R0 R1 LI0 p o A c)) :
    ∀ (d : Nat) (l : List Int) (A : Option Addr) (c : Nat), l.length + d = n → InR n l → Meets prog Q8 [.slice A l.length c, ptr gn, ptr gy, ptr gg] (ordCon lb rc R0 R1 LI0 [Row A (rows l), boxN gn n, boxF gy (yieldV lb), boxF gg (growV gn gy gg)] (growF n p d l) (fun x => .bool x.isNone)) := by
 intro d
 induction d using Nat.strongRecOn
 rename_i d ih
 intro l A c hd hR; refine i3 sK rfl q6 fun w0 => ?_; refine c7 (c3 rfl (b8 (c8 (c7 (b7 rfl ?_))))); refine l8 rfl L8 rfl ?_
 first | refine b6 rfl a9 rfl (i5 mB rfl) ?_ | refine b6 rfl a9 rfl (j4 mB rfl) ?_ | refine b6 rfl a9 rfl (i9 mB (d7 (by omega) rfl)) ?_ | refine b6 rfl a9 rfl (i7 mB (rows_get (by omega) rfl)) ?_
 refine E3 rfl rfl rfl (b8 ?_)
 first | refine k8 rfl (fun hb1 => ?_) (fun hb1 => ?_) | refine d9 rfl (fun hb1 => ?_) (fun hb1 => ?_)
 ·have hb1' := hb1; try simp at hb1'
  have h0 : d = 0 := by omega
  subst h0; have hlen : l.length = n := by omega
  refine c7 ?_
  first | refine b6 rfl v9 rfl (i5 mB rfl) ?_ | refine b6 rfl v9 rfl (j4 mB rfl) ?_ | refine b6 rfl v9 rfl (i9 mB (d7 (by omega) rfl)) ?_ | refine b6 rfl v9 rfl (i7 mB (rows_get (by omega) rfl)) ?_
  refine b7 rfl ?_; refine rz1 (k := yCon lb rc R0 R1 LI0 p l A c) rfl rfl rfl (hY l A c hlen hR) (hpR := []) (by rw [List.append_nil]; exact .refl _) ⟨m0, (LSub.of_mem fun F hF => by repeat (first | exact hF | apply List.Mem.tail))⟩ fun _ _ => ?_; refine c3 rfl (b8 (D4 ?_))
  by_cases hp : p l = true
  · exact ret1 (some (l, (A, c))) rfl (by show some (Value.bool (!(p l))) = some (Value.bool false); rw [hp]; rfl) rfl (by show growF n p 0 l = some l; rw [growF, if_pos hp]) (by show List.Sublist _ ((if p l = true then _ else _) ++ []); rw [if_pos hp, List.append_nil]; exact .refl _) ⟨m0, tK⟩
  exact ret1 none rfl (by show some (Value.bool (!(p l))) = some (Value.bool true); rw [Bool.eq_false_iff.2 hp]; rfl) rfl (by show growF n p 0 l = none; rw [growF, if_neg hp]) (by show List.Sublist _ ((if p l = true then _ else _) ++ []); rw [if_neg hp, List.append_nil]; exact .refl _) tK
 have hb1' := hb1; try simp at hb1'
 obtain ⟨d0, rfl⟩ : ∃ d0, d = d0 + 1 := ⟨d - 1, by omega⟩; refine d8 (d4 (c8 (c7 ?_)))
 first | refine b6 rfl a9 rfl (i5 mB rfl) ?_ | refine b6 rfl a9 rfl (j4 mB rfl) ?_ | refine b6 rfl a9 rfl (i9 mB (d7 (by omega) rfl)) ?_ | refine b6 rfl a9 rfl (i7 mB (rows_get (by omega) rfl)) ?_
 refine b7 rfl (b8 (k6 ?_)); refine y6 (β := Nat) ⟨fun k => k ≤ n ∧ (List.range k).findSome? (fun i : Nat => if (i : Int) ∈ l then none else growF n p d0 (l ++ [(i : Int)])) = none, fun k => [(0, .slice A l.length c), (1, ptr gn), (2, ptr gy), (3, ptr gg), (14, int n), (15, int k)], fun _ => (lb, .loop (rc none)) :: R0, fun _ => [Row A (rows l), boxN gn n, boxF gy (yieldV lb), boxF gg (growV gn gy gg)] ++ LI0⟩ (fun k => n - k) 0 ⟨Nat.zero_le _, rfl⟩ mC (.refl _) ⟨m0, m1, m2, m3, (LSub.of_mem fun F hF => by repeat (first | exact hF | apply List.Mem.tail))⟩ fun k hk => ?_; obtain ⟨hk, ht⟩ := hk; refine c7 (z8 rfl rfl rfl (b8 (c8 ?_)))
 first | refine k8 rfl (fun hb2 => ?_) (fun hb2 => ?_) | refine d9 rfl (fun hb2 => ?_) (fun hb2 => ?_)
 ·have hb2' := hb2; try simp at hb2'
  have hk2 : k < n := by omega
  refine d8 (d4 (c8 (k6 (c7 (b7 rfl (c3 rfl (b8 (c8 ?_)))))))); refine R6 ([]) (_) (.refl _) 11 [10, 7] mixed (by decide) (by decide) (by decide) rfl rfl rfl (v0 rfl (v0 rfl ?_)); refine u9 (fun w1 => d5 kP rfl rfl (kD l (k : Int) (by omega)) (.refl _) ⟨.tail _ (List.mem_append_right _ m0), tK⟩ fun _ _ => (q_z rfl)) ?_; refine u9 (fun w1 => cO rfl rfl (q_z rfl)) (v0 rfl ?_); refine yV (t := 22) (want := true) rfl ?_ ?_
  ·intro hg1; have hg1' := hg1; try simp at hg1'
   have hni : ¬ (k : Int) ∈ l := by simpa using hg1
   apply q9 _ rfl rfl rfl
   ·intro w1; refine k9 hg1 (b6 rfl v9 rfl (j4 (.tail _ (List.mem_append_right _ m3)) rfl) (d6 ?_)); exact l3 rfl
   apply q9 _ rfl rfl rfl
   ·intro w1; refine k9 hg1 (b7 rfl (d6 ?_)); exact l3 rfl
   refine sB ⟨OutC × Hp, fun x => GrowI x.1 l x.2, fun x => .slice x.1.1 l.length x.1.2, fun _ => [], fun x => x.2⟩ rfl rfl rfl ?_ ?_
   ·intro w1; refine k9 hg1 (d5 pH rfl rfl (nJ l (by omega)) (.refl _) ⟨m0, tK⟩ fun x hx => d6 ?_); exact X2 x hx (fun _ => rfl) (by rw [List.append_nil]; exact .refl _) tK
   apply q9 _ rfl rfl rfl
   ·intro w1; refine k9 hg1 (b7 rfl (d6 ?_)); exact l3 rfl
   refine lT ⟨Nat, fun _ => True, fun g1 => .slice (k5 g1) 1 1, fun g1 => [Row (k5 g1) (rows [(k : Int)])]⟩ rfl rfl rfl ?_ ?_
   ·intro w1; refine k9 hg1 (j8 _ rfl rfl (fun _ => jB ..) fun gS => d6 (R5 (rows [(k : Int)]) (List.prefix_refl _) ?_)); exact X3 gS tK rfl ⟨m0, tK⟩
   refine sB ⟨OutC × Hp, fun x => Grow I6 1 x.1.1 (l.length + 1) x.1.2 (rows (l ++ [(k : Int)])) x.2, fun x => .slice x.1.1 (l.length + 1) x.1.2, fun _ => [], fun x => x.2⟩ rfl rfl rfl ?_ ?_
   ·intro x7 hx7 g9 _; intro w1; refine k9 hg1 ?_; refine E7 (l.length + 1) (rows (l ++ [(k : Int)])) qA rfl rfl rfl hx7 (hp' := []) (by rw [List.append_nil]) (Src.row (news := rows [(k : Int)]) (m := 1) m0 rfl (aW _) (by decide)) rfl (z7 l [(k : Int)]).symm (by unfold maxLen; omega) (by omega) fun A' c' og' hG' => ?_; refine d6 ?_; exact X2 ((A', c'), og') hG' (fun _ => rfl) (by rw [List.append_nil]; exact .refl _) tK
   refine E8 ⟨rfl, ?_⟩; intro x7 hx7 g9 _ x10 hx10; refine k9 hg1 ?_; have ihk := ih d0 (by omega) (l ++ [(k : Int)]) x10.1.1 x10.1.2 (by rw [B7]; omega) (hR.snoc hk2); rw [B7] at ihk; refine rz3 hx10 ?_; refine V9 (vs := [.slice x10.1.1 (l.length + 1) x10.1.2]) (cap := [ptr gn, ptr gy, ptr gg]) cY rfl rfl rfl ihk (hpR := []) (by rw [List.append_nil]; exact .refl _) ⟨m0, m3, m4, m5, (LSub.of_mem fun F hF => by repeat (first | exact hF | apply List.Mem.tail))⟩ fun y hy => ?_; have hy : growF n p d0 (l ++ [(k : Int)]) = y.map (·.1) := hy; refine k9 hg1 (cO rfl rfl ?_); refine p_t rfl rfl (bt1 hg1) rfl (b8 ?_)
   first | refine k8 rfl (fun hb3 => ?_) (fun hb3 => ?_) | refine d9 rfl (fun hb3 => ?_) (fun hb3 => ?_)
   ·have hb3' := hb3; try simp at hb3'
    obtain ⟨z, rfl⟩ : ∃ z, y = some z := by cases y with | none => cases hb3 | some z => exact ⟨z, rfl⟩
    refine c7 (c3 rfl (b8 (l4 (C7 (r9 (C7 ?_)))))); exact ret1 (some z) rfl rfl rfl (find_at hk2 ht (by rw [if_neg hni, hy]; rfl)) (by rw [List.append_nil]; exact .refl _) ⟨m0, tK⟩
   have hb3' := hb3; try simp at hb3'
   have hyn : y = none := by cases y with | none => rfl | some z => cases hb3
   subst hyn; refine d8 (u7 (d4 (i4 ?_))); refine v6 _ rfl rfl rfl rfl r6 ?_; refine b7 rfl (d6 ?_); exact again _ (k + 1) ⟨by omega, iq1 ht (by rw [if_neg hni, hy]; rfl)⟩ (D5 (by omega)) mC (by rw [List.append_nil]; exact .refl _) ⟨mB, mB, mB, mB, (LSub.of_mem fun F hF => by repeat (first | exact hF | apply List.Mem.tail))⟩
  intro hg1; have hg1' := hg1; try simp at hg1'
  have hin : (k : Int) ∈ l := by simpa using hg1
  refine u9 (fun w1 => u2 hg1 (q_z rfl)) (u9 (fun w1 => u2 hg1 (q_z rfl)) ?_); refine sB ⟨Unit, fun _ => True, fun _ => undef, fun _ => [], fun _ => []⟩ rfl rfl rfl ?_ ?_
  ·intro w1; refine u2 hg1 (d6 ?_); exact X2 () tK (fun _ => rfl) (.refl _) tK
  refine u9 (fun w1 => u2 hg1 (q_z rfl)) (u9 (fun w1 => u2 hg1 (q_z rfl)) ?_); refine sB ⟨Unit, fun _ => True, fun _ => undef, fun _ => [], fun _ => []⟩ rfl rfl rfl ?_ ?_
  ·intro _ _; intro w1; refine u2 hg1 (d6 ?_); exact X2 () tK (fun _ => rfl) (.refl _) tK
  refine E8 ⟨rfl, ?_⟩; intro _ _ _ _; refine u2 hg1 (u2 hg1 ?_); refine p_f rfl rfl (bf2 hg1) rfl ?_; refine b8 (c_f rfl rfl (d8 (u7 (d4 (i4 ?_))))); refine v6 _ rfl rfl rfl rfl r6 ?_; refine b7 rfl (d6 ?_); exact again _ (k + 1) ⟨by omega, iq1 ht (by rw [if_pos hin])⟩ (D5 (by omega)) mC (.refl _) ⟨mB, mB, mB, mB, (LSub.of_mem fun F hF => by repeat (first | exact hF | apply List.Mem.tail))⟩
 have hb2' := hb2; try simp at hb2'
 have hk2 : k = n := by omega
 subst hk2; refine s9 (E4 (u6 (d4 (c7 (c3 rfl (b8 (l4 ?_))))))); exact ret1 none rfl rfl rfl ht (.refl _) tK
theorem tI {lb : Nat} {rc : Option Code → Loop} {R0 : Hp} {R1 : List Int → OutC → Hp} {LI0 : List Fact} {p : List Int → Bool} {n : Nat} {gn : Nat} (hn : n ≤ 1000) (hY : ∀ (o : List Int) (A : Option Addr) (c : Nat), o.length = n → InR n o → MeetsY prog lb [.slice A o.length c] (yCon lb rc R0 R1 LI0 p o A c)) : Meets prog X7 [yieldV lb, ptr gn] (ordCon lb rc R0 R1 LI0 [boxN gn n] (growF n p n []) (fun _ => .tuple #[])) := by
 refine i3 vH rfl q6 fun w0 => c7 (aJ rfl rfl fun gy => n7 (y9 rfl (fun _ => sF _) fun gg => ?_)); refine n7 (qN rfl rfl rfl ?_); refine A4 rfl rfl (.refl _) sD (by rfl) (by rfl) ?_; refine b8 (O6 (O6 (i4 ?_)))
 first | refine b6 rfl v9 rfl (i5 mB rfl) ?_ | refine b6 rfl v9 rfl (j4 mB rfl) ?_ | refine b6 rfl v9 rfl (i9 mB (d7 (by omega) rfl)) ?_ | refine b6 rfl v9 rfl (i7 mB (rows_get (by omega) rfl)) ?_
 refine pq6 (α := Int) ?_; refine V9 (vs := [.slice none 0 0]) (cap := [ptr gn, ptr gy, ptr gg]) cY rfl rfl rfl (qR hn hY n [] none 0 (by simp) (by intro x hx; simp at hx)) (hpR := []) (by rw [List.append_nil]; exact .refl _) ⟨m0, m3, m1, m2, (LSub.of_mem fun F hF => by repeat (first | exact hF | apply List.Mem.tail))⟩ fun y hy => ?_; refine d6 ?_; exact ret0n y rfl rfl rfl hy (by rw [List.append_nil]; exact .refl _) (LSub.of_mem fun F hF => List.mem_append_left _ hF)
theorem wJ (n : Int) : Meets prog iR [int n] { val := fun g : Nat => .func (.func X7) #[] [ptr g].toArray, LO := fun g => [boxN g n] } := by
 refine i3 zB rfl q6 fun w0 => c7 (aJ rfl rfl fun gn => ?_); refine c3 rfl (n7 (qN rfl rfl rfl (c3 rfl (b8 (l4 (pq5 ?_)))))); exact ret1 gn rfl rfl rfl tK (.refl _) ⟨m0, tK⟩
def orderOK (l : List Mk) (most : Int) : Int → List Int → Bool
  | _, [] => true
  | n, i :: r => if most < n + growsM (l.getD i.toNat default) then false else orderOK l most (n + growsM (l.getD i.toNat default)) r
def stepsP (p : List Str) (l : List Mk) (most : Int) : List Int × Int :=
  if ¬ checkErr p l = 0 then ([], checkErr p l) else if 5 < l.length then ([], 6) else if most < 0 then ([], 1) else if most < p.length then ([], 12)
  else ((growF l.length (orderOK l most p.length) l.length []).getD [], if (growF l.length (orderOK l most p.length) l.length []).isSome then 0 else 11)
theorem gD {l : List Mk} {most m : Int} {o : List Int} {k : Nat} (hk : k < o.length) : orderOK l most m (o.drop k) = if most < m + growsM (l.getD (o.getD k default).toNat default) then false else orderOK l most (m + growsM (l.getD (o.getD k default).toNat default)) (o.drop (k + 1)) := by
  rw [List.drop_eq_getElem_cons hk, orderOK, N1 hk]
def cellI (g : Nat) (v : Value) : Nat × Obj := (g, .cells #[v] xO (0, 0))
def cellE (g : Nat) (e : Int) : Nat × Obj := (g, .cells #[int e] qE (0, 0))
theorem cR {A B : Option Addr} {ca cb : Nat} (p : List Str) (l : List Mk) (most : Int) : Meets prog S6 [.slice A p.length ca, .slice B l.length cb, int most] { outE (stepsP p l most) with LI := [Row A (rows p), Row B (rows l)] } := by
 refine jj5 ax7 rfl q6 fun w0 => c7 (aJ rfl rfl fun g3 => aJ rfl rfl fun g4 => aJ rfl rfl fun g5 => y9 rfl (fun _ => lx1 _) fun g6 => y9 rfl (fun _ => bz3 _) fun g7 => ?_); refine b8 (rz6 (yR ?_)); refine bE (List.reverse_perm _).symm ?_; refine O6 (O6 (O6 (i4 ?_)))
 first | refine b6 rfl j1 rfl (i5 mB rfl) ?_ | refine b6 rfl j1 rfl (j4 mB rfl) ?_ | refine b6 rfl j1 rfl (i9 mB (d7 (by omega) rfl)) ?_ | refine b6 rfl j1 rfl (i7 mB (rows_get (by omega) rfl)) ?_
 first | refine b6 rfl i6 rfl (i5 mB rfl) ?_ | refine b6 rfl i6 rfl (j4 mB rfl) ?_ | refine b6 rfl i6 rfl (i9 mB (d7 (by omega) rfl)) ?_ | refine b6 rfl i6 rfl (i7 mB (rows_get (by omega) rfl)) ?_
 refine d5 Q9 rfl rfl (Q7 p l) l6 ⟨m3, m4, tK⟩ fun _ _ => ?_; refine c3 rfl (n7 (b7 rfl (y5 rfl rfl rfl (b8 ?_))))
 first | refine k8 rfl (fun hb1 => ?_) (fun hb1 => ?_) | refine d9 rfl (fun hb1 => ?_) (fun hb1 => ?_)
 ·have hb1' := hb1; try simp at hb1'
  have e : stepsP p l most = ([], checkErr p l) := by rw [stepsP, if_pos hb1]
  rw [e]; refine c7 (b7 rfl ?_); refine A4 rfl rfl M6 dU (by rfl) (by rfl) (A4 rfl rfl M6 O1 (by rfl) (by rfl) ?_); refine b8 (D4 (aq2 ?_)); refine M0 (α := Int) ?_; exact jM [] (none, 0) rfl (.refl _) (P5 rfl rfl rfl aD J5 (i5 mB rfl) (i5 mB rfl)) rfl tK nK ⟨m0, tK⟩
 have hb1' := hb1; try simp at hb1'
 obtain ⟨hp6, hl12, hV⟩ := gZ (Classical.not_not.1 hb1); refine d8 (d4 (c8 (k6 (c7 ?_))))
 first | refine b6 rfl i6 rfl (i5 mB rfl) ?_ | refine b6 rfl i6 rfl (j4 mB rfl) ?_ | refine b6 rfl i6 rfl (i9 mB (d7 (by omega) rfl)) ?_ | refine b6 rfl i6 rfl (i7 mB (rows_get (by omega) rfl)) ?_
 refine l8 rfl l9 rfl ?_; refine M5 rfl rfl rfl (c3 rfl (b8 ?_))
 first | refine k8 rfl (fun hb2 => ?_) (fun hb2 => ?_) | refine d9 rfl (fun hb2 => ?_) (fun hb2 => ?_)
 ·have hb2' := hb2; try simp at hb2'
  have e : stepsP p l most = ([], 6) := by rw [stepsP, if_neg hb1, if_pos (by omega)]
  rw [e]; refine c7 (A4 rfl rfl M6 dU (by rfl) (by rfl) (A4 rfl rfl M6 O1 (by rfl) (by rfl) ?_)); refine b8 (l4 (C7 (aq2 ?_))); refine M0 (α := Int) ?_; exact jM [] (none, 0) rfl (.refl _) (P5 rfl rfl rfl aD J5 (i5 mB rfl) (i5 mB rfl)) rfl tK nK ⟨m0, tK⟩
 have hb2' := hb2; try simp at hb2'
 have hb2 : ¬ 5 < l.length := by omega
 refine c7 ?_
 first | refine b6 rfl a9 rfl (i5 mB rfl) ?_ | refine b6 rfl a9 rfl (j4 mB rfl) ?_ | refine b6 rfl a9 rfl (i9 mB (d7 (by omega) rfl)) ?_ | refine b6 rfl a9 rfl (i7 mB (rows_get (by omega) rfl)) ?_
 refine z8 rfl rfl rfl (c3 rfl (b8 ?_))
 first | refine k8 rfl (fun hb3 => ?_) (fun hb3 => ?_) | refine d9 rfl (fun hb3 => ?_) (fun hb3 => ?_)
 ·have hb3' := hb3; try simp at hb3'
  have e : stepsP p l most = ([], 1) := by rw [stepsP, if_neg hb1, if_neg hb2, if_pos hb3]
  rw [e]; refine c7 (A4 rfl rfl M6 dU (by rfl) (by rfl) (A4 rfl rfl M6 O1 (by rfl) (by rfl) ?_)); refine b8 (l4 (C7 (aq2 ?_))); refine M0 (α := Int) ?_; exact jM [] (none, 0) rfl (.refl _) (P5 rfl rfl rfl aD J5 (i5 mB rfl) (i5 mB rfl)) rfl tK nK ⟨m0, tK⟩
 have hb3' := hb3; try simp at hb3'
 refine c7 ?_
 first | refine b6 rfl j1 rfl (i5 mB rfl) ?_ | refine b6 rfl j1 rfl (j4 mB rfl) ?_ | refine b6 rfl j1 rfl (i9 mB (d7 (by omega) rfl)) ?_ | refine b6 rfl j1 rfl (i7 mB (rows_get (by omega) rfl)) ?_
 refine l8 rfl r5 rfl ?_
 first | refine b6 rfl a9 rfl (i5 mB rfl) ?_ | refine b6 rfl a9 rfl (j4 mB rfl) ?_ | refine b6 rfl a9 rfl (i9 mB (d7 (by omega) rfl)) ?_ | refine b6 rfl a9 rfl (i7 mB (rows_get (by omega) rfl)) ?_
 refine M5 rfl rfl rfl (c3 rfl (b8 ?_))
 first | refine k8 rfl (fun hb4 => ?_) (fun hb4 => ?_) | refine d9 rfl (fun hb4 => ?_) (fun hb4 => ?_)
 ·have hb4' := hb4; try simp at hb4'
  have e : stepsP p l most = ([], 12) := by rw [stepsP, if_neg hb1, if_neg hb2, if_neg hb3, if_pos hb4]
  rw [e]; refine c7 (A4 rfl rfl M6 dU (by rfl) (by rfl) (A4 rfl rfl M6 O1 (by rfl) (by rfl) ?_)); refine b8 (l4 (C7 (aq2 ?_))); refine M0 (α := Int) ?_; exact jM [] (none, 0) rfl (.refl _) (P5 rfl rfl rfl aD J5 (i5 mB rfl) (i5 mB rfl)) rfl tK nK ⟨m0, tK⟩
 have hb4' := hb4; try simp at hb4'
 have e : stepsP p l most = ((growF l.length (orderOK l most p.length) l.length []).getD [], if (growF l.length (orderOK l most p.length) l.length []).isSome then 0 else 11) := by rw [stepsP, if_neg hb1, if_neg hb2, if_neg hb3, if_neg hb4]
 rw [e]; refine d8 (u7 (d4 (c8 (rz8 (d4 (c8 (c7 ?_)))))))
 first | refine b6 rfl i6 rfl (i5 mB rfl) ?_ | refine b6 rfl i6 rfl (j4 mB rfl) ?_ | refine b6 rfl i6 rfl (i9 mB (d7 (by omega) rfl)) ?_ | refine b6 rfl i6 rfl (i7 mB (rows_get (by omega) rfl)) ?_
 refine l8 rfl l9 rfl (d5 wR rfl rfl (wJ l.length) l6 tK fun gn _ => ?_); refine b8 (k6 ?_); refine jq6 (β := OrdO) (cap := [ptr gn]) (hpR := []) [cellI g6 (.slice none 0 0), cellE g7 0] ([boxN gn l.length] ++ [Row A (rows p), Row B (rows l), Blk g3 (.cells #[.slice A p.length ca] gR (0, 0)), Blk g4 (.cells #[.slice B l.length cb] D1 (0, 0)), Blk g5 (.cells #[int most] I6 (0, 0))]) (fun x => growF l.length (orderOK l most p.length) l.length [] = x.map (·.1)) (fun _ => .tuple #[]) ordJ (ordR [cellI g6 (.slice none 0 0), cellE g7 0] (fun o out => [cellI g6 (.slice out.1 o.length out.2), cellE g7 0])) ordL rfl tX (.refl _) ⟨m0, m4, m5, m3, m2, m1, tK⟩ ?_ ?_ ?_
 ·intro lb d fn tmps hsz hfr; refine tI (lb := lb) (rc := recL fn tmps #[34] _ _ d) (R0 := [cellI g6 (.slice none 0 0), cellE g7 0]) (R1 := (fun o out => [cellI g6 (.slice out.1 o.length out.2), cellE g7 0])) (LI0 := [Row A (rows p), Row B (rows l), Blk g3 (.cells #[.slice A p.length ca] gR (0, 0)), Blk g4 (.cells #[.slice B l.length cb] D1 (0, 0)), Blk g5 (.cells #[int most] I6 (0, 0))]) (p := (orderOK l most p.length)) (n := l.length) (by omega) (fun o A2 c2 hlo hio => ?_); refine jj4 m0 hsz hfr rfl (by intro t ht; simp at ht; subst ht; exact Nat.lt_of_lt_of_le (show 34 < 61 by decide) (Nat.le_refl _)) fun w => ?_; refine C3 rfl (c3 rfl (d6 ?_)); refine lx4 (.refl _) ?_; refine k6 (c8 (C3 rfl ?_))
  first | refine b6 rfl j1 rfl (i5 mB rfl) ?_ | refine b6 rfl j1 rfl (j4 mB rfl) ?_ | refine b6 rfl j1 rfl (i9 mB (d7 (by omega) rfl)) ?_ | refine b6 rfl j1 rfl (i7 mB (rows_get (by omega) rfl)) ?_
  refine l8 rfl r5 rfl ?_; refine c3 rfl (b8 (yR (C3 rfl (b7 rfl ?_)))); refine l8 rfl L8 rfl ?_; refine b7 rfl (b8 (k6 ?_)); refine y6 (β := Nat × Int) ⟨fun ⟨k, m⟩ => k ≤ o.length ∧ orderOK l most p.length o = orderOK l most m (o.drop k) ∧ -(k : Int) ≤ m ∧ m ≤ 6 + k, fun ⟨k, m⟩ => [(3, ptr g3), (4, ptr g4), (5, ptr g5), (6, ptr g6), (7, ptr g7), (9, .slice A2 o.length c2), (10, int m), (37, .slice A2 o.length c2), (38, int o.length), (39, int k)], fun _ => (lb, .loop (recB fn tmps #[34] _ _ d)) :: [cellI g6 (.slice none 0 0), cellE g7 0], fun _ => [Row A2 (rows o), Row A (rows p), Row B (rows l), Blk g3 (.cells #[.slice A p.length ca] gR (0, 0)), Blk g4 (.cells #[.slice B l.length cb] D1 (0, 0)), Blk g5 (.cells #[int most] I6 (0, 0))]⟩ (fun x => o.length - x.1) (0, (p.length : Int)) ⟨Nat.zero_le _, rfl, by omega, by omega⟩ mC (.refl _) ⟨m0, m1, m2, m3, m4, m5, tK⟩ fun x hx => ?_; obtain ⟨k, m⟩ := x; obtain ⟨hk, hq, hm1, hm2⟩ := hx; refine c8 (C3 rfl (z8 rfl rfl rfl (b8 (c8 ?_))))
  first | refine k8 rfl (fun hb5 => ?_) (fun hb5 => ?_) | refine d9 rfl (fun hb5 => ?_) (fun hb5 => ?_)
  ·have hb5' := hb5; try simp at hb5'
   have hk2 : k < o.length := by omega
   have hio2 := hio _ (W0 hk2); have e2 : m + -1 = m - 1 := rfl; refine d8 (d4 (c8 (k6 (c8 (C3 rfl ?_))))); refine z5 (α := Int) _ _ rfl L8 J2 rfl rfl rfl mB rfl (by omega) (by decide) (b6 rfl a9 rfl (i9 mB (d7 (by omega) rfl)) ?_); refine c3 rfl (b8 (yR (C3 rfl ?_)))
   first | refine b6 rfl i6 rfl (i5 mB rfl) ?_ | refine b6 rfl i6 rfl (j4 mB rfl) ?_ | refine b6 rfl i6 rfl (i9 mB (d7 (by omega) rfl)) ?_ | refine b6 rfl i6 rfl (i7 mB (rows_get (by omega) rfl)) ?_
   refine b7 rfl (z5 (α := Mk) l (o.getD k default).toNat rfl l9 c6 rfl rfl (by omega) m2 rfl (by omega) (by decide) ?_)
   first | refine b3 ⟨_, 0, none⟩ rfl rfl j9 rfl ?_ | refine b3 _ rfl rfl j9 rfl ?_
   refine b6 rfl a9 rfl (i9 mB (d7 (by omega) rfl)) ?_; refine b8 (k6 (c8 (C3 rfl (E3 rfl rfl rfl (c3 rfl (b8 ?_))))))
   first | refine k8 rfl (fun hb6 => ?_) (fun hb6 => ?_) | refine d9 rfl (fun hb6 => ?_) (fun hb6 => ?_)
   ·have hb6' := hb6; try simp at hb6'
    have hgr : growsM (l.getD (o.getD k default).toNat default) = 1 := by rw [growsM, if_pos hb6]
    refine C3 rfl (b7 rfl ?_); refine v6 _ rfl rfl rfl rfl r6 ?_; refine c3 rfl (d6 (u7 (d4 (c8 (C3 rfl (b7 rfl ?_))))))
    first | refine b6 rfl a9 rfl (i5 mB rfl) ?_ | refine b6 rfl a9 rfl (j4 mB rfl) ?_ | refine b6 rfl a9 rfl (i9 mB (d7 (by omega) rfl)) ?_ | refine b6 rfl a9 rfl (i7 mB (rows_get (by omega) rfl)) ?_
    refine M5 rfl rfl rfl (b8 ?_)
    first | refine k8 rfl (fun hb8 => ?_) (fun hb8 => ?_) | refine d9 rfl (fun hb8 => ?_) (fun hb8 => ?_)
    ·have hb8' := hb8; try simp at hb8'
     refine s9 (aX rfl (E4 (aX rfl (H6 (u6 ?_))))); have hf : orderOK l most p.length o = false := by rw [hq, gD hk2, hgr, if_pos hb8]
     exact rp_n () (.refl _) rfl (by show Value.bool (!(orderOK l most p.length o)) = _; rw [hf]; rfl) tK (by show List.Sublist (if orderOK l most p.length o = true then _ else _) _; rw [if_neg (by rw [hf]; decide)]; exact .refl _) tK
    have hb8' := hb8; try simp at hb8'
    refine d8 (u7 (d4 (C3 rfl ?_))); refine v6 _ rfl rfl rfl rfl r6 ?_; refine b7 rfl (d6 ?_); exact again _ (k + 1, m + 1) ⟨by omega, by rw [hq, gD hk2]; rw [hgr, if_neg hb8], by omega, by omega⟩ (D5 (by omega)) mC (.refl _) ⟨m0, m1, m2, m3, m4, m5, tK⟩
   have hb6' := hb6; try simp at hb6'
   refine c8 (C3 rfl (E3 rfl rfl rfl (c3 rfl (b8 ?_))))
   first | refine k8 rfl (fun hb7 => ?_) (fun hb7 => ?_) | refine d9 rfl (fun hb7 => ?_) (fun hb7 => ?_)
   ·have hb7' := hb7; try simp at hb7'
    have hgr : growsM (l.getD (o.getD k default).toNat default) = -1 := by rw [growsM, if_neg hb6, if_pos hb7]
    refine C3 rfl (b7 rfl ?_); refine iF _ rfl rfl rfl rfl r6 ?_; refine c3 rfl (d6 (u7 (d4 (c8 (C3 rfl (b7 rfl ?_))))))
    first | refine b6 rfl a9 rfl (i5 mB rfl) ?_ | refine b6 rfl a9 rfl (j4 mB rfl) ?_ | refine b6 rfl a9 rfl (i9 mB (d7 (by omega) rfl)) ?_ | refine b6 rfl a9 rfl (i7 mB (rows_get (by omega) rfl)) ?_
    refine M5 rfl rfl rfl (b8 ?_)
    first | refine k8 rfl (fun hb8 => ?_) (fun hb8 => ?_) | refine d9 rfl (fun hb8 => ?_) (fun hb8 => ?_)
    ·have hb8' := hb8; try simp at hb8'
     refine s9 (aX rfl (E4 (aX rfl (H6 (u6 ?_))))); have hf : orderOK l most p.length o = false := by rw [hq, gD hk2, hgr, e2, if_pos hb8]
     exact rp_n () (.refl _) rfl (by show Value.bool (!(orderOK l most p.length o)) = _; rw [hf]; rfl) tK (by show List.Sublist (if orderOK l most p.length o = true then _ else _) _; rw [if_neg (by rw [hf]; decide)]; exact .refl _) tK
    have hb8' := hb8; try simp at hb8'
    refine d8 (u7 (d4 (C3 rfl ?_))); refine v6 _ rfl rfl rfl rfl r6 ?_; refine b7 rfl (d6 ?_); exact again _ (k + 1, m - 1) ⟨by omega, by rw [hq, gD hk2]; rw [hgr, e2, if_neg hb8], by omega, by omega⟩ (D5 (by omega)) mC (.refl _) ⟨m0, m1, m2, m3, m4, m5, tK⟩
   have hb7' := hb7; try simp at hb7'
   have hgr : growsM (l.getD (o.getD k default).toNat default) = 0 := by rw [growsM, if_neg hb6, if_neg hb7]
   refine d8 (u7 (d4 (c8 (C3 rfl (b7 rfl ?_)))))
   first | refine b6 rfl a9 rfl (i5 mB rfl) ?_ | refine b6 rfl a9 rfl (j4 mB rfl) ?_ | refine b6 rfl a9 rfl (i9 mB (d7 (by omega) rfl)) ?_ | refine b6 rfl a9 rfl (i7 mB (rows_get (by omega) rfl)) ?_
   refine M5 rfl rfl rfl (b8 ?_)
   first | refine k8 rfl (fun hb8 => ?_) (fun hb8 => ?_) | refine d9 rfl (fun hb8 => ?_) (fun hb8 => ?_)
   ·have hb8' := hb8; try simp at hb8'
    refine s9 (aX rfl (E4 (aX rfl (H6 (u6 ?_))))); have hf : orderOK l most p.length o = false := by rw [hq, gD hk2, hgr, Int.add_zero, if_pos hb8]
    exact rp_n () (.refl _) rfl (by show Value.bool (!(orderOK l most p.length o)) = _; rw [hf]; rfl) tK (by show List.Sublist (if orderOK l most p.length o = true then _ else _) _; rw [if_neg (by rw [hf]; decide)]; exact .refl _) tK
   have hb8' := hb8; try simp at hb8'
   refine d8 (u7 (d4 (C3 rfl ?_))); refine v6 _ rfl rfl rfl rfl r6 ?_; refine b7 rfl (d6 ?_); exact again _ (k + 1, m) ⟨by omega, by rw [hq, gD hk2]; rw [hgr, Int.add_zero, if_neg hb8], by omega, by omega⟩ (D5 (by omega)) mC (.refl _) ⟨m0, m1, m2, m3, m4, m5, tK⟩
  have hb5' := hb5; try simp at hb5'
  have hk2 : k = o.length := by omega
  refine s9 (E4 (u6 (d4 (c8 (C3 rfl (b7 rfl ?_)))))); refine A4 rfl rfl M6 dU (by rfl) (by rfl) (A4 rfl rfl M6 O1 (by rfl) (by rfl) ?_); refine b8 (l4 (P3 ?_)); have ht : orderOK l most p.length o = true := by rw [hq, hk2, List.drop_length]; rfl
  refine rp_ret (hp' := [cellI g6 (.slice A2 o.length c2), cellE g7 0]) () (List.reverse_perm _).symm rfl (by show Value.bool (!(orderOK l most p.length o)) = _; rw [ht]; rfl) tK (by show List.Sublist (if orderOK l most p.length o = true then _ else _) _; rw [if_pos ht]; exact .refl _) tK
 ·intro x d hx hp; obtain rfl : x = none := by cases x with | none => rfl | some y => cases hp
  refine u7 (d4 (c7 ?_)); refine A4 rfl rfl M6 dU (by rfl) (by rfl) (A4 rfl rfl M6 O1 (by rfl) (by rfl) ?_); refine b8 (l4 (aq2 ?_)); have hx : growF l.length (orderOK l most p.length) l.length [] = none := hx; rw [hx]; refine M0 (α := Int) ?_; exact jM [d] (none, 0) rfl (List.reverse_perm _).symm (P5 rfl rfl rfl aD J5 (i5 mB rfl) (i5 mB rfl)) rfl tK nK ⟨m0, tK⟩
 intro x d j hx hp; obtain ⟨y, rfl⟩ : ∃ y, x = some y := by cases x with | none => cases hp | some y => exact ⟨y, rfl⟩
 cases hp
 refine l4 (C7 (aq2 ?_)); have hx : growF l.length (orderOK l most p.length) l.length [] = some y.1 := hx; rw [hx]; exact jM [d] y.2 rfl (.refl _) (P5 rfl rfl rfl aD J5 (i5 mB rfl) (i5 mB rfl)) rfl tK nK ⟨m0, tK⟩
def stepsF (l : List Mk) (most : Int) : Nat → List Int → Int → Option (List Int)
  | 0, done, _ => some done
  | d + 1, done, lines => (List.range l.length).findSome? fun i : Nat => if (i : Int) ∈ done ∨ most < lines + growsM (l.getD i default) then none else stepsF l most d (done ++ [(i : Int)]) (lines + growsM (l.getD i default))
def outB (r : Option (List Int)) : Con OutC := { val := fun x => .tuple #[.slice x.1 (r.getD []).length x.2, .bool r.isSome], LO := fun x => [Row x.1 (rows (r.getD []))] }
def stepsR (p : List Str) (l : List Mk) (most : Int) : List Int × Int :=
  if ¬ checkErr p l = 0 then ([], checkErr p l) else if 5 < l.length then ([], 6) else if most < 0 then ([], 1) else if most < p.length then ([], 12)
  else if (stepsF l most l.length [] p.length).isSome then ((stepsF l most l.length [] p.length).getD [], 0) else ([], 11)
end Go.Proofs.YtpfbbggmcbhboaaGreatDoor
end
