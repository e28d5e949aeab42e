/- Texts. -/
import Derived.Conc.DeferLaws
import Derived.Laws.Externs
import Derived.Lib.Bytealg
import Derived.Test.YtcdopfjiadifhaaGreatDoorBAb
import Derived.Test.YtcdopfjiadifhaaGreatDoorBAn
import Derived.Test.YtcdopfjiadifhaaGreatDoorBAg
import Derived.Test.YtcdopfjiadifhaaGreatDoorBAf
set_option linter.unusedVariables false
set_option linter.unusedSimpArgs false
section
namespace Go.W
open Go Go.RowKit Go.Conc
section
variable {P : Program} {b : Frame} {a : Act} {k : List Item} {cs : List Frame} {w : World} {Goal : Goroutine → World → Prop}
/-! ### Functions that may die -/
def postE (P : Program) (fn : Func) (R : Value → World → Prop) (D : List PanicEntry → World → Prop) : Exit → Act → World → Prop
  | .normal, a, w | .ret, a, w => a.defers = [] ∧ ∃ v, (∀ d, (results fn a.tmps).run P (w.at d) = .ok v (w.at d)) ∧ R v w
  | .panic ch, a, w => a.defers = [] ∧ D ch w
  | _, _, _ => False
theorem qj2 (a : Act) (k : List Item) (ch : List PanicEntry) (h : b.mode = .run) : (b.at a k).raise ch = { b.at a k with mode := .panicking ch } := by
  have : (b.at a k).mode = .run := rfl; unfold Frame.raise; rw [this]
theorem ux4 {f : FuncId} {fn : Func} {c : Code} {args : Array Value} {R : Value → World → Prop} {D : List PanicEntry → World → Prop} (hf : P.funcs[f]? = some fn) (hb : fn.body = some c)
    (h : cwp P c (postE P fn R D) { tmps := args ++ Array.replicate (fn.ntmps - args.size) undef, defers := [] } w) : CallsE P f args w R D := by
  intro cs Goal hk hd; rw [enter_at args hf hb]; refine h (base f) [] cs Goal (by simp [base]) fun e a' w' hq => ?_
  cases e with
  | normal =>
    obtain ⟨hdf, v, hr, hR⟩ := hq; exact L5 rfl (fun _ => stepG_end) (hk _ v w' rfl hR ⟨rfl, hdf, rfl, fn, hf, hr⟩)
  | ret =>
    obtain ⟨hdf, v, hr, hR⟩ := hq; exact fun k₁ => L5 rfl (fun _ => stepG_ret') (hk _ v w' rfl hR ⟨rfl, hdf, rfl, fn, hf, hr⟩)
  | exit id => exact hq.elim
  | goto l => exact hq.elim
  | panic ch =>
    intro k₁; rw [qj2 _ _ _ rfl]; exact hd _ ch w' hq.2 ⟨rfl, hq.1, rfl, fn, hf⟩
  | outgrown => trivial
/-! ### Deferred calls -/
def LvD (P : Program) (fr : Frame) (w : World) (v : Value) : Prop :=
  fr.mode = .returning ∧ fr.defers = [] ∧ fr.kind = .deferred ∧ ∃ fn, P.funcs[fr.fn]? = some fn ∧ ∀ d, (results fn fr.tmps).run P (w.at d) = .ok v (w.at d)
def CallsDB (P : Program) (g : FuncId) (args : Array Value) (u : FrameMode) (w : World) (R : Value → World → Prop) (u' : FrameMode) : Prop :=
  ∀ (c : Frame) (cs : List Frame) (Goal : Goroutine → World → Prop), c.mode = u → (∀ fr v w', R v w' → LvD P fr w' v → Co P (G fr ({ c with mode := u' } :: cs)) w' Goal) → Co P (G (Frame.enter P g args .deferred) (c :: cs)) w Goal
def Mend (u : FrameMode) : Prop := u = .returning ∨ ∃ v, u = .panicking [{ v, recovered := true }]
theorem ux3 {fr c : Frame} {v : Value} {u : FrameMode} (h : LvD P fr w v) (hm : c.mode = u) (hu : Mend u) (hk : Co P (G { c with mode := .returning } cs) w Goal) : Co P (G fr (c :: cs)) w Goal := by
  obtain ⟨h1, hd, hn, fn, hf, hr⟩ := h; refine vC rfl fun d => ⟨_, w.at d, seen P fr.fn ((results fn fr.tmps).events P (w.at d) #[]), ?_, zE (bO (qU fn fr.tmps) _), lq7 hk d⟩
  rcases hu with rfl | ⟨x, rfl⟩
  · have e : { c with mode := FrameMode.returning } = c := by rw [← hm]
    rw [e]
    simp [G, stepG, unwind, doReturn, hn, hd, h1, hf, hr d, hm, GStep.after]
  simp [G, stepG, unwind, doReturn, hn, hd, h1, hf, hr d, hm, GStep.after]
def Door (P : Program) (f : FuncId) (tmps : Array Value) (ds : List Deferred) (u : FrameMode) (w : World) (R : Value → World → Prop) : Prop :=
  ∀ (fr : Frame) (cs : List Frame) (Goal : Goroutine → World → Prop), fr.fn = f → fr.mode = u → fr.defers = ds → fr.tmps = tmps → fr.kind = .normal →
    (∀ fr v w', fr.fn = f → R v w' → Lv P fr w' v → Co P (G fr cs) w' Goal) → Co P (G fr cs) w Goal
theorem xj2 {f : FuncId} {fn : Func} {tmps : Array Value} {R : Value → World → Prop} {v : Value} (hf : P.funcs[f]? = some fn) (hr : ∀ d, (results fn tmps).run P (w.at d) = .ok v (w.at d)) (hR : R v w) : Door P f tmps [] .returning w R := by
  intro fr cs Goal h1 h2 h3 h4 h5 hk; subst h1 h4; exact hk fr v w rfl hR ⟨h2, h3, h5, fn, hf, hr⟩
theorem uq6 {f g : FuncId} {tmps : Array Value} {R R' : Value → World → Prop} {ds : List Deferred} {cap args : Array Value} {u u' : FrameMode} (hcb : Callable P g) (hu : u ≠ .run) (hm : Mend u')
    (hc : CallsDB P g (args ++ cap) u w R' u') (hk : ∀ v w', R' v w' → Door P f tmps ds .returning w' R) : Door P f tmps ({ target := .fn (.func g) cap, args := args } :: ds) u w R := by
  intro fr cs Goal h1 h2 h3 h4 h5 hk2; refine vC rfl fun d => ⟨G (Frame.enter P g (args ++ cap) .deferred) ({ fr with defers := ds } :: cs), w.at d, seen P fr.fn ((callFunc g (args ++ cap)).events P (w.at d) #[]), ?_, zE (by rw [hcb.events]; simp), lq7 ?_ d⟩
  · have hi := hcb.run (args ++ cap) (w.at d)
    cases u with
    | run => exact absurd rfl hu
    | returning => simp [G, stepG, unwind, callDeferred, h2, h3, invoke, Sem.runT_eq, hi, GStep.after]
    | panicking ch => simp [G, stepG, unwind, callDeferred, h2, h3, invoke, Sem.runT_eq, hi, GStep.after]
  refine hc { fr with defers := ds } cs Goal h2 fun fr' v w' hR hl => ?_; refine ux3 hl rfl hm ?_; exact hk v w' hR { fr with defers := ds, mode := .returning } cs Goal h1 rfl rfl h4 h5 hk2
def postD (P : Program) (f : FuncId) (R : Value → World → Prop) : Exit → Act → World → Prop
  | .normal, a, w | .ret, a, w => Door P f a.tmps a.defers .returning w R
  | .panic ch, a, w => Door P f a.tmps a.defers (.panicking ch) w R
  | _, _, _ => False
theorem sj6 {f : FuncId} {fn : Func} {c : Code} {args : Array Value} {R : Value → World → Prop} (hf : P.funcs[f]? = some fn) (hb : fn.body = some c)
    (h : cwp P c (postD P f R) { tmps := args ++ Array.replicate (fn.ntmps - args.size) undef, defers := [] } w) : CallsB P f args w R := by
  intro cs Goal hk; rw [enter_at args hf hb]; refine h (base f) [] cs Goal (by simp [base]) fun e a' w' hq => ?_
  cases e with
  | normal => exact L5 rfl (fun _ => stepG_end) (hq _ cs Goal rfl rfl rfl rfl rfl hk)
  | ret => exact fun k₁ => L5 rfl (fun _ => stepG_ret') (hq _ cs Goal rfl rfl rfl rfl rfl hk)
  | exit id => exact hq.elim
  | goto l => exact hq.elim
  | panic ch =>
    intro k₁; rw [qj2 _ _ _ rfl]; exact hq _ cs Goal rfl rfl rfl rfl rfl hk
  | outgrown => trivial
/-! ### The closure that recovers -/
def recM : FrameMode → Value × FrameMode
  | .panicking ({ v, recovered := false, goexit := false } :: older) => (v, .panicking ({ v, recovered := true } :: older))
  | u => (.nilIface, u)
theorem tx8 (v : Value) : recM (.panicking [{ v, recovered := false }]) = (v, .panicking [{ v, recovered := true }]) := rfl
theorem vx4 : recM .returning = (.nilIface, .returning) := rfl
theorem sj1 {ops : Array Oper} {i : Nat} {rest : List Nat} {o : Oper} {c : Frame} (ho : ops[i]? = some o) (hw : Region.wanted o (yielded ops a.tmps) = true) (hr : ∀ w, (execOp a.eval o).run P w = .ok .recover w) (he : ∀ w, (execOp a.eval o).events P w #[] = #[])
    (hk : b.kind = .deferred) (hro : b.roundOf = none) (next : Co P (G (b.at (a.put o.dst (recM c.mode).1) (.inRegion ops rest :: k)) ({ c with mode := (recM c.mode).2 } :: cs)) w Goal) : Co P (G (b.at a (.inRegion ops (i :: rest) :: k)) (c :: cs)) w Goal := by
  refine vC rfl fun d => ⟨_, w.at d, #[], ?_, by simp, lq7 next d⟩; have h1 : (b.kind == CallKind.early) = false := by rw [hk]; rfl
  rw [← fin_at ho, stepG_oper ho hw]; obtain ⟨f, tm, td, df, md, kd, ro⟩ := c; have hro' : (b.at a (.inRegion ops (i :: rest) :: k)).roundOf = none := rfl; have hk' : (b.at a (.inRegion ops (i :: rest) :: k)).kind = .deferred := hk; generalize b.at a (.inRegion ops (i :: rest) :: k) = fr at *
  cases md with
  | run => simp [stepG.apply, hr, he, G, hro', hk', tryRecover, GStep.after, recM, seen_none]
  | returning => simp [stepG.apply, hr, he, G, hro', hk', tryRecover, GStep.after, recM, seen_none]
  | panicking ch =>
    rcases ch with _ | ⟨⟨v, r, g⟩, older⟩
    · simp [stepG.apply, hr, he, G, hro', hk', tryRecover, GStep.after, recM, seen_none]
    cases r <;> cases g <;> simp [stepG.apply, hr, he, G, hro', hk', tryRecover, GStep.after, recM, seen_none]
end
/-! ### Contracts -/
def diesP {β γ : Type} (k : Con β) (k2 : Con γ) (w : World) (ch : List PanicEntry) (w' : World) : Prop := ∃ y, ch = [{ v := k2.val y, recovered := false }] ∧ k2.inv y ∧ WI (k.entry w) w' (k2.hpO y) (k2.LO y)
def MeetsE (P : Program) (f : Nat) (args : List Value) {β γ : Type} (k : Con β) (k2 : Con γ) : Prop :=
  ∀ w, WI (k.entry w) w k.hpI k.LI → CallsE P f args.toArray w (k.post w) (diesP k k2 w)
theorem okArgs {P : Program} {fn : Func} {bx : Bx} {args : List Value} (hn : args.length ≤ fn.ntmps) : Ok ⟨P, fn.ntmps, bx, [], none⟩ { tmps := args.toArray ++ Array.replicate (fn.ntmps - args.toArray.size) undef, defers := [] } (argFr 0 args) := by
  refine ⟨rfl, by simp; omega, fun t v hv => ?_⟩; obtain ⟨_, h2⟩ := xZ args 0 t v hv; simp only [Nat.sub_zero] at h2
  have hlt : t < args.length := by
    rcases Nat.lt_or_ge t args.length with h' | h'
    · exact h'
    rw [List.getElem?_eq_none h'] at h2; cases h2
  rw [List.getElem?_eq_getElem hlt] at h2
  injection h2 with h2
  simp [Array.getElem?_append, hlt, h2]
theorem uF {β γ : Type} {P : Program} {f : Nat} {args : List Value} {k : Con β} {k2 : Con γ} {fn : Func} {code : Code} (hf : P.funcs[f]? = some fn) (hb : fn.body = some code) (hn : args.length ≤ fn.ntmps)
    (h : ∀ w, HC ⟨P, fn.ntmps, k.entry w, [], none⟩ code (postE P fn (k.post w) (diesP k k2 w)) (argFr 0 args) k.hpI k.LI) : MeetsE P f args k k2 :=
  fun w hw => ux4 hf hb (h w _ w (okArgs hn) hw)
theorem nz6 {β : Type} {P : Program} {f : Nat} {args : List Value} {k : Con β} {fn : Func} {code : Code} (hf : P.funcs[f]? = some fn) (hb : fn.body = some code) (hn : args.length ≤ fn.ntmps)
    (h : ∀ w, HC ⟨P, fn.ntmps, k.entry w, [], none⟩ code (postD P f (k.post w)) (argFr 0 args) k.hpI k.LI) : Meets P f args k :=
  fun w hw => sj6 hf hb (h w _ w (okArgs hn) hw)
def MeetsR (P : Program) (g : Nat) (args : List Value) (u u' : FrameMode) {β : Type} (k : Con β) : Prop :=
  ∀ w, WI (k.entry w) w k.hpI k.LI → CallsDB P g args.toArray u w (k.post w) u'
theorem cz4 {β : Type} {P : Program} {g : Nat} {args : List Value} {u u' : FrameMode} {v : Value} {k : Con β} {fn : Func} {id : Nat} {d : Tmp} {op : Op} {ty : TypeId} {pos : String} {af : Array Edge} {l : List Oper} {rest : Code} (hrec : recM u = (v, u'))
    (hf : P.funcs[g]? = some fn) (hb : fn.body = some (.seq (.region id ((⟨some d, op, ty, pos, af, none⟩ : Oper) :: l).toArray false) rest)) (hn : args.length ≤ fn.ntmps) (hd : Nat.blt d fn.ntmps = true)
    (hr : ∀ ρ w, (execOp ρ (⟨some d, op, ty, pos, af, none⟩ : Oper)).run P w = .ok .recover w) (he : ∀ ρ w, (execOp ρ (⟨some d, op, ty, pos, af, none⟩ : Oper)).events P w #[] = #[])
    (h : ∀ w, HL ⟨P, fn.ntmps, k.entry w, [], none⟩ ((⟨some d, op, ty, pos, af, none⟩ : Oper) :: l).toArray (Exit.then (cw ⟨P, fn.ntmps, k.entry w, [], none⟩ rest (postB P fn (k.post w))) (postB P fn (k.post w))) l ((d, v) :: argFr 0 args) k.hpI k.LI) : MeetsR P g args u u' k := by
  intro w hw c cs Goal hu hk; rw [enter_atD args.toArray hf hb]; refine L5 rfl (fun _ => stepG_seq) (L5 rfl (fun _ => stepG_region) ?_)
  have e : List.range ((⟨some d, op, ty, pos, af, none⟩ : Oper) :: l).toArray.size = 0 :: List.range' 1 l.length := by
    simp [List.range_eq_range', List.range'_succ]
  rw [e]; refine sj1 (o := ⟨some d, op, ty, pos, af, none⟩) (by simp) (by simp [Region.wanted]) (hr _) (he _) rfl rfl ?_; rw [hu, hrec]
  have hQ : ∀ e a' w', postB P fn (k.post w) e a' w' → Conts P (baseD g) [] ({ c with mode := u' } :: cs) Goal e a' w' := by
    intro e a' w' hq
    cases e with
    | normal =>
      obtain ⟨hd, v, hr, hR⟩ := hq; exact L5 rfl (fun _ => stepG_end) (hk _ v w' hR ⟨rfl, hd, rfl, fn, hf, hr⟩)
    | ret =>
      obtain ⟨hd, v, hr, hR⟩ := hq; exact fun k₁ => L5 rfl (fun _ => stepG_ret') (hk _ v w' hR ⟨rfl, hd, rfl, fn, hf, hr⟩)
    | exit id => exact hq.elim
    | goto l => exact hq.elim
    | panic ch => exact hq.elim
    | outgrown => trivial
  refine bx5 (b := baseD g) (Q := Exit.then (cw ⟨P, fn.ntmps, k.entry w, [], none⟩ rest (postB P fn (k.post w))) (postB P fn (k.post w))) (by simp [baseD]) (fun e a' w' hq => ?_) _ _ _ (sj9 l 1 _ w rfl (h w _ w ((okArgs hn).put (by simpa using hd) v) hw))
  cases e with
  | normal => exact hq (baseD g) [] _ Goal (by simp [baseD]) hQ
  | exit id => exact hq.elim
  | goto l => exact hq.elim
  | ret => exact hQ .ret a' w' hq
  | panic ch => exact hq.elim
  | outgrown => trivial
section
variable {c : Cx} {Q : Exit → Act → World → Prop} {fr : Fr} {hp : Hp} {L : List Fact} {ops : Array Oper} {rest : List Oper}
theorem K1 {K : Act → World → Prop} {ch : List PanicEntry} (h : HQ c Q (.panic ch) fr hp L) : HQ c (Exit.then K Q) (.panic ch) fr hp L := fun a w ha hw => h a w ha hw
theorem M8 {id : Nat} {ch : List PanicEntry} (h : HQ c Q (.panic ch) fr hp L) : HQ c (Exit.inBlock id Q) (.panic ch) fr hp L := fun a w ha hw => h a w ha hw
theorem hq_E {fn : Func} {P : Program} {R : Value → World → Prop} {D : List PanicEntry → World → Prop} (h : HQ c (postB P fn R) .ret fr hp L) : HQ c (postE P fn R D) .ret fr hp L := fun a w ha hw => h a w ha hw
theorem kz2 {fn : Func} {P : Program} {R : Value → World → Prop} {D : List PanicEntry → World → Prop} (h : HQ c (postB P fn R) .normal fr hp L) : HQ c (postE P fn R D) .normal fr hp L := fun a w ha hw => h a w ha hw
theorem S1 {β γ : Type} {k : Con β} {k2 : Con γ} {fn : Func} {w0 : World} {R : Value → World → Prop} {v : Value} (y : γ) (hv : v = k2.val y) (hb : c.b = k.entry w0) (hi : k2.inv y) (h2 : (k2.hpO y).Sublist hp) (h3 : LSub L (k2.LO y)) (hD : c.D = [] := by exact rfl) :
    HQ c (postE c.P fn R (diesP k k2 w0)) (.panic [{ v, recovered := false }]) fr hp L := fun a w ha hw => ⟨ha.d.trans hD, y, by rw [hv], hi, hb ▸ hw.weak h2 h3.mem⟩
variable {d : Tmp} {ty : TypeId} {pos : String} {af : Array Edge}
theorem WI.back2 {b : Bx} {w w' : World} {hpR : Hp} {β γ : Type} {k : Con β} {k2 : Con γ} {y : γ} (h : WI b w hp L) (h1 : hp.Perm (k.hpI ++ hpR)) (h2 : ∀ F ∈ k.LI, F ∈ L)
    (r : WI (k.entry w) w' (k2.hpO y) (k2.LO y)) : WI b w' (k2.hpO y ++ hpR) (k2.LO y ++ L) :=
  WI.back (k := ({ hpI := k.hpI, LI := k.LI, inv := k2.inv, val := k2.val, hpO := k2.hpO, LO := k2.LO } : Con γ)) (x := y) h h1 h2 r
theorem M3 {f : Nat} {aS9 : Array Operand} {ats : Array TypeId} {vs : List Value} {β γ : Type} {k : Con β} {k2 : Con γ} {hpR : Hp} (hcb : Callable c.P f) (hd : Nat.blt d c.n = true) (hx : aS9.toList.mapM (ev fr) = some vs)
    (hm : MeetsE c.P f vs k k2) (h1 : hp.Perm (k.hpI ++ hpR)) (h2 : LSub L k.LI) (dd : ∀ y, k2.inv y → HQ c Q (.panic [{ v := k2.val y, recovered := false }]) fr (k2.hpO y ++ hpR) (k2.LO y ++ L)) (kk : ∀ x, k.inv x → HL c ops Q rest ((d, k.val x) :: fr) (k.hpO x ++ hpR) (k.LO x ++ L)) :
    HL c ops Q (⟨some d, .call ⟨.value (.func f), aS9, ats⟩, ty, pos, af, none⟩ :: rest) fr hp L := by
  intro a w ha hw; refine Z8 rfl fun K hK => ?_
  have key : ∀ (xs : List Operand) (vs : List Value), xs.mapM (ev fr) = some vs → xs.map a.eval = vs := by
    intro xs
    induction xs with
    | nil => intro vs h; simpa using h
    | cons x xs ih =>
      intro vs h; simp only [List.mapM_cons, Option.bind_eq_bind, Option.bind_eq_some_iff, Option.pure_def, Option.some.injEq] at h; obtain ⟨v, hv, us, hus, rfl⟩ := h; rw [List.map_cons, ha.ev hv, ih us hus]
  have e1 : (#[] ++ aS9.map a.eval ++ #[]) = vs.toArray := by simp; apply Array.ext'; simpa using key _ _ hx
  refine fun d0 => ⟨iq3 hcb (by rw [execOp_call_go]), ?_⟩; have hw := hw.at d0; rw [execOp_call_go, hcb.run, pM, e1]; refine (hm _ (hw.entry h1 h2.mem)).mono (fun v w' hp => ?_) fun ch w' hp => ?_
  · obtain ⟨x, rfl, hi, hwi⟩ := hp
    exact hK _ _ (kk x hi _ _ (ha.put (by simpa using hd) _) (hw.back h1 h2.mem hwi))
  obtain ⟨y, rfl, hi, hwi⟩ := hp; exact dd y hi _ _ ha (hw.back2 h1 h2.mem hwi)
theorem qj5 (v : Value) : Quiet (Instr.panic v) := by
  unfold Instr.panic
  split <;> first | trivial | exact m8
theorem gO {x : Operand} {t : TypeId} {v : Value} (hx : ev fr x = some (.iface t v)) (hr : ∀ w, (Instr.panic (.iface t v)).run c.P w = .halt (.panic (.iface t v)) w) (k : HQ c Q (.panic [{ v := .iface t v, recovered := false }]) fr hp L) :
    HL c ops Q (⟨none, .panic x, ty, pos, af, none⟩ :: rest) fr hp L := by
  intro a w ha hw; refine Z8 rfl fun K hK => fun d0 => ⟨?_, ?_⟩
  · show ∀ e ∈ ((do let v ← Instr.panic (a.eval x); pure (Next.value v)) : Sem Next).events c.P _ #[], Calm e
    exact bO (s := (do let v ← Instr.panic (a.eval x); pure (Next.value v))) (u5 (qj5 _) fun _ => trivial) _
  have e : (execOp a.eval (⟨none, .panic x, ty, pos, af, none⟩ : Oper)).run c.P (w.at d0) = .halt (.panic (.iface t v)) (w.at d0) := by
    show ((do let v ← Instr.panic (a.eval x); pure (Next.value v)) : Sem Next).run c.P (w.at d0) = _; rw [ha.ev hx, Sem.run_bind, hr]
    rfl
  rw [e, px7]; exact k a _ ha (hw.at d0)
theorem r_defer {x : Operand} {g : Nat} {cap : List Value} {ats : Array TypeId} (hx : ev fr x = some (.func (.func g) #[] cap.toArray))
    (k : HL { c with D := { target := .fn (.func g) cap.toArray, args := #[] } :: c.D } ops Q rest fr hp L) : HL c ops Q (⟨none, .defer ⟨.value x, #[], ats⟩, ty, pos, af, none⟩ :: rest) fr hp L := by
  intro a w ha hw; refine Z8 rfl fun K hK => fun d0 => ?_
  have e : execOp a.eval (⟨none, .defer ⟨.value x, #[], ats⟩, ty, pos, af, none⟩ : Oper) = pure (Next.defer { target := .fn (.func g) cap.toArray, args := #[] }) := by
    show ((do let dd ← resolve a.eval ⟨.value x, #[], ats⟩ ty; pure (Next.defer dd)) : Sem Next) = _; have e3 : (#[] ++ Array.map a.eval #[] : Array Value) = #[] := by simp
    simp only [resolve, ha.ev hx, Deferred.ofValue, e3]
    rfl
  rw [e]; refine ⟨by simp [Sem.events_pure], ?_⟩; rw [Sem.run_pure, px8]; exact hK _ _ (k _ _ ⟨by show _ :: a.defers = _; rw [ha.d], ha.sz, ha.at_⟩ (hw.at d0))
theorem dj9 {β γ : Type} {k : Con β} {kd : Con γ} {fn : Func} {w0 : World} {f g : Nat} {cap : List Value} {u u' : FrameMode} {hpR : Hp} {e : Exit} (hm : MeetsR c.P g cap u u' kd) (he : (e = .ret ∧ u = .returning) ∨ (e = .normal ∧ u = .returning) ∨ ∃ ch, e = .panic ch ∧ u = .panicking ch) (hf : c.P.funcs[f]? = some fn) (hcb : Callable c.P g) (hM : Mend u') (hD : c.D = [{ target := .fn (.func g) cap.toArray, args := #[] }])
    (h1 : hp.Perm (kd.hpI ++ hpR)) (h2 : LSub L kd.LI) (kk : ∀ y, kd.inv y → HQ { c with D := [] } (postB c.P fn (k.post w0)) .ret fr (kd.hpO y ++ hpR) (kd.LO y ++ L)) :
    HQ c (postD c.P f (k.post w0)) e fr hp L := by
  intro a w ha hw; have hu : u ≠ .run := by rcases he with ⟨_, h⟩ | ⟨_, h⟩ | ⟨_, _, h⟩ <;> rw [h] <;> simp
  have key : Door c.P f a.tmps a.defers u w (k.post w0) := by
    rw [ha.d, hD]; refine uq6 hcb hu hM (by simpa using hm w (hw.entry h1 h2.mem)) fun v w' hp => ?_; obtain ⟨y, rfl, hi, hwi⟩ := hp; obtain ⟨_, v, hr, hR⟩ := kk y hi { a with defers := [] } w' ⟨rfl, ha.sz, ha.at_⟩ (hw.back h1 h2.mem hwi); exact xj2 hf hr hR
  rcases he with ⟨rfl, rfl⟩ | ⟨rfl, rfl⟩ | ⟨ch, rfl, rfl⟩
  · exact key
  · exact key
  exact key
end
end Go.W
end
section
namespace Go.W
open Go Go.RowKit Go.Conc
theorem iz7 {P : Program} {f : FuncId} {fn : Func} {e : Array Value → Sem Value} (hf : P.funcs[f]? = some fn) (hname : (fn.name == "runtime.NumGoroutine") = false)
    (hb : fn.body.isNone = true) (hn : Extern.findNext fn = none) (he : Extern.find fn = some e) (args : Array Value) (hq : Quiet (e args)) (w : World) : ∀ x ∈ (callFunc f args).events P w #[], Calm x := by
  have h1 : fn.name ≠ "runtime.NumGoroutine" := by simpa using hname
  have h2 : fn.body = none := by simpa using hb
  have e1 : (callFunc f args).events P w #[] = ((do mark (.extern f); pure (Next.value (← e args))) : Sem Next).events P w #[] := by
    unfold callFunc; simp only [Sem.events_bind, run_program, Result.evThen, hf]
    simp [h1, h2, hn, he]
    cases (e args).run P w <;> rfl
  rw [e1]; have h5 : Quiet (mark (.extern f)) := ⟨⟨by simp, by simp⟩, trivial⟩; exact bO (s := (do mark (.extern f); pure (Next.value (← e args)))) (u5 h5 fun _ => u5 hq fun v => (trivial : Quiet (pure (Next.value v)))) w
theorem mx7 {c : Cx} {Q : Exit → Act → World → Prop} {fr : Fr} {hp : Hp} {L : List Fact} {ops : Array Oper} {rest : List Oper} {d : Tmp} {ty : TypeId} {pos : String} {af : Array Edge} {f : Nat} {xs0 : Array Operand} {ats : Array TypeId} {vs : List Value} {v : Value} (hd : Nat.blt d c.n = true) (hx : xs0.toList.mapM (ev fr) = some vs) (hrun : ∀ w, (callFunc f vs.toArray).run c.P w = .ok (.value v) w)
    (hev : ∀ w, ∀ e ∈ (callFunc f vs.toArray).events c.P w #[], Calm e) (kk : HL c ops Q rest ((d, v) :: fr) hp L) :
    HL c ops Q (⟨some d, .call ⟨.value (.func f), xs0, ats⟩, ty, pos, af, none⟩ :: rest) fr hp L := by
  intro a w ha hw; refine Z8 rfl fun K hK => ?_
  have key : ∀ (xs : List Operand) (vs : List Value), xs.mapM (ev fr) = some vs → xs.map a.eval = vs := by
    intro xs
    induction xs with
    | nil => intro vs h; simpa using h
    | cons x xs ih =>
      intro vs h; simp only [List.mapM_cons, Option.bind_eq_bind, Option.bind_eq_some_iff, Option.pure_def, Option.some.injEq] at h; obtain ⟨v, hv, us, hus, rfl⟩ := h; rw [List.map_cons, ha.ev hv, ih us hus]
  have e1 : (#[] ++ xs0.map a.eval ++ #[]) = vs.toArray := by simp; apply Array.ext'; simpa using key _ _ hx
  refine fun d0 => ⟨?_, ?_⟩
  · rw [execOp_call_go, e1]; exact hev _
  have hw := hw.at d0; rw [execOp_call_go, e1, hrun, pL]; exact hK _ _ (kk _ _ (ha.put (by simpa using hd) _) hw)
end Go.W
end
section
namespace Go.Proofs.YtcdopfjiadifhaaGreatDoor
open Go Go.W Tryz T F
set_option maxRecDepth 20000
attribute [local irreducible] HL HC HQ HB Row Rows2 Blk Facts
def cutB (b : UInt8) : Str → Str × Str × Bool
  | [] => ([], [], false)
  | x :: r => if x = b then ([], r, true) else (x :: (cutB b r).1, (cutB b r).2.1, (cutB b r).2.2)
theorem uG (b : UInt8) : ∀ s : Str, (Lib.indexByte s b = -1 ∧ cutB b s = (s, [], false) ∧ b ∉ s) ∨ ∃ i : Nat, Lib.indexByte s b = i ∧ i < s.length ∧ cutB b s = (s.take i, s.drop (i + 1), true) ∧ s[i]? = some b ∧ b ∉ s.take i
  | [] => .inl ⟨rfl, rfl, by simp⟩
  | x :: r => by
    by_cases h : x = b
    · subst h
      exact .inr ⟨0, by simp [Lib.indexByte], by simp, by simp [cutB], by simp, by simp⟩
    have hb : (x == b) = false := by simp [h]
    rcases uG b r with ⟨h1, h2, h3⟩ | ⟨i, h1, h2, h3, h4, h5⟩
    · exact .inl ⟨by simp [Lib.indexByte, hb, h1], by simp [cutB, h, h2], by simp [h3, Ne.symm h]⟩
    have hne : ¬ ((i : Int) = -1) := by omega
    exact .inr ⟨i + 1, by simp [Lib.indexByte, hb, h1, hne], by simp; omega, by simp [cutB, h, h3], by simpa using h4, by simp [h5, Ne.symm h]⟩
def trimL (p : UInt8 → Bool) (s : Str) : Str := s.dropWhile p
def trimR (p : UInt8 → Bool) (s : Str) : Str := (s.reverse.dropWhile p).reverse
def isDig (c : UInt8) : Bool := decide (48 ≤ c.toNat) && decide (c.toNat ≤ 57)
def D10 : Str := [48, 49, 50, 51, 52, 53, 54, 55, 56, 57]
theorem any_dig (c : UInt8) : (D10.any fun x => x == c) = isDig c := by
  unfold isDig D10
  by_cases h : 48 ≤ c.toNat ∧ c.toNat ≤ 57
  · obtain ⟨h1, h2⟩ := h
    have hc : c = UInt8.ofNat c.toNat := by simp
    have : c.toNat = 48 ∨ c.toNat = 49 ∨ c.toNat = 50 ∨ c.toNat = 51 ∨ c.toNat = 52 ∨ c.toNat = 53 ∨ c.toNat = 54 ∨ c.toNat = 55 ∨ c.toNat = 56 ∨ c.toNat = 57 := by omega
    rw [decide_eq_true h1, decide_eq_true h2]
    rcases this with e | e | e | e | e | e | e | e | e | e <;> (rw [e] at hc; rw [hc]; rfl)
  have h3 : (decide (48 ≤ c.toNat) && decide (c.toNat ≤ 57)) = false := by
    rw [Bool.and_eq_false_iff, decide_eq_false_iff_not, decide_eq_false_iff_not]; omega
  rw [h3]; simp only [List.any_cons, List.any_nil, Bool.or_false, Bool.or_eq_false_iff, beq_eq_false_iff_ne]; refine ⟨?_, ?_, ?_, ?_, ?_, ?_, ?_, ?_, ?_, ?_⟩ <;> (intro e; subst e; exact h (by decide))
theorem pq0 {p : UInt8 → Bool} : ∀ {l : Str}, l.dropWhile p = [] ↔ ∀ x ∈ l, p x = true
  | [] => by simp
  | a :: l => by
    by_cases h : p a = true
    · rw [List.dropWhile_cons_of_pos h, pq0]
      simp [h]
    rw [List.dropWhile_cons_of_neg h]
    simp [h]
theorem mD {p : UInt8 → Bool} {s : Str} : trimL p (trimR p s) = [] ↔ s.all p = true := by
  unfold trimL trimR; rw [pq0, List.all_eq_true]
  constructor
  · intro h
    have h2 : s.reverse.dropWhile p = [] := by
      cases hd : s.reverse.dropWhile p with
      | nil => rfl
      | cons x r =>
        have h3 : p x = true := h x (by rw [hd]; simp); have h4 := List.head_dropWhile_not p (l := s.reverse) (by rw [hd]; simp); simp only [hd, List.head_cons] at h4; rw [h3] at h4; cases h4
    rw [pq0] at h2; exact fun x hx => h2 x (by simpa using hx)
  intro h x hx
  have h2 : s.reverse.dropWhile p = [] := by
    rw [pq0]; exact fun x hx => h x (by simpa using hx)
  rw [h2] at hx; simp at hx
def asV (l : Str) : List Value := (List.range 256).map fun i => Value.bool (l.any fun c => c.toNat == i)
theorem pq5 (l : Str) : (asV l).length = 256 := by simp [asV]
theorem asV_one (l : Str) : (asV l).all (·.oneCell') = true := List.all_eq_true.2 fun v hv => by
  obtain ⟨i, _, rfl⟩ := List.mem_map.1 hv
  rfl
theorem pq6 (l : Str) (c : UInt8) : (asV l)[c.toNat]? = some (.bool (l.any fun x => x == c)) := by
  have h : c.toNat < 256 := c.toNat_lt; unfold asV; rw [List.getElem?_map, List.getElem?_range h]; simp only [Option.map_some]
  congr 3
  funext x
  rw [Bool.eq_iff_iff]
  simp [UInt8.toNat_inj]
theorem asV_set (l : Str) (c : UInt8) : (asV l).set c.toNat (.bool true) = asV (l ++ [c]) := by
  apply List.ext_getElem?
  intro i; rw [List.getElem?_set]; have h : c.toNat < 256 := c.toNat_lt
  by_cases hi : c.toNat = i
  · subst hi
    rw [if_pos rfl, if_pos (by rw [pq5]; exact h), pq6]
    simp
  rw [if_neg hi]; unfold asV
  by_cases hl : i < 256
  · rw [List.getElem?_map, List.getElem?_map, List.getElem?_range hl]
    simp [hi]
  rw [List.getElem?_eq_none (by simp; omega), List.getElem?_eq_none (by simp; omega)]
theorem vj1 {p : UInt8 → Bool} {q : Str} (h : 0 < q.length) (hp : p q[0] = false) : trimL p q = q := by
  cases q with
  | nil => simp at h
  | cons a q => exact List.dropWhile_cons_of_neg (by rw [← Bool.not_eq_true] at hp; exact hp)
theorem tq8 {p : UInt8 → Bool} {q : Str} (h : 0 < q.length) (hp : p q[0] = true) : trimL p (q.drop 1) = trimL p q := by
  cases q with
  | nil => simp at h
  | cons a q => exact (List.dropWhile_cons_of_pos hp).symm
theorem uz9 {p : UInt8 → Bool} {q : Str} (h : 0 < q.length) (hp : p (q[q.length - 1]'(by omega)) = false) : trimR p q = q := by
  unfold trimR; have hne : q ≠ [] := fun e => by rw [e] at h; simp at h
  have e : q = q.dropLast ++ [q[q.length - 1]'(by omega)] := by rw [← List.getLast_eq_getElem hne, List.dropLast_concat_getLast]
  rw [e, List.reverse_append, List.reverse_singleton, List.singleton_append, List.dropWhile_cons_of_neg (by rw [← Bool.not_eq_true] at hp; exact hp)]
  simp
theorem tq7 {p : UInt8 → Bool} {q : Str} (h : 0 < q.length) (hp : p (q[q.length - 1]'(by omega)) = true) : trimR p (q.take (q.length - 1)) = trimR p q := by
  have hne : q ≠ [] := fun e => by rw [e] at h; simp at h
  have e : q = q.take (q.length - 1) ++ [q[q.length - 1]'(by omega)] := by rw [← List.dropLast_eq_take, ← List.getLast_eq_getElem hne, List.dropLast_concat_getLast]
  conv => rhs; rw [e]
  unfold trimR; rw [List.reverse_append, List.reverse_singleton, List.singleton_append, List.dropWhile_cons_of_pos hp]
theorem vj0 (p : UInt8 → Bool) (s : Str) : (trimR p s).length ≤ s.length := by
  unfold trimR; rw [List.length_reverse]; have := (List.dropWhile_sublist (l := s.reverse) p).length_le
  rwa [List.length_reverse] at this
theorem qq8 {c : Cx} {Q : Exit → Act → World → Prop} {fr : Fr} {hp hp' : Hp} {L : List Fact} {ops : Array Oper} {rest : List Oper} (h : hp = hp') (k : HL c ops Q rest fr hp' L) : HL c ops Q rest fr hp L := h ▸ k
section
variable {c : Cx} {Q : Exit → Act → World → Prop} {fr : Fr} {hp : Hp} {L : List Fact} {ops : Array Oper} {rest : List Oper} {d : Tmp} {ty : TypeId} {pos : String} {af : Array Edge}
theorem jP {t : TypeId} {x lo hi : Operand} {s : Str} {kd kd' : IntKind} {z z' : Int} (l h : Nat) (hd : Nat.blt d c.n = true) (ht : c.P.underlying t = some .string)
    (hx : ev fr x = some (str s)) (hl : ev fr lo = some (.int kd z)) (hlz : z = (l : Int)) (hh : ev fr hi = some (.int kd' z')) (hhz : z' = (h : Int)) (hle : l ≤ h) (hle' : h ≤ s.length)
    (k : HL c ops Q rest ((d, str ((s.drop l).take (h - l))) :: fr) hp L) : HL c ops Q (⟨some d, .slice t x (some lo) (some hi) none, ty, pos, af, none⟩ :: rest) fr hp L :=
  G3 _ rfl rfl hd (fun a w ha _ => by
    have e1 : (ByteArray.mk s.toArray).size = s.length := rfl; simp only [execOp, ha.ev hx, Option.map_some, Option.map_none, ha.ev hl, ha.ev hh, Sem.run_bind, Instr.sliceAt, run_underlying ht]; simp only [Result.andThen_ok]
    simp [Instr.slice, Instr.sliceBounds, run_underlying ht, str, e1, cR hlz hle, cR hhz hle', xP]) k
end
abbrev asO (g : Nat) (l : Str) : Nat × Obj := (g, Obj.cells (asV l).toArray N1 (0, 0))
theorem idx_run (s : Str) (c : UInt8) (w : World) : (callFunc 91 [str s, Value.int .u8 (c.toNat : Int)].toArray).run prog w = .ok (.value (int (Lib.indexByte s c))) w := by
  show (callFunc 91 #[str s, Value.int .u8 (c.toNat : Int)]).run prog w = _; rw [run_callFunc_extern func91 p9 p9 p9 (e := Extern.BytealgIndexByte.indexByte) p9]; have h := Lib.run_indexByteString (P := prog) ⟨s.toArray⟩ (c.toNat : Int) w; have e : ((c.toNat : Int).toNat).toUInt8 = c := by simp
  rw [e] at h; show Result.andThen (Sem.run prog (Extern.BytealgIndexByte.indexByte #[.string ⟨s.toArray⟩, .int .u8 (c.toNat : Int)]) w) _ = _; rw [h]
  rfl
instance (s : ByteArray) (c : Value) : QC (Extern.BytealgIndexByte.indexByte #[.string s, c]) := ⟨by unfold Extern.BytealgIndexByte.indexByte Extern.Bytes.bytesOf Extern.Bytes.asByte; exact m8⟩
theorem wx3 (s : Str) (c : UInt8) (w : World) : ∀ e ∈ (callFunc 91 [str s, Value.int .u8 (c.toNat : Int)].toArray).events prog w #[], Go.W.Calm e :=
  iz7 func91 p9 p9 p9 (e := Extern.BytealgIndexByte.indexByte) p9 _ (show Quiet (Extern.BytealgIndexByte.indexByte #[.string ⟨s.toArray⟩, .int .u8 (c.toNat : Int)]) from QC.out) w
theorem R1 (s : Str) (c : UInt8) : Meets prog M6 [str s, .int .u8 c.toNat] { val := fun _ : Unit => int (Lib.indexByte s c) } := by
 refine j3 cN rfl t8 fun w0 => ?_; refine d9 (c7 rfl (k6 (b8 rfl (b8 rfl ?_)))); refine mx7 rfl rfl (idx_run s c) (wx3 s c) ?_; refine c7 rfl (d8 (k5 ?_)); exact ret1 () rfl rfl rfl tK (.refl _) tK
theorem sB (s : Str) (c : UInt8) : Meets prog bC [str s, .int .u8 c.toNat] { val := fun _ : Unit => int (Lib.indexByte s c) } := by
 refine j3 uP rfl t8 fun w0 => ?_; refine d9 (c7 rfl (k6 (b8 rfl (b8 rfl ?_)))); refine j5 R5 rfl rfl (R1 s c) p6 tK fun _ _ => ?_; refine c7 rfl (d8 (k5 ?_)); exact ret1 () rfl rfl rfl tK (.refl _) tK
theorem gU (s : Str) (b : UInt8) : Meets prog Q0 [str s, str [b]] { val := fun _ : Unit => int (Lib.indexByte s b) } := by
 refine j3 iB rfl t8 fun w0 => ?_; refine d9 (c7 rfl (k6 (b8 rfl ?_))); refine C7 rfl l5 rfl ?_; refine c7 rfl (d8 (i7 (j8 (d9 (b8 rfl (G2 rfl rfl rfl (b8 rfl ?_))))))); refine t7 rfl rfl ?_ ?_
 ·intro hg1; refine l9 hg1 (b8 rfl (l9 hg1 (b8 rfl (l9 hg1 (Z0 rfl rfl rfl ?_))))); refine p_f rfl rfl (bf1 hg1) rfl ?_; refine c7 rfl (d8 ?_); refine m6 rfl (fun hb1 => ?_) (fun hb1 => ?_)
  ·have hb2 : [b] = s := by simpa using hb1
   refine d9 (c7 rfl (d8 (k5 (G6 ?_)))); exact ret1 () rfl (by subst hb2; simp [Lib.indexByte, lk]) rfl tK (.refl _) tK
  refine d9 (b8 rfl (G2 rfl rfl rfl (c7 rfl (d8 ?_)))); refine c_t rfl lx1 ?_; refine d9 (b8 rfl (b8 rfl ?_)); refine E5 0 rfl l5 rfl rfl rfl rfl (j5 R5 rfl rfl (R1 s b) p6 tK fun _ _ => ?_); refine c7 rfl (d8 (k5 (G6 ?_))); exact ret1 () rfl rfl rfl tK (.refl _) tK
 intro hg1; have hg1' := hg1; try simp at hg1'
theorem W8 (g : Nat) (l : Str) (c : UInt8) : Meets prog Q6 [.pointer (d6 g), .int .u8 c.toNat] { LI := [Blk g (asO g l).2], val := fun _ : Unit => .bool (l.any fun x => x == c) } := by
 refine j3 iV rfl t8 fun w0 => ?_; refine d9 (c7 rfl (k6 (b8 rfl (b8 rfl (r9 rfl rfl ?_))))); refine aW c.toNat c.toNat rfl iC iK rfl rfl rfl c.toNat_lt (by simp) ?_; refine c8 (v := .bool (l.any fun x => x == c)) rfl lE rfl (l4 m0 (by rw [List.getElem?_toArray]; exact pq6 l c)) ?_; refine c7 rfl (d8 (k5 ?_)); exact ret1 () rfl rfl rfl tK (.refl _) tK
theorem mI (l : Str) (hl : ∀ c ∈ l, c.toNat < 128) (hn : l.length ≤ 1000000) : Meets prog Y5 [str l] { val := fun _ : Unit => .tuple #[.agg (asV l).toArray, .bool true] } := by
 refine j3 pH rfl t8 fun w0 => d9 (B3 rfl (fun _ => gG _) fun g => qq8 (hp' := [asO g []]) p9 ?_); refine c7 rfl (d8 (i7 (d9 (c7 rfl (d8 (j8 ?_)))))); refine y8 (β := Nat) ⟨fun k => k ≤ l.length, fun k => [(0, str l), (2, .pointer (d6 g)), (4, int k)], fun k => [asO g (l.take k)], fun _ => []⟩ (fun k => l.length - k) 0 (Nat.zero_le _) mC (.refl _) tK fun k hk => ?_; refine i7 (d9 (b8 rfl (b8 rfl ?_))); refine C7 rfl l5 rfl ?_; refine C4 rfl rfl rfl (d8 ?_); refine m6 rfl (fun hb1 => ?_) (fun hb1 => ?_)
 ·have hk1 : k < l.length := by omega
  have hc := hl l[k] (List.getElem_mem hk1); refine j6 (i8 (i7 (j8 (d9 (b8 rfl (b8 rfl ?_)))))); refine E5 k rfl l5 rfl rfl rfl (List.getElem?_eq_getElem hk1) ?_; refine c7 rfl (d8 (i7 (d9 (b8 rfl (aX rfl rfl rfl (d8 ?_)))))); refine m6 rfl (fun hb2 => ?_) (fun hb2 => ?_)
  ·exact absurd hb2 (by simp; omega)
  refine j6 (i8 (j0 (b8 rfl ?_))); refine aW (l[k]).toNat (l[k]).toNat rfl iC iK rfl rfl rfl (l[k]).toNat_lt (by simp) ?_; refine z8 rfl rfl (.refl _) iK (by rw [List.getElem?_toArray]; exact pq6 _ _) (by rfl) ?_; refine qq8 (hp' := [asO g (l.take (k + 1))]) (by show [(g, Obj.cells (((asV (l.take k)).toArray).setIfInBounds (l[k]).toNat (Value.bool true)) N1 (0, 0))] = [(g, Obj.cells (asV (l.take (k + 1))).toArray N1 (0, 0))]; rw [List.take_succ_eq_append_getElem hk1, ← asV_set]; simp) ?_; refine j4 (w9 (i8 (j0 (b8 rfl ?_)))); refine v8 _ rfl rfl rfl rfl r6 ?_; refine c7 rfl (j4 ?_); exact again _ (k + 1) (by show k + 1 ≤ l.length; omega) (C8 (by omega)) mC (.refl _) tK
 have hk1 : k = l.length := by omega
 subst hk1; refine w8 (E4 (w6 (i8 (i7 ?_)))); refine pZ (hp' := [asO g l]) (show List.Perm [asO g (l.take l.length)] [asO g l] by rw [List.take_length]) ?_; refine j0 ?_; refine B8 rfl dO R7 rfl m0 (by simp [pq5]) ?_; refine t6 (cs := (asV l).toArray) rfl rfl (.refl _) R7 (by rfl) (asV_one l) ?_; refine c7 rfl (d8 (k5 ?_)); exact qj0 () rfl rfl rfl dO R7 (by simp [pq5]) m0 rfl rfl tK nK tK
theorem lI (g : Nat) (l s : Str) (hs : s.length ≤ 1000000) : Meets prog W3 [str s, .pointer (d6 g)] { LI := [Blk g (asO g l).2], val := fun _ : Unit => str (trimL (fun c => l.any fun x => x == c) s) } := by
 refine j3 mZ rfl t8 fun w0 => ?_; refine d9 (c7 rfl (d8 (i7 (j8 ?_)))); refine y8 (β := Str) ⟨fun q => q.length ≤ 1000000 ∧ trimL (fun c => l.any fun x => x == c) q = trimL (fun c => l.any fun x => x == c) s, fun q => [(0, str q), (1, .pointer (d6 g))], fun _ => [], fun _ => [Blk g (asO g l).2]⟩ (fun q => q.length) s ⟨hs, rfl⟩ mC (.refl _) mC fun q hq => ?_; obtain ⟨hq1, hq2⟩ := hq; refine i7 (d9 (b8 rfl ?_)); refine C7 rfl l5 rfl ?_; refine P4 rfl rfl rfl (d8 ?_); refine m6 rfl (fun hb1 => ?_) (fun hb1 => ?_)
 ·have hq3 : 0 < q.length := by omega
  refine j6 (i8 (j8 (i7 (d9 (b8 rfl (b8 rfl ?_)))))); refine E5 0 rfl l5 rfl rfl rfl (List.getElem?_eq_getElem hq3) ?_; refine j5 X0 rfl rfl (W8 g l q[0]) p6 mC fun _ _ => ?_; refine K6 rfl rfl (d8 ?_); refine D0 rfl (fun hb2 => ?_) (fun hb2 => ?_)
  ·have hq4 : (fun c => l.any fun x => x == c) q[0] = false := by simpa using hb2
   have hq5 : trimL (fun c => l.any fun x => x == c) q = q := vj1 (p := (fun c => l.any fun x => x == c)) hq3 hq4; refine w8 (aE (mT rfl (aE (w6 (i8 (d9 (b8 rfl (c7 rfl (d8 ?_))))))))); refine k5 ?_; exact ret1 () rfl (by rw [← hq2, hq5]; rfl) rfl tK (.refl _) tK
  have hq4 : (fun c => l.any fun x => x == c) q[0] = true := by simpa using hb2
  refine j6 (i8 (j0 (b8 rfl ?_))); refine dR 1 rfl l5 rfl rfl (by rfl) (by omega) ?_; refine c7 rfl (j4 (w9 ?_)); exact again _ (q.drop 1) ⟨by rw [List.length_drop]; omega, by rw [← hq2]; exact tq8 (p := (fun c => l.any fun x => x == c)) hq3 hq4⟩ (by show (q.drop 1).length < q.length; rw [List.length_drop]; omega) mC (.refl _) mC
 have hq0 : q = [] := List.eq_nil_of_length_eq_zero (by omega); have hq5 : trimL (fun c => l.any fun x => x == c) q = q := by rw [hq0]; rfl
 refine w8 (E4 (w6 (i8 (d9 (b8 rfl (c7 rfl (d8 (k5 ?_)))))))); exact ret1 () rfl (by rw [← hq2, hq5]; rfl) rfl tK (.refl _) tK
theorem kD (g : Nat) (l s : Str) (hs : s.length ≤ 1000000) : Meets prog U7 [str s, .pointer (d6 g)] { LI := [Blk g (asO g l).2], val := fun _ : Unit => str (trimR (fun c => l.any fun x => x == c) s) } := by
 refine j3 lK rfl t8 fun w0 => ?_; refine d9 (c7 rfl (d8 (i7 (j8 ?_)))); refine y8 (β := Str) ⟨fun q => q.length ≤ 1000000 ∧ trimR (fun c => l.any fun x => x == c) q = trimR (fun c => l.any fun x => x == c) s, fun q => [(0, str q), (1, .pointer (d6 g))], fun _ => [], fun _ => [Blk g (asO g l).2]⟩ (fun q => q.length) s ⟨hs, rfl⟩ mC (.refl _) mC fun q hq => ?_; obtain ⟨hq1, hq2⟩ := hq; refine i7 (d9 (b8 rfl ?_)); refine C7 rfl l5 rfl ?_; refine P4 rfl rfl rfl (d8 ?_); refine m6 rfl (fun hb1 => ?_) (fun hb1 => ?_)
 ·have hq3 : 0 < q.length := by omega
  refine j6 (i8 (j8 (i7 (d9 (b8 rfl (b8 rfl (b8 rfl ?_))))))); refine C7 rfl l5 rfl (W9 ((q.length - 1 : Nat) : Int) rfl rfl rfl (by omega) r6 ?_); refine E5 (q.length - 1) rfl l5 rfl rfl rfl (List.getElem?_eq_getElem (by omega)) ?_; refine j5 X0 rfl rfl (W8 g l (q[q.length - 1]'(by omega))) p6 mC fun _ _ => ?_; refine K6 rfl rfl (d8 ?_); refine D0 rfl (fun hb2 => ?_) (fun hb2 => ?_)
  ·have hq4 : (fun c => l.any fun x => x == c) (q[q.length - 1]'(by omega)) = false := by simpa using hb2
   have hq5 : trimR (fun c => l.any fun x => x == c) q = q := uz9 (p := (fun c => l.any fun x => x == c)) hq3 hq4; refine w8 (aE (mT rfl (aE (w6 (i8 (d9 (b8 rfl (c7 rfl (d8 ?_))))))))); refine k5 ?_; exact ret1 () rfl (by rw [← hq2, hq5]; rfl) rfl tK (.refl _) tK
  have hq4 : (fun c => l.any fun x => x == c) (q[q.length - 1]'(by omega)) = true := by simpa using hb2
  refine j6 (i8 (j0 (b8 rfl (b8 rfl ?_)))); refine C7 rfl l5 rfl (W9 ((q.length - 1 : Nat) : Int) rfl rfl rfl (by omega) r6 (jQ (q.length - 1) rfl l5 rfl rfl rfl (by omega) ?_)); refine c7 rfl (j4 (w9 ?_)); exact again _ (q.take (q.length - 1)) ⟨by rw [List.length_take]; omega, by rw [← hq2]; exact tq7 (p := (fun c => l.any fun x => x == c)) hq3 hq4⟩ (by show (q.take (q.length - 1)).length < q.length; rw [List.length_take]; omega) mC (.refl _) mC
 have hq0 : q = [] := List.eq_nil_of_length_eq_zero (by omega); have hq5 : trimR (fun c => l.any fun x => x == c) q = q := by rw [hq0]; rfl
 refine w8 (E4 (w6 (i8 (d9 (b8 rfl (c7 rfl (d8 (k5 ?_)))))))); exact ret1 () rfl (by rw [← hq2, hq5]; rfl) rfl tK (.refl _) tK
theorem mJ (s : Str) (hs : s.length ≤ 1000000) : Meets prog kG [str s, str D10] { val := fun _ : Unit => str (trimL isDig (trimR isDig s)) } := by
 have hf : (fun c : UInt8 => D10.any fun x => x == c) = isDig := funext any_dig; refine j3 dq3 rfl t8 fun w0 => ?_; refine d9 (c7 rfl (d8 (i7 (d9 (b8 rfl (Z0 rfl rfl rfl (b8 rfl ?_))))))); refine t7 rfl rfl ?_ ?_
 ·intro hg1; refine l9 hg1 (b8 rfl (l9 hg1 (Z0 rfl rfl rfl ?_))); refine p_f rfl rfl (bf1 hg1) rfl (d8 ?_); refine m6 rfl (fun hb1 => ?_) (fun hb1 => ?_)
  ·exact absurd hb1 (by decide)
  refine j6 (i8 (i7 (d9 (b8 rfl ?_)))); refine C7 rfl l5 rfl ?_; refine G2 rfl rfl rfl (b8 rfl ?_); refine t7 rfl rfl ?_ ?_
  ·intro hg2; exact absurd hg2 (by decide)
  intro hg2; refine q7 hg2 (q7 hg2 (q7 hg2 ?_)); refine p_f rfl rfl (bf2 hg2) rfl ?_; refine d8 (c_f rfl rfl (j6 (i8 (i7 (d9 (b8 rfl ?_)))))); refine j5 nB rfl rfl (mI D10 (by decide) (by decide)) p6 tK fun _ _ => ?_; refine b8 rfl (m4 rfl rfl rfl (m4 rfl rfl rfl ?_)); refine B3 rfl (fun _ => gG _) fun g => t6 (cs := (asV D10).toArray) rfl rfl (.refl _) R7 (by rfl) p9 ?_; refine mx6 (c7 rfl (k6 (b8 rfl (d8 ?_)))); refine c_t rfl lx1 ?_; refine d9 (b8 rfl ?_); refine j5 kF rfl rfl (kD g D10 s hs) p6 mC fun _ _ => ?_; refine j5 lL rfl rfl (lI g D10 (trimR (fun c => D10.any fun x => x == c) s) (by have := vj0 (fun c => D10.any fun x => x == c) s; omega)) p6 mC fun _ _ => ?_; refine c7 rfl (d8 (J4 ?_)); exact ret1 () rfl (by rw [hf]; rfl) rfl tK (.refl _) tK
 intro hg1; refine q7 hg1 (q7 hg1 ?_); refine p_t rfl rfl (bt2 hg1) rfl ?_; refine d8 (c_t rfl rfl (d9 (b8 rfl (c7 rfl (d8 (J4 ?_)))))); have hb2 : s = [] := by simpa using hg1
 exact ret1 () rfl (by subst hb2; rfl) rfl tK (.refl _) tK
def digS : Str := [48, 49, 50, 51, 52, 53, 54, 55, 56, 57, 97, 98, 99, 100, 101, 102, 103, 104, 105, 106, 107, 108, 109, 110, 111, 112, 113, 114, 115, 116, 117, 118, 119, 120, 121, 122]
def prsS : Str := [48, 48, 48, 49, 48, 50, 48, 51, 48, 52, 48, 53, 48, 54, 48, 55, 48, 56, 48, 57, 49, 48, 49, 49, 49, 50, 49, 51, 49, 52, 49, 53, 49, 54, 49, 55, 49, 56, 49, 57, 50, 48, 50, 49, 50, 50, 50, 51, 50, 52, 50, 53, 50, 54, 50, 55, 50, 56, 50, 57, 51, 48, 51, 49, 51, 50, 51, 51, 51, 52, 51, 53, 51, 54, 51, 55, 51, 56, 51, 57, 52, 48, 52, 49, 52, 50, 52, 51, 52, 52, 52, 53, 52, 54, 52, 55, 52, 56, 52, 57, 53, 48, 53, 49, 53, 50, 53, 51, 53, 52, 53, 53, 53, 54, 53, 55, 53, 56, 53, 57, 54, 48, 54, 49, 54, 50, 54, 51, 54, 52, 54, 53, 54, 54, 54, 55, 54, 56, 54, 57, 55, 48, 55, 49, 55, 50, 55, 51, 55, 52, 55, 53, 55, 54, 55, 55, 55, 56, 55, 57, 56, 48, 56, 49, 56, 50, 56, 51, 56, 52, 56, 53, 56, 54, 56, 55, 56, 56, 56, 57, 57, 48, 57, 49, 57, 50, 57, 51, 57, 52, 57, 53, 57, 54, 57, 55, 57, 56, 57, 57]
def itoaZ (z : Int) : Str := if z < 10 then (digS.drop z.toNat).take 1 else if z < 100 then (prsS.drop (2 * z.toNat)).take 2 else (digS.drop (z.toNat / 100)).take 1 ++ (prsS.drop (2 * (z.toNat % 100))).take 2
theorem G0 (z : Int) : (itoaZ z).length ≤ 3 := by
  unfold itoaZ
  split
  · simp only [List.length_take]; omega
  split
  · simp only [List.length_take]; omega
  rw [List.length_append]; simp only [List.length_take]; omega
def numV (l : Str) : Int := l.foldl (fun n c => n * 10 + ((c.toNat : Int) - 48)) 0
def numOK (t : Str) : Bool := decide (t.length = 1 ∨ (t.length = 2 ∨ t.length = 3) ∧ ¬ t[0]? = some 48) && t.all isDig
def numS (t : Str) : Option Int := if numOK t then some (numV t) else none
theorem yP {c : UInt8} (h : isDig c = true) : 48 ≤ c.toNat ∧ c.toNat ≤ 57 := by
  unfold isDig at h
  simpa using h
theorem gz2 {l : Str} {k : Nat} (hk : k < l.length) : numV (l.take (k + 1)) = numV (l.take k) * 10 + ((l[k].toNat : Int) - 48) := by
  rw [List.take_succ_eq_append_getElem hk]; unfold numV; rw [List.foldl_append]
  rfl
theorem cz3 {l : Str} (h : l.all isDig = true) (h2 : l.length ≤ 3) : 0 ≤ numV l ∧ numV l ≤ 999 := by
  unfold numV
  match l, h2 with
  | [], _ => simp
  | [a], _ => simp at h; have := yP h; simp; omega
  | [a, b], _ => simp at h; have h1 := yP h.1; have h3 := yP h.2; simp; omega
  | [a, b, c], _ => simp at h; have h1 := yP h.1; have h3 := yP h.2.1; have h4 := yP h.2.2; simp; omega
  | a :: b :: c :: d :: r, h2 => simp at h2
theorem cz2 {l : Str} (h : l.all isDig = true) (h2 : l.length ≤ 3) (k : Nat) : 0 ≤ numV (l.take k) ∧ numV (l.take k) ≤ 999 := by
  refine cz3 ?_ (by rw [List.length_take]; omega); rw [List.all_eq_true] at h ⊢; exact fun x hx => h x (List.mem_of_mem_take hx)
theorem nz1 : (List.range 1000).all (fun n => numOK (itoaZ n) && decide (numV (itoaZ n) = n) && decide (itoaZ n ≠ []) && (itoaZ n).all isDig) = true := p9
theorem wj7 {z : Int} (h0 : 0 ≤ z) (h : z < 1000) : numS (itoaZ z) = some z ∧ itoaZ z ≠ [] ∧ (itoaZ z).all isDig = true := by
  have h1 := List.all_eq_true.1 nz1 z.toNat (List.mem_range.2 (by omega)); simp only [Bool.and_eq_true, decide_eq_true_eq] at h1; have e : ((z.toNat : Nat) : Int) = z := by omega
  rw [e] at h1; obtain ⟨⟨⟨h1, h2⟩, h3⟩, h4⟩ := h1; exact ⟨by rw [numS, if_pos h1, h2], h3, h4⟩
theorem rz0 : (List.range 1000).all (fun n => decide (n < 100) || decide (itoaZ n = [UInt8.ofNat (48 + n / 100), UInt8.ofNat (48 + n / 10 % 10), UInt8.ofNat (48 + n % 10)])) = true := p9
theorem V1 {t : Str} (h : t.length = 0 ∨ 3 < t.length) : numS t = none := by
  unfold numS numOK; rw [if_neg]; rw [Bool.and_eq_true, decide_eq_true_eq]; rintro ⟨h1, _⟩
  omega
theorem lV {t : Str} (h : 1 < t.length) (h2 : ((t[0]'(by omega)).toNat : Int) = 48) : numS t = none := by
  unfold numS numOK; rw [if_neg]; rw [Bool.and_eq_true, decide_eq_true_eq]; rintro ⟨h3 | ⟨_, h3⟩, _⟩
  · omega
  apply h3
  rw [List.getElem?_eq_getElem (by omega)]
  have : t[0]'(by omega) = UInt8.ofNat 48 := by
    have h4 : (t[0]'(by omega)).toNat = 48 := by omega
    rw [← h4]; simp
  rw [this]; rfl
theorem bP {t : Str} (h : ¬ t.all isDig = true) : numS t = none := by
  unfold numS numOK; rw [if_neg]; rw [Bool.and_eq_true]; exact fun h2 => h h2.2
theorem cz1 {t : Str} (h0 : 0 < t.length) (h : t.length ≤ 3) (h1 : 1 < t.length → ¬ ((t[0]).toNat : Int) = 48) (hd : t.all isDig = true) : numS t = some (numV t) := by
  unfold numS numOK; rw [if_pos]; rw [Bool.and_eq_true, decide_eq_true_eq]; refine ⟨?_, hd⟩
  by_cases h2 : t.length = 1
  · exact .inl h2
  refine .inr ⟨by omega, fun h3 => h1 (by omega) ?_⟩; rw [List.getElem?_eq_getElem h0] at h3; have : t[0] = 48 := Option.some.inj h3; rw [this]; rfl
theorem qz5 (t : Str) (hl : 0 < t.length ∧ t.length ≤ 3) (hd : t.all isDig = true) : Meets prog W6 [str t] { val := fun _ : Unit => .tuple #[int (numV t), .nilIface] } := by
 have h0 := yP (List.all_eq_true.1 hd _ (List.getElem_mem hl.1)); refine j3 nV rfl t8 fun w0 => ?_; refine d9 (c7 rfl (c7 rfl (k6 (b8 rfl ?_)))); refine C7 rfl l5 rfl ?_; refine c7 rfl (d8 (i7 (d9 (b8 rfl (E2 rfl rfl rfl rfl rfl rfl (E2 rfl rfl rfl rfl rfl rfl (E2 rfl rfl rfl rfl rfl rfl (M4 rfl rfl rfl rfl rfl rfl (M4 rfl rfl rfl rfl rfl rfl ?_))))))))); refine E2 rfl rfl rfl rfl rfl rfl (p_f rfl rfl rfl rfl (b8 rfl (cL rfl rfl rfl (b8 rfl (cL rfl rfl rfl (b8 rfl (cL rfl rfl rfl (C4 rfl rfl rfl (cL rfl rfl rfl (b8 rfl ?_)))))))))); refine t7 rfl rfl ?_ ?_
 ·intro hg1; have hg1' := hg1; try simp at hg1'
  refine l9 hg1 (b8 rfl (l9 hg1 (C4 rfl rfl rfl (cL rfl rfl rfl ?_)))); refine p_t rfl rfl (bt1 hg1) rfl ?_; refine cL rfl rfl rfl (p_t rfl rfl rfl rfl (p_f rfl rfl rfl rfl (d8 ?_))); refine m6 rfl (fun hb1 => ?_) (fun hb1 => ?_)
  ·have hb1' := hb1; try simp at hb1'
   refine d9 (b8 rfl (c7 rfl (d8 (i7 (d9 (b8 rfl ?_)))))); refine E5 0 rfl l5 rfl rfl rfl (List.getElem?_eq_getElem hl.1) ?_; refine G2 rfl rfl rfl (b8 rfl ?_); refine t7 rfl rfl ?_ ?_
   ·intro hg2; refine l9 hg2 (b8 rfl (l9 hg2 ?_)); refine E5 0 rfl l5 rfl rfl rfl (List.getElem?_eq_getElem hl.1) ?_; refine l9 hg2 (G2 rfl rfl rfl ?_); refine p_f rfl rfl (bf1 hg2) rfl (d8 ?_); refine m6 rfl (fun hb2 => ?_) (fun hb2 => ?_)
    ·omega
    refine j6 (i8 (d9 (c7 rfl (d8 (i7 (d9 (b8 rfl ?_))))))); refine r_bytes rfl l5 K7 aM rfl fun gb cap => l7 rfl K7 rfl ?_; refine b8 rfl (d8 (j8 ?_)); refine y8 (β := Nat) ⟨fun k => k ≤ t.length, fun k => [(0, str t), (5, str t), (6, int (numV (t.take k))), (47, .slice (d6 gb) t.length cap), (48, int t.length), (49, int k)], fun _ => [], fun _ => [Row (d6 gb) (rows t)]⟩ (fun k => t.length - k) 0 (Nat.zero_le _) mC nK mC fun k hk => ?_; have hb := cz2 hd hl.2 k; refine d9 (C4 rfl rfl rfl (d8 (i7 ?_))); refine m6 rfl (fun hb4 => ?_) (fun hb4 => ?_)
    ·have hk1 : k < t.length := by omega
     have hdk := yP (List.all_eq_true.1 hd _ (List.getElem_mem hk1)); refine j6 (i8 (i7 (j8 (d9 ?_)))); refine r8 (α := UInt8) _ _ rfl K7 dZ rfl rfl rfl mB rfl (by omega) (by decide) ?_; refine c8 rfl rj7 rfl (k9 m0 (j9 hk1 (by rw [D7 hk1]; rfl))) ?_; refine c7 rfl (k6 (b8 rfl ?_)); refine q8 (.int .u8 ((t[k].toNat : Int) - 48)) rfl rfl rfl (fun _ => rfl) (fun w => by show Result.ok (Value.int .u8 (IntKind.u8.wrap ((t[k].toNat : Int) - 48))) w = _; rw [IntWalk.u8_in _ (by omega)]) ?_; refine c7 rfl (d8 (i7 (d9 (b8 rfl (P4 rfl rfl rfl (d8 ?_)))))); refine m6 rfl (fun hb5 => ?_) (fun hb5 => ?_)
     ·omega
     refine j6 (i8 (j0 (b8 rfl ?_))); refine cx2 (numV (t.take k) * 10) rfl rfl rfl rfl r6 (b8 rfl (aH ((t[k].toNat : Int) - 48) rfl aM X8 rfl (IntWalk.i64_in _ (by omega)) ?_)); refine v8 (numV (t.take (k + 1))) rfl rfl rfl (gz2 hk1).symm (by have := cz2 hd hl.2 (k + 1); unfold I64; omega) ?_; refine c7 rfl (j4 (w9 (i8 (j0 ?_)))); refine v8 _ rfl rfl rfl rfl r6 ?_; refine b8 rfl (j4 ?_); exact again _ (k + 1) (by show k + 1 ≤ t.length; omega) (C8 (by omega)) mC nK mC
    have hk1 : k = t.length := by omega
    subst hk1; refine w8 (E4 (w6 (i8 (i7 (d9 (b8 rfl ?_)))))); refine E5 0 rfl l5 rfl rfl rfl (List.getElem?_eq_getElem hl.1) ?_; refine G2 rfl rfl rfl (d8 ?_); refine m6 rfl (fun hb6 => ?_) (fun hb6 => ?_)
    ·omega
    refine j6 (i8 (d9 (b8 rfl (c7 rfl (c7 rfl (d8 (J4 ?_))))))); exact ret2 () rfl rfl rfl (by rw [List.take_length]) rfl tK nK tK
   intro hg2; have hg2' := hg2; try simp at hg2'
   all_goals omega
  omega
 intro hg1; exact absurd hg1 (by rw [decide_eq_true (show (0 : Int) < (t.length : Int) by omega)]; decide)
theorem lx4 (t : Str) (hl : 0 < t.length ∧ t.length ≤ 3) (hd : t.all isDig = true) : Meets prog kI [str t] { val := fun _ : Unit => .tuple #[int (numV t), .nilIface] } := by
 refine j3 dq5 rfl t8 fun w0 => ?_; refine d9 (c7 rfl (c7 rfl (k6 (b8 rfl ?_)))); refine j5 lP rfl rfl (qz5 t hl hd) p6 tK fun _ _ => ?_; refine b8 rfl (m4 rfl rfl rfl (m4 rfl rfl rfl (c7 rfl (c7 rfl (d8 (i7 (d9 (b8 rfl ?_)))))))); refine q8 (.bool false) rfl rfl rfl (fun _ => rfl) (fun _ => rfl) (d8 (c_f rfl lx3 ?_)); refine j6 (i8 (d9 (b8 rfl (c7 rfl (c7 rfl (d8 (k5 ?_))))))); exact ret2 () rfl rfl rfl rfl rfl tK nK tK
abbrev oddV : Value := .iface ix2 (.agg #[])
theorem D2 (t : Str) (ht : t.length ≤ 1000000) : MeetsE prog nZ [str t] { inv := fun z : Int => numS t = some z, val := fun z => int z } { inv := fun _ : Unit => numS t = none, val := fun _ => oddV } := by
 refine uF ij1 rfl t8 fun w0 => ?_; refine d9 (c7 rfl (d8 (i7 (d9 (b8 rfl ?_))))); refine C7 rfl l5 rfl ?_; refine G2 rfl rfl rfl (b8 rfl ?_); refine t7 rfl rfl ?_ ?_
 ·intro hg1; have hg1' := hg1; try simp at hg1'
  refine l9 hg1 (b8 rfl (l9 hg1 ?_)); refine C7 rfl l5 rfl ?_; refine l9 hg1 (P4 rfl rfl rfl ?_); refine p_f rfl rfl (bf1 hg1) rfl (b8 rfl ?_); refine t7 rfl rfl ?_ ?_
  ·intro hg2; have hg2' := hg2; try simp at hg2'
   refine l9 hg2 (b8 rfl (l9 hg2 ?_)); refine C7 rfl l5 rfl ?_; refine l9 hg2 (P4 rfl rfl rfl (l9 hg2 (b8 rfl ?_))); refine t7 rfl rfl ?_ ?_
   ·intro hg3; have hg3' := hg3; try simp at hg3'
    refine l9 hg3 (b8 rfl (l9 hg3 ?_)); refine E5 0 rfl l5 rfl rfl rfl (List.getElem?_eq_getElem (by first | omega | exact List.length_pos_iff.2 (by assumption))) ?_; refine l9 hg3 (G2 rfl rfl rfl (l9 hg2 ?_)); refine p_t rfl rfl (bt1 hg3) rfl (p_f rfl rfl (bf1 hg2) rfl (b8 rfl ?_)); refine t7 rfl rfl ?_ ?_
    ·intro hg4; have hg4' := hg4; try simp at hg4'
     refine l9 hg4 (b8 rfl (l9 hg4 ?_)); refine j5 nC rfl rfl (mJ t ht) (.refl _) tK fun _ _ => ?_; refine l9 hg4 (qT rfl rfl rfl ?_); refine p_f rfl rfl (bf1 hg4) rfl (d8 ?_); refine m6 rfl (fun hb1 => ?_) (fun hb1 => ?_)
     ·refine j0 (v9 _ rfl rfl (fun _ => I8 ..) (jR rfl ⟨_, underlying130, rfl⟩ rfl (gO rfl (fun _ => rfl) ?_)))
      repeat (first | refine K1 ?_ | refine M8 ?_)
      exact S1 () rfl rfl (by first | exact V1 (by omega) | exact V1 (.inl (by rw [show t = [] by assumption]; rfl)) | exact lV (by omega) (by assumption) | exact bP (fun h => by have h9 := mD.2 h; simp_all)) (.refl _) tK
     have hb1' := hb1; try simp at hb1'
     have hd : t.all isDig = true := mD.1 (by simpa using hb1); refine j6 (i8 (d9 (b8 rfl ?_))); refine j5 nD rfl rfl (lx4 t ⟨(by first | omega | exact List.length_pos_iff.2 (by assumption)), by omega⟩ hd) (.refl _) tK fun _ _ => ?_; refine b8 rfl (m4 rfl rfl rfl (m4 rfl rfl rfl (c7 rfl (c7 rfl (k6 (b8 rfl (c7 rfl (j4 ?_)))))))); refine i8 (k5 (hq_E ?_)); exact ret1 (numV t) rfl rfl rfl (cz1 (by first | omega | exact List.length_pos_iff.2 (by assumption)) (by omega) (by first | (intro _; assumption) | (intro h; exact absurd h (by omega))) hd) (.refl _) tK
    intro hg4; have hg4' := hg4; try simp at hg4'
    refine q7 hg4 (q7 hg4 (q7 hg4 ?_)); refine p_t rfl rfl (bt2 hg4) rfl ?_; refine d8 (c_t rfl rfl (j0 ?_)); refine v9 _ rfl rfl (fun _ => I8 ..) (jR rfl ⟨_, underlying130, rfl⟩ rfl (gO rfl (fun _ => rfl) ?_))
    repeat (first | refine K1 ?_ | refine M8 ?_)
    exact S1 () rfl rfl (by first | exact V1 (by omega) | exact V1 (.inl (by rw [show t = [] by assumption]; rfl)) | exact lV (by omega) (by assumption) | exact bP (fun h => by have h9 := mD.2 h; simp_all)) (.refl _) tK
   intro hg3; have hg3' := hg3; try simp at hg3'
   refine q7 hg3 (q7 hg3 (q7 hg3 (l9 hg2 ?_))); refine p_f rfl rfl (bf2 hg3) rfl (p_f rfl rfl (bf1 hg2) rfl ?_); refine b8 rfl (cL rfl rfl rfl (b8 rfl (cL rfl rfl rfl ?_))); refine j5 nC rfl rfl (mJ t ht) (.refl _) tK fun _ _ => ?_; refine cL rfl rfl rfl (qT rfl rfl rfl (p_f rfl rfl rfl rfl (d8 ?_))); refine m6 rfl (fun hb1 => ?_) (fun hb1 => ?_)
   ·refine j0 (v9 _ rfl rfl (fun _ => I8 ..) (jR rfl ⟨_, underlying130, rfl⟩ rfl (gO rfl (fun _ => rfl) ?_)))
    repeat (first | refine K1 ?_ | refine M8 ?_)
    exact S1 () rfl rfl (by first | exact V1 (by omega) | exact V1 (.inl (by rw [show t = [] by assumption]; rfl)) | exact lV (by omega) (by assumption) | exact bP (fun h => by have h9 := mD.2 h; simp_all)) (.refl _) tK
   have hb1' := hb1; try simp at hb1'
   have hd : t.all isDig = true := mD.1 (by simpa using hb1); refine j6 (i8 (d9 (b8 rfl ?_))); refine j5 nD rfl rfl (lx4 t ⟨(by first | omega | exact List.length_pos_iff.2 (by assumption)), by omega⟩ hd) (.refl _) tK fun _ _ => ?_; refine b8 rfl (m4 rfl rfl rfl (m4 rfl rfl rfl (c7 rfl (c7 rfl (k6 (b8 rfl (c7 rfl (j4 ?_)))))))); refine i8 (k5 (hq_E ?_)); exact ret1 (numV t) rfl rfl rfl (cz1 (by first | omega | exact List.length_pos_iff.2 (by assumption)) (by omega) (by first | (intro _; assumption) | (intro h; exact absurd h (by omega))) hd) (.refl _) tK
  intro hg2; have hg2' := hg2; try simp at hg2'
  refine q7 hg2 (q7 hg2 (q7 hg2 (q7 hg2 (M4 rfl rfl rfl rfl rfl rfl (M4 rfl rfl rfl rfl rfl rfl (M4 rfl rfl rfl rfl rfl rfl (q7 hg2 ?_))))))); refine p_t rfl rfl (bt2 hg2) rfl ?_; refine b8 rfl (E2 rfl rfl rfl rfl rfl rfl (E2 rfl rfl rfl rfl rfl rfl (E2 rfl rfl rfl rfl rfl rfl (p_t rfl rfl rfl rfl (d8 (c_t rfl rfl (j0 ?_))))))); refine v9 _ rfl rfl (fun _ => I8 ..) (jR rfl ⟨_, underlying130, rfl⟩ rfl (gO rfl (fun _ => rfl) ?_))
  repeat (first | refine K1 ?_ | refine M8 ?_)
  exact S1 () rfl rfl (by first | exact V1 (by omega) | exact V1 (.inl (by rw [show t = [] by assumption]; rfl)) | exact lV (by omega) (by assumption) | exact bP (fun h => by have h9 := mD.2 h; simp_all)) (.refl _) tK
 intro hg1; have hg1' := hg1; try simp at hg1'
 refine q7 hg1 (q7 hg1 (q7 hg1 ?_)); refine p_t rfl rfl (bt2 hg1) rfl ?_; refine b8 rfl (E2 rfl rfl rfl rfl rfl rfl (E2 rfl rfl rfl rfl rfl rfl (E2 rfl rfl rfl rfl rfl rfl (E2 rfl rfl rfl rfl rfl rfl (M4 rfl rfl rfl rfl rfl rfl (M4 rfl rfl rfl rfl rfl rfl (M4 rfl rfl rfl rfl rfl rfl (E2 rfl rfl rfl rfl rfl rfl (p_t rfl rfl rfl rfl (b8 rfl (E2 rfl rfl rfl rfl rfl rfl ?_))))))))))); refine E2 rfl rfl rfl rfl rfl rfl (E2 rfl rfl rfl rfl rfl rfl (p_t rfl rfl rfl rfl (d8 (c_t rfl rfl (j0 ?_))))); refine v9 _ rfl rfl (fun _ => I8 ..) (jR rfl ⟨_, underlying130, rfl⟩ rfl (gO rfl (fun _ => rfl) ?_))
 repeat (first | refine K1 ?_ | refine M8 ?_)
 exact S1 () rfl rfl (by first | exact V1 (by omega) | exact V1 (.inl (by rw [show t = [] by assumption]; rfl)) | exact lV (by omega) (by assumption) | exact bP (fun h => by have h9 := mD.2 h; simp_all)) (.refl _) tK
section
variable {c : Cx} {Q : Exit → Act → World → Prop} {fr : Fr} {hp : Hp} {L : List Fact} {ops : Array Oper} {rest : List Oper} {d : Tmp} {ty : TypeId} {pos : String} {af : Array Edge}
theorem kx4 {t e : TypeId} {x lo hi : Operand} {g n : Nat} {kd kd' : IntKind} {z z' : Int} (l h : Nat) (hd : Nat.blt d c.n = true) (ht : c.P.underlying t = some (.array n e)) (hz : Sz c.P e 1)
    (hx : ev fr x = some (.pointer (d6 g))) (hl : ev fr lo = some (.int kd z)) (hlz : z = (l : Int)) (hh : ev fr hi = some (.int kd' z')) (hhz : z' = (h : Int)) (hle : l ≤ h) (hle' : h ≤ n) (hln : l < n)
    (k : HL c ops Q rest ((d, .slice (some ⟨g, l, none⟩) (h - l) (n - l)) :: fr) hp L) : HL c ops Q (⟨some d, .slice t x (some lo) (some hi) none, ty, pos, af, none⟩ :: rest) fr hp L :=
  G3 _ rfl rfl hd (fun a w ha _ => by
    simp only [execOp, ha.ev hx, Option.map_some, Option.map_none, ha.ev hl, ha.ev hh, Sem.run_bind]
    simp [Instr.sliceAt, Instr.sliceBounds, run_underlying ht, cR hlz hle, cR hhz hle', U4 hz, Instr.sureAddr, Addr.add, show ¬ n = l by omega]
    by_cases h0 : l = 0 <;> simp [h0]) k
theorem vx7 {t yt : TypeId} {x y : Operand} {ky : IntKind} {z : Int} {a : Nat} (n : Nat) (hd : Nat.blt d c.n = true) (hx : ev fr x = some (.int .u64 (a : Int))) (hy : ev fr y = some (.int ky z)) (hz : z = (n : Int)) (hn : n < 64) (k : HL c ops Q rest ((d, .int .u64 ((a / 2 ^ n : Nat) : Int)) :: fr) hp L) :
    HL c ops Q (⟨some d, .binOp .shr t x y yt, ty, pos, af, none⟩ :: rest) fr hp L :=
  q8 _ hd hx hy (fun _ => rfl) (fun w => by
    subst hz; show (Op.shift .shr .u64 (a : Int) ky (n : Int)).run c.P w = _; have hm : min ((n : Int).toNat) (IntKind.u64.bits) = n := by show min ((n : Int).toNat) 64 = n; omega
    simp only [Op.shift]; rw [if_neg (by omega), hm, Int.fdiv_eq_ediv_of_nonneg _ (by exact_mod_cast Nat.zero_le (2 ^ n))]
    rfl) k
end
def powL : List Value := [.int .u64 1, .int .u64 10, .int .u64 100, .int .u64 1000]
abbrev TAB : Fact := Row (d6 0) powL
def lenAt (n : Nat) : UInt8 := if n = 0 then 0 else if n < 2 then 1 else if n < 4 then 2 else if n < 8 then 3 else if n < 16 then 4 else if n < 32 then 5 else if n < 64 then 6 else if n < 128 then 7 else 8
def lenS : Str := (List.range 256).map lenAt
theorem sx9 {n : Nat} (h : n < 256) : lenS[n]? = some (lenAt n) := by
  unfold lenS; rw [List.getElem?_map, List.getElem?_range h]
  rfl
def bitsZ (n : Nat) : Int := if n < 128 then 7 else if n < 256 then 8 else if n < 512 then 9 else 10
theorem bits_lo {n : Nat} (h : 100 ≤ n ∧ n < 256) : IntKind.i64.wrap ((lenAt n).toNat : Int) = bitsZ n := by
  have hall : (List.range 256).all (fun n => decide (n < 100) || decide (IntKind.i64.wrap ((lenAt n).toNat : Int) = bitsZ n)) = true := p9
  have := List.all_eq_true.1 hall n (List.mem_range.2 h.2); simp only [Bool.or_eq_true, decide_eq_true_eq] at this; exact this.resolve_left (by omega)
theorem bits_hi {n : Nat} (h : 256 ≤ n ∧ n < 1000) : IntKind.i64.wrap ((lenAt (n / 2 ^ 8)).toNat : Int) = bitsZ n - 8 := by
  have hall : (List.range 1000).all (fun n => decide (n < 256) || decide (IntKind.i64.wrap ((lenAt (n / 2 ^ 8)).toNat : Int) = bitsZ n - 8)) = true := p9
  have := List.all_eq_true.1 hall n (List.mem_range.2 h.2); simp only [Bool.or_eq_true, decide_eq_true_eq] at this; exact this.resolve_left (by omega)
theorem tj7 (n : Nat) : 7 ≤ bitsZ n ∧ bitsZ n ≤ 10 := by unfold bitsZ; repeat' split <;> omega
theorem wr8 {n : Nat} (h : n < 256) : IntKind.u8.wrap (n : Int) = n := IntWalk.u8_in _ (by omega)
def smS : Str := prsS
theorem vz9 {m : Nat} (h : m < 100) : prsS[2 * m]? = some (UInt8.ofNat (48 + m / 10)) := by
  have hall : (List.range 100).all (fun m => decide (prsS[2 * m]? = some (UInt8.ofNat (48 + m / 10)))) = true := p9
  simpa using List.all_eq_true.1 hall m (List.mem_range.2 h)
theorem prs_odd {m : Nat} (h : m < 100) : prsS[2 * m + 1]? = some (UInt8.ofNat (48 + m % 10)) := by
  have hall : (List.range 100).all (fun m => decide (prsS[2 * m + 1]? = some (UInt8.ofNat (48 + m % 10)))) = true := p9
  simpa using List.all_eq_true.1 hall m (List.mem_range.2 h)
theorem dig_c (n : Nat) : ((UInt8.ofNat (48 + n % 100 % 10)).toNat : Int) = ((48 + n % 10 : Nat) : Int) := by rw [UInt8.toNat_ofNat']; omega
theorem dig_b (n : Nat) : ((UInt8.ofNat (48 + n % 100 / 10)).toNat : Int) = ((48 + n / 10 % 10 : Nat) : Int) := by rw [UInt8.toNat_ofNat']; omega
theorem wq3 (n : Nat) (hn : 100 ≤ n ∧ n < 256) : Meets prog S9 [.int .u64 (n : Int)] { val := fun _ : Unit => int (bitsZ n) } := by
 refine j3 jU rfl t8 fun w0 => ?_; refine d9 (c7 rfl (d8 (i7 (d9 (b8 rfl (aX rfl rfl rfl (d8 ?_))))))); refine m6 rfl (fun hb1 => ?_) (fun hb1 => ?_)
 ·exact absurd hb1 (by omega)
 refine j6 (i8 (i7 (d9 (b8 rfl (aX rfl rfl rfl (d8 ?_)))))); refine m6 rfl (fun hb2 => ?_) (fun hb2 => ?_)
 ·exact absurd hb2 (by omega)
 refine j6 (i8 (i7 (d9 (b8 rfl (aX rfl rfl rfl (d8 ?_)))))); refine m6 rfl (fun hb3 => ?_) (fun hb3 => ?_)
 ·exact absurd hb3 (by omega)
 refine j6 (i8 (d9 (b8 rfl (b8 rfl ?_)))); refine aH (n : Int) rfl mE aM rfl (wr8 (by omega)) (E5 (s := lenS) n rfl l5 p9 rfl rfl (sx9 (by omega)) (aH (bitsZ n) rfl aM X8 rfl (bits_lo hn) ?_)); refine v8 (bitsZ n) rfl rfl rfl (by omega) (by have := tj7 n; unfold I64; omega) ?_; refine c7 rfl (d8 (k5 ?_)); exact ret1 () rfl rfl rfl tK nK tK
theorem wq4 (n : Nat) (hn : 256 ≤ n ∧ n < 1000) : Meets prog S9 [.int .u64 (n : Int)] { val := fun _ : Unit => int (bitsZ n) } := by
 refine j3 jU rfl t8 fun w0 => ?_; refine d9 (c7 rfl (d8 (i7 (d9 (b8 rfl (aX rfl rfl rfl (d8 ?_))))))); refine m6 rfl (fun hb1 => ?_) (fun hb1 => ?_)
 ·exact absurd hb1 (by omega)
 refine j6 (i8 (i7 (d9 (b8 rfl (aX rfl rfl rfl (d8 ?_)))))); refine m6 rfl (fun hb2 => ?_) (fun hb2 => ?_)
 ·exact absurd hb2 (by omega)
 refine j6 (i8 (i7 (d9 (b8 rfl (aX rfl rfl rfl (d8 ?_)))))); refine m6 rfl (fun hb3 => ?_) (fun hb3 => ?_)
 ·refine d9 (b8 rfl ?_); refine vx7 8 rfl rfl rfl rfl (by decide) ?_; refine c7 rfl (d8 (j0 (b8 rfl ?_))); refine v8 8 rfl rfl rfl (by omega) r6 ?_; refine c7 rfl (k6 (b8 rfl (b8 rfl ?_))); refine aH ((n / 2 ^ 8 : Nat) : Int) rfl mE aM rfl (wr8 (by omega)) (E5 (s := lenS) (n / 2 ^ 8) rfl l5 p9 rfl rfl (sx9 (by omega)) (aH (bitsZ n - 8) rfl aM X8 rfl (bits_hi hn) ?_)); refine v8 (bitsZ n) rfl rfl rfl (by omega) (by have := tj7 n; unfold I64; omega) ?_; refine c7 rfl (d8 (k5 ?_)); exact ret1 () rfl rfl rfl tK nK tK
 exact absurd (show (256 : Int) ≤ (n : Int) by omega) hb3
theorem log10_7 : Meets prog D6 [int 7] { val := fun _ : Unit => int 2 } := by
 refine j3 J7 rfl t8 fun w0 => ?_; refine d9 (c7 rfl (k6 (b8 rfl ?_))); refine q8 (int 552391) rfl rfl rfl (fun _ => rfl) (fun _ => rfl) (q8 (int 2) rfl rfl rfl (fun _ => rfl) (fun _ => rfl) ?_); refine c7 rfl (d8 (k5 ?_)); exact ret1 () rfl rfl rfl tK nK tK
theorem log10_8 : Meets prog D6 [int 8] { val := fun _ : Unit => int 2 } := by
 refine j3 J7 rfl t8 fun w0 => ?_; refine d9 (c7 rfl (k6 (b8 rfl ?_))); refine q8 (int 631304) rfl rfl rfl (fun _ => rfl) (fun _ => rfl) (q8 (int 2) rfl rfl rfl (fun _ => rfl) (fun _ => rfl) ?_); refine c7 rfl (d8 (k5 ?_)); exact ret1 () rfl rfl rfl tK nK tK
theorem log10_9 : Meets prog D6 [int 9] { val := fun _ : Unit => int 2 } := by
 refine j3 J7 rfl t8 fun w0 => ?_; refine d9 (c7 rfl (k6 (b8 rfl ?_))); refine q8 (int 710217) rfl rfl rfl (fun _ => rfl) (fun _ => rfl) (q8 (int 2) rfl rfl rfl (fun _ => rfl) (fun _ => rfl) ?_); refine c7 rfl (d8 (k5 ?_)); exact ret1 () rfl rfl rfl tK nK tK
theorem wq1 : Meets prog D6 [int 10] { val := fun _ : Unit => int 3 } := by
 refine j3 J7 rfl t8 fun w0 => ?_; refine d9 (c7 rfl (k6 (b8 rfl ?_))); refine q8 (int 789130) rfl rfl rfl (fun _ => rfl) (fun _ => rfl) (q8 (int 3) rfl rfl rfl (fun _ => rfl) (fun _ => rfl) ?_); refine c7 rfl (d8 (k5 ?_)); exact ret1 () rfl rfl rfl tK nK tK
theorem ix7 (n : Nat) (hn : 100 ≤ n ∧ n < 1000) : Meets prog D6 [int (bitsZ n)] { val := fun _ : Unit => int (if n < 512 then 2 else 3) } := by
  unfold bitsZ
  by_cases h1 : n < 128
  · rw [if_pos h1, if_pos (by omega)]; exact log10_7
  by_cases h2 : n < 256
  · rw [if_neg h1, if_pos h2, if_pos (by omega)]; exact log10_8
  by_cases h3 : n < 512
  · rw [if_neg h1, if_neg h2, if_pos h3, if_pos h3]; exact log10_9
  rw [if_neg h1, if_neg h2, if_neg h3, if_neg h3]; exact wq1
theorem ix8 (n : Nat) (hn : 100 ≤ n ∧ n < 1000) : Meets prog S9 [.int .u64 (n : Int)] { val := fun _ : Unit => int (bitsZ n) } := by
  by_cases h : n < 256
  · exact wq3 n ⟨hn.1, h⟩
  exact wq4 n ⟨by omega, hn.2⟩
theorem sj7 : Meets prog L3 [.bool true] { val := fun _ : Unit => int 1 } := by
 refine j3 X2 rfl t8 fun w0 => ?_; refine d9 (c7 rfl (d8 (i7 (d9 (b8 rfl (d8 ?_)))))); refine c_t rfl lx1 ?_; refine d9 (c7 rfl (d8 (J4 ?_))); exact ret1 () rfl rfl rfl tK nK tK
theorem qz4 : Meets prog L3 [.bool false] { val := fun _ : Unit => int 0 } := by
 refine j3 X2 rfl t8 fun w0 => ?_; refine d9 (c7 rfl (d8 (i7 (d9 (b8 rfl (d8 ?_)))))); refine c_f rfl lx3 ?_; refine j6 (i8 (d9 (c7 rfl (d8 (k5 ?_))))); exact ret1 () rfl rfl rfl tK nK tK
theorem nz3 (n : Nat) (hn : 100 ≤ n ∧ n < 1000) (h : n < 512) : Meets prog I1 [.int .u64 (n : Int)] { LI := [TAB], val := fun _ : Unit => int 3 } := by
 have hl := ix7 n hn; rw [if_pos h] at hl; refine j3 X1 rfl t8 fun w0 => ?_; refine d9 (c7 rfl (k6 (b8 rfl ?_))); refine j5 iE rfl rfl (ix8 n hn) (.refl _) tK fun _ _ => j5 V7 rfl rfl (hl) (.refl _) tK fun _ _ => ?_; refine c7 rfl (k6 (b8 rfl (b8 rfl (b8 rfl ?_)))); refine aW 2 2 rfl underlying187 lS rfl rfl rfl (by decide) rfl (c8 (v := .int .u64 100) rfl P7 rfl (k9 (j := 2) mB rfl) (aX rfl rfl rfl ?_)); rw [show decide ((100 : Int) ≤ (n : Int)) = true from decide_eq_true (by omega)]; refine j5 V8 rfl rfl (sj7) (.refl _) tK fun _ _ => v8 3 rfl rfl rfl rfl r6 ?_; refine c7 rfl (d8 (k5 ?_)); exact ret1 () rfl rfl rfl tK nK tK
theorem nz4 (n : Nat) (hn : 100 ≤ n ∧ n < 1000) (h : ¬ n < 512) : Meets prog I1 [.int .u64 (n : Int)] { LI := [TAB], val := fun _ : Unit => int 3 } := by
 have hl := ix7 n hn; rw [if_neg h] at hl; refine j3 X1 rfl t8 fun w0 => ?_; refine d9 (c7 rfl (k6 (b8 rfl ?_))); refine j5 iE rfl rfl (ix8 n hn) (.refl _) tK fun _ _ => j5 V7 rfl rfl (hl) (.refl _) tK fun _ _ => ?_; refine c7 rfl (k6 (b8 rfl (b8 rfl (b8 rfl ?_)))); refine aW 3 3 rfl underlying187 lS rfl rfl rfl (by decide) rfl (c8 (v := .int .u64 1000) rfl P7 rfl (k9 (j := 3) mB rfl) (aX rfl rfl rfl ?_)); rw [show decide ((1000 : Int) ≤ (n : Int)) = false from decide_eq_false (by omega)]; refine j5 V8 rfl rfl (qz4) (.refl _) tK fun _ _ => v8 3 rfl rfl rfl rfl r6 ?_; refine c7 rfl (d8 (k5 ?_)); exact ret1 () rfl rfl rfl tK nK tK
theorem jq0 (n : Nat) (hn : 100 ≤ n ∧ n < 1000) : Meets prog I1 [.int .u64 (n : Int)] { LI := [TAB], val := fun _ : Unit => int 3 } := by
  by_cases h : n < 512
  · exact nz3 n hn h
  exact nz4 n hn h
def arr (a b c : Nat) : Array Value := #[.int .u8 0, .int .u8 a, .int .u8 b, .int .u8 c, (.int .u8 0), (.int .u8 0), (.int .u8 0), (.int .u8 0), (.int .u8 0), (.int .u8 0), (.int .u8 0), (.int .u8 0), (.int .u8 0), (.int .u8 0), (.int .u8 0), (.int .u8 0), (.int .u8 0), (.int .u8 0), (.int .u8 0), (.int .u8 0), (.int .u8 0), (.int .u8 0), (.int .u8 0), (.int .u8 0)]
abbrev arO (g a b c : Nat) : Nat × Obj := (g, Obj.cells (arr a b c) cq5 (0, 0))
set_option maxHeartbeats 1000000 in
theorem bx1 (g n : Nat) (hn : 100 ≤ n ∧ n < 1000) : Meets prog M9 [.slice (some ⟨g, 1, none⟩) 3 23, .int .u64 (n : Int)] { hpI := [arO g 0 0 0], hpO := fun _ => [arO g (48 + n / 100) (48 + n / 10 % 10) (48 + n % 10)], val := fun _ : Unit => .tuple #[] } := by
 refine j3 dK rfl t8 fun w0 => ?_; refine d9 (b8 rfl ?_); refine l7 rfl K7 rfl ?_; refine c7 rfl (d8 (i7 (j8 ?_))); refine y8 (β := Unit) ⟨fun _ => True, fun _ => [(0, .slice (some ⟨g, 1, none⟩) 3 23), (1, .int .u64 (n : Int)), (4, int 3)], fun _ => [arO g 0 0 0], fun _ => []⟩ (fun _ => 0) () tK mC (.refl _) tK fun _ _ => ?_; refine i7 (d9 (b8 rfl (aX rfl rfl rfl (d8 ?_)))); refine c_f rfl lx3 ?_; refine w8 (E4 (w6 (i8 (d9 (b8 rfl ?_))))); refine aH (n : Int) rfl mE ix1 rfl (IntWalk.u32_in _ (by omega)) ?_; refine c7 rfl (d8 (i7 (d9 (b8 rfl (aX rfl rfl rfl (d8 ?_)))))); refine m6 rfl (fun hb2 => ?_) (fun hb2 => ?_)
 ·exact absurd hb2 (by omega)
 refine j6 (i8 (i7 (d9 (b8 rfl (aX rfl rfl rfl (d8 ?_)))))); refine m6 rfl (fun hb3 => ?_) (fun hb3 => ?_)
 ·refine d9 (b8 rfl ?_); refine vx9 rfl rfl rfl (by omega) ?_; rw [show Int.tmod (n : Int) 100 = ((n % 100 : Nat) : Int) from rfl]; refine q8 (.int .u32 ((2 * (n % 100) : Nat) : Int)) rfl rfl rfl (fun _ => rfl) (fun w => by show Result.ok (Value.int .u32 (IntKind.u32.wrap (((n % 100 : Nat) : Int) * 2))) w = _; rw [IntWalk.u32_in _ (by omega), show ((n % 100 : Nat) : Int) * 2 = ((2 * (n % 100) : Nat) : Int) by omega]) ?_; refine c7 rfl (k6 (b8 rfl ?_)); refine r_quo ((n / 100 : Nat) : Int) rfl rfl rfl (by omega) (by rw [show Int.tdiv (n : Int) 100 = ((n / 100 : Nat) : Int) from rfl]; exact IntWalk.u32_in _ (by omega)) ?_; refine c7 rfl (d8 (i7 ?_)); refine Y4 ([arO g 0 0 0]) ([]) (.refl _) 13 [12] mixed (by decide) (by decide) (by decide) rfl rfl rfl (u4 rfl (u4 rfl (k7 (fun w1 => W9 2 rfl rfl rfl rfl r6 (q_z rfl)) (u4 rfl (u4 rfl (k7 (fun w1 => W9 1 rfl rfl rfl rfl r6 (q_z rfl)) (u4 rfl ?_))))))); refine k7 (fun w1 => q8 (.int .u32 ((2 * (n % 100) + 1 : Nat) : Int)) rfl rfl rfl (fun _ => rfl) (fun w => by show Result.ok (Value.int .u32 (IntKind.u32.wrap (((2 * (n % 100) : Nat) : Int) + 1))) w = _; rw [IntWalk.u32_in _ (by omega), show ((2 * (n % 100) : Nat) : Int) + 1 = ((2 * (n % 100) + 1 : Nat) : Int) by omega]) (q_z rfl)) ?_
  apply V6 _ rfl rfl rfl
  ·intro w1; refine E5 (s := prsS) (2 * (n % 100) + 1) rfl l5 p9 rfl rfl (prs_odd (by omega)) ?_; rw [dig_c]; refine j4 ?_; exact I7 rfl
  refine u4 rfl ?_
  apply V6 _ rfl rfl rfl
  ·intro w1; refine E5 (s := prsS) (2 * (n % 100)) rfl l5 p9 rfl rfl (vz9 (by omega)) ?_; rw [dig_b]; refine j4 ?_; exact I7 rfl
  refine k7 (fun w1 => B9 2 3 rfl K7 dZ rfl rfl rfl (by decide) rfl (q_z rfl)) ?_; refine hb_st ⟨Unit, fun _ => True, fun _ => undef, fun _ => [], fun _ => [arO g 0 0 (48 + n % 10)]⟩ rfl rfl ?_ ?_
  ·intro w1; refine z8 rfl rfl (.refl _) dZ (by rfl) (by rfl) (j4 ?_); exact Q3 () tK (fun h => by cases h) (.refl _) tK
  refine E1 ⟨rfl, ?_⟩; intro _ _; refine B9 1 2 rfl K7 dZ rfl rfl rfl (by decide) rfl (z8 rfl rfl (.refl _) dZ (by rfl) (by rfl) ?_); refine d8 (j0 (b8 rfl ?_)); refine W9 1 rfl rfl rfl rfl r6 ?_; refine c7 rfl (k6 (b8 rfl (P4 rfl rfl rfl (d8 ?_)))); refine m6 rfl (fun hb4 => ?_) (fun hb4 => ?_)
  ·refine j0 (b8 rfl (b8 rfl ?_)); refine q8 (.int .u32 ((48 + n / 100 : Nat) : Int)) rfl rfl rfl (fun _ => rfl) (fun w => by show Result.ok (Value.int .u32 (IntKind.u32.wrap (48 + ((n / 100 : Nat) : Int)))) w = _; rw [IntWalk.u32_in _ (by omega), show 48 + ((n / 100 : Nat) : Int) = ((48 + n / 100 : Nat) : Int) by omega]) ?_; refine aH ((48 + n / 100 : Nat) : Int) rfl ix1 aM rfl (IntWalk.u8_in _ (by omega)) (B9 0 1 rfl K7 dZ rfl rfl rfl (by decide) rfl (z8 rfl rfl (.refl _) dZ (by rfl) (by rfl) (j4 ?_))); exact ret0n () rfl rfl rfl tK (.refl _) tK
  exact absurd (show (0 : Int) < 1 by omega) hb4
 exact absurd (show (2 : Int) ≤ 3 by omega) hb3
theorem mO {c : Cx} {Q : Exit → Act → World → Prop} {fr : Fr} {hp : Hp} {L : List Fact} {ops : Array Oper} {rest : List Oper} {d : Tmp} {ty : TypeId} {pos : String} {af : Array Edge} {s t e : TypeId} {x : Operand} {l : Str} {p : Addr} {cap : Nat} (hd : Nat.blt d c.n = true) (hs : c.P.underlying s = some (.slice e)) (he : c.P.underlying e = some (.int .u8)) (ht : c.P.underlying t = some .string) (hx : ev fr x = some (.slice (some p) l.length cap)) (hc : Cells c.b hp L p (rows l))
    (k : HL c ops Q rest ((d, str l) :: fr) hp L) : HL c ops Q (⟨some d, .convert s t x, ty, pos, af, none⟩ :: rest) fr hp L :=
  G3 _ rfl rfl hd (fun a w ha hw => by
    have h1 := run_convert_bytes_back (P := c.P) w s t e p cap l hs he ht (fun j hj => hc w hw j _ (by rw [ax2, List.getElem?_map, List.getElem?_eq_getElem hj]; rfl)); simp only [execOp, ha.ev hx, Sem.run_bind, h1, Result.andThen_ok, Sem.run_pure]
    rfl) k
def dig3 (n : Nat) : Str := [UInt8.ofNat (48 + n / 100), UInt8.ofNat (48 + n / 10 % 10), UInt8.ofNat (48 + n % 10)]
theorem uj2 {n : Nat} (h : 100 ≤ n ∧ n < 1000) : itoaZ n = dig3 n := by
  have h5 := List.all_eq_true.1 rz0 n (List.mem_range.2 h.2); simp only [Bool.or_eq_true, decide_eq_true_eq] at h5; exact h5.resolve_left (by omega)
theorem tx6 {n : Nat} (h : n < 1000) : rows (dig3 n) = [.int .u8 ((48 + n / 100 : Nat) : Int), .int .u8 ((48 + n / 10 % 10 : Nat) : Int), .int .u8 ((48 + n % 10 : Nat) : Int)] := by
  rw [ax2]; have e1 : (UInt8.ofNat (48 + n / 100)).toNat = 48 + n / 100 := by rw [UInt8.toNat_ofNat']; omega
  have e2 : (UInt8.ofNat (48 + n / 10 % 10)).toNat = 48 + n / 10 % 10 := by rw [UInt8.toNat_ofNat']; omega
  have e3 : (UInt8.ofNat (48 + n % 10)).toNat = 48 + n % 10 := by rw [UInt8.toNat_ofNat']; omega
  simp only [dig3, List.map_cons, List.map_nil, e1, e2, e3]
theorem xx6 {n i : Nat} {u : Value} (h : n < 1000) (hu : (rows (dig3 n))[i]? = some u) : (arr (48 + n / 100) (48 + n / 10 % 10) (48 + n % 10))[1 + i]? = some u := by
  rw [tx6 h] at hu
  match i, hu with
  | 0, hu => exact hu
  | 1, hu => exact hu
  | 2, hu => exact hu
  | i + 3, hu => simp at hu
theorem pz4 (z : Int) (h0 : 0 ≤ z) (h : z < 100) : Meets prog U8 [int z] { val := fun _ : Unit => str (itoaZ z) } := by
 refine j3 lN rfl t8 fun w0 => ?_; refine d9 (c7 rfl (d8 (i7 (d9 (b8 rfl (C4 rfl rfl rfl (d8 ?_))))))); refine m6 rfl (fun hb1 => ?_) (fun hb1 => ?_)
 ·refine d9 (b8 rfl (b8 rfl ?_)); refine v8 _ rfl rfl rfl rfl r6 ?_; refine jP (s := digS) z.toNat (z.toNat + 1) rfl l5 p9 rfl (by omega) rfl (by omega) (Nat.le_succ _) (by show z.toNat + 1 ≤ 36; omega) ?_; refine c7 rfl (d8 (J4 ?_)); exact ret1 () rfl (by show some (str ((digS.drop z.toNat).take (z.toNat + 1 - z.toNat))) = some (str (itoaZ z)); rw [itoaZ, if_pos hb1, Nat.add_sub_cancel_left]) rfl tK nK tK
 refine j6 (i8 (d9 (b8 rfl ?_))); refine cx2 _ rfl rfl rfl rfl r6 (b8 rfl (cx2 _ rfl rfl rfl rfl r6 (v8 _ rfl rfl rfl rfl r6 ?_))); refine jP (s := prsS) (2 * z.toNat) (2 * z.toNat + 2) rfl l5 p9 rfl (by omega) rfl (by omega) (Nat.le_add_right _ _) (by show 2 * z.toNat + 2 ≤ 200; omega) ?_; refine c7 rfl (d8 (k5 ?_)); exact ret1 () rfl (by show some (str ((prsS.drop (2 * z.toNat)).take (2 * z.toNat + 2 - 2 * z.toNat))) = some (str (itoaZ z)); rw [itoaZ, if_neg (by omega), if_pos h, Nat.add_sub_cancel_left]) rfl tK nK tK
theorem pj6 (z : Int) (h0 : 0 ≤ z) (h : z < 100) : Meets prog I2 [int z, int 10] { LI := [TAB], val := fun _ : Unit => str (itoaZ z) } := by
 refine j3 X3 rfl t8 fun w0 => ?_; refine d9 (c7 rfl (d8 (i7 (d9 (b8 rfl (G2 rfl rfl rfl (d8 ?_))))))); refine c_t rfl lx1 ?_; refine i7 (d9 (b8 rfl (xT rfl rfl rfl (b8 rfl ?_)))); refine t7 rfl rfl ?_ ?_
 ·intro hg1; refine l9 hg1 (b8 rfl (l9 hg1 (C4 rfl rfl rfl ?_))); refine p_t rfl rfl (bt1 hg1) rfl (d8 ?_); refine m6 rfl (fun hb2 => ?_) (fun hb2 => ?_)
  ·refine d9 (b8 rfl ?_); refine j5 kR rfl rfl (pz4 z h0 h) p6 tK fun _ _ => ?_; refine c7 rfl (d8 (J4 (C5 ?_))); exact ret1 () rfl rfl rfl tK nK tK
  exact absurd h (by omega)
 intro hg1; have hg1' := hg1; try simp at hg1'
 exact absurd h0 (by omega)
set_option maxHeartbeats 1000000 in
theorem pj7 (n : Nat) (hn : 100 ≤ n ∧ n < 1000) : Meets prog I2 [int n, int 10] { LI := [TAB], val := fun _ : Unit => str (itoaZ n) } := by
 refine j3 X3 rfl t8 fun w0 => ?_; refine d9 (c7 rfl (d8 (i7 (d9 (b8 rfl (G2 rfl rfl rfl (d8 ?_))))))); refine c_t rfl lx1 ?_; refine i7 (d9 (b8 rfl (xT rfl rfl rfl (b8 rfl ?_)))); refine t7 rfl rfl ?_ ?_
 ·intro hg1; refine l9 hg1 (b8 rfl (l9 hg1 (C4 rfl rfl rfl ?_))); refine p_t rfl rfl (bt1 hg1) rfl (d8 ?_); refine m6 rfl (fun hb2 => ?_) (fun hb2 => ?_)
  ·omega
  refine j6 (i8 (d9 ?_)); refine B3 rfl (fun _ => jj8 _) fun g => ?_; refine k6 (b8 rfl ?_); refine aH (n : Int) rfl rj5 mE rfl (IntWalk.u64_in _ (by omega)) ?_; refine c7 rfl (d8 (i7 (d9 (b8 rfl (C4 rfl rfl rfl (d8 ?_)))))); refine m6 rfl (fun hb3 => ?_) (fun hb3 => ?_)
  ·omega
  refine j6 (i8 (d9 (b8 rfl ?_))); refine j5 gZ rfl rfl (jq0 n hn) (hpR := [arO g 0 0 0]) (.refl _) mC fun _ _ => ?_; refine c7 rfl (k6 (b8 rfl ?_)); refine v8 4 rfl rfl rfl rfl r6 (kx4 1 4 rfl wY dZ rfl rfl rfl rfl rfl (by decide) (by decide) (by decide) (b8 rfl (j5 cO rfl rfl (bx1 g n hn) (hpR := []) (.refl _) tK fun _ _ => ?_))); refine d8 (i7 (d9 (b8 rfl (C4 rfl rfl rfl (d8 ?_))))); refine m6 rfl (fun hb4 => ?_) (fun hb4 => ?_)
  ·omega
  refine j6 (i8 (d9 (b8 rfl ?_))); refine v8 4 rfl rfl rfl rfl r6 (kx4 1 4 rfl wY dZ rfl rfl rfl rfl rfl (by decide) (by decide) (by decide) ?_); refine mO (l := dig3 n) (p := ⟨g, 1, none⟩) (cap := 23) rfl K7 aM l5 rfl (dV m0 (fun i u hu => xx6 hn.2 hu)) ?_; refine c7 rfl (d8 (J4 ?_)); exact ret1 () rfl (by rw [uj2 hn]; rfl) rfl tK nK tK
 intro hg1; have hg1' := hg1; try simp at hg1'
theorem jz0 (z : Int) (h : 0 ≤ z ∧ z < 1000) : Meets prog I2 [int z, int 10] { LI := [TAB], val := fun _ : Unit => str (itoaZ z) } := by
  by_cases h1 : z < 100
  · exact pj6 z h.1 h1
  obtain ⟨n, rfl⟩ : ∃ n : Nat, z = n := ⟨z.toNat, by omega⟩; exact pj7 n ⟨by omega, by omega⟩
theorem qq6 (z : Int) (h : 0 ≤ z ∧ z < 1000) : Meets prog W5 [int z] { LI := [TAB], val := fun _ : Unit => str (itoaZ z) } := by
 refine j3 nU rfl t8 fun w0 => ?_; refine d9 (c7 rfl (k6 (b8 rfl ?_))); refine j5 hC rfl rfl (jz0 z h) p6 mC fun _ _ => ?_; refine c7 rfl (d8 (k5 ?_)); exact ret1 () rfl rfl rfl tK nK tK
theorem G4 (z : Int) (h : 0 ≤ z ∧ z < 1000) : Meets prog kH [int z] { LI := [TAB], val := fun _ : Unit => str (itoaZ z) } := by
 refine j3 dq4 rfl t8 fun w0 => ?_; refine d9 (c7 rfl (k6 (b8 rfl ?_))); refine j5 lO rfl rfl (qq6 z h) p6 mC fun _ _ => ?_; refine c7 rfl (d8 (k5 ?_)); exact ret1 () rfl rfl rfl tK nK tK
end Go.Proofs.YtcdopfjiadifhaaGreatDoor
end
