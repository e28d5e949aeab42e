/- Texts. -/
import Derived.Conc.DeferLaws
import Derived.Laws.Externs
import Derived.Lib.Bytealg
import Derived.Test.YtpfbbggmcbhboaaGreatDoorAAb
import Derived.Test.YtpfbbggmcbhboaaGreatDoorAAf
import Derived.Test.YtpfbbggmcbhboaaGreatDoorAAk
import Derived.Test.YtpfbbggmcbhboaaGreatDoorAAn
set_option linter.unusedVariables false
set_option linter.unusedSimpArgs false
section
namespace Go.W
open Go Go.RowKit Go.Conc
section
variable {P : Program} {b : Frame} {a : Act} {k : List Item} {cs : List Frame} {w : World} {Goal : Goroutine → World → Prop}
/-! ### Functions that may die -/
def postE (P : Program) (fn : Func) (R : Value → World → Prop) (D : List PanicEntry → World → Prop) : Exit → Act → World → Prop
  | .normal, a, w | .ret, a, w => a.defers = [] ∧ ∃ v, (∀ d, (results fn a.tmps).run P (w.at d) = .ok v (w.at d)) ∧ R v w
  | .panic ch, a, w => a.defers = [] ∧ D ch w
  | _, _, _ => False
theorem kq4 (a : Act) (k : List Item) (ch : List PanicEntry) (h : b.mode = .run) : (b.at a k).raise ch = { b.at a k with mode := .panicking ch } := by
  have : (b.at a k).mode = .run := rfl; unfold Frame.raise; rw [this]
theorem pz9 {f : FuncId} {fn : Func} {c : Code} {args : Array Value} {R : Value → World → Prop} {D : List PanicEntry → World → Prop} (hf : P.funcs[f]? = some fn) (hb : fn.body = some c)
    (h : cwp none P c (postE P fn R D) { tmps := args ++ Array.replicate (fn.ntmps - args.size) undef, defers := [] } w) : CallsE P f args w R D := by
  intro cs Goal hk hd; rw [enter_at args hf hb, ← Frame.atR_of_none (b := base f) rfl]; refine h (base f) [] cs Goal (by simp [base]) ⟨rfl, .inl rfl⟩ fun e a' w' hq => ?_
  cases e with
  | normal =>
    obtain ⟨hdf, v, hr, hR⟩ := hq; exact E0 rfl (fun _ => stepG_end) (hk _ v w' rfl hR ⟨rfl, hdf, rfl, fn, hf, hr⟩)
  | ret =>
    obtain ⟨hdf, v, hr, hR⟩ := hq; exact fun k₁ => E0 rfl (fun _ => stepG_ret') (hk _ v w' rfl hR ⟨rfl, hdf, rfl, fn, hf, hr⟩)
  | exit id => exact hq.elim
  | goto l => exact hq.elim
  | panic ch =>
    intro k₁; rw [show (base f).atR a' k₁ = (base f).at a' k₁ from rfl, kq4 _ _ _ rfl]; exact hd _ ch w' hq.2 ⟨rfl, hq.1, rfl, fn, hf⟩
  | outgrown => trivial
/-! ### Deferred calls -/
def LvD (P : Program) (fr : Frame) (w : World) (v : Value) : Prop :=
  fr.mode = .returning ∧ fr.defers = [] ∧ fr.kind = .deferred ∧ ∃ fn, P.funcs[fr.fn]? = some fn ∧ ∀ d, (results fn fr.tmps).run P (w.at d) = .ok v (w.at d)
def CallsDB (P : Program) (g : FuncId) (args : Array Value) (u : FrameMode) (w : World) (R : Value → World → Prop) (u' : FrameMode) : Prop :=
  ∀ (c : Frame) (cs : List Frame) (Goal : Goroutine → World → Prop), c.mode = u → (∀ fr v w', R v w' → LvD P fr w' v → Co P (G fr ({ c with mode := u' } :: cs)) w' Goal) → Co P (G (Frame.enter P g args .deferred) (c :: cs)) w Goal
def Mend (u : FrameMode) : Prop := u = .returning ∨ ∃ v, u = .panicking [{ v, recovered := true }]
theorem pz3 {fr c : Frame} {v : Value} {u : FrameMode} (h : LvD P fr w v) (hm : c.mode = u) (hu : Mend u) (hk : Co P (G { c with mode := .returning } cs) w Goal) : Co P (G fr (c :: cs)) w Goal := by
  obtain ⟨h1, hd, hn, fn, hf, hr⟩ := h; refine X9 rfl fun d => ⟨_, w.at d, seen P fr.fn ((results fn fr.tmps).events P (w.at d) #[]), ?_, S9 (D7 (mG fn fr.tmps) _), lC hk d⟩
  rcases hu with rfl | ⟨x, rfl⟩
  · have e : { c with mode := FrameMode.returning } = c := by rw [← hm]
    rw [e]
    simp [G, stepG, unwind, doReturn, hn, hd, h1, hf, hr d, hm, GStep.after]
  simp [G, stepG, unwind, doReturn, hn, hd, h1, hf, hr d, hm, GStep.after]
def Door (P : Program) (f : FuncId) (tmps : Array Value) (ds : List Deferred) (u : FrameMode) (w : World) (R : Value → World → Prop) : Prop :=
  ∀ (fr : Frame) (cs : List Frame) (Goal : Goroutine → World → Prop), fr.fn = f → fr.mode = u → fr.defers = ds → fr.tmps = tmps → fr.kind = .normal →
    (∀ fr v w', fr.fn = f → R v w' → Lv P fr w' v → Co P (G fr cs) w' Goal) → Co P (G fr cs) w Goal
theorem sq5 {f : FuncId} {fn : Func} {tmps : Array Value} {R : Value → World → Prop} {v : Value} (hf : P.funcs[f]? = some fn) (hr : ∀ d, (results fn tmps).run P (w.at d) = .ok v (w.at d)) (hR : R v w) : Door P f tmps [] .returning w R := by
  intro fr cs Goal h1 h2 h3 h4 h5 hk; subst h1 h4; exact hk fr v w rfl hR ⟨h2, h3, h5, fn, hf, hr⟩
theorem px4 {f g : FuncId} {tmps : Array Value} {R R' : Value → World → Prop} {ds : List Deferred} {cap args : Array Value} {u u' : FrameMode} (hcb : Callable P g) (hu : u ≠ .run) (hm : Mend u')
    (hc : CallsDB P g (args ++ cap) u w R' u') (hk : ∀ v w', R' v w' → Door P f tmps ds .returning w' R) : Door P f tmps ({ target := .fn (.func g) cap, args := args } :: ds) u w R := by
  intro fr cs Goal h1 h2 h3 h4 h5 hk2; refine X9 rfl fun d => ⟨G (Frame.enter P g (args ++ cap) .deferred) ({ fr with defers := ds } :: cs), w.at d, seen P fr.fn ((callFunc g (args ++ cap)).events P (w.at d) #[]), ?_, S9 (by rw [hcb.events]; simp), lC ?_ d⟩
  · have hi := hcb.run (args ++ cap) (w.at d)
    cases u with
    | run => exact absurd rfl hu
    | returning => simp [G, stepG, unwind, callDeferred, h2, h3, invoke, Sem.runT_eq, hi, GStep.after]
    | panicking ch => simp [G, stepG, unwind, callDeferred, h2, h3, invoke, Sem.runT_eq, hi, GStep.after]
  refine hc { fr with defers := ds } cs Goal h2 fun fr' v w' hR hl => ?_; refine pz3 hl rfl hm ?_; exact hk v w' hR { fr with defers := ds, mode := .returning } cs Goal h1 rfl rfl h4 h5 hk2
def postD (P : Program) (f : FuncId) (R : Value → World → Prop) : Exit → Act → World → Prop
  | .normal, a, w | .ret, a, w => Door P f a.tmps a.defers .returning w R
  | .panic ch, a, w => Door P f a.tmps a.defers (.panicking ch) w R
  | _, _, _ => False
theorem mx2 {f : FuncId} {fn : Func} {c : Code} {args : Array Value} {R : Value → World → Prop} (hf : P.funcs[f]? = some fn) (hb : fn.body = some c)
    (h : cwp none P c (postD P f R) { tmps := args ++ Array.replicate (fn.ntmps - args.size) undef, defers := [] } w) : CallsB P f args w R := by
  intro cs Goal hk; rw [enter_at args hf hb, ← Frame.atR_of_none (b := base f) rfl]; refine h (base f) [] cs Goal (by simp [base]) ⟨rfl, .inl rfl⟩ fun e a' w' hq => ?_
  cases e with
  | normal => exact E0 rfl (fun _ => stepG_end) (hq _ cs Goal rfl rfl rfl rfl rfl hk)
  | ret => exact fun k₁ => E0 rfl (fun _ => stepG_ret') (hq _ cs Goal rfl rfl rfl rfl rfl hk)
  | exit id => exact hq.elim
  | goto l => exact hq.elim
  | panic ch =>
    intro k₁; rw [show (base f).atR a' k₁ = (base f).at a' k₁ from rfl, kq4 _ _ _ rfl]; exact hq _ cs Goal rfl rfl rfl rfl rfl hk
  | outgrown => trivial
/-! ### The closure that recovers -/
def recM : FrameMode → Value × FrameMode
  | .panicking ({ v, recovered := false, goexit := false } :: older) => (v, .panicking ({ v, recovered := true } :: older))
  | u => (.nilIface, u)
theorem nz2 (v : Value) : recM (.panicking [{ v, recovered := false }]) = (v, .panicking [{ v, recovered := true }]) := rfl
theorem qz8 : recM .returning = (.nilIface, .returning) := rfl
theorem fin_at0 {ops : Array Oper} {i : Nat} {rest : List Nat} {o : Oper} (ho : ops[i]? = some o) (v : Value) : (b.at a (.inRegion ops (i :: rest) :: k)).finish v = b.at (a.put o.dst v) (.inRegion ops rest :: k) := by rw [Frame.finish_at, ho]; rfl
theorem mq8 {ops : Array Oper} {i : Nat} {rest : List Nat} {o : Oper} {c : Frame} (ho : ops[i]? = some o) (hw : Region.wanted o (yielded ops a.tmps) = true) (hr : ∀ w, (execOp a.eval o).run P w = .ok .recover w) (he : ∀ w, (execOp a.eval o).events P w #[] = #[])
    (hk : b.kind = .deferred) (hro : b.roundOf = none) (next : Co P (G (b.at (a.put o.dst (recM c.mode).1) (.inRegion ops rest :: k)) ({ c with mode := (recM c.mode).2 } :: cs)) w Goal) : Co P (G (b.at a (.inRegion ops (i :: rest) :: k)) (c :: cs)) w Goal := by
  refine X9 rfl fun d => ⟨_, w.at d, #[], ?_, by simp, lC next d⟩; have h1 : (b.kind == CallKind.early) = false := by rw [hk]; rfl
  rw [← fin_at0 ho, stepG_oper ho hw]; obtain ⟨f, tm, td, df, md, kd, ro⟩ := c; have hro' : (b.at a (.inRegion ops (i :: rest) :: k)).roundOf = none := rfl; have hk' : (b.at a (.inRegion ops (i :: rest) :: k)).kind = .deferred := hk; generalize b.at a (.inRegion ops (i :: rest) :: k) = fr at *
  cases md with
  | run => simp [stepG.apply, hr, he, G, hro', hk', tryRecover, GStep.after, recM, seen_none]
  | returning => simp [stepG.apply, hr, he, G, hro', hk', tryRecover, GStep.after, recM, seen_none]
  | panicking ch =>
    rcases ch with _ | ⟨⟨v, r, g⟩, older⟩
    · simp [stepG.apply, hr, he, G, hro', hk', tryRecover, GStep.after, recM, seen_none]
    cases r <;> cases g <;> simp [stepG.apply, hr, he, G, hro', hk', tryRecover, GStep.after, recM, seen_none]
end
/-! ### Contracts -/
def diesP {β γ : Type} (k : Con β) (k2 : Con γ) (w : World) (ch : List PanicEntry) (w' : World) : Prop := ∃ y, ch = [{ v := k2.val y, recovered := false }] ∧ k2.inv y ∧ WI (k.entry w) w' (k2.hpO y) (k2.LO y)
def MeetsE (P : Program) (f : Nat) (args : List Value) {β γ : Type} (k : Con β) (k2 : Con γ) : Prop :=
  ∀ w, WI (k.entry w) w k.hpI k.LI → CallsE P f args.toArray w (k.post w) (diesP k k2 w)
theorem okArgs {P : Program} {fn : Func} {bx : Bx} {args : List Value} (hn : args.length ≤ fn.ntmps) : Ok ⟨P, fn.ntmps, bx, [], none⟩ { tmps := args.toArray ++ Array.replicate (fn.ntmps - args.toArray.size) undef, defers := [] } (argFr 0 args) := by
  refine ⟨rfl, by simp; omega, fun t v hv => ?_⟩; obtain ⟨_, h2⟩ := nZ args 0 t v hv; simp only [Nat.sub_zero] at h2
  have hlt : t < args.length := by
    rcases Nat.lt_or_ge t args.length with h' | h'
    · exact h'
    rw [List.getElem?_eq_none h'] at h2; cases h2
  rw [List.getElem?_eq_getElem hlt] at h2
  injection h2 with h2
  simp [Array.getElem?_append, hlt, h2]
theorem qS {β γ : Type} {P : Program} {f : Nat} {args : List Value} {k : Con β} {k2 : Con γ} {fn : Func} {code : Code} (hf : P.funcs[f]? = some fn) (hb : fn.body = some code) (hn : args.length ≤ fn.ntmps)
    (h : ∀ w, HC ⟨P, fn.ntmps, k.entry w, [], none⟩ code (postE P fn (k.post w) (diesP k k2 w)) (argFr 0 args) k.hpI k.LI) : MeetsE P f args k k2 :=
  fun w hw => pz9 hf hb (h w _ w (okArgs hn) hw)
theorem jj6 {β : Type} {P : Program} {f : Nat} {args : List Value} {k : Con β} {fn : Func} {code : Code} (hf : P.funcs[f]? = some fn) (hb : fn.body = some code) (hn : args.length ≤ fn.ntmps)
    (h : ∀ w, HC ⟨P, fn.ntmps, k.entry w, [], none⟩ code (postD P f (k.post w)) (argFr 0 args) k.hpI k.LI) : Meets P f args k :=
  fun w hw => mx2 hf hb (h w _ w (okArgs hn) hw)
def MeetsR (P : Program) (g : Nat) (args : List Value) (u u' : FrameMode) {β : Type} (k : Con β) : Prop :=
  ∀ w, WI (k.entry w) w k.hpI k.LI → CallsDB P g args.toArray u w (k.post w) u'
theorem yH {β : Type} {P : Program} {g : Nat} {args : List Value} {u u' : FrameMode} {v : Value} {k : Con β} {fn : Func} {id : Nat} {d : Tmp} {op : Op} {ty : TypeId} {pos : String} {af : Array Edge} {l : List Oper} {rest : Code} (hrec : recM u = (v, u'))
    (hf : P.funcs[g]? = some fn) (hb : fn.body = some (.seq (.region id ((⟨some d, op, ty, pos, af, none⟩ : Oper) :: l).toArray false) rest)) (hn : args.length ≤ fn.ntmps) (hd : Nat.blt d fn.ntmps = true)
    (hr : ∀ ρ w, (execOp ρ (⟨some d, op, ty, pos, af, none⟩ : Oper)).run P w = .ok .recover w) (he : ∀ ρ w, (execOp ρ (⟨some d, op, ty, pos, af, none⟩ : Oper)).events P w #[] = #[])
    (h : ∀ w, HL ⟨P, fn.ntmps, k.entry w, [], none⟩ ((⟨some d, op, ty, pos, af, none⟩ : Oper) :: l).toArray (Exit.then (cw ⟨P, fn.ntmps, k.entry w, [], none⟩ rest (postB P fn (k.post w))) (postB P fn (k.post w))) l ((d, v) :: argFr 0 args) k.hpI k.LI) : MeetsR P g args u u' k := by
  intro w hw c cs Goal hu hk; rw [enter_atD args.toArray hf hb]; refine E0 rfl (fun _ => stepG_seq) (E0 rfl (fun _ => stepG_region) ?_)
  have e : List.range ((⟨some d, op, ty, pos, af, none⟩ : Oper) :: l).toArray.size = 0 :: List.range' 1 l.length := by
    simp [List.range_eq_range', List.range'_succ]
  rw [e]; refine mq8 (o := ⟨some d, op, ty, pos, af, none⟩) (by simp) (by simp [Region.wanted]) (hr _) (he _) rfl rfl ?_; rw [hu, hrec]
  have hQ : ∀ e a' w', postB P fn (k.post w) e a' w' → Conts P (baseD g) [] ({ c with mode := u' } :: cs) Goal e a' w' := by
    intro e a' w' hq
    cases e with
    | normal =>
      obtain ⟨hd, v, hr, hR⟩ := hq; exact E0 rfl (fun _ => stepG_end) (hk _ v w' hR ⟨rfl, hd, rfl, fn, hf, hr⟩)
    | ret =>
      obtain ⟨hd, v, hr, hR⟩ := hq; exact fun k₁ => E0 rfl (fun _ => stepG_ret') (hk _ v w' hR ⟨rfl, hd, rfl, fn, hf, hr⟩)
    | exit id => exact hq.elim
    | goto l => exact hq.elim
    | panic ch => exact hq.elim
    | outgrown => trivial
  refine xF (b := baseD g) (Q := Exit.then (cw ⟨P, fn.ntmps, k.entry w, [], none⟩ rest (postB P fn (k.post w))) (postB P fn (k.post w))) (by simp [baseD]) (.inl rfl) (fun e a' w' hq => ?_) _ _ _ (jz6 l 1 _ w rfl (h w _ w ((okArgs hn).put (by simpa using hd) v) hw))
  cases e with
  | normal => exact hq (baseD g) [] _ Goal (by simp [baseD]) ⟨rfl, .inl rfl⟩ hQ
  | exit id => exact hq.elim
  | goto l => exact hq.elim
  | ret => exact hQ .ret a' w' hq
  | panic ch => exact hq.elim
  | outgrown => trivial
section
variable {c : Cx} {Q : Exit → Act → World → Prop} {fr : Fr} {hp : Hp} {L : List Fact} {ops : Array Oper} {rest : List Oper}
theorem O7 {K : Act → World → Prop} {ch : List PanicEntry} (h : HQ c Q (.panic ch) fr hp L) : HQ c (Exit.then K Q) (.panic ch) fr hp L := fun a w ha hw => h a w ha hw
theorem X5 {id : Nat} {ch : List PanicEntry} (h : HQ c Q (.panic ch) fr hp L) : HQ c (Exit.inBlock id Q) (.panic ch) fr hp L := fun a w ha hw => h a w ha hw
theorem hq_E {fn : Func} {P : Program} {R : Value → World → Prop} {D : List PanicEntry → World → Prop} (h : HQ c (postB P fn R) .ret fr hp L) : HQ c (postE P fn R D) .ret fr hp L := fun a w ha hw => h a w ha hw
theorem hq_En {fn : Func} {P : Program} {R : Value → World → Prop} {D : List PanicEntry → World → Prop} (h : HQ c (postB P fn R) .normal fr hp L) : HQ c (postE P fn R D) .normal fr hp L := fun a w ha hw => h a w ha hw
theorem cS {β γ : Type} {k : Con β} {k2 : Con γ} {fn : Func} {w0 : World} {R : Value → World → Prop} {v : Value} (y : γ) (hv : v = k2.val y) (hb : c.b = k.entry w0) (hi : k2.inv y) (h2 : (k2.hpO y).Sublist hp) (h3 : LSub L (k2.LO y)) (hD : c.D = [] := by exact rfl) :
    HQ c (postE c.P fn R (diesP k k2 w0)) (.panic [{ v, recovered := false }]) fr hp L := fun a w ha hw => ⟨ha.d.trans hD, y, by rw [hv], hi, hb ▸ hw.weak h2 h3.mem⟩
variable {d : Tmp} {ty : TypeId} {pos : String} {af : Array Edge}
theorem WI.back2 {b : Bx} {w w' : World} {hpR : Hp} {β γ : Type} {k : Con β} {k2 : Con γ} {y : γ} (h : WI b w hp L) (h1 : hp.Perm (k.hpI ++ hpR)) (h2 : ∀ F ∈ k.LI, F ∈ L)
    (r : WI (k.entry w) w' (k2.hpO y) (k2.LO y)) : WI b w' (k2.hpO y ++ hpR) (k2.LO y ++ L) :=
  WI.back (k := ({ hpI := k.hpI, LI := k.LI, inv := k2.inv, val := k2.val, hpO := k2.hpO, LO := k2.LO } : Con γ)) (x := y) h h1 h2 r
theorem yT {f : Nat} {aS9 : Array Operand} {ats : Array TypeId} {vs : List Value} {β γ : Type} {k : Con β} {k2 : Con γ} {hpR : Hp} (hcb : Callable c.P f) (hd : Nat.blt d c.n = true) (hx : aS9.toList.mapM (ev fr) = some vs)
    (hm : MeetsE c.P f vs k k2) (h1 : hp.Perm (k.hpI ++ hpR)) (h2 : LSub L k.LI) (dd : ∀ y, k2.inv y → HQ c Q (.panic [{ v := k2.val y, recovered := false }]) fr (k2.hpO y ++ hpR) (k2.LO y ++ L)) (kk : ∀ x, k.inv x → HL c ops Q rest ((d, k.val x) :: fr) (k.hpO x ++ hpR) (k.LO x ++ L)) :
    HL c ops Q (⟨some d, .call ⟨.value (.func f), aS9, ats⟩, ty, pos, af, none⟩ :: rest) fr hp L := by
  intro a w ha hw; refine W3 rfl fun K hK => ?_
  have key : ∀ (xs : List Operand) (vs : List Value), xs.mapM (ev fr) = some vs → xs.map a.eval = vs := by
    intro xs
    induction xs with
    | nil => intro vs h; simpa using h
    | cons x xs ih =>
      intro vs h; simp only [List.mapM_cons, Option.bind_eq_bind, Option.bind_eq_some_iff, Option.pure_def, Option.some.injEq] at h; obtain ⟨v, hv, us, hus, rfl⟩ := h; rw [List.map_cons, ha.ev hv, ih us hus]
  have e1 : (#[] ++ aS9.map a.eval ++ #[]) = vs.toArray := by simp; apply Array.ext'; simpa using key _ _ hx
  refine fun d0 => ⟨bj4 hcb (by rw [execOp_call_go]), ?_⟩; have hw := hw.at d0; rw [execOp_call_go, hcb.run, sU, e1]; refine (hm _ (hw.entry h1 h2.mem)).mono (fun v w' hp => ?_) fun ch w' hp => ?_
  · obtain ⟨x, rfl, hi, hwi⟩ := hp
    exact hK _ _ (kk x hi _ _ (ha.put (by simpa using hd) _) (hw.back h1 h2.mem hwi))
  obtain ⟨y, rfl, hi, hwi⟩ := hp; exact dd y hi _ _ ha (hw.back2 h1 h2.mem hwi)
theorem kx2 (v : Value) : Quiet (Instr.panic v) := by
  unfold Instr.panic
  split <;> first | trivial | exact k4
theorem gX {x : Operand} {t : TypeId} {v : Value} (hx : ev fr x = some (.iface t v)) (hr : ∀ w, (Instr.panic (.iface t v)).run c.P w = .halt (.panic (.iface t v)) w) (k : HQ c Q (.panic [{ v := .iface t v, recovered := false }]) fr hp L) :
    HL c ops Q (⟨none, .panic x, ty, pos, af, none⟩ :: rest) fr hp L := by
  intro a w ha hw; refine W3 rfl fun K hK => fun d0 => ⟨?_, ?_⟩
  · show ∀ e ∈ ((do let v ← Instr.panic (a.eval x); pure (Next.value v)) : Sem Next).events c.P _ #[], Calm e
    exact D7 (s := (do let v ← Instr.panic (a.eval x); pure (Next.value v))) (n9 (kx2 _) fun _ => trivial) _
  have e : (execOp a.eval (⟨none, .panic x, ty, pos, af, none⟩ : Oper)).run c.P (w.at d0) = .halt (.panic (.iface t v)) (w.at d0) := by
    show ((do let v ← Instr.panic (a.eval x); pure (Next.value v)) : Sem Next).run c.P (w.at d0) = _; rw [ha.ev hx, Sem.run_bind, hr]
    rfl
  rw [e, jz8]; exact k a _ ha (hw.at d0)
theorem r_defer {x : Operand} {g : Nat} {cap : List Value} {ats : Array TypeId} (hx : ev fr x = some (.func (.func g) #[] cap.toArray))
    (k : HL { c with D := { target := .fn (.func g) cap.toArray, args := #[] } :: c.D } ops Q rest fr hp L) : HL c ops Q (⟨none, .defer ⟨.value x, #[], ats⟩, ty, pos, af, none⟩ :: rest) fr hp L := by
  intro a w ha hw; refine W3 rfl fun K hK => fun d0 => ?_
  have e : execOp a.eval (⟨none, .defer ⟨.value x, #[], ats⟩, ty, pos, af, none⟩ : Oper) = pure (Next.defer { target := .fn (.func g) cap.toArray, args := #[] }) := by
    show ((do let dd ← resolve a.eval ⟨.value x, #[], ats⟩ ty; pure (Next.defer dd)) : Sem Next) = _; have e3 : (#[] ++ Array.map a.eval #[] : Array Value) = #[] := by simp
    simp only [resolve, ha.ev hx, Deferred.ofValue, e3]
    rfl
  rw [e]; refine ⟨by simp [Sem.events_pure], ?_⟩; rw [Sem.run_pure, jz9]; exact hK _ _ (k _ _ ⟨by show _ :: a.defers = _; rw [ha.d], ha.sz, ha.at_⟩ (hw.at d0))
theorem cz6 {β γ : Type} {k : Con β} {kd : Con γ} {fn : Func} {w0 : World} {f g : Nat} {cap : List Value} {u u' : FrameMode} {hpR : Hp} {e : Exit} (hm : MeetsR c.P g cap u u' kd) (he : (e = .ret ∧ u = .returning) ∨ (e = .normal ∧ u = .returning) ∨ ∃ ch, e = .panic ch ∧ u = .panicking ch) (hf : c.P.funcs[f]? = some fn) (hcb : Callable c.P g) (hM : Mend u') (hD : c.D = [{ target := .fn (.func g) cap.toArray, args := #[] }])
    (h1 : hp.Perm (kd.hpI ++ hpR)) (h2 : LSub L kd.LI) (kk : ∀ y, kd.inv y → HQ { c with D := [] } (postB c.P fn (k.post w0)) .ret fr (kd.hpO y ++ hpR) (kd.LO y ++ L)) :
    HQ c (postD c.P f (k.post w0)) e fr hp L := by
  intro a w ha hw; have hu : u ≠ .run := by rcases he with ⟨_, h⟩ | ⟨_, h⟩ | ⟨_, _, h⟩ <;> rw [h] <;> simp
  have key : Door c.P f a.tmps a.defers u w (k.post w0) := by
    rw [ha.d, hD]; refine px4 hcb hu hM (by simpa using hm w (hw.entry h1 h2.mem)) fun v w' hp => ?_; obtain ⟨y, rfl, hi, hwi⟩ := hp; obtain ⟨_, v, hr, hR⟩ := kk y hi { a with defers := [] } w' ⟨rfl, ha.sz, ha.at_⟩ (hw.back h1 h2.mem hwi); exact sq5 hf hr hR
  rcases he with ⟨rfl, rfl⟩ | ⟨rfl, rfl⟩ | ⟨ch, rfl, rfl⟩
  · exact key
  · exact key
  exact key
end
end Go.W
end
section
namespace Go.W
open Go Go.RowKit Go.Conc
theorem bx3 {P : Program} {f : FuncId} {fn : Func} {e : Array Value → Sem Value} (hf : P.funcs[f]? = some fn) (hname : (fn.name == "runtime.NumGoroutine") = false)
    (hb : fn.body.isNone = true) (hn : Extern.findNext fn = none) (he : Extern.find fn = some e) (args : Array Value) (hq : Quiet (e args)) (w : World) : ∀ x ∈ (callFunc f args).events P w #[], Calm x := by
  have h1 : fn.name ≠ "runtime.NumGoroutine" := by simpa using hname
  have h2 : fn.body = none := by simpa using hb
  have e1 : (callFunc f args).events P w #[] = ((do mark (.extern f); pure (Next.value (← e args))) : Sem Next).events P w #[] := by
    unfold callFunc; simp only [Sem.events_bind, run_program, Result.evThen, hf]
    simp [h1, h2, hn, he]
    cases (e args).run P w <;> rfl
  rw [e1]; have h5 : Quiet (mark (.extern f)) := ⟨⟨by simp, by simp⟩, trivial⟩; exact D7 (s := (do mark (.extern f); pure (Next.value (← e args)))) (n9 h5 fun _ => n9 hq fun v => (trivial : Quiet (pure (Next.value v)))) w
theorem ij3 {c : Cx} {Q : Exit → Act → World → Prop} {fr : Fr} {hp : Hp} {L : List Fact} {ops : Array Oper} {rest : List Oper} {d : Tmp} {ty : TypeId} {pos : String} {af : Array Edge} {f : Nat} {xs0 : Array Operand} {ats : Array TypeId} {vs : List Value} {v : Value} (hd : Nat.blt d c.n = true) (hx : xs0.toList.mapM (ev fr) = some vs) (hrun : ∀ w, (callFunc f vs.toArray).run c.P w = .ok (.value v) w)
    (hev : ∀ w, ∀ e ∈ (callFunc f vs.toArray).events c.P w #[], Calm e) (kk : HL c ops Q rest ((d, v) :: fr) hp L) :
    HL c ops Q (⟨some d, .call ⟨.value (.func f), xs0, ats⟩, ty, pos, af, none⟩ :: rest) fr hp L := by
  intro a w ha hw; refine W3 rfl fun K hK => ?_
  have key : ∀ (xs : List Operand) (vs : List Value), xs.mapM (ev fr) = some vs → xs.map a.eval = vs := by
    intro xs
    induction xs with
    | nil => intro vs h; simpa using h
    | cons x xs ih =>
      intro vs h; simp only [List.mapM_cons, Option.bind_eq_bind, Option.bind_eq_some_iff, Option.pure_def, Option.some.injEq] at h; obtain ⟨v, hv, us, hus, rfl⟩ := h; rw [List.map_cons, ha.ev hv, ih us hus]
  have e1 : (#[] ++ xs0.map a.eval ++ #[]) = vs.toArray := by simp; apply Array.ext'; simpa using key _ _ hx
  refine fun d0 => ⟨?_, ?_⟩
  · rw [execOp_call_go, e1]; exact hev _
  have hw := hw.at d0; rw [execOp_call_go, e1, hrun, sT]; exact hK _ _ (kk _ _ (ha.put (by simpa using hd) _) hw)
end Go.W
end
section
namespace Go.Proofs.YtpfbbggmcbhboaaGreatDoor
open Go Go.W Tryz T F
set_option maxRecDepth 20000
attribute [local irreducible] HL HC HQ HB Row Rows2 Blk Facts
def cutB (b : UInt8) : Str → Str × Str × Bool
  | [] => ([], [], false)
  | x :: r => if x = b then ([], r, true) else (x :: (cutB b r).1, (cutB b r).2.1, (cutB b r).2.2)
theorem uT (b : UInt8) : ∀ s : Str, (Lib.indexByte s b = -1 ∧ cutB b s = (s, [], false) ∧ b ∉ s) ∨ ∃ i : Nat, Lib.indexByte s b = i ∧ i < s.length ∧ cutB b s = (s.take i, s.drop (i + 1), true) ∧ s[i]? = some b ∧ b ∉ s.take i
  | [] => .inl ⟨rfl, rfl, by simp⟩
  | x :: r => by
    by_cases h : x = b
    · subst h
      exact .inr ⟨0, by simp [Lib.indexByte], by simp, by simp [cutB], by simp, by simp⟩
    have hb : (x == b) = false := by simp [h]
    rcases uT b r with ⟨h1, h2, h3⟩ | ⟨i, h1, h2, h3, h4, h5⟩
    · exact .inl ⟨by simp [Lib.indexByte, hb, h1], by simp [cutB, h, h2], by simp [h3, Ne.symm h]⟩
    have hne : ¬ ((i : Int) = -1) := by omega
    exact .inr ⟨i + 1, by simp [Lib.indexByte, hb, h1, hne], by simp; omega, by simp [cutB, h, h3], by simpa using h4, by simp [h5, Ne.symm h]⟩
def trimL (p : UInt8 → Bool) (s : Str) : Str := s.dropWhile p
def trimR (p : UInt8 → Bool) (s : Str) : Str := (s.reverse.dropWhile p).reverse
def isDig (c : UInt8) : Bool := decide (48 ≤ c.toNat) && decide (c.toNat ≤ 57)
def D10 : Str := [48, 49, 50, 51, 52, 53, 54, 55, 56, 57]
theorem any_dig (c : UInt8) : (D10.any fun x => x == c) = isDig c := by
  unfold isDig D10
  by_cases h : 48 ≤ c.toNat ∧ c.toNat ≤ 57
  · obtain ⟨h1, h2⟩ := h
    have hc : c = UInt8.ofNat c.toNat := by simp
    have : c.toNat = 48 ∨ c.toNat = 49 ∨ c.toNat = 50 ∨ c.toNat = 51 ∨ c.toNat = 52 ∨ c.toNat = 53 ∨ c.toNat = 54 ∨ c.toNat = 55 ∨ c.toNat = 56 ∨ c.toNat = 57 := by omega
    rw [decide_eq_true h1, decide_eq_true h2]
    rcases this with e | e | e | e | e | e | e | e | e | e <;> (rw [e] at hc; rw [hc]; rfl)
  have h3 : (decide (48 ≤ c.toNat) && decide (c.toNat ≤ 57)) = false := by
    rw [Bool.and_eq_false_iff, decide_eq_false_iff_not, decide_eq_false_iff_not]; omega
  rw [h3]; simp only [List.any_cons, List.any_nil, Bool.or_false, Bool.or_eq_false_iff, beq_eq_false_iff_ne]; refine ⟨?_, ?_, ?_, ?_, ?_, ?_, ?_, ?_, ?_, ?_⟩ <;> (intro e; subst e; exact h (by decide))
theorem jx0 {p : UInt8 → Bool} : ∀ {l : Str}, l.dropWhile p = [] ↔ ∀ x ∈ l, p x = true
  | [] => by simp
  | a :: l => by
    by_cases h : p a = true
    · rw [List.dropWhile_cons_of_pos h, jx0]
      simp [h]
    rw [List.dropWhile_cons_of_neg h]
    simp [h]
theorem jR {p : UInt8 → Bool} {s : Str} : trimL p (trimR p s) = [] ↔ s.all p = true := by
  unfold trimL trimR; rw [jx0, List.all_eq_true]
  constructor
  · intro h
    have h2 : s.reverse.dropWhile p = [] := by
      cases hd : s.reverse.dropWhile p with
      | nil => rfl
      | cons x r =>
        have h3 : p x = true := h x (by rw [hd]; simp); have h4 := List.head_dropWhile_not p (l := s.reverse) (by rw [hd]; simp); simp only [hd, List.head_cons] at h4; rw [h3] at h4; cases h4
    rw [jx0] at h2; exact fun x hx => h2 x (by simpa using hx)
  intro h x hx
  have h2 : s.reverse.dropWhile p = [] := by
    rw [jx0]; exact fun x hx => h x (by simpa using hx)
  rw [h2] at hx; simp at hx
def asV (l : Str) : List Value := (List.range 256).map fun i => Value.bool (l.any fun c => c.toNat == i)
theorem jx6 (l : Str) : (asV l).length = 256 := by simp [asV]
theorem asV_one (l : Str) : (asV l).all (·.oneCell') = true := List.all_eq_true.2 fun v hv => by
  obtain ⟨i, _, rfl⟩ := List.mem_map.1 hv
  rfl
theorem jx7 (l : Str) (c : UInt8) : (asV l)[c.toNat]? = some (.bool (l.any fun x => x == c)) := by
  have h : c.toNat < 256 := c.toNat_lt; unfold asV; rw [List.getElem?_map, List.getElem?_range h]; simp only [Option.map_some]
  congr 3
  funext x
  rw [Bool.eq_iff_iff]
  simp [UInt8.toNat_inj]
theorem asV_set (l : Str) (c : UInt8) : (asV l).set c.toNat (.bool true) = asV (l ++ [c]) := by
  apply List.ext_getElem?
  intro i; rw [List.getElem?_set]; have h : c.toNat < 256 := c.toNat_lt
  by_cases hi : c.toNat = i
  · subst hi
    rw [if_pos rfl, if_pos (by rw [jx6]; exact h), jx7]
    simp
  rw [if_neg hi]; unfold asV
  by_cases hl : i < 256
  · rw [List.getElem?_map, List.getElem?_map, List.getElem?_range hl]
    simp [hi]
  rw [List.getElem?_eq_none (by simp; omega), List.getElem?_eq_none (by simp; omega)]
theorem qq7 {p : UInt8 → Bool} {q : Str} (h : 0 < q.length) (hp : p q[0] = false) : trimL p q = q := by
  cases q with
  | nil => simp at h
  | cons a q => exact List.dropWhile_cons_of_neg (by rw [← Bool.not_eq_true] at hp; exact hp)
theorem nq7 {p : UInt8 → Bool} {q : Str} (h : 0 < q.length) (hp : p q[0] = true) : trimL p (q.drop 1) = trimL p q := by
  cases q with
  | nil => simp at h
  | cons a q => exact (List.dropWhile_cons_of_pos hp).symm
theorem qq5 {p : UInt8 → Bool} {q : Str} (h : 0 < q.length) (hp : p (q[q.length - 1]'(by omega)) = false) : trimR p q = q := by
  unfold trimR; have hne : q ≠ [] := fun e => by rw [e] at h; simp at h
  have e : q = q.dropLast ++ [q[q.length - 1]'(by omega)] := by rw [← List.getLast_eq_getElem hne, List.dropLast_concat_getLast]
  rw [e, List.reverse_append, List.reverse_singleton, List.singleton_append, List.dropWhile_cons_of_neg (by rw [← Bool.not_eq_true] at hp; exact hp)]
  simp
theorem nq6 {p : UInt8 → Bool} {q : Str} (h : 0 < q.length) (hp : p (q[q.length - 1]'(by omega)) = true) : trimR p (q.take (q.length - 1)) = trimR p q := by
  have hne : q ≠ [] := fun e => by rw [e] at h; simp at h
  have e : q = q.take (q.length - 1) ++ [q[q.length - 1]'(by omega)] := by rw [← List.dropLast_eq_take, ← List.getLast_eq_getElem hne, List.dropLast_concat_getLast]
  conv => rhs; rw [e]
  unfold trimR; rw [List.reverse_append, List.reverse_singleton, List.singleton_append, List.dropWhile_cons_of_pos hp]
theorem qq6 (p : UInt8 → Bool) (s : Str) : (trimR p s).length ≤ s.length := by
  unfold trimR; rw [List.length_reverse]; have := (List.dropWhile_sublist (l := s.reverse) p).length_le
  rwa [List.length_reverse] at this
theorem yS {c : Cx} {Q : Exit → Act → World → Prop} {fr : Fr} {hp hp' : Hp} {L : List Fact} {ops : Array Oper} {rest : List Oper} (h : hp = hp') (k : HL c ops Q rest fr hp' L) : HL c ops Q rest fr hp L := h ▸ k
section
variable {c : Cx} {Q : Exit → Act → World → Prop} {fr : Fr} {hp : Hp} {L : List Fact} {ops : Array Oper} {rest : List Oper} {d : Tmp} {ty : TypeId} {pos : String} {af : Array Edge}
theorem tC {t : TypeId} {x lo hi : Operand} {s : Str} {kd kd' : IntKind} {z z' : Int} (l h : Nat) (hd : Nat.blt d c.n = true) (ht : c.P.underlying t = some .string)
    (hx : ev fr x = some (str s)) (hl : ev fr lo = some (.int kd z)) (hlz : z = (l : Int)) (hh : ev fr hi = some (.int kd' z')) (hhz : z' = (h : Int)) (hle : l ≤ h) (hle' : h ≤ s.length)
    (k : HL c ops Q rest ((d, str ((s.drop l).take (h - l))) :: fr) hp L) : HL c ops Q (⟨some d, .slice t x (some lo) (some hi) none, ty, pos, af, none⟩ :: rest) fr hp L :=
  u5 _ rfl rfl hd (fun a w ha _ => by
    have e1 : (ByteArray.mk s.toArray).size = s.length := rfl; simp only [execOp, ha.ev hx, Option.map_some, Option.map_none, ha.ev hl, ha.ev hh, Sem.run_bind, Instr.sliceAt, run_underlying ht]; simp only [Result.andThen_ok]
    simp [Instr.slice, Instr.sliceBounds, run_underlying ht, str, e1, iK hlz hle, iK hhz hle', sY]) k
end
abbrev asO (g : Nat) (l : Str) : Nat × Obj := (g, Obj.cells (asV l).toArray G5 (0, 0))
theorem idx_run (s : Str) (c : UInt8) (w : World) : (callFunc 120 [str s, Value.int .u8 (c.toNat : Int)].toArray).run prog w = .ok (.value (int (Lib.indexByte s c))) w := by
  show (callFunc 120 #[str s, Value.int .u8 (c.toNat : Int)]).run prog w = _; rw [run_callFunc_extern func120 n5 n5 n5 (e := Extern.BytealgIndexByte.indexByte) n5]; have h := Lib.run_indexByteString (P := prog) ⟨s.toArray⟩ (c.toNat : Int) w; have e : ((c.toNat : Int).toNat).toUInt8 = c := by simp
  rw [e] at h; show Result.andThen (Sem.run prog (Extern.BytealgIndexByte.indexByte #[.string ⟨s.toArray⟩, .int .u8 (c.toNat : Int)]) w) _ = _; rw [h]
  rfl
instance (s : ByteArray) (c : Value) : QC (Extern.BytealgIndexByte.indexByte #[.string s, c]) := ⟨by unfold Extern.BytealgIndexByte.indexByte Extern.Bytes.bytesOf Extern.Bytes.asByte; exact k4⟩
theorem rx9 (s : Str) (c : UInt8) (w : World) : ∀ e ∈ (callFunc 120 [str s, Value.int .u8 (c.toNat : Int)].toArray).events prog w #[], Go.W.Calm e :=
  bx3 func120 n5 n5 n5 (e := Extern.BytealgIndexByte.indexByte) n5 _ (show Quiet (Extern.BytealgIndexByte.indexByte #[.string ⟨s.toArray⟩, .int .u8 (c.toNat : Int)]) from QC.out) w
theorem K2 (s : Str) (c : UInt8) : Meets prog E9 [str s, .int .u8 c.toNat] { val := fun _ : Unit => int (Lib.indexByte s c) } := by
 refine i3 bB rfl q6 fun w0 => ?_; refine c7 (c3 rfl (n7 (b7 rfl (b7 rfl ?_)))); refine ij3 rfl rfl (idx_run s c) (rx9 s c) ?_; refine c3 rfl (b8 (l4 ?_)); exact ret1 () rfl rfl rfl tK (.refl _) tK
theorem nE (s : Str) (c : UInt8) : Meets prog Y7 [str s, .int .u8 c.toNat] { val := fun _ : Unit => int (Lib.indexByte s c) } := by
 refine i3 qW rfl q6 fun w0 => ?_; refine c7 (c3 rfl (n7 (b7 rfl (b7 rfl ?_)))); refine d5 K5 rfl rfl (K2 s c) l6 tK fun _ _ => ?_; refine c3 rfl (b8 (l4 ?_)); exact ret1 () rfl rfl rfl tK (.refl _) tK
theorem cV (s : Str) (b : UInt8) : Meets prog I9 [str s, str [b]] { val := fun _ : Unit => int (Lib.indexByte s b) } := by
 refine i3 dL rfl q6 fun w0 => ?_; refine c7 (c3 rfl (n7 (b7 rfl ?_))); refine A7 rfl l7 rfl ?_; refine c3 rfl (b8 (c8 (k6 (c7 (b7 rfl (E3 rfl rfl rfl (b7 rfl ?_))))))); refine n6 rfl rfl ?_ ?_
 ·intro hg1; have hg1' := hg1; try simp at hg1'
  refine k9 hg1 (b7 rfl (k9 hg1 (b7 rfl (k9 hg1 (mF rfl rfl rfl ?_))))); refine p_f rfl rfl (bf1 hg1) rfl ?_; refine c3 rfl (b8 ?_)
  first | refine k8 rfl (fun hb1 => ?_) (fun hb1 => ?_) | refine d9 rfl (fun hb1 => ?_) (fun hb1 => ?_)
  ·have hb1' := hb1; try simp at hb1'
   have hb2 : [b] = s := by simpa using hb1
   refine c7 (c3 rfl (b8 (l4 (C7 ?_)))); exact ret1 () rfl (by subst hb2; simp [Lib.indexByte, lk]) rfl tK (.refl _) tK
  have hb1' := hb1; try simp at hb1'
  refine c7 (b7 rfl (E3 rfl rfl rfl (c3 rfl (b8 ?_)))); refine c_t rfl sx6 ?_; refine c7 (b7 rfl (b7 rfl ?_)); refine L7 0 rfl l7 rfl rfl rfl rfl (d5 K5 rfl rfl (K2 s b) l6 tK fun _ _ => ?_); refine c3 rfl (b8 (l4 (C7 ?_))); exact ret1 () rfl rfl rfl tK (.refl _) tK
 intro hg1; have hg1' := hg1; try simp at hg1'
theorem gF (s : Str) (b : UInt8) (hs : s.length ≤ 1000000) : Meets prog L5 [str s, str [b]] { val := fun _ : Unit => .tuple #[str (cutB b s).1, str (cutB b s).2.1, .bool (cutB b s).2.2] } := by
 have hI := cV s b; have hC := uT b s; generalize Lib.indexByte s b = z at hI hC; refine i3 iH rfl q6 fun w0 => ?_; refine c7 (c3 rfl (c3 rfl (c3 rfl (b8 (c8 (c7 (b7 rfl (b7 rfl ?_)))))))); refine d5 dE rfl rfl (hI) l6 tK fun _ _ => ?_; refine c3 rfl (n7 (b7 rfl (lN rfl rfl rfl (b8 ?_))))
 first | refine k8 rfl (fun hb1 => ?_) (fun hb1 => ?_) | refine d9 rfl (fun hb1 => ?_) (fun hb1 => ?_)
 ·have hb1' := hb1; try simp at hb1'
  obtain ⟨i, rfl, hi, hcut, _⟩ : ∃ i : Nat, z = i ∧ i < s.length ∧ cutB b s = (s.take i, s.drop (i + 1), true) ∧ True := by
    rcases hC with ⟨h1, _⟩ | ⟨i, h1, h2, h3, _⟩
    · omega
    exact ⟨i, h1, h2, h3, tK⟩
  refine c8 ?_; refine V3 10 mixed (by decide) (by decide) rfl rfl ?_; refine v0 rfl ?_; refine v0 rfl ?_; refine u9 (fun w1 => tD i rfl l7 rfl rfl rfl (by omega) (q_z rfl)) ?_; refine v0 rfl ?_; refine v0 rfl ?_; refine v0 rfl ?_; refine u9 (fun w1 => A7 rfl l7 rfl (q_z rfl)) ?_; refine u9 (fun w1 => v6 ((i + 1 : Nat) : Int) rfl rfl rfl (by simp) r6 (q_z rfl)) ?_; refine u9 (fun w1 => lM (i + 1) rfl l7 rfl rfl (by omega) (by omega) (q_z rfl)) ?_; refine u9 (fun w1 => c3 rfl (q_z rfl)) ?_; refine E8 ⟨rfl, ?_⟩; refine c3 rfl (c3 rfl (b8 (D4 ?_))); exact ret3 () rfl rfl rfl rfl (by rw [hcut] <;> rfl) rfl tK (.refl _) tK
 have hb1' := hb1; try simp at hb1'
 have hcut : cutB b s = (s, [], false) := by
   rcases hC with ⟨_, h2, _⟩ | ⟨i, h1, h2, h3, _⟩
   · exact h2
   omega
 refine d8 (d4 (c7 (b7 rfl (c3 rfl (c3 rfl (c3 rfl (b8 (l4 ?_)))))))); exact ret3 () rfl rfl rfl rfl (by rw [hcut] <;> rfl) rfl tK (.refl _) tK
theorem lK (s : Str) (b : UInt8) (hs : s.length ≤ 1000000) : Meets prog kL [str s, str [b]] { val := fun _ : Unit => .tuple #[str (cutB b s).1, str (cutB b s).2.1, .bool (cutB b s).2.2] } := by
 refine i3 aq8 rfl q6 fun w0 => ?_; refine c7 (c3 rfl (c3 rfl (c3 rfl (n7 (b7 rfl (b7 rfl ?_)))))); refine d5 gO rfl rfl (gF s b hs) l6 tK fun _ _ => ?_; refine j6 rfl rfl rfl (j6 rfl rfl rfl (j6 rfl rfl rfl (c3 rfl (c3 rfl (c3 rfl (b8 (l4 ?_))))))); exact ret3 () rfl rfl rfl rfl rfl rfl tK (.refl _) tK
theorem Q0 (g : Nat) (l : Str) (c : UInt8) : Meets prog K0 [.pointer (k5 g), .int .u8 c.toNat] { LI := [Blk g (asO g l).2], val := fun _ : Unit => .bool (l.any fun x => x == c) } := by
 refine i3 gG rfl q6 fun w0 => ?_; refine c7 (c3 rfl (n7 (b7 rfl (b7 rfl (n0 rfl rfl ?_))))); refine bM c.toNat c.toNat rfl dN jU rfl rfl rfl c.toNat_lt (by simp) ?_; refine b6 (v := .bool (l.any fun x => x == c)) rfl cK rfl (j4 m0 (by rw [List.getElem?_toArray]; exact jx7 l c)) ?_; refine c3 rfl (b8 (l4 ?_)); exact ret1 () rfl rfl rfl tK (.refl _) tK
theorem kA (l : Str) (hl : ∀ c ∈ l, c.toNat < 128) (hn : l.length ≤ 1000000) : Meets prog R7 [str l] { val := fun _ : Unit => .tuple #[.agg (asV l).toArray, .bool true] } := by
 refine i3 lG rfl q6 fun w0 => c7 (y9 rfl (fun _ => cN _) fun g => yS (hp' := [asO g []]) n5 ?_); refine c3 rfl (b8 (c8 (c7 (c3 rfl (b8 (k6 ?_)))))); refine y6 (β := Nat) ⟨fun k => k ≤ l.length, fun k => [(0, str l), (2, .pointer (k5 g)), (4, int k)], fun k => [asO g (l.take k)], fun _ => []⟩ (fun k => l.length - k) 0 (Nat.zero_le _) mC (.refl _) tK fun k hk => ?_; refine c8 (c7 (b7 rfl (b7 rfl ?_))); refine A7 rfl l7 rfl ?_; refine z8 rfl rfl rfl (b8 ?_)
 first | refine k8 rfl (fun hb1 => ?_) (fun hb1 => ?_) | refine d9 rfl (fun hb1 => ?_) (fun hb1 => ?_)
 ·have hb1' := hb1; try simp at hb1'
  have hk1 : k < l.length := by omega
  have hc := hl l[k] (List.getElem_mem hk1); refine d8 (d4 (c8 (k6 (c7 (b7 rfl (b7 rfl ?_)))))); refine L7 k rfl l7 rfl rfl rfl (List.getElem?_eq_getElem hk1) ?_; refine c3 rfl (b8 (c8 (c7 (b7 rfl (lN rfl rfl rfl (b8 ?_))))))
  first | refine k8 rfl (fun hb2 => ?_) (fun hb2 => ?_) | refine d9 rfl (fun hb2 => ?_) (fun hb2 => ?_)
  ·exact absurd hb2 (by simp; omega)
  have hb2' := hb2; try simp at hb2'
  refine d8 (d4 (i4 (b7 rfl ?_))); refine bM (l[k]).toNat (l[k]).toNat rfl dN jU rfl rfl rfl (l[k]).toNat_lt (by simp) ?_; refine A4 rfl rfl (.refl _) jU (by rw [List.getElem?_toArray]; exact jx7 _ _) (by rfl) ?_; refine yS (hp' := [asO g (l.take (k + 1))]) (by show [(g, Obj.cells (((asV (l.take k)).toArray).setIfInBounds (l[k]).toNat (Value.bool true)) G5 (0, 0))] = [(g, Obj.cells (asV (l.take (k + 1))).toArray G5 (0, 0))]; rw [List.take_succ_eq_append_getElem hk1, ← asV_set]; simp) ?_; refine d6 (u7 (d4 (i4 (b7 rfl ?_)))); refine v6 _ rfl rfl rfl rfl r6 ?_; refine c3 rfl (d6 ?_); exact again _ (k + 1) (by show k + 1 ≤ l.length; omega) (D5 (by omega)) mC (.refl _) tK
 have hb1' := hb1; try simp at hb1'
 have hk1 : k = l.length := by omega
 subst hk1; refine s9 (E4 (u6 (d4 (c8 ?_)))); refine bE (hp' := [asO g l]) (show List.Perm [asO g (l.take l.length)] [asO g l] by rw [List.take_length]) ?_; refine i4 ?_; refine C8 rfl bX K6 rfl m0 (by simp [jx6]) ?_; refine u0 (cs := (asV l).toArray) rfl rfl (.refl _) K6 (by rfl) (asV_one l) ?_; refine c3 rfl (b8 (l4 ?_)); exact L6 () rfl rfl rfl bX K6 (by simp [jx6]) m0 rfl rfl tK nK tK
theorem jE (g : Nat) (l s : Str) (hs : s.length ≤ 1000000) : Meets prog P6 [str s, .pointer (k5 g)] { LI := [Blk g (asO g l).2], val := fun _ : Unit => str (trimL (fun c => l.any fun x => x == c) s) } := by
 refine i3 kI rfl q6 fun w0 => ?_; refine c7 (c3 rfl (b8 (c8 (k6 ?_)))); refine y6 (β := Str) ⟨fun q => q.length ≤ 1000000 ∧ trimL (fun c => l.any fun x => x == c) q = trimL (fun c => l.any fun x => x == c) s, fun q => [(0, str q), (1, .pointer (k5 g))], fun _ => [], fun _ => [Blk g (asO g l).2]⟩ (fun q => q.length) s ⟨hs, rfl⟩ mC (.refl _) mC fun q hq => ?_; obtain ⟨hq1, hq2⟩ := hq; refine c8 (c7 (b7 rfl ?_)); refine A7 rfl l7 rfl ?_; refine M5 rfl rfl rfl (b8 ?_)
 first | refine k8 rfl (fun hb1 => ?_) (fun hb1 => ?_) | refine d9 rfl (fun hb1 => ?_) (fun hb1 => ?_)
 ·have hb1' := hb1; try simp at hb1'
  have hq3 : 0 < q.length := by omega
  refine d8 (d4 (k6 (c8 (c7 (b7 rfl (b7 rfl ?_)))))); refine L7 0 rfl l7 rfl rfl rfl (List.getElem?_eq_getElem hq3) ?_; refine d5 Q4 rfl rfl (Q0 g l q[0]) l6 mC fun _ _ => ?_; refine cO rfl rfl (b8 ?_)
  first | refine k8 rfl (fun hb2 => ?_) (fun hb2 => ?_) | refine d9 rfl (fun hb2 => ?_) (fun hb2 => ?_)
  ·have hb2' := hb2; try simp at hb2'
   have hq4 : (fun c => l.any fun x => x == c) q[0] = false := by simpa using hb2
   have hq5 : trimL (fun c => l.any fun x => x == c) q = q := qq7 (p := (fun c => l.any fun x => x == c)) hq3 hq4; refine s9 (H6 (aX rfl (H6 (u6 (d4 (c7 (b7 rfl (c3 rfl (b8 ?_))))))))); refine l4 ?_; exact ret1 () rfl (by rw [← hq2, hq5]; rfl) rfl tK (.refl _) tK
  have hb2' := hb2; try simp at hb2'
  have hq4 : (fun c => l.any fun x => x == c) q[0] = true := by simpa using hb2
  refine d8 (d4 (i4 (b7 rfl ?_))); refine lM 1 rfl l7 rfl rfl (by rfl) (by omega) ?_; refine c3 rfl (d6 (u7 ?_)); exact again _ (q.drop 1) ⟨by rw [List.length_drop]; omega, by rw [← hq2]; exact nq7 (p := (fun c => l.any fun x => x == c)) hq3 hq4⟩ (by show (q.drop 1).length < q.length; rw [List.length_drop]; omega) mC (.refl _) mC
 have hb1' := hb1; try simp at hb1'
 have hq0 : q = [] := List.eq_nil_of_length_eq_zero (by omega); have hq5 : trimL (fun c => l.any fun x => x == c) q = q := by rw [hq0]; rfl
 refine s9 (E4 (u6 (d4 (c7 (b7 rfl (c3 rfl (b8 (l4 ?_)))))))); exact ret1 () rfl (by rw [← hq2, hq5]; rfl) rfl tK (.refl _) tK
theorem iM (g : Nat) (l s : Str) (hs : s.length ≤ 1000000) : Meets prog N8 [str s, .pointer (k5 g)] { LI := [Blk g (asO g l).2], val := fun _ : Unit => str (trimR (fun c => l.any fun x => x == c) s) } := by
 refine i3 jG rfl q6 fun w0 => ?_; refine c7 (c3 rfl (b8 (c8 (k6 ?_)))); refine y6 (β := Str) ⟨fun q => q.length ≤ 1000000 ∧ trimR (fun c => l.any fun x => x == c) q = trimR (fun c => l.any fun x => x == c) s, fun q => [(0, str q), (1, .pointer (k5 g))], fun _ => [], fun _ => [Blk g (asO g l).2]⟩ (fun q => q.length) s ⟨hs, rfl⟩ mC (.refl _) mC fun q hq => ?_; obtain ⟨hq1, hq2⟩ := hq; refine c8 (c7 (b7 rfl ?_)); refine A7 rfl l7 rfl ?_; refine M5 rfl rfl rfl (b8 ?_)
 first | refine k8 rfl (fun hb1 => ?_) (fun hb1 => ?_) | refine d9 rfl (fun hb1 => ?_) (fun hb1 => ?_)
 ·have hb1' := hb1; try simp at hb1'
  have hq3 : 0 < q.length := by omega
  refine d8 (d4 (k6 (c8 (c7 (b7 rfl (b7 rfl (b7 rfl ?_))))))); refine A7 rfl l7 rfl (iF ((q.length - 1 : Nat) : Int) rfl rfl rfl (by omega) r6 ?_); refine L7 (q.length - 1) rfl l7 rfl rfl rfl (List.getElem?_eq_getElem (by omega)) ?_; refine d5 Q4 rfl rfl (Q0 g l (q[q.length - 1]'(by omega))) l6 mC fun _ _ => ?_; refine cO rfl rfl (b8 ?_)
  first | refine k8 rfl (fun hb2 => ?_) (fun hb2 => ?_) | refine d9 rfl (fun hb2 => ?_) (fun hb2 => ?_)
  ·have hb2' := hb2; try simp at hb2'
   have hq4 : (fun c => l.any fun x => x == c) (q[q.length - 1]'(by omega)) = false := by simpa using hb2
   have hq5 : trimR (fun c => l.any fun x => x == c) q = q := qq5 (p := (fun c => l.any fun x => x == c)) hq3 hq4; refine s9 (H6 (aX rfl (H6 (u6 (d4 (c7 (b7 rfl (c3 rfl (b8 ?_))))))))); refine l4 ?_; exact ret1 () rfl (by rw [← hq2, hq5]; rfl) rfl tK (.refl _) tK
  have hb2' := hb2; try simp at hb2'
  have hq4 : (fun c => l.any fun x => x == c) (q[q.length - 1]'(by omega)) = true := by simpa using hb2
  refine d8 (d4 (i4 (b7 rfl (b7 rfl ?_)))); refine A7 rfl l7 rfl (iF ((q.length - 1 : Nat) : Int) rfl rfl rfl (by omega) r6 (tD (q.length - 1) rfl l7 rfl rfl rfl (by omega) ?_)); refine c3 rfl (d6 (u7 ?_)); exact again _ (q.take (q.length - 1)) ⟨by rw [List.length_take]; omega, by rw [← hq2]; exact nq6 (p := (fun c => l.any fun x => x == c)) hq3 hq4⟩ (by show (q.take (q.length - 1)).length < q.length; rw [List.length_take]; omega) mC (.refl _) mC
 have hb1' := hb1; try simp at hb1'
 have hq0 : q = [] := List.eq_nil_of_length_eq_zero (by omega); have hq5 : trimR (fun c => l.any fun x => x == c) q = q := by rw [hq0]; rfl
 refine s9 (E4 (u6 (d4 (c7 (b7 rfl (c3 rfl (b8 (l4 ?_)))))))); exact ret1 () rfl (by rw [← hq2, hq5]; rfl) rfl tK (.refl _) tK
theorem kB (s : Str) (hs : s.length ≤ 1000000) : Meets prog iO [str s, str D10] { val := fun _ : Unit => str (trimL isDig (trimR isDig s)) } := by
 have hf : (fun c : UInt8 => D10.any fun x => x == c) = isDig := funext any_dig; refine i3 yX rfl q6 fun w0 => ?_; refine c7 (c3 rfl (b8 (c8 (c7 (b7 rfl (mF rfl rfl rfl (b7 rfl ?_))))))); refine n6 rfl rfl ?_ ?_
 ·intro hg1; have hg1' := hg1; try simp at hg1'
  refine k9 hg1 (b7 rfl (k9 hg1 (mF rfl rfl rfl ?_))); refine p_f rfl rfl (bf1 hg1) rfl (b8 ?_)
  first | refine k8 rfl (fun hb1 => ?_) (fun hb1 => ?_) | refine d9 rfl (fun hb1 => ?_) (fun hb1 => ?_)
  ·exact absurd hb1 (by decide)
  have hb1' := hb1; try simp at hb1'
  refine d8 (d4 (c8 (c7 (b7 rfl ?_)))); refine A7 rfl l7 rfl ?_; refine E3 rfl rfl rfl (b7 rfl ?_); refine n6 rfl rfl ?_ ?_
  ·intro hg2; have hg2' := hg2; try simp at hg2'
   exact absurd hg2 (by decide)
  intro hg2; have hg2' := hg2; try simp at hg2'
  refine u2 hg2 (u2 hg2 (u2 hg2 ?_)); refine p_f rfl rfl (bf2 hg2) rfl ?_; refine b8 (c_f rfl rfl (d8 (d4 (c8 (c7 (b7 rfl ?_)))))); refine d5 kJ rfl rfl (kA D10 (by decide) (by decide)) l6 tK fun _ _ => ?_; refine b7 rfl (j6 rfl rfl rfl (j6 rfl rfl rfl ?_)); refine y9 rfl (fun _ => cN _) fun g => u0 (cs := (asV D10).toArray) rfl rfl (.refl _) K6 (by rfl) n5 ?_; refine pq7 (c3 rfl (n7 (b7 rfl (b8 ?_)))); refine c_t rfl sx6 ?_; refine c7 (b7 rfl ?_); refine d5 iN rfl rfl (iM g D10 s hs) l6 mC fun _ _ => ?_; refine d5 jH rfl rfl (jE g D10 (trimR (fun c => D10.any fun x => x == c) s) (by have := qq6 (fun c => D10.any fun x => x == c) s; omega)) l6 mC fun _ _ => ?_; refine c3 rfl (b8 (D4 ?_)); exact ret1 () rfl (by rw [hf]; rfl) rfl tK (.refl _) tK
 intro hg1; have hg1' := hg1; try simp at hg1'
 refine u2 hg1 (u2 hg1 ?_); refine p_t rfl rfl (bt2 hg1) rfl ?_; refine b8 (c_t rfl rfl (c7 (b7 rfl (c3 rfl (b8 (D4 ?_)))))); have hb2 : s = [] := by simpa using hg1
 exact ret1 () rfl (by subst hb2; rfl) rfl tK (.refl _) tK
def digS : Str := [48, 49, 50, 51, 52, 53, 54, 55, 56, 57, 97, 98, 99, 100, 101, 102, 103, 104, 105, 106, 107, 108, 109, 110, 111, 112, 113, 114, 115, 116, 117, 118, 119, 120, 121, 122]
def prsS : Str := [48, 48, 48, 49, 48, 50, 48, 51, 48, 52, 48, 53, 48, 54, 48, 55, 48, 56, 48, 57, 49, 48, 49, 49, 49, 50, 49, 51, 49, 52, 49, 53, 49, 54, 49, 55, 49, 56, 49, 57, 50, 48, 50, 49, 50, 50, 50, 51, 50, 52, 50, 53, 50, 54, 50, 55, 50, 56, 50, 57, 51, 48, 51, 49, 51, 50, 51, 51, 51, 52, 51, 53, 51, 54, 51, 55, 51, 56, 51, 57, 52, 48, 52, 49, 52, 50, 52, 51, 52, 52, 52, 53, 52, 54, 52, 55, 52, 56, 52, 57, 53, 48, 53, 49, 53, 50, 53, 51, 53, 52, 53, 53, 53, 54, 53, 55, 53, 56, 53, 57, 54, 48, 54, 49, 54, 50, 54, 51, 54, 52, 54, 53, 54, 54, 54, 55, 54, 56, 54, 57, 55, 48, 55, 49, 55, 50, 55, 51, 55, 52, 55, 53, 55, 54, 55, 55, 55, 56, 55, 57, 56, 48, 56, 49, 56, 50, 56, 51, 56, 52, 56, 53, 56, 54, 56, 55, 56, 56, 56, 57, 57, 48, 57, 49, 57, 50, 57, 51, 57, 52, 57, 53, 57, 54, 57, 55, 57, 56, 57, 57]
def itoaZ (z : Int) : Str := if z < 10 then (digS.drop z.toNat).take 1 else (prsS.drop (2 * z.toNat)).take 2
theorem kz5 (z : Int) : (itoaZ z).length ≤ 2 := by
  unfold itoaZ
  split <;> simp only [List.length_take] <;> omega
def numV (l : Str) : Int := l.foldl (fun n c => n * 10 + ((c.toNat : Int) - 48)) 0
def numOK (t : Str) : Bool := decide (t.length = 1 ∨ t.length = 2 ∧ ¬ t[0]? = some 48) && t.all isDig
def numS (t : Str) : Option Int := if numOK t then some (numV t) else none
theorem gq0 {c : UInt8} (h : isDig c = true) : 48 ≤ c.toNat ∧ c.toNat ≤ 57 := by
  unfold isDig at h
  simpa using h
theorem nz7 {l : Str} {k : Nat} (hk : k < l.length) : numV (l.take (k + 1)) = numV (l.take k) * 10 + ((l[k].toNat : Int) - 48) := by
  rw [List.take_succ_eq_append_getElem hk]; unfold numV; rw [List.foldl_append]
  rfl
theorem numV_bd {l : Str} (h : l.all isDig = true) (h2 : l.length ≤ 2) : 0 ≤ numV l ∧ numV l ≤ 99 := by
  unfold numV
  match l, h2 with
  | [], _ => simp
  | [a], _ => simp at h; have := gq0 h; simp; omega
  | [a, b], _ => simp at h; have h1 := gq0 h.1; have h3 := gq0 h.2; simp; omega
  | a :: b :: c :: r, h2 => simp at h2
theorem yF {l : Str} (h : l.all isDig = true) (h2 : l.length ≤ 2) (k : Nat) : 0 ≤ numV (l.take k) ∧ numV (l.take k) ≤ 99 := by
  refine numV_bd ?_ (by rw [List.length_take]; omega); rw [List.all_eq_true] at h ⊢; exact fun x hx => h x (List.mem_of_mem_take hx)
theorem kq0 (z : Int) (h0 : 0 ≤ z) (h : z < 100) : Meets prog N9 [int z] { val := fun _ : Unit => str (itoaZ z) } := by
 refine i3 jJ rfl q6 fun w0 => ?_; refine c7 (c3 rfl (b8 (c8 (c7 (b7 rfl (z8 rfl rfl rfl (b8 ?_)))))))
 first | refine k8 rfl (fun hb1 => ?_) (fun hb1 => ?_) | refine d9 rfl (fun hb1 => ?_) (fun hb1 => ?_)
 ·have hb1' := hb1; try simp at hb1'
  refine c7 (b7 rfl (b7 rfl ?_)); refine v6 _ rfl rfl rfl rfl r6 ?_; refine tC (s := digS) z.toNat (z.toNat + 1) rfl l7 n5 rfl (by omega) rfl (by omega) (Nat.le_succ _) (by show z.toNat + 1 ≤ 36; omega) ?_; refine c3 rfl (b8 (D4 ?_)); exact ret1 () rfl (by show some (str ((digS.drop z.toNat).take (z.toNat + 1 - z.toNat))) = some (str (itoaZ z)); rw [itoaZ, if_pos hb1, Nat.add_sub_cancel_left]) rfl tK nK tK
 have hb1' := hb1; try simp at hb1'
 refine d8 (d4 (c7 (b7 rfl ?_))); refine rj1 _ rfl rfl rfl rfl r6 (b7 rfl (rj1 _ rfl rfl rfl rfl r6 (v6 _ rfl rfl rfl rfl r6 ?_))); refine tC (s := prsS) (2 * z.toNat) (2 * z.toNat + 2) rfl l7 n5 rfl (by omega) rfl (by omega) (Nat.le_add_right _ _) (by show 2 * z.toNat + 2 ≤ 200; omega) ?_; refine c3 rfl (b8 (l4 ?_)); exact ret1 () rfl (by show some (str ((prsS.drop (2 * z.toNat)).take (2 * z.toNat + 2 - 2 * z.toNat))) = some (str (itoaZ z)); rw [itoaZ, if_neg (by omega), Nat.add_sub_cancel_left]) rfl tK nK tK
theorem cx5 (z : Int) (h0 : 0 ≤ z) (h : z < 100) : Meets prog J0 [int z, int 10] { val := fun _ : Unit => str (itoaZ z) } := by
 refine i3 dM rfl q6 fun w0 => ?_; refine c7 (c3 rfl (b8 (c8 (c7 (b7 rfl (E3 rfl rfl rfl (b8 ?_))))))); refine c_t rfl sx6 ?_; refine c8 (c7 (b7 rfl (r_leq rfl rfl rfl (b7 rfl ?_)))); refine n6 rfl rfl ?_ ?_
 ·intro hg1; have hg1' := hg1; try simp at hg1'
  refine k9 hg1 (b7 rfl (k9 hg1 (z8 rfl rfl rfl ?_))); refine p_t rfl rfl (bt1 hg1) rfl (b8 ?_)
  first | refine k8 rfl (fun hb2 => ?_) (fun hb2 => ?_) | refine d9 rfl (fun hb2 => ?_) (fun hb2 => ?_)
  ·have hb2' := hb2; try simp at hb2'
   refine c7 (b7 rfl ?_); refine d5 iT rfl rfl (kq0 z h0 h) l6 tK fun _ _ => ?_; refine c3 rfl (b8 (D4 (r9 ?_))); exact ret1 () rfl rfl rfl tK nK tK
  exact absurd h (by omega)
 intro hg1; have hg1' := hg1; try simp at hg1'
 exact absurd h0 (by omega)
theorem kz6 (z : Int) (h0 : 0 ≤ z) (h : z < 100) : Meets prog P8 [int z] { val := fun _ : Unit => str (itoaZ z) } := by
 refine i3 kY rfl q6 fun w0 => ?_; refine c7 (c3 rfl (n7 (b7 rfl ?_))); refine d5 dF rfl rfl (cx5 z h0 h) l6 tK fun _ _ => ?_; refine c3 rfl (b8 (l4 ?_)); exact ret1 () rfl rfl rfl tK nK tK
theorem mj6 (z : Int) (h : 0 ≤ z ∧ z < 100) : Meets prog iP [int z] { val := fun _ : Unit => str (itoaZ z) } := by
 refine i3 yY rfl q6 fun w0 => ?_; refine c7 (c3 rfl (n7 (b7 rfl ?_))); refine d5 jK rfl rfl (kz6 z h.1 h.2) l6 tK fun _ _ => ?_; refine c3 rfl (b8 (l4 ?_)); exact ret1 () rfl rfl rfl tK nK tK
theorem lq3 (t : Str) (hl : 0 < t.length ∧ t.length ≤ 2) (hd : t.all isDig = true) : Meets prog P9 [str t] { val := fun _ : Unit => .tuple #[int (numV t), .nilIface] } := by
 have h0 := gq0 (List.all_eq_true.1 hd _ (List.getElem_mem hl.1)); refine i3 kZ rfl q6 fun w0 => ?_; refine c7 (c3 rfl (c3 rfl (n7 (b7 rfl ?_)))); refine A7 rfl l7 rfl ?_; refine c3 rfl (b8 (c8 (c7 (b7 rfl (mL rfl rfl rfl rfl rfl rfl (mL rfl rfl rfl rfl rfl rfl (mL rfl rfl rfl rfl rfl rfl (vW rfl rfl rfl rfl rfl rfl (vW rfl rfl rfl rfl rfl rfl ?_))))))))); refine mL rfl rfl rfl rfl rfl rfl (p_f rfl rfl rfl rfl (b7 rfl (Y6 rfl rfl rfl (b7 rfl (Y6 rfl rfl rfl (b7 rfl (Y6 rfl rfl rfl (z8 rfl rfl rfl (Y6 rfl rfl rfl (b7 rfl ?_)))))))))); refine n6 rfl rfl ?_ ?_
 ·intro hg1; have hg1' := hg1; try simp at hg1'
  refine k9 hg1 (b7 rfl (k9 hg1 (z8 rfl rfl rfl (Y6 rfl rfl rfl ?_)))); refine p_t rfl rfl (bt1 hg1) rfl ?_; refine Y6 rfl rfl rfl (p_t rfl rfl rfl rfl (p_f rfl rfl rfl rfl (b8 ?_)))
  first | refine k8 rfl (fun hb1 => ?_) (fun hb1 => ?_) | refine d9 rfl (fun hb1 => ?_) (fun hb1 => ?_)
  ·have hb1' := hb1; try simp at hb1'
   refine c7 (b7 rfl (c3 rfl (b8 (c8 (c7 (b7 rfl ?_)))))); refine L7 0 rfl l7 rfl rfl rfl (List.getElem?_eq_getElem hl.1) ?_; refine E3 rfl rfl rfl (b7 rfl ?_); refine n6 rfl rfl ?_ ?_
   ·intro hg2; have hg2' := hg2; try simp at hg2'
    refine k9 hg2 (b7 rfl (k9 hg2 ?_)); refine L7 0 rfl l7 rfl rfl rfl (List.getElem?_eq_getElem hl.1) ?_; refine k9 hg2 (E3 rfl rfl rfl ?_); refine p_f rfl rfl (bf1 hg2) rfl (b8 ?_)
    first | refine k8 rfl (fun hb2 => ?_) (fun hb2 => ?_) | refine d9 rfl (fun hb2 => ?_) (fun hb2 => ?_)
    ·omega
    have hb2' := hb2; try simp at hb2'
    refine d8 (d4 (c7 (c3 rfl (b8 (c8 (c7 (b7 rfl ?_))))))); refine cz4 rfl l7 A5 pZ rfl fun gb cap => l8 rfl A5 rfl ?_; refine b7 rfl (b8 (k6 ?_)); refine y6 (β := Nat) ⟨fun k => k ≤ t.length, fun k => [(0, str t), (5, str t), (6, int (numV (t.take k))), (47, .slice (k5 gb) t.length cap), (48, int t.length), (49, int k)], fun _ => [], fun _ => [Row (k5 gb) (rows t)]⟩ (fun k => t.length - k) 0 (Nat.zero_le _) mC nK mC fun k hk => ?_; have hb := yF hd hl.2 k; refine c7 (z8 rfl rfl rfl (b8 (c8 ?_)))
    first | refine k8 rfl (fun hb4 => ?_) (fun hb4 => ?_) | refine d9 rfl (fun hb4 => ?_) (fun hb4 => ?_)
    ·have hb4' := hb4; try simp at hb4'
     have hk1 : k < t.length := by omega
     have hdk := gq0 (List.all_eq_true.1 hd _ (List.getElem_mem hk1)); refine d8 (d4 (c8 (k6 (c7 ?_)))); refine z5 (α := UInt8) _ _ rfl A5 xM rfl rfl rfl mB rfl (by omega) (by decide) ?_; refine b6 rfl qC rfl (i9 m0 (d7 hk1 (by rw [N1 hk1]; rfl))) ?_; refine c3 rfl (n7 (b7 rfl ?_)); refine vS (.int .u8 ((t[k].toNat : Int) - 48)) rfl rfl rfl (fun _ => rfl) (fun w => by show Result.ok (Value.int .u8 (IntKind.u8.wrap ((t[k].toNat : Int) - 48))) w = _; rw [IntWalk.u8_in _ (by omega)]) ?_; refine c3 rfl (b8 (c8 (c7 (b7 rfl (M5 rfl rfl rfl (b8 ?_))))))
     first | refine k8 rfl (fun hb5 => ?_) (fun hb5 => ?_) | refine d9 rfl (fun hb5 => ?_) (fun hb5 => ?_)
     ·omega
     have hb5' := hb5; try simp at hb5'
     refine d8 (d4 (i4 (b7 rfl ?_))); refine rj1 (numV (t.take k) * 10) rfl rfl rfl rfl r6 (b7 rfl (jj0 ((t[k].toNat : Int) - 48) rfl pZ V7 rfl (IntWalk.i64_in _ (by omega)) ?_)); refine v6 (numV (t.take (k + 1))) rfl rfl rfl (nz7 hk1).symm (by have := yF hd hl.2 (k + 1); unfold I64; omega) ?_; refine c3 rfl (d6 (u7 (d4 (i4 ?_)))); refine v6 _ rfl rfl rfl rfl r6 ?_; refine b7 rfl (d6 ?_); exact again _ (k + 1) (by show k + 1 ≤ t.length; omega) (D5 (by omega)) mC nK mC
    have hb4' := hb4; try simp at hb4'
    have hk1 : k = t.length := by omega
    subst hk1; refine s9 (E4 (u6 (d4 (c8 (c7 (b7 rfl ?_)))))); refine L7 0 rfl l7 rfl rfl rfl (List.getElem?_eq_getElem hl.1) ?_; refine E3 rfl rfl rfl (b8 ?_)
    first | refine k8 rfl (fun hb6 => ?_) (fun hb6 => ?_) | refine d9 rfl (fun hb6 => ?_) (fun hb6 => ?_)
    ·omega
    have hb6' := hb6; try simp at hb6'
    refine d8 (d4 (c7 (b7 rfl (c3 rfl (c3 rfl (b8 (D4 ?_))))))); exact ret2 () rfl rfl rfl (by rw [List.take_length]) rfl tK nK tK
   intro hg2; have hg2' := hg2; try simp at hg2'
   all_goals omega
  omega
 intro hg1; have hg1' := hg1; try simp at hg1'
 exact absurd hg1 (by rw [decide_eq_true (show (0 : Int) < (t.length : Int) by omega)]; decide)
theorem gq8 (t : Str) (hl : 0 < t.length ∧ t.length ≤ 2) (hd : t.all isDig = true) : Meets prog iQ [str t] { val := fun _ : Unit => .tuple #[int (numV t), .nilIface] } := by
 refine i3 yZ rfl q6 fun w0 => ?_; refine c7 (c3 rfl (c3 rfl (n7 (b7 rfl ?_)))); refine d5 jL rfl rfl (lq3 t hl hd) l6 tK fun _ _ => ?_; refine b7 rfl (j6 rfl rfl rfl (j6 rfl rfl rfl (c3 rfl (c3 rfl (b8 (c8 (c7 (b7 rfl ?_)))))))); refine vS (.bool false) rfl rfl rfl (fun _ => rfl) (fun _ => rfl) (b8 (c_f rfl gq7 ?_)); refine d8 (d4 (c7 (b7 rfl (c3 rfl (c3 rfl (b8 (l4 ?_))))))); exact ret2 () rfl rfl rfl rfl rfl tK nK tK
def K4 : Str := [63, 43, 61, 45]
def markK (k : Int) (r : Str) : Option Mk :=
  if k < 1 ∨ ¬ (cutB 32 r).2.2 = decide (¬ k = 3) then none else
  match numS (cutB 32 r).1 with
  | none => none
  | some n => if textErr (k, n, (cutB 32 r).2.1) = 0 then some (k, n, (cutB 32 r).2.1) else none
def markS : Str → Option Mk
  | [] => none
  | c :: r => markK (Lib.indexByte K4 c) r
def readF : Nat → Str → List Mk → List Mk × Bool
  | 0, s, ms => (ms, s.isEmpty)
  | n + 1, s, ms => if s = [] then (ms, true) else if (cutB 47 s).2.2 = false then (ms, false) else
    match markS (cutB 47 s).1 with
    | none => (ms, false)
    | some m => readF n (cutB 47 s).2.1 (ms ++ [m])
def contR (n : Nat) (p : Str × Str × Bool) (ms : List Mk) : List Mk × Bool :=
  if p.2.2 = true then (match markS p.1 with | none => (ms, false) | some m => readF n p.2.1 (ms ++ [m])) else (ms, true)
theorem nz3 (n : Nat) (ms : List Mk) : readF n [] ms = (ms, true) := by cases n <;> rfl
theorem dq2 {n : Nat} {x : Str} {ms : List Mk} {p q : Str} (hx : x ≠ []) (hn : x.length ≤ n) (h : cutB 47 x = (p, q, true)) : readF n x ms = contR (n - 1) (p, q, true) ms ∧ q.length ≤ n - 1 ∧ 1 ≤ n := by
  have h0 : 0 < x.length := List.length_pos_iff.2 hx
  rcases uT 47 x with ⟨_, h2, _⟩ | ⟨i, _, h1, h2, _⟩
  · rw [h2] at h; cases h
  rw [h2] at h
  injection h with e1 e2
  injection e2 with e2 e3
  cases n with
  | zero => omega
  | succ n =>
    refine ⟨?_, by rw [← e2, List.length_drop]; omega, by omega⟩; rw [readF, if_neg hx, h2, if_neg (by simp), contR, if_pos rfl, ← e1, ← e2]
    rfl
theorem hz6 {n : Nat} {x : Str} {ms : List Mk} (hx : x ≠ []) (hn : x.length ≤ n) (h : (cutB 47 x).2.2 = false) : readF n x ms = (ms, false) := by
  have h0 : 0 < x.length := List.length_pos_iff.2 hx
  cases n with
  | zero => omega
  | succ n => rw [readF, if_neg hx, if_pos h]
def readE (x : Str) : List Mk × Int × Int :=
  if 160 < x.length then ([], 0, 10) else if (readF x.length x []).2 = false then ([], (readF x.length x []).1.length, 2) else if 12 < (readF x.length x []).1.length then ([], 0, 6) else ((readF x.length x []).1, 0, 0)
theorem hz5 : ∀ (n : Nat) (x : Str) (ms : List Mk), (readF n x ms).1.length ≤ ms.length + n
  | 0, x, ms => Nat.le_refl _
  | n + 1, x, ms => by
    rw [readF]
    split
    · simp
    split
    · simp
    split
    · simp
    have := hz5 n (cutB 47 x).2.1 (ms ++ [by assumption]); rw [List.length_append] at this; simp only [List.length_cons, List.length_nil] at this
    omega
abbrev rdO (g : Nat) (x : Str) (n : Int) (V : Value) : Nat × Obj := (g, Obj.cells #[str x, int n, V] rR (0, 0))
abbrev rdV (o : OutC) (ms : List Mk) : Value := .slice o.1 ms.length o.2
abbrev rdH (g : Nat) (x : Str) (n : Int) (o : OutC) (ms : List Mk) (og : Hp) : Hp := rdO g x n (rdV o ms) :: og
abbrev wrongV (n : Int) : Value := .iface dj7 (int n)
theorem W5 {t : Str} (h : t.length = 0 ∨ 2 < t.length) : numS t = none := by
  unfold numS numOK; rw [if_neg]; rw [Bool.and_eq_true, decide_eq_true_eq]; rintro ⟨h1, _⟩
  omega
theorem nY {t : Str} (h : 0 < t.length) (h1 : t.length = 2) (h2 : ((t[0]).toNat : Int) = 48) : numS t = none := by
  unfold numS numOK; rw [if_neg]; rw [Bool.and_eq_true, decide_eq_true_eq]; rintro ⟨h3 | ⟨_, h3⟩, _⟩
  · omega
  apply h3
  rw [List.getElem?_eq_getElem h]; have : t[0] = UInt8.ofNat 48 := (byte_eq (by decide)).1 h2; rw [this]; rfl
theorem nX {t : Str} (h : ¬ t.all isDig = true) : numS t = none := by
  unfold numS numOK; rw [if_neg]; rw [Bool.and_eq_true]; exact fun h2 => h h2.2
theorem kx5 {t : Str} (h0 : 0 < t.length) (h : t.length ≤ 2) (h1 : t.length = 2 → ¬ ((t[0]).toNat : Int) = 48) (hd : t.all isDig = true) : numS t = some (numV t) := by
  unfold numS numOK; rw [if_pos]; rw [Bool.and_eq_true, decide_eq_true_eq]; refine ⟨?_, hd⟩
  by_cases h2 : t.length = 2
  · refine .inr ⟨h2, fun h3 => h1 h2 ?_⟩
    rw [List.getElem?_eq_getElem h0] at h3; have : t[0] = 48 := Option.some.inj h3; rw [this]; rfl
  exact .inl (by omega)
theorem dP (g : Nat) (x : Str) (n : Int) (V : Value) (hx : x.length ≤ 1000000) : MeetsE prog bR [.pointer (k5 g)] { hpI := [rdO g x n V], inv := fun p : Str × Str × Bool => (x = [] ∧ p = ([], [], false)) ∨ (x ≠ [] ∧ cutB 47 x = (p.1, p.2.1, true) ∧ p.2.2 = true), val := fun p => .tuple #[str p.1, .bool p.2.2], hpO := fun p => [rdO g p.2.1 n V] } { inv := fun _ : Unit => x ≠ [] ∧ (cutB 47 x).2.2 = false, val := fun _ => wrongV n, hpO := fun _ => [rdO g x n V] } := by
 refine qS tW rfl q6 fun w0 => ?_; refine c7 (c3 rfl (c3 rfl (b8 (c8 (c7 (b7 rfl (n0 rfl rfl ?_)))))))
 first | refine b3 ⟨_, 0, none⟩ rfl rfl H2 rfl ?_ | refine b3 _ rfl rfl H2 rfl ?_
 refine b6 (v := str x) rfl j5 rfl (i5 m0 rfl) ?_; refine mF rfl rfl rfl (b8 ?_)
 first | refine k8 rfl (fun hb1 => ?_) (fun hb1 => ?_) | refine d9 rfl (fun hb1 => ?_) (fun hb1 => ?_)
 ·have hb1' := hb1; try simp at hb1'
  have hb2 : x = [] := by simpa using hb1
  refine c7 (c3 rfl (c3 rfl (b8 (D4 (hq_E ?_))))); exact ret2 ([], [], false) rfl rfl rfl rfl rfl (.inl ⟨hb2, rfl⟩) (by subst hb2; exact .refl _) tK
 have hb1' := hb1; try simp at hb1'
 have hx0 : x ≠ [] := by simpa using hb1
 refine d8 (d4 (c7 (b7 rfl (n0 rfl rfl ?_))))
 first | refine b3 ⟨_, 0, none⟩ rfl rfl H2 rfl ?_ | refine b3 _ rfl rfl H2 rfl ?_
 refine b6 (v := str x) rfl j5 rfl (i5 m0 rfl) (d5 lU rfl rfl (lK x 47 hx) (hpR := [_]) (.refl _) tK fun _ _ => ?_); obtain ⟨⟨p, q, bo⟩, hcut⟩ : ∃ y, cutB 47 x = y := ⟨_, rfl⟩; rw [hcut]; refine b7 rfl (j6 rfl rfl rfl (j6 rfl rfl rfl (j6 rfl rfl rfl (c3 rfl (c3 rfl (c3 rfl (b8 (c8 (c7 ?_))))))))); refine b7 rfl (cO rfl rfl (b8 ?_))
 first | refine k8 rfl (fun hb2 => ?_) (fun hb2 => ?_) | refine d9 rfl (fun hb2 => ?_) (fun hb2 => ?_)
 ·have hb2' := hb2; try simp at hb2'
  have hb3 : bo = false := by simpa using hb2
  refine i4 (b7 rfl (n0 rfl rfl ?_))
  first | refine b3 ⟨_, 1, none⟩ rfl rfl n4 rfl ?_ | refine b3 _ rfl rfl n4 rfl ?_
  refine b6 (v := int n) rfl a9 rfl (i5 m0 rfl) (vR rfl ⟨_, underlying138, rfl⟩ rfl (gX rfl (fun _ => rfl) ?_))
  repeat (first | refine O7 ?_ | refine X5 ?_)
  exact cS () rfl rfl ⟨hx0, by first | exact hb3 | (rw [hcut]; exact hb3)⟩ (.refl _) tK
 have hb2' := hb2; try simp at hb2'
 obtain rfl : bo = true := by simpa using hb2
 refine d8 (d4 (c7 (b7 rfl (b7 rfl (n0 rfl rfl ?_)))))
 first | refine b3 ⟨_, 0, none⟩ rfl rfl H2 rfl ?_ | refine b3 _ rfl rfl H2 rfl ?_
 refine A4 rfl rfl (.refl _) z2 (by rfl) (by rfl) ?_; refine n7 (b7 rfl (c3 rfl (c3 rfl (b8 (l4 (hq_E ?_)))))); exact ret2 (p, q, true) rfl rfl rfl rfl rfl (.inr ⟨hx0, by first | exact hcut | rfl, rfl⟩) (.refl _) tK
theorem nQ (g : Nat) (x : Str) (n : Int) (V : Value) (t : Str) (ht : t.length ≤ 1000000) : MeetsE prog Z3 [.pointer (k5 g), str t] { hpI := [rdO g x n V], inv := fun z : Int => numS t = some z, val := fun z => int z, hpO := fun _ => [rdO g x n V] } { inv := fun _ : Unit => numS t = none, val := fun _ => wrongV n, hpO := fun _ => [rdO g x n V] } := by
 refine qS rE rfl q6 fun w0 => ?_; refine c7 (c3 rfl (b8 (c8 (c7 (b7 rfl ?_))))); refine A7 rfl l7 rfl ?_; refine E3 rfl rfl rfl (b7 rfl ?_); refine n6 rfl rfl ?_ ?_
 ·intro hg1; have hg1' := hg1; try simp at hg1'
  refine k9 hg1 (b7 rfl (k9 hg1 ?_)); refine A7 rfl l7 rfl ?_; refine k9 hg1 (M5 rfl rfl rfl ?_); refine p_f rfl rfl (bf1 hg1) rfl (b7 rfl ?_); refine n6 rfl rfl ?_ ?_
  ·intro hg2; have hg2' := hg2; try simp at hg2'
   refine k9 hg2 (b7 rfl (k9 hg2 ?_)); refine A7 rfl l7 rfl ?_; refine k9 hg2 (E3 rfl rfl rfl (k9 hg2 (b7 rfl ?_))); refine n6 rfl rfl ?_ ?_
   ·intro hg3; have hg3' := hg3; try simp at hg3'
    refine k9 hg3 (b7 rfl (k9 hg3 ?_)); refine L7 0 rfl l7 rfl rfl rfl (List.getElem?_eq_getElem (by first | omega | exact List.length_pos_iff.2 (by assumption))) ?_; refine k9 hg3 (E3 rfl rfl rfl (k9 hg2 ?_)); refine p_t rfl rfl (bt1 hg3) rfl (p_f rfl rfl (bf1 hg2) rfl (b7 rfl ?_)); refine n6 rfl rfl ?_ ?_
    ·intro hg4; have hg4' := hg4; try simp at hg4'
     refine k9 hg4 (b7 rfl (k9 hg4 ?_)); refine d5 kK rfl rfl (kB t ht) (hpR := [_]) (.refl _) tK fun _ _ => ?_; refine k9 hg4 (dq4 rfl rfl rfl ?_); refine p_f rfl rfl (bf1 hg4) rfl (b8 ?_)
     first | refine k8 rfl (fun hb1 => ?_) (fun hb1 => ?_) | refine d9 rfl (fun hb1 => ?_) (fun hb1 => ?_)
     ·have hb1' := hb1; try simp at hb1'
      refine i4 (b7 rfl (n0 rfl rfl ?_))
      first | refine b3 ⟨_, 1, none⟩ rfl rfl n4 rfl ?_ | refine b3 _ rfl rfl n4 rfl ?_
      refine b6 (v := int n) rfl a9 rfl (i5 m0 rfl) (vR rfl ⟨_, underlying138, rfl⟩ rfl (gX rfl (fun _ => rfl) ?_))
      repeat (first | refine O7 ?_ | refine X5 ?_)
      exact cS () rfl rfl (by first | exact W5 (by omega) | exact W5 (.inl (by rw [show t = [] by assumption]; rfl)) | exact nY (by first | omega | exact List.length_pos_iff.2 (by assumption)) (by omega) (by assumption) | exact nX (fun h => by have h9 := jR.2 h; simp_all)) (.refl _) tK
     have hb1' := hb1; try simp at hb1'
     have hd : t.all isDig = true := jR.1 (by simpa using hb1); refine d8 (d4 (c7 (b7 rfl ?_))); refine d5 kM rfl rfl (gq8 t ⟨(by first | omega | exact List.length_pos_iff.2 (by assumption)), by omega⟩ hd) (hpR := [_]) (.refl _) tK fun _ _ => ?_; refine b7 rfl (j6 rfl rfl rfl (j6 rfl rfl rfl (c3 rfl (c3 rfl (n7 (b7 rfl (c3 rfl (d6 ?_)))))))); refine d4 (l4 (hq_E ?_)); exact ret1 (numV t) rfl rfl rfl (kx5 (by first | omega | exact List.length_pos_iff.2 (by assumption)) (by omega) (by first | (intro _; assumption) | (intro h; exact absurd h (by omega))) hd) (.refl _) tK
    intro hg4; have hg4' := hg4; try simp at hg4'
    refine u2 hg4 (u2 hg4 (u2 hg4 ?_)); refine p_t rfl rfl (bt2 hg4) rfl ?_; refine b8 (c_t rfl rfl (i4 (b7 rfl (n0 rfl rfl ?_))))
    first | refine b3 ⟨_, 1, none⟩ rfl rfl n4 rfl ?_ | refine b3 _ rfl rfl n4 rfl ?_
    refine b6 (v := int n) rfl a9 rfl (i5 m0 rfl) (vR rfl ⟨_, underlying138, rfl⟩ rfl (gX rfl (fun _ => rfl) ?_))
    repeat (first | refine O7 ?_ | refine X5 ?_)
    exact cS () rfl rfl (by first | exact W5 (by omega) | exact W5 (.inl (by rw [show t = [] by assumption]; rfl)) | exact nY (by first | omega | exact List.length_pos_iff.2 (by assumption)) (by omega) (by assumption) | exact nX (fun h => by have h9 := jR.2 h; simp_all)) (.refl _) tK
   intro hg3; have hg3' := hg3; try simp at hg3'
   refine u2 hg3 (u2 hg3 (u2 hg3 (k9 hg2 ?_))); refine p_f rfl rfl (bf2 hg3) rfl (p_f rfl rfl (bf1 hg2) rfl ?_); refine b7 rfl (Y6 rfl rfl rfl (b7 rfl (Y6 rfl rfl rfl ?_))); refine d5 kK rfl rfl (kB t ht) (hpR := [_]) (.refl _) tK fun _ _ => ?_; refine Y6 rfl rfl rfl (dq4 rfl rfl rfl (p_f rfl rfl rfl rfl (b8 ?_)))
   first | refine k8 rfl (fun hb1 => ?_) (fun hb1 => ?_) | refine d9 rfl (fun hb1 => ?_) (fun hb1 => ?_)
   ·have hb1' := hb1; try simp at hb1'
    refine i4 (b7 rfl (n0 rfl rfl ?_))
    first | refine b3 ⟨_, 1, none⟩ rfl rfl n4 rfl ?_ | refine b3 _ rfl rfl n4 rfl ?_
    refine b6 (v := int n) rfl a9 rfl (i5 m0 rfl) (vR rfl ⟨_, underlying138, rfl⟩ rfl (gX rfl (fun _ => rfl) ?_))
    repeat (first | refine O7 ?_ | refine X5 ?_)
    exact cS () rfl rfl (by first | exact W5 (by omega) | exact W5 (.inl (by rw [show t = [] by assumption]; rfl)) | exact nY (by first | omega | exact List.length_pos_iff.2 (by assumption)) (by omega) (by assumption) | exact nX (fun h => by have h9 := jR.2 h; simp_all)) (.refl _) tK
   have hb1' := hb1; try simp at hb1'
   have hd : t.all isDig = true := jR.1 (by simpa using hb1); refine d8 (d4 (c7 (b7 rfl ?_))); refine d5 kM rfl rfl (gq8 t ⟨(by first | omega | exact List.length_pos_iff.2 (by assumption)), by omega⟩ hd) (hpR := [_]) (.refl _) tK fun _ _ => ?_; refine b7 rfl (j6 rfl rfl rfl (j6 rfl rfl rfl (c3 rfl (c3 rfl (n7 (b7 rfl (c3 rfl (d6 ?_)))))))); refine d4 (l4 (hq_E ?_)); exact ret1 (numV t) rfl rfl rfl (kx5 (by first | omega | exact List.length_pos_iff.2 (by assumption)) (by omega) (by first | (intro _; assumption) | (intro h; exact absurd h (by omega))) hd) (.refl _) tK
  intro hg2; have hg2' := hg2; try simp at hg2'
  refine u2 hg2 (u2 hg2 (u2 hg2 (u2 hg2 (vW rfl rfl rfl rfl rfl rfl (vW rfl rfl rfl rfl rfl rfl (vW rfl rfl rfl rfl rfl rfl (u2 hg2 ?_))))))); refine p_t rfl rfl (bt2 hg2) rfl ?_; refine b7 rfl (mL rfl rfl rfl rfl rfl rfl (mL rfl rfl rfl rfl rfl rfl (mL rfl rfl rfl rfl rfl rfl (p_t rfl rfl rfl rfl (b8 (c_t rfl rfl (i4 (b7 rfl (n0 rfl rfl ?_)))))))))
  first | refine b3 ⟨_, 1, none⟩ rfl rfl n4 rfl ?_ | refine b3 _ rfl rfl n4 rfl ?_
  refine b6 (v := int n) rfl a9 rfl (i5 m0 rfl) (vR rfl ⟨_, underlying138, rfl⟩ rfl (gX rfl (fun _ => rfl) ?_))
  repeat (first | refine O7 ?_ | refine X5 ?_)
  exact cS () rfl rfl (by first | exact W5 (by omega) | exact W5 (.inl (by rw [show t = [] by assumption]; rfl)) | exact nY (by first | omega | exact List.length_pos_iff.2 (by assumption)) (by omega) (by assumption) | exact nX (fun h => by have h9 := jR.2 h; simp_all)) (.refl _) tK
 intro hg1; have hg1' := hg1; try simp at hg1'
 refine u2 hg1 (u2 hg1 (u2 hg1 ?_)); refine p_t rfl rfl (bt2 hg1) rfl ?_; refine b7 rfl (mL rfl rfl rfl rfl rfl rfl (mL rfl rfl rfl rfl rfl rfl (mL rfl rfl rfl rfl rfl rfl (mL rfl rfl rfl rfl rfl rfl (vW rfl rfl rfl rfl rfl rfl (vW rfl rfl rfl rfl rfl rfl (vW rfl rfl rfl rfl rfl rfl (mL rfl rfl rfl rfl rfl rfl (p_t rfl rfl rfl rfl (b7 rfl (mL rfl rfl rfl rfl rfl rfl ?_))))))))))); refine mL rfl rfl rfl rfl rfl rfl (mL rfl rfl rfl rfl rfl rfl (p_t rfl rfl rfl rfl (b8 (c_t rfl rfl (i4 (b7 rfl (n0 rfl rfl ?_)))))))
 first | refine b3 ⟨_, 1, none⟩ rfl rfl n4 rfl ?_ | refine b3 _ rfl rfl n4 rfl ?_
 refine b6 (v := int n) rfl a9 rfl (i5 m0 rfl) (vR rfl ⟨_, underlying138, rfl⟩ rfl (gX rfl (fun _ => rfl) ?_))
 repeat (first | refine O7 ?_ | refine X5 ?_)
 exact cS () rfl rfl (by first | exact W5 (by omega) | exact W5 (.inl (by rw [show t = [] by assumption]; rfl)) | exact nY (by first | omega | exact List.length_pos_iff.2 (by assumption)) (by omega) (by assumption) | exact nX (fun h => by have h9 := jR.2 h; simp_all)) (.refl _) tK
end Go.Proofs.YtpfbbggmcbhboaaGreatDoor
end
