/- Texts. -/
import Derived.Conc.EventLaws2
import Derived.Conc.AppendEvents3
import Derived.Conc.DeferLaws
import Derived.Conc.Own5
import Derived.Conc.Neutral
import Derived.Test.YtpfbbggmcbhboaaGreatDoorAAk
import Derived.Test.YtpfbbggmcbhboaaGreatDoorAAe
import Derived.Test.YtpfbbggmcbhboaaGreatDoorAAd
set_option linter.unusedVariables false
set_option linter.unusedSimpArgs false
section
namespace Go.W
open Go Go.Conc
set_option maxRecDepth 4000
def Dry {α : Type} : Sem α → Prop
  | .pure _ => True
  | .load _ _ _ => False
  | .store _ _ _ _ => False
  | .new _ k => ∀ r, Dry (k r)
  | .shape _ k => ∀ s, Dry (k s)
  | .freeze _ _ k => Dry k
  | .frozen _ k => ∀ b, Dry (k b)
  | .getObj _ _ => False
  | .setObj _ _ _ => False
  | .choose _ k => ∀ n, Dry (k n)
  | .sys _ _ => False
  | .program k => ∀ p, Dry (k p)
  | .mark _ _ => False
  | .halt _ => True
theorem sq3 {α : Type} {P : Program} (s : Sem α) : Dry s → ∀ (w : World) (es : Array Event), (s.runT P w es).2 = es := by
  induction s with
  | pure a => intro _ w es; rfl
  | load m a k ih => intro h; exact h.elim
  | store m a v k ih => intro h; exact h.elim
  | new o k ih => intro hq w es; exact ih _ (hq _) _ _
  | shape r k ih => intro hq w es; exact ih _ (hq _) _ _
  | freeze a n k ih => intro hq w es; exact ih hq _ _
  | frozen a k ih => intro hq w es; exact ih _ (hq _) _ _
  | getObj r k ih => intro h; exact h.elim
  | setObj r o k ih => intro h; exact h.elim
  | choose q k ih =>
    intro hq w es; simp only [Sem.runT]
    split
    · exact ih _ (hq _) _ _
    exact ih _ (hq _) _ _
  | sys c k ih => intro h; exact h.elim
  | program k ih => intro hq w es; exact ih _ (hq _) _ _
  | mark m k ih => intro h; exact h.elim
  | halt h => intro _ w es; rfl
theorem V6 {α : Type} {P : Program} {s : Sem α} (h : Dry s) (w : World) (es : Array Event) : s.events P w es = es := sq3 s h w es
theorem uF {α β : Type} {s : Sem α} {f : α → Sem β} (hs : Dry s) (hf : ∀ a, Dry (f a)) : Dry (s >>= f) := by
  show Dry (s.bind f)
  induction s with
  | pure a => exact hf a
  | load m a k ih => exact hs.elim
  | store m a v k ih => exact hs.elim
  | new o k ih => exact fun v => ih v (hs v)
  | shape r k ih => exact fun v => ih v (hs v)
  | freeze a n k ih => exact ih hs
  | frozen a k ih => exact fun v => ih v (hs v)
  | getObj r k ih => exact hs.elim
  | setObj r o k ih => exact hs.elim
  | choose q k ih => exact fun v => ih v (hs v)
  | sys c k ih => exact hs.elim
  | program k ih => exact fun v => ih v (hs v)
  | mark m k ih => exact hs.elim
  | halt h => trivial
theorem dry_map {α β : Type} {f : α → β} {s : Sem α} (h : Dry s) : Dry (f <$> s) := uF h fun _ => trivial
theorem dry_ite {α : Type} {c : Prop} [Decidable c] {s t : Sem α} (hs : Dry s) (ht : Dry t) : Dry (if c then s else t) := by
  split
  · exact hs
  exact ht
theorem gj9 {α β : Type} {f : α → β → Sem (ForInStep β)} (hf : ∀ a b, Dry (f a b)) : ∀ (l : List α) (b : β), Dry (forIn l b f)
  | [], b => by rw [List.forIn_nil]; trivial
  | a :: l, b => by
    rw [List.forIn_cons]; refine uF (hf a b) fun r => ?_
    cases r with
    | done b => trivial
    | yield b => exact gj9 hf l b
theorem sq4 {α β : Type} {f : α → β → Sem (ForInStep β)} (hf : ∀ a b, Dry (f a b)) (l : Array α) (b : β) : Dry (forIn l b f) := by
  rw [← Array.forIn_toList]; exact gj9 hf _ _
class DC {α : Type} (s : Sem α) : Prop where
  out : Dry s
theorem aU {α : Type} {s : Sem α} (h : Dry s := by repeat' (first | exact tK | assumption | exact fun _ => trivial | exact DC.out | refine dry_ite ?_ ?_ | refine uF ?_ fun _ => ?_ | refine dry_map ?_ | refine gj9 (fun _ _ => ?_) _ _ | refine sq4 (fun _ _ => ?_) _ _ | (intro _; done) | split | (show Dry _; dsimp only))) : Dry s := h
instance {α : Type} (s : String) : DC (stuck s : Sem α) := ⟨tK⟩
instance {α : Type} (s : Unsupported) : DC (unsupported s : Sem α) := ⟨tK⟩
instance {α : Type} (v : Value) : DC (goPanic v : Sem α) := ⟨tK⟩
instance : DC program := ⟨fun _ => trivial⟩
instance (o : Obj) : DC (newObj o) := ⟨fun _ => trivial⟩
instance (t : TypeId) : DC (typeInfo t) := ⟨by unfold typeInfo; exact aU⟩
instance (t : TypeId) : DC (underlying t) := ⟨by unfold underlying; exact aU⟩
instance (t : TypeId) : DC (sizeOf t) := ⟨by unfold sizeOf; exact aU⟩
instance (t : TypeId) : DC (isAgg t) := ⟨by unfold isAgg; exact aU⟩
instance (t : TypeId) : DC (zeroValue t) := ⟨by unfold zeroValue; exact aU⟩
instance (r : Nat) : DC (shape r) := ⟨fun _ => trivial⟩
instance (e : TypeId) (cs : Array Value) : DC (newRow e cs) := ⟨by unfold newRow; exact aU⟩
instance (e : TypeId) (v : Value) : DC (newVar e v) := ⟨by unfold newVar; exact aU⟩
instance (t : TypeId) : DC (elemOf t) := ⟨by unfold elemOf; exact aU⟩
instance (q : Question) : DC (choose q) := ⟨fun _ => trivial⟩
instance {α : Type} (e : RuntimeError) : DC (runtimePanic e : Sem α) := ⟨by
  unfold runtimePanic; refine uF (fun _ => trivial) fun p => ?_
  cases e <;> exact aU⟩
instance (v : Value) : DC (asIntOf v) := ⟨by unfold asIntOf; exact aU⟩
instance (v : Value) : DC (asBool v) := ⟨by unfold asBool; exact aU⟩
instance (v : Value) : DC (asAddr v) := ⟨by unfold asAddr; exact aU⟩
instance {α : Type} (k : IntKind) (x y : Int) (c : BoundsCode) : DC (boundsPanic k x y c : Sem α) := ⟨by unfold boundsPanic; exact aU⟩
instance (v : Value) : DC (Instr.sureAddr v) := ⟨by unfold Instr.sureAddr; exact aU⟩
instance (t : TypeId) (v x : Value) : DC (Instr.indexAt t v x) := ⟨by unfold Instr.indexAt; exact aU⟩
instance (f : Fn) (x y : Array Value) : DC (Instr.makeFunc f x y) := ⟨by unfold Instr.makeFunc; exact aU⟩
/-! ### What may stand for one of them, or for goroutine 0 -/
structure TX where
  p : Dh
  ro : Hq
  main : Bool
  T : Nat → Frame → List Frame → Hq → Prop
  lift : ∀ B fr cs hp, (∀ w, Sur p w → Held hp w → Held ro w → ∃ fr' cs' w' es hp', stepG p.P main (G fr cs) w = .go (G fr' cs') w' es ∧ (∀ e ∈ es, EvIn p ro hp e) ∧ Trn w w' hp hp' ∧ T B fr' cs' hp') → T (B + 1) fr cs hp
  mono : ∀ B fr cs hp, T B fr cs hp → T (B + 1) fr cs hp
theorem tE {P : Program} : ∀ {n d : Nat} {g : Goroutine}, QuitsD P n d g → QuitsD P (n + 1) d g
  | 0, d, g, h => .inl h
  | n + 1, d, g, h => h.elim .inl fun ⟨h1, g', es, h2, h3, h4⟩ => .inr ⟨h1, g', es, h2, h3, tE h4⟩
theorem kx0 {P : Program} {n m d : Nat} {g : Goroutine} (h : QuitsD P n d g) (hm : n ≤ m) : QuitsD P m d g := by
  induction hm with
  | refl => exact h
  | step _ ih => exact tE ih
theorem az6 {p : Dh} {j c : Nat} {ro : Hq} : ∀ {B i : Nat} {fr : Frame} {cs : List Frame} {hp : Hq}, FolS p j c ro B i fr cs hp → FolS p j c ro (B + 1) i fr cs hp
  | 0, _, _, _, _, h => h.elim
  | B + 1, i, fr, cs, hp, h => fun w he hh hr0 => by
    rcases h w he hh hr0 with ⟨fr', cs', w', es, hp', h1, h2, h3, h4⟩ | ⟨h0, zz, h1, h2⟩ | ⟨h0, h00, fr', cs', h1, h2⟩
    · exact .inl ⟨fr', cs', w', es, hp', h1, h2, h3, az6 h4⟩
    · exact .inr (.inl ⟨h0, zz, h1, az6 h2⟩)
    exact .inr (.inr ⟨h0, h00, fr', cs', h1, tE h2⟩)
theorem cE {p : Dh} {Goal : Goroutine → World → Prop} : ∀ {B : Nat} {ms : Ms} {ro : Hq} {fr : Frame} {cs : List Frame} {hp : Hq}, FolM p Goal B ms ro fr cs hp → FolM p Goal (B + 1) ms ro fr cs hp
  | 0, _, _, _, _, _, h => h.elim
  | B + 1, ms, ro, fr, cs, hp, h => fun w he hh hr0 => by
    rcases h w he hh hr0 with ⟨fr', cs', w', es, hp', h1, h2, h3, h4⟩ | hc
    · exact .inl ⟨fr', cs', w', es, hp', h1, h2, h3, cE h4⟩
    refine .inr ?_
    cases ms with
    | s0 =>
      obtain ⟨fr', cs', fc, c, tm, r1, h2, a0, a1, a2, a3, a4, a5, a6, a7, a8⟩ := hc; exact ⟨fr', cs', fc, c, tm, r1, h2, a0, a1, a2, a3, a4, a5, a6, a7, cE a8⟩
    | s1 c0 =>
      obtain ⟨fr', cs', fc, c, tm, r1, h2, a0, a1, a2, a3, a4, a5, a6, a7, a8⟩ := hc; exact ⟨fr', cs', fc, c, tm, r1, h2, a0, a1, a2, a3, a4, a5, a6, a7, cE a8⟩
    | ga c d i j a b =>
      obtain ⟨h1, h2, h3, h4, h5, h6, h7⟩ := hc; exact ⟨h1, fun x y => cE (h2 x y), fun x y => cE (h3 x y), fun x y z => cE (h4 x y z), fun x y z => cE (h5 x y z), h6, h7⟩
def TX.folS (p : Dh) (j c : Nat) (ro : Hq) (i : Nat) : TX := ⟨p, ro, false, fun B fr cs hp => FolS p j c ro B i fr cs hp, fun _ _ _ _ h w he hh hr0 => .inl (h w he hh hr0), fun _ _ _ _ => az6⟩
def TX.folM (p : Dh) (Goal : Goroutine → World → Prop) (ms : Ms) (ro : Hq) : TX := ⟨p, ro, true, fun B fr cs hp => FolM p Goal B ms ro fr cs hp, fun _ _ _ _ h w he hh hr0 => .inl (h w he hh hr0), fun _ _ _ _ => cE⟩
def TC (X : TX) (c : Cx) (b : Frame) (cs : List Frame) (n : Nat) (ks : List Item) (fr : Fr) (hp : Hq) : Prop := ∀ a, Ok c a fr → X.T n (b.at a ks) cs hp
section
variable {X : TX} {c : Cx} {b : Frame} {cs : List Frame} {n : Nat} {k : List Item} {fr : Fr} {hp : Hq} {ops : Array Oper} {i : Nat} {rest : List Nat}
variable {d : Tmp} {ty : TypeId} {pos : String} {af : Array Edge}
theorem TX.more (X : TX) {B B' : Nat} {fr : Frame} {cs : List Frame} {hp : Hq} (h : X.T B fr cs hp) (hB : B ≤ B') : X.T B' fr cs hp := by
  induction hB with
  | refl => exact h
  | step _ ih => exact X.mono _ _ _ _ ih
theorem G7 {m : Nat} (hm : m ≤ n) (h : TC X c b cs m k fr hp) : TC X c b cs n k fr hp := fun a ha => X.more (h a ha) hm
theorem iL {fr' : Fr} (hs : FrSub fr fr') (h : TC X c b cs n k fr' hp) : TC X c b cs n k fr hp := fun a ha => h a (ha.sub hs)
theorem nA {w : World} (h : Held hp w) : Trn w w hp hp := ⟨rfl, rfl, rfl, Nat.le_refl _, fun _ _ _ => rfl, h, fun q hq => .inl ⟨q, hq, rfl⟩⟩
theorem nB {w : World} {hp' : Hq} (h : Held hp w) (hs : ∀ q ∈ hp', q ∈ hp) : Trn w w hp hp' := ⟨rfl, rfl, rfl, Nat.le_refl _, fun _ _ _ => rfl, fun q hq => h q (hs q hq), fun q hq => .inl ⟨q, hs q hq, rfl⟩⟩
theorem hx9 {B : Nat} {f f' : Frame} {cs' : List Frame} (h : ∀ w, stepG X.p.P X.main (G f cs) w = .go (G f' cs') w) (k : X.T B f' cs' hp) : X.T (B + 1) f cs hp :=
  X.lift _ _ _ _ fun w he hh hr0 => ⟨f', cs', w, #[], hp, h w, by simp, nA hh, k⟩
theorem qK {k' : List Item} (h : ∀ a w, stepG X.p.P X.main (G (b.at a k) cs) w = .go (G (b.at a k') cs) w) (kk : TC X c b cs n k' fr hp) : TC X c b cs (n + 1) k fr hp := fun a ha => hx9 (fun w => h a w) (kk a ha)
theorem v4 {x y : Code} (kk : TC X c b cs n (.code x :: .code y :: k) fr hp) : TC X c b cs (n + 1) (.code (.seq x y) :: k) fr hp := qK (fun _ _ => stepG_seq) kk
theorem qI (kk : TC X c b cs n k fr hp) : TC X c b cs (n + 1) (.code .skip :: k) fr hp := qK (fun _ _ => stepG_skip) kk
theorem Y3 {id : Nat} {x : Code} (kk : TC X c b cs n (.code x :: .inBlock id :: k) fr hp) : TC X c b cs (n + 1) (.code (.block id x) :: k) fr hp := qK (fun _ _ => stepG_block) kk
theorem bK {id : Nat} (kk : TC X c b cs n k fr hp) : TC X c b cs (n + 1) (.inBlock id :: k) fr hp := qK (fun _ _ => stepG_inBlock) kk
theorem ix6 {x : Code} (kk : TC X c b cs n (.code x :: .inLoop x :: k) fr hp) : TC X c b cs (n + 1) (.code (.loop x) :: k) fr hp := qK (fun _ _ => stepG_loop) kk
theorem uI {x : Code} (kk : TC X c b cs n (.code x :: .inLoop x :: k) fr hp) : TC X c b cs (n + 1) (.inLoop x :: k) fr hp := qK (fun _ _ => stepG_inLoop) kk
theorem cz1 {id : Nat} (k' : List Item) (h : exitTo id k = some k') (kk : TC X c b cs n k' fr hp) : TC X c b cs (n + 1) (.code (.exit id) :: k) fr hp := qK (fun _ _ => stepG_exit h) kk
theorem K8 {x : Operand} {y z : Code} (t : Bool) (hx : ev fr x = some (.bool t)) (kk : TC X c b cs n (.code (if t then y else z) :: k) fr hp) : TC X c b cs (n + 1) (.code (.cond x y z) :: k) fr hp :=
  fun a ha => hx9 (fun _ => stepG_cond (ha.ev hx)) (kk a ha)
theorem p8 {id : Nat} {l : List Oper} (kk : TC X c b cs n (.inRegion l.toArray (List.range l.length) :: k) fr hp) : TC X c b cs (n + 1) (.code (.region id l.toArray false) :: k) fr hp := qK (fun _ _ => stepG_region) (by simpa using kk)
theorem w9 (kk : TC X c b cs n k fr hp) : TC X c b cs (n + 1) (.inRegion ops [] :: k) fr hp := qK (fun _ _ => stepG_region_end) kk
/-! ### Operations -/
theorem kH {P : Program} {fn : FuncId} {a : Act} {o : Oper} {w : World} {e : Event} (h : e ∈ listed P fn a o w) : e ∈ (execOp a.eval o).events P w #[] := by
  unfold listed at h; rw [seen_def] at h
  rcases seen_fold_sub _ _ _ _ _ h with h1 | h1
  · simp at h1
  simpa using h1
def EvsIn (X : TX) (hp : Hq) (a : Act) (o : Oper) (w : World) : Prop := ∀ e ∈ (execOp a.eval o).events X.p.P w #[], EvIn X.p X.ro hp e
theorem D0 {a : Act} {o : Oper} {w : World} (h : (execOp a.eval o).events X.p.P w #[] = #[]) : EvsIn X hp a o w := fun e he => by rw [h] at he; simp at he
theorem qx4 {o : Oper} (ho : ops[i]? = some o) (hg : o.guard = none) (hk : b.kind ≠ .early)
    (h : ∀ a, Ok c a fr → ∀ w, Sur X.p w → Held hp w → Held X.ro w → ∃ v w' hp', (execOp a.eval o).run X.p.P w = .ok (.value v) w' ∧ EvsIn X hp a o w ∧ Trn w w' hp hp' ∧ X.T n (b.at (a.put o.dst v) (.inRegion ops rest :: k)) cs hp') :
    TC X c b cs (n + 1) (.inRegion ops (i :: rest) :: k) fr hp := fun a ha => X.lift _ _ _ _ fun w he hh hr0 => by
  obtain ⟨v, w', hp', h1, h2, h3, h4⟩ := h a ha w he hh hr0; exact ⟨_, _, w', _, hp', stepG_value ho (by simp [Region.wanted, hg]) hk h1, fun e he' => h2 e (kH he'), h3, h4⟩
theorem lx6 {o : Oper} (ho : ops[i]? = some o) (hg : o.guard = none) (hd : o.dst = none) (hk : b.kind ≠ .early)
    (h : ∀ a, Ok c a fr → ∀ w, Sur X.p w → Held hp w → Held X.ro w → ∃ w' hp', (execOp a.eval o).run X.p.P w = .ok .skip w' ∧ EvsIn X hp a o w ∧ Trn w w' hp hp' ∧ X.T n (b.at a (.inRegion ops rest :: k)) cs hp') :
    TC X c b cs (n + 1) (.inRegion ops (i :: rest) :: k) fr hp := fun a ha => X.lift _ _ _ _ fun w he hh hr0 => by
  obtain ⟨w', hp', h1, h2, h3, h4⟩ := h a ha w he hh hr0; refine ⟨_, _, w', _, hp', stepG_none ho (by simp [Region.wanted, hg]) hk h1, fun e he' => h2 e (kH he'), h3, ?_⟩; rw [hd]; exact h4
theorem Y2 {o : Oper} (v : Value) (ho : ops[i]? = some o) (hdst : o.dst = some d) (hg : o.guard = none) (hd : Nat.blt d c.n = true) (hk : b.kind ≠ .early)
    (hrun : ∀ a w, Ok c a fr → Sur X.p w → Held hp w → Held X.ro w → (execOp a.eval o).run X.p.P w = .ok (.value v) w ∧ EvsIn X hp a o w)
    (kk : TC X c b cs n (.inRegion ops rest :: k) ((d, v) :: fr) hp) : TC X c b cs (n + 1) (.inRegion ops (i :: rest) :: k) fr hp :=
  qx4 ho hg hk fun a ha w he hh hr0 => ⟨v, w, hp, (hrun a w ha he hh hr0).1, (hrun a w ha he hh hr0).2, nA hh, by rw [hdst]; exact kk _ (ha.put (by simpa using hd) v)⟩
theorem B9 {x : Operand} {v : Value} (ho : ops[i]? = some ⟨some d, .move x, ty, pos, af, none⟩) (hd : Nat.blt d c.n = true) (hk : b.kind ≠ .early) (hx : ev fr x = some v)
    (kk : TC X c b cs n (.inRegion ops rest :: k) ((d, v) :: fr) hp) : TC X c b cs (n + 1) (.inRegion ops (i :: rest) :: k) fr hp :=
  Y2 v ho rfl rfl hd hk (fun a w ha _ _ _ => ⟨by simp only [execOp, ha.ev hx]; rfl, D0 rfl⟩) kk
theorem G4 {x : Operand} {v : Value} (ho : ops[i]? = some ⟨some d, .assign x, ty, pos, af, none⟩) (hd : Nat.blt d c.n = true) (hk : b.kind ≠ .early) (hx : ev fr x = some v)
    (kk : TC X c b cs n (.inRegion ops rest :: k) ((d, v) :: fr) hp) : TC X c b cs (n + 1) (.inRegion ops (i :: rest) :: k) fr hp :=
  Y2 v ho rfl rfl hd hk (fun a w ha _ _ _ => ⟨by simp only [execOp, ha.ev hx]; rfl, D0 rfl⟩) kk
theorem J8 {x : Operand} {vs : Array Value} {j : Nat} {v : Value} (ho : ops[i]? = some ⟨some d, .extract x j, ty, pos, af, none⟩) (hd : Nat.blt d c.n = true) (hk : b.kind ≠ .early) (hx : ev fr x = some (.tuple vs)) (hv : vs[j]? = some v)
    (kk : TC X c b cs n (.inRegion ops rest :: k) ((d, v) :: fr) hp) : TC X c b cs (n + 1) (.inRegion ops (i :: rest) :: k) fr hp :=
  Y2 v ho rfl rfl hd hk (fun a w ha _ _ _ => ⟨by simp [execOp, ha.ev hx, Instr.extract, hv], D0 (by simp [execOp, ha.ev hx, Instr.extract, hv])⟩) kk
theorem I1 {s : TypeId} {f : Nat} {x : Operand} {ad : Addr} {off : Nat} (q : Addr) (ho : ops[i]? = some ⟨some d, .fieldAddr s x f, ty, pos, af, none⟩) (hd : Nat.blt d c.n = true) (hk : b.kind ≠ .early) (hx : ev fr x = some (.pointer (some ad)))
    (hrun : ∀ p w, (Instr.fieldAt s (.pointer (some p)) f).run X.p.P w = .ok (.pointer (some (p.add off))) w) (hev : ∀ p w es, (Instr.fieldAt s (.pointer (some p)) f).events X.p.P w es = es) (hq : ad.add off = q)
    (kk : TC X c b cs n (.inRegion ops rest :: k) ((d, .pointer (some q)) :: fr) hp) : TC X c b cs (n + 1) (.inRegion ops (i :: rest) :: k) fr hp :=
  Y2 _ ho rfl rfl hd hk (fun a w ha _ _ _ => ⟨by simp only [execOp, ha.ev hx, Sem.run_bind, hrun, Result.andThen_ok, Sem.run_pure, hq], D0 (by simp [execOp, ha.ev hx, hrun, hev])⟩) kk
theorem qx0 {t : TypeId} {parts : Array (Nat × Operand)} {v : Value} (vs : List (Nat × Value)) (ho : ops[i]? = some ⟨some d, .build t parts, ty, pos, af, none⟩) (hd : Nat.blt d c.n = true) (hk : b.kind ≠ .early) (hx : parts.toList.mapM (fun p => (ev fr p.2).map (p.1, ·)) = some vs)
    (hrun : ∀ w, (Instr.build t vs.toArray).run X.p.P w = .ok v w) (hev : ∀ w es, (Instr.build t vs.toArray).events X.p.P w es = es)
    (kk : TC X c b cs n (.inRegion ops rest :: k) ((d, v) :: fr) hp) : TC X c b cs (n + 1) (.inRegion ops (i :: rest) :: k) fr hp := by
  have key : ∀ (a : Act), Ok c a fr → (parts.map fun (i, x) => (i, a.eval x)) = vs.toArray := by
    intro a ha
    have key : ∀ (xs : List (Nat × Operand)) (vs : List (Nat × Value)), xs.mapM (fun p => (ev fr p.2).map (p.1, ·)) = some vs → xs.map (fun p => (p.1, a.eval p.2)) = vs := by
      intro xs
      induction xs with
      | nil => intro vs h; simpa using h
      | cons x xs ih =>
        intro vs h; simp only [List.mapM_cons, Option.bind_eq_bind, Option.bind_eq_some_iff, Option.pure_def, Option.some.injEq, Option.map_eq_some_iff] at h; obtain ⟨v, ⟨u, hu, rfl⟩, us, hus, rfl⟩ := h; rw [List.map_cons, ha.ev hu, ih us hus]
    apply Array.ext'; simpa using key _ _ hx
  exact Y2 v ho rfl rfl hd hk (fun a w ha _ _ _ => ⟨by simp only [execOp, key a ha, Sem.run_bind, hrun, Result.andThen_ok, Sem.run_pure], D0 (by simp only [execOp, key a ha]; simp [hrun, hev])⟩) kk
theorem bj7 {fn : Fn} {first cap : Array Operand} {v1 v2 : List Value} (ho : ops[i]? = some ⟨some d, .makeFunc fn first cap, ty, pos, af, none⟩) (hd : Nat.blt d c.n = true) (hk : b.kind ≠ .early)
    (h1 : first.toList.mapM (ev fr) = some v1) (h2 : cap.toList.mapM (ev fr) = some v2)
    (kk : TC X c b cs n (.inRegion ops rest :: k) ((d, .func fn v1.toArray v2.toArray) :: fr) hp) : TC X c b cs (n + 1) (.inRegion ops (i :: rest) :: k) fr hp := by
  have key : ∀ (a : Act), Ok c a fr → ∀ (xs : List Operand) (vs : List Value), xs.mapM (ev fr) = some vs → xs.map a.eval = vs := by
    intro a ha xs
    induction xs with
    | nil => intro vs h; simpa using h
    | cons x xs ih =>
      intro vs h; simp only [List.mapM_cons, Option.bind_eq_bind, Option.bind_eq_some_iff, Option.pure_def, Option.some.injEq] at h; obtain ⟨v, hv, us, hus, rfl⟩ := h; rw [List.map_cons, ha.ev hv, ih us hus]
  have e1 : ∀ (a : Act), Ok c a fr → first.map a.eval = v1.toArray := fun a ha => by apply Array.ext'; simpa using key a ha _ _ h1
  have e2 : ∀ (a : Act), Ok c a fr → cap.map a.eval = v2.toArray := fun a ha => by apply Array.ext'; simpa using key a ha _ _ h2
  exact Y2 _ ho rfl rfl hd hk (fun a w ha _ _ _ => ⟨by simp only [execOp, e1 a ha, e2 a ha]; rfl, D0 (by simp only [execOp, e1 a ha, e2 a ha]; rfl)⟩) kk
theorem ix2 {op : BinOp} {t yt : TypeId} {x y : Operand} {u v : Value} (r : Value) (ho : ops[i]? = some ⟨some d, .binOp op t x y yt, ty, pos, af, none⟩) (hd : Nat.blt d c.n = true) (hk : b.kind ≠ .early) (hx : ev fr x = some u) (hy : ev fr y = some v)
    (hg : ∀ w, (eqGuard op t x y u v).run X.p.P w = .ok () w) (hge : ∀ w, (eqGuard op t x y u v).events X.p.P w #[] = #[]) (hr : ∀ w, (binOp op t u v).run X.p.P w = .ok r w) (hre : ∀ w, (binOp op t u v).events X.p.P w #[] = #[])
    (kk : TC X c b cs n (.inRegion ops rest :: k) ((d, r) :: fr) hp) : TC X c b cs (n + 1) (.inRegion ops (i :: rest) :: k) fr hp :=
  Y2 r ho rfl rfl hd hk (fun a w ha _ _ _ => ⟨by simp only [execOp, ha.ev hx, ha.ev hy, Sem.run_bind, hg, hr, Result.andThen_ok, Sem.run_pure], D0 (by simp [execOp, ha.ev hx, ha.ev hy, hg, hge, hr, hre])⟩) kk
theorem lq9 {t yt : TypeId} {x y : Operand} {a b' : Int} (z : Int) (ho : ops[i]? = some ⟨some d, .binOp .add t x y yt, ty, pos, af, none⟩) (hd : Nat.blt d c.n = true) (hk : b.kind ≠ .early) (hx : ev fr x = some (int a)) (hy : ev fr y = some (int b')) (hz : a + b' = z) (hr : I64 z)
    (kk : TC X c b cs n (.inRegion ops rest :: k) ((d, int z) :: fr) hp) : TC X c b cs (n + 1) (.inRegion ops (i :: rest) :: k) fr hp :=
  ix2 _ ho hd hk hx hy (fun _ => rfl) (fun _ => by simp [eqGuard, go_sem]) (fun w => by
    show Result.ok (Value.int .i64 (IntKind.i64.wrap (a + b'))) w = _
    rw [IntWalk.i64_in _ (hz ▸ hr), hz]) (fun _ => by simp [binOp, int, go_sem]) kk
theorem dj6 {t yt : TypeId} {x y : Operand} {kd : IntKind} {a b' : Int} (ho : ops[i]? = some ⟨some d, .binOp .lss t x y yt, ty, pos, af, none⟩) (hd : Nat.blt d c.n = true) (hk : b.kind ≠ .early) (hx : ev fr x = some (.int kd a)) (hy : ev fr y = some (.int kd b'))
    (kk : TC X c b cs n (.inRegion ops rest :: k) ((d, .bool (decide (a < b'))) :: fr) hp) : TC X c b cs (n + 1) (.inRegion ops (i :: rest) :: k) fr hp :=
  ix2 _ ho hd hk hx hy (fun _ => rfl) (fun _ => by simp [eqGuard, go_sem]) (fun w => by cases kd <;> rfl) (fun _ => by cases kd <;> simp [binOp, go_sem]) kk
theorem tr_len {t : TypeId} {x : Operand} {A : Option Addr} {m cp : Nat} {e : TypeId} (ho : ops[i]? = some ⟨some d, .call ⟨.builtin .len, #[x], #[t]⟩, ty, pos, af, none⟩) (hd : Nat.blt d c.n = true) (hk : b.kind ≠ .early) (ht : X.p.P.underlying t = some (.slice e)) (hx : ev fr x = some (.slice A m cp))
    (kk : TC X c b cs n (.inRegion ops rest :: k) ((d, int m) :: fr) hp) : TC X c b cs (n + 1) (.inRegion ops (i :: rest) :: k) fr hp := by
  have he : X.p.P.underlying t = some (.slice (X.p.P.elem t)) := by rw [ht]; simp [Program.elem, ht]
  refine Y2 _ ho rfl rfl hd hk (fun a w ha _ _ _ => ⟨?_, D0 ?_⟩) kk
  · simp [execOp, resolve, invoke, builtin, Builtin.len_, ha.ev hx, run_underlying ht, goInt]
  simp [execOp, resolve, invoke, builtin, Builtin.len_, ha.ev hx, run_underlying ht, goInt]
end
end Go.W
end
section
namespace Go.W
open Go Go.Conc Go.RowKit
section
variable {X : TX} {c : Cx} {b : Frame} {cs : List Frame} {n : Nat} {k : List Item} {fr : Fr} {hp : Hq} {ops : Array Oper} {i : Nat} {rest : List Nat}
variable {d : Tmp} {ty : TypeId} {pos : String} {af : Array Edge}
/-! ### What may be listed -/
theorem vA {p : Dh} {ro : Hq} {e : Event} {ad : Addr} (h : e.loc = .cell ad) (hk : (e.write = false ∧ RdT p ro ad.block) ∨ Has hp ad.block) : EvIn p ro hp e := by
  obtain ⟨l, wr, sy⟩ := e; simp only at h; subst h; refine ⟨⟨by simp, by simp⟩, fun x hx _ k' hk' => ?_⟩; have e1 : MemAct.ofEvent ⟨.cell ad, wr, sy⟩ = .access ⟨.cell ad, wr, sy⟩ := rfl; rw [e1] at hx; simp only [MemAct.touch?, Option.some.injEq] at hx; subst hx; simp only [blk, Option.some.injEq] at hk'; subst hk'; exact hk
def AtC (X : TX) (hp : Hq) (ad : Addr) (v : Value) : Prop := (RdT X.p X.ro ad.block ∨ Has hp ad.block) ∧ ∀ w, Sur X.p w → Held hp w → Held X.ro w → w.cell? ad = some v
def AtCs (X : TX) (hp : Hq) (ad : Addr) (vs : List Value) : Prop := (RdT X.p X.ro ad.block ∨ Has hp ad.block) ∧ ∀ w, Sur X.p w → Held hp w → Held X.ro w → ∀ j u, vs[j]? = some u → w.cell? (ad.add j) = some u
theorem iq3 {p : Dh} {ro : Hq} {e : Event} {ad : Addr} (h : e.loc = .cell ad) (hw : e.write = false) (hk : RdT p ro ad.block ∨ Has hp ad.block) : EvIn p ro hp e := vA h (hk.imp (fun h => ⟨hw, h⟩) id)
theorem aB {t : TypeId} {x : Operand} {ad : Addr} {v : Value} (ho : ops[i]? = some ⟨some d, .load t x, ty, pos, af, none⟩) (hd : Nat.blt d c.n = true) (hk : b.kind ≠ .early) (ht' : NoR X.p.P t) (hx : ev fr x = some (.pointer (some ad))) (hc : AtC X hp ad v)
    (kk : TC X c b cs n (.inRegion ops rest :: k) ((d, v) :: fr) hp) : TC X c b cs (n + 1) (.inRegion ops (i :: rest) :: k) fr hp :=
  Y2 v ho rfl rfl hd hk (fun a w ha he hh hr0 => by
    obtain ⟨dd, ht, hr⟩ := ht'
    have hagg : (isAgg t).run X.p.P w = .ok false w := by
      unfold isAgg; rw [Sem.run_bind, run_underlying ht w]
      cases dd <;> simp_all [TypeDesc.isRow]
    have hcw := hc.2 w he hh hr0; refine ⟨by simp only [execOp, ha.ev hx, Instr.loadAt, Instr.sureAddr, loadVar, Sem.run_bind, Sem.run_pure, Result.andThen_ok, hagg, Bool.false_eq_true, if_false, run_load, hcw], fun e hev => ?_⟩; simp only [execOp, ha.ev hx, Instr.loadAt, Instr.sureAddr, loadVar, Sem.events_bind, Sem.run_bind, Sem.run_pure, Sem.events_pure, Result.andThen_ok, Result.evThen_ok, hagg, events_isAgg, Bool.false_eq_true, if_false, run_load, hcw] at hev
    rcases events_load_at w ad _ _ hcw e hev with h1 | ⟨h1, h2⟩
    · simp at h1
    exact iq3 h1 h2 hc.1) kk
theorem sV {t : TypeId} {x : Operand} {ad : Addr} {vs : List Value} {sz : Nat} (ho : ops[i]? = some ⟨some d, .load t x, ty, pos, af, none⟩) (hd : Nat.blt d c.n = true) (hk : b.kind ≠ .early) (ht' : IsR X.p.P t) (hz' : Sz X.p.P t sz) (hx : ev fr x = some (.pointer (some ad))) (hn : vs.length = sz) (hc : AtCs X hp ad vs)
    (kk : TC X c b cs n (.inRegion ops rest :: k) ((d, .agg vs.toArray) :: fr) hp) : TC X c b cs (n + 1) (.inRegion ops (i :: rest) :: k) fr hp :=
  Y2 _ ho rfl rfl hd hk (fun a w ha he hh hr0 => by
    obtain ⟨dd, ht, hr⟩ := ht'; have hz : (X.p.P.info? t).map (·.size) = some vs.length := by rw [hn]; exact hz'
    have hagg : (isAgg t).run X.p.P w = .ok true w := by
      unfold isAgg; rw [Sem.run_bind, run_underlying ht w]
      cases dd <;> simp_all [TypeDesc.isRow]
    have hcw := hc.2 w he hh hr0; have hl := run_loadCells_list (P := X.p.P) w ad vs hcw; have hs := U8 hz w; refine ⟨by simp only [execOp, ha.ev hx, Instr.loadAt, Instr.sureAddr, loadVar, Sem.run_bind, Sem.run_pure, Result.andThen_ok, hagg, if_true, hs, hl], fun e hev => ?_⟩; simp only [execOp, ha.ev hx, Instr.loadAt, Instr.sureAddr, loadVar, Sem.events_bind, Sem.run_bind, Sem.run_pure, Sem.events_pure, Result.andThen_ok, Result.evThen_ok, hagg, events_isAgg, if_true, hs, events_sizeOf, hl] at hev
    rcases events_loadCellsFrom_at ad (fun k => RdT X.p X.ro k ∨ Has hp k) hc.1 vs.length 0 #[] w #[] (fun j hj => by rw [Nat.zero_add, hcw j vs[j] (List.getElem?_eq_getElem hj)]; rfl) e hev with h1 | ⟨ad', h1, h2, h3⟩
    · simp at h1
    exact iq3 h1 h2 h3) kk
theorem ix0 {t e : TypeId} {x y : Operand} {ad : Addr} {m cp sz : Nat} {kd : IntKind} {z : Int} (j : Nat) (q : Addr) (ho : ops[i]? = some ⟨some d, .indexAddr t x y, ty, pos, af, none⟩) (hd : Nat.blt d c.n = true) (hk : b.kind ≠ .early) (ht : X.p.P.underlying t = some (.slice e)) (hz : Sz X.p.P e sz)
    (hx : ev fr x = some (.slice (some ad) m cp)) (hy : ev fr y = some (.int kd z)) (hjz : z = (j : Int)) (hj : j < m) (hq : ad.add (j * sz) = q)
    (kk : TC X c b cs n (.inRegion ops rest :: k) ((d, .pointer (some q)) :: fr) hp) : TC X c b cs (n + 1) (.inRegion ops (i :: rest) :: k) fr hp :=
  Y2 _ ho rfl rfl hd hk (fun a w ha _ _ _ => by
    subst hjz; subst hq; refine ⟨by simp only [execOp, ha.ev hx, ha.ev hy, Sem.run_bind, tA w ht hz hj, Result.andThen_ok, Sem.run_pure], D0 ?_⟩; simp only [execOp, Sem.events_bind, V6 (DC.out (s := Instr.indexAt t (a.eval x) (a.eval y)))]
    cases (Instr.indexAt t (a.eval x) (a.eval y)).run X.p.P w <;> rfl) kk
/-! ### What is known of cells -/
theorem mD {g o : Nat} {vs : Array Value} {t : TypeId} {fz : Nat × Nat} {v : Value} (h : (g, Obj.cells vs t fz) ∈ hp) (hv : vs[o]? = some v) : AtC X hp ⟨g, o, none⟩ v :=
  ⟨.inr ⟨_, h, rfl⟩, fun w he hh hr0 => by have := hh _ h; simp only at this; simp [World.cell?, this, hv]⟩
theorem gq9 {g o : Nat} {vs : Array Value} {t : TypeId} {fz : Nat × Nat} {v : Value} (h : (g, Obj.cells vs t fz) ∈ X.ro) (hv : vs[o]? = some v) : AtC X hp ⟨g, o, none⟩ v :=
  ⟨.inl (.inr ⟨_, h, rfl⟩), fun w he hh hr0 => by have := hr0 _ h; simp only at this; simp [World.cell?, this, hv]⟩
theorem zU {g o : Nat} {vs : Array Value} {us : List Value} {t : TypeId} {fz : Nat × Nat} (h : (g, Obj.cells vs t fz) ∈ hp) (hv : ∀ i u, us[i]? = some u → vs[o + i]? = some u) : AtCs X hp ⟨g, o, none⟩ us :=
  ⟨.inr ⟨_, h, rfl⟩, fun w he hh hr0 i u hu => by have := hh _ h; simp only at this; rw [iU]; simp [World.cell?, this, hv i u hu]⟩
theorem sx7 {ad : Addr} {vs us : List Value} {j : Nat} (h : (Row (some ad) vs).P X.p.W) (hne : us ≠ []) (h1 : ad.block ∉ X.p.o) (hv : ∀ i u, us[i]? = some u → vs[j + i]? = some u) : AtCs X hp (ad.add j) us := by
  have hlt : ad.block < X.p.W.heap.size := by
    obtain ⟨u, r, rfl⟩ := List.exists_cons_of_ne_nil hne; have := hv 0 u rfl; refine (Row (some ad) vs).lt _ h _ ⟨ad, rfl, rfl, ?_⟩; rintro rfl
    simp at this
  refine ⟨by rw [pV]; exact .inl (.inl ⟨hlt, h1⟩), fun w he hh hr0 i u hu => ?_⟩; have hc := Row.cell h (hv i u hu); rw [sz2] at hc; rw [add_add']; rw [← hc]; have hb := he.block ad.block hlt h1; exact World.cell?_of_block (by rw [pV]; exact hb)
/-! ### Blocks -/
theorem nq5 {w : World} (hh : Held hp w) (obj : Obj) : Trn w (w.alloc obj) hp ((w.heap.size, obj) :: hp) := by
  refine ⟨rfl, rfl, rfl, by simp, fun k hk _ => mJ w obj hk, fun q hq => ?_, fun q hq => ?_⟩
  · rcases List.mem_cons.1 hq with rfl | hq
    · show (w.heap.push obj)[w.heap.size]? = some obj
      simp
    rw [mJ w obj (qV hh ⟨q, hq, rfl⟩)]; exact hh q hq
  rcases List.mem_cons.1 hq with rfl | hq
  · exact .inr (Nat.le_refl _)
  exact .inl ⟨q, hq, rfl⟩
theorem zZ {o : Oper} (obj : Obj) (mk : Nat → Value) (ho : ops[i]? = some o) (hdst : o.dst = some d) (hg : o.guard = none) (hd : Nat.blt d c.n = true) (hk : b.kind ≠ .early)
    (hrun : ∀ a w, Ok c a fr → (execOp a.eval o).run X.p.P w = .ok (.value (mk w.heap.size)) (w.alloc obj) ∧ (execOp a.eval o).events X.p.P w #[] = #[])
    (kk : ∀ g, X.p.W.heap.size ≤ g → ¬ Has hp g → TC X c b cs n (.inRegion ops rest :: k) ((d, mk g) :: fr) ((g, obj) :: hp)) : TC X c b cs (n + 1) (.inRegion ops (i :: rest) :: k) fr hp :=
  qx4 ho hg hk fun a ha w he hh hr0 => ⟨_, _, _, (hrun a w ha).1, D0 (hrun a w ha).2, nq5 hh obj, by
    rw [hdst]
    exact kk _ he.size (fun hg => by have := qV hh hg; omega) _ (ha.put (by simpa using hd) _)⟩
theorem ix1 {e : TypeId} {x : Operand} {v : Value} (ho : ops[i]? = some ⟨some d, .box e x, ty, pos, af, none⟩) (hd : Nat.blt d c.n = true) (hk : b.kind ≠ .early) (hx : ev fr x = some v)
    (kk : ∀ g, X.p.W.heap.size ≤ g → ¬ Has hp g → TC X c b cs n (.inRegion ops rest :: k) ((d, .pointer (k5 g)) :: fr) ((g, .cells v.cells e (0, 0)) :: hp)) : TC X c b cs (n + 1) (.inRegion ops (i :: rest) :: k) fr hp :=
  zZ (.cells v.cells e (0, 0)) (fun g => .pointer (k5 g)) ho rfl rfl hd hk (fun a w ha => ⟨by simp only [execOp, ha.ev hx]; rfl, by simp only [execOp, ha.ev hx]; rfl⟩) kk
theorem jS {e : TypeId} {us : Array Value} (ho : ops[i]? = some ⟨some d, .alloc e, ty, pos, af, none⟩) (hd : Nat.blt d c.n = true) (hk : b.kind ≠ .early)
    (hrun : ∀ w, (Instr.alloc e true (.tuple #[])).run X.p.P w = .ok (.pointer (some ⟨w.heap.size, 0, none⟩)) (w.alloc (.cells us e (0, 0)))) (hev : ∀ w es, (Instr.alloc e true (.tuple #[])).events X.p.P w es = es)
    (kk : ∀ g, X.p.W.heap.size ≤ g → ¬ Has hp g → TC X c b cs n (.inRegion ops rest :: k) ((d, .pointer (k5 g)) :: fr) ((g, .cells us e (0, 0)) :: hp)) : TC X c b cs (n + 1) (.inRegion ops (i :: rest) :: k) fr hp :=
  zZ (.cells us e (0, 0)) (fun g => .pointer (k5 g)) ho rfl rfl hd hk (fun a w _ => ⟨by simp only [execOp, Sem.run_bind, hrun, Result.andThen_ok, Sem.run_pure], by simp [execOp, hrun, hev]⟩) kk
theorem zY {w w' : World} {g : Nat} {o o' : Obj} {hp' : Hq} (hh : Held hp w) (hpp : hp.Perm ((g, o) :: hp')) (hn : ¬ Has hp' g) (e : Ext [g] w w') (hg : w'.heap[g]? = some o') : Trn w w' hp ((g, o') :: hp') := by
  have hmem : ∀ q ∈ hp', q ∈ hp := fun q hq => hpp.mem_iff.2 (List.mem_cons_of_mem _ hq); have hgm : (g, o) ∈ hp := hpp.mem_iff.2 (by simp); refine ⟨e.os, e.tape, e.output, e.size, fun k hk hnk => e.block k hk (by simp only [List.mem_singleton]; rintro rfl; exact hnk ⟨_, hgm, rfl⟩), fun q hq => ?_, fun q hq => ?_⟩
  · rcases List.mem_cons.1 hq with rfl | hq
    · exact hg
    have h1 := hh q (hmem q hq); exact (e.block q.1 (E1 h1) (by simp only [List.mem_singleton]; rintro h2; exact hn ⟨q, hq, h2⟩)).trans h1
  rcases List.mem_cons.1 hq with rfl | hq
  · exact .inl ⟨_, hgm, rfl⟩
  exact .inl ⟨q, hmem q hq, rfl⟩
theorem xK {t : TypeId} {x y : Operand} {g o : Nat} {old : Array Value} {v u : Value} {e : TypeId} {hp' : Hq} (ho : ops[i]? = some ⟨none, .store t x y, ty, pos, af, none⟩) (hk : b.kind ≠ .early) (hx : ev fr x = some (.pointer (some ⟨g, o, none⟩))) (hy : ev fr y = some v)
    (hpp : hp.Perm ((g, .cells old e (0, 0)) :: hp')) (hn : ¬ Has hp' g) (hz : Sz X.p.P t 1) (hou : old[o]? = some u) (h1 : v.oneCell' = true)
    (kk : TC X c b cs n (.inRegion ops rest :: k) fr ((g, .cells (old.setIfInBounds o v) e (0, 0)) :: hp')) : TC X c b cs (n + 1) (.inRegion ops (i :: rest) :: k) fr hp :=
  lx6 ho rfl rfl hk fun a ha w he hh hr0 => by
    have hgm : (g, Obj.cells old e (0, 0)) ∈ hp := hpp.mem_iff.2 (by simp); have hg := hh _ hgm; simp only at hg; have hc : w.cell? ⟨g, o, none⟩ = some u := by simp [World.cell?, hg, hou]
    have hf : w.frozen? ⟨g, o, none⟩ = false := by simp [World.frozen?, hg]
    have hcs : v.cells = #[v] := by cases v <;> simp_all [Value.cells, Value.oneCell']
    have hsr : (store ⟨g, o, none⟩ v).run X.p.P w = .ok () (w.setCell ⟨g, o, none⟩ v) := by
      rw [run_store X.p.P w _ v _ h1]; simp only [hc, hf, Bool.false_eq_true, if_false]
    refine ⟨w.setCell ⟨g, o, none⟩ v, _, ?_, fun ev hev => ?_, zY hh hpp hn ⟨rfl, rfl, rfl, by simp [World.setCell], fun k _ hn => Below.heap_setCell w ⟨g, o, none⟩ v k (by simpa using hn), Nat.le_refl _⟩ ?_, kk a ha⟩
    · simp only [execOp, ha.ev hx, ha.ev hy, Instr.storeAt, Instr.sureAddr, Sem.run_bind, Sem.run_pure, Result.andThen_ok, storeVar, hcs, U8 hz, List.size_toArray, List.length_cons, List.length_nil, Nat.zero_add, ne_eq, not_true, if_false, storeCells, Addr.add, if_true, hsr, hc, hf, Bool.false_eq_true]
    · simp only [execOp, ha.ev hx, ha.ev hy, Instr.storeAt, Instr.sureAddr, Sem.events_bind, Sem.run_bind, Sem.run_pure, Sem.events_pure, Result.andThen_ok, Result.evThen_ok, storeVar, hcs, U8 hz, events_sizeOf, List.size_toArray, List.length_cons, List.length_nil, Nat.zero_add, ne_eq, not_true, if_false, storeCells, Addr.add, if_true, hsr, events_store X.p.P w _ _ v _ h1, hc, hf, Bool.false_eq_true] at hev
      simp at hev
      subst hev; exact vA rfl (.inr ⟨_, hgm, rfl⟩)
    simp [World.setCell, Array.getElem?_modify, hg]
theorem nC {t : TypeId} {x y : Operand} {g : Nat} {old us : Array Value} {e : TypeId} {hp' : Hq} (ho : ops[i]? = some ⟨none, .store t x y, ty, pos, af, none⟩) (hk : b.kind ≠ .early) (hx : ev fr x = some (.pointer (k5 g))) (hy : ev fr y = some (.agg us))
    (hpp : hp.Perm ((g, .cells old e (0, 0)) :: hp')) (hn : ¬ Has hp' g) (hz : Sz X.p.P t us.size) (hou : old.size = us.size) (h1 : us.toList.all (·.oneCell') = true)
    (kk : TC X c b cs n (.inRegion ops rest :: k) fr ((g, .cells us e (0, 0)) :: hp')) : TC X c b cs (n + 1) (.inRegion ops (i :: rest) :: k) fr hp :=
  lx6 ho rfl rfl hk fun a ha w he hh hr0 => by
    have hgm : (g, Obj.cells old e (0, 0)) ∈ hp := hpp.mem_iff.2 (by simp); have hg := hh _ hgm; simp only at hg; have h1' : ∀ v ∈ us.toList, v.oneCell' = true := fun v hv => List.all_eq_true.1 h1 v hv; refine ⟨w.setRow g us, _, ?_, fun ev hev => ?_, zY hh hpp hn (xE us) (setRow_heap w g old us e (0, 0) hg), kk a ha⟩
    · simp only [execOp, ha.ev hx, ha.ev hy, Instr.storeAt, Instr.sureAddr, Sem.run_bind, Sem.run_pure, Result.andThen_ok, run_storeVar_row w g e t old us hg hz hou (by rw [← Array.all_toList]; exact h1)]
    have hsz := U8 hz w
    have hev2 : ev ∈ (storeVar t ⟨g, 0, none⟩ (.agg us)).events X.p.P w #[] := by
      simp only [execOp, ha.ev hx, ha.ev hy, Instr.storeAt, Instr.sureAddr, Sem.events_bind, Sem.run_bind, Sem.run_pure, Sem.events_pure, Result.andThen_ok, Result.evThen_ok, run_storeVar_row w g e t old us hg hz hou (by rw [← Array.all_toList]; exact h1)] at hev; exact hev
    simp only [storeVar, Sem.events_bind, hsz, events_sizeOf, Result.evThen_ok, Value.cells, ne_eq, not_true, if_false] at hev2
    rcases events_storeCells_at g 0 e us.toList 0 old w #[] hg (by simp; omega) h1' ev hev2 with h2 | ⟨ad, h2, rfl⟩
    · simp at h2
    exact vA h2 (.inr ⟨_, hgm, rfl⟩)
/-! ### Calls -/
def CT (X : TX) (f : Nat) (args : List Value) (hp : Hq) (m : Nat) (v : Value) : Prop := ∀ (n : Nat) (cf : Frame) (cs : List Frame), X.T n (cf.finish v) cs hp → X.T (n + m) (Frame.enter X.p.P f args.toArray .normal) (cf :: cs) hp
theorem CT.more {f : Nat} {args : List Value} {m m' : Nat} {v : Value} (h : CT X f args hp m v) (hm : m ≤ m') : CT X f args hp m' v := fun n cf cs hk => X.more (h n cf cs hk) (by omega)
theorem mapM_ev {a : Act} (ha : Ok c a fr) : ∀ (xs : List Operand) (vs : List Value), xs.mapM (ev fr) = some vs → xs.map a.eval = vs := by
  intro xs
  induction xs with
  | nil => intro vs h; simpa using h
  | cons x xs ih =>
    intro vs h; simp only [List.mapM_cons, Option.bind_eq_bind, Option.bind_eq_some_iff, Option.pure_def, Option.some.injEq] at h; obtain ⟨v, hv, us, hus, rfl⟩ := h; rw [List.map_cons, ha.ev hv, ih us hus]
theorem fin_at' {a : Act} {o : Oper} (ho : ops[i]? = some o) (v : Value) : (b.at a (.inRegion ops (i :: rest) :: k)).finish v = b.at (a.put o.dst v) (.inRegion ops rest :: k) := by rw [Frame.finish_at, ho]; rfl
theorem t_leave {fn : Func} {cf : Frame} {v : Value} {f : Nat} {a : Act} {todo : List Item} {hp' : Hq} {t : Tmp} (hf : X.p.P.funcs[f]? = some fn) (hr : fn.results = #[.tmp t]) (hd : a.defers = []) (hv : a.tmps.getD t undef = v) (hs : ∀ q ∈ hp', q ∈ hp) (kk : X.T n (cf.finish v) cs hp') :
    X.T (n + 1) { (base f).at a todo with mode := .returning } (cf :: cs) hp :=
  X.lift _ _ _ _ fun w he hh hr0 => ⟨_, _, w, #[], hp', stepG_leave (v := v) rfl hd hf (by rw [results_tmp hr, hv]) (events_results_tmp hr _ _), by simp, nB hh hs, kk⟩
theorem qx3 {fn : Func} {cf : Frame} {v : Value} {f : Nat} {hp' : Hq} {t : Tmp} (hc : c.D = []) (hf : X.p.P.funcs[f]? = some fn) (hr : fn.results = #[.tmp t]) (hv : lk fr t = some v) (hs : ∀ q ∈ hp', q ∈ hp) (kk : X.T n (cf.finish v) cs hp') :
    TC X c (base f) (cf :: cs) (n + 2) (.code .ret :: k) fr hp := fun a ha => hx9 (fun w => stepG_ret') (t_leave hf hr (ha.d.trans hc) (ha.at_ t v hv) hs kk)
/-! ### Regions whose order is open -/
def TA (X : TX) (c : Cx) (b : Frame) (cs : List Frame) (k : List Item) (ops : Array Oper) (n fuel : Nat) (listed : Array Bool) (fr : Fr) (hp : Hq) : Prop := ∀ t, TC X c b cs n (.inRegion ops (Region.linearise.go .any ops fuel t listed []) :: k) fr hp
theorem ta_nil {listed : Array Bool} (hr : Region.ready .any ops listed = []) {fuel : Nat} (kk : TC X c b cs n (.inRegion ops [] :: k) fr hp) : TA X c b cs k ops n fuel listed fr hp := fun t => by
  cases fuel with
  | zero => simpa [Region.linearise.go] using kk
  | succ fuel =>
    simp only [Region.linearise.go]
    change TC X c b cs n (.inRegion ops (match (Region.ready .any ops listed)[t % (Region.ready .any ops listed).length]? with
      | some i => Region.linearise.go .any ops fuel (t / (Region.ready .any ops listed).length) (listed.setIfInBounds i true) [i]
      | none => [].reverse) :: k) fr hp
    rw [hr]
    simpa using kk
theorem ta_step {listed : Array Bool} {l : List Nat} {fuel : Nat} (hr : Region.ready .any ops listed = l) (hne : l ≠ [])
    (kk : ∀ j ∈ l, ∀ rest, (∃ t, rest = Region.linearise.go .any ops fuel t (listed.setIfInBounds j true) []) → TC X c b cs n (.inRegion ops (j :: rest) :: k) fr hp) : TA X c b cs k ops n (fuel + 1) listed fr hp := fun t => by
  simp only [Region.linearise.go]
  change TC X c b cs n (.inRegion ops (match (Region.ready .any ops listed)[t % (Region.ready .any ops listed).length]? with
      | some i => Region.linearise.go .any ops fuel (t / (Region.ready .any ops listed).length) (listed.setIfInBounds i true) [i]
      | none => [].reverse) :: k) fr hp
  rw [hr]; have hlt : t % l.length < l.length := Nat.mod_lt _ (List.length_pos_iff.2 hne); rw [List.getElem?_eq_getElem hlt]; simp only []; rw [linearise_go_acc, List.reverse_singleton, List.singleton_append]; exact kk _ (List.getElem_mem hlt) _ ⟨_, rfl⟩
theorem lx5 {id : Nat} (hm : X.p.P.follows .mixedOrders = true) (kk : TA X c b cs k ops n ops.size (Array.replicate ops.size false) fr hp) : TC X c b cs (n + 1) (.code (.region id ops true) :: k) fr hp := fun a ha => X.lift _ _ _ _ fun w he hh hr0 => by
  refine ⟨_, _, _, _, hp, stepG_region_draw, by simp, ⟨rfl, rfl, rfl, Nat.le_refl _, fun _ _ _ => rfl, hh, fun q hq => .inl ⟨q, hq, rfl⟩⟩, ?_⟩; simp only [Region.schedule, hm, Bool.true_or, if_true]; exact kk _ a ha
end
section
/-! ### A child's first step, and its last ones -/
def bot (P : Program) : Frame := { (default : Frame) with fn := P.funcs.size, defers := [], mode := .panicking [goexitEntry] }
theorem qj1 {P : Program} {f : Nat} {fn : Func} {cd : Code} {cap : List Value} (hf : P.funcs[f]? = some fn) (hb : fn.body = some cd) (hname : (fn.name == "runtime.NumGoroutine") = false) (w : World) :
    stepG P false (G (born P ⟨.fn (.func f) cap.toArray, #[]⟩).frame []) w = .go (G ((baseD f).at { tmps := cap.toArray ++ Array.replicate (fn.ntmps - cap.length) undef, defers := [] } [.code cd]) [bot P]) w #[] := by
  have h1 : ¬ fn.name = "runtime.NumGoroutine" := by simpa using hname
  simp [born, G, stepG, unwind, callDeferred, invoke, callFunc, hf, h1, hb, seen_none, GStep.after, Frame.enter, Frame.at, baseD, bot]
theorem lz6 {P : Program} {f : Nat} {fn : Func} {a : Act} {todo : List Item} (hf : P.funcs[f]? = some fn) (hr : fn.results = #[]) (hd : a.defers = []) : QuitsD P 2 0 (G { (baseD f).at a todo with mode := .returning } [bot P]) := by
  refine QuitsD.ctl (g' := G (bot P) []) rfl (fun w => ?_) ?_
  · simp [G, stepG, unwind, doReturn, results, Frame.at, baseD, bot, hf, hr, hd, seen_none, GStep.after, goexitEntry]
  refine QuitsD.ctl (g' := { G (bot P) [] with status := .finished }) rfl (fun w => ?_) ⟨rfl, rfl⟩
  simp [G, stepG, unwind, bot, goexitEntry, Frame.catches]
  rfl
end
/-! ### Where they meet -/
section
variable {p : Dh} {Goal : Goroutine → World → Prop} {c : Cx} {b : Frame} {cs : List Frame} {n : Nat} {k : List Item} {fr : Fr} {hp ro : Hq} {ops : Array Oper} {i : Nat} {rest : List Nat}
variable {d : Tmp} {ty : TypeId} {pos : String} {af : Array Edge}
theorem at_send {j ch q : Nat} {x y : Operand} (ho : ops[i]? = some ⟨none, .send x y, ty, pos, af, none⟩) (hk : b.kind ≠ .early) (hx : ev fr x = some (.chan (some ch))) (hq : q < p.n j) (hy : ev fr y = some (p.v j q))
    (kk : TC (.folS p j ch ro (q + 1)) c b cs n (.inRegion ops rest :: k) fr hp) : TC (.folS p j ch ro q) c b cs (n + 1) (.inRegion ops (i :: rest) :: k) fr hp := fun a ha w he hh hr0 => by
  refine .inr (.inl ⟨hq, .tuple #[], ?_, ?_⟩)
  · rw [stepG_comm (cases := #[scase ch (p.v j q) (.tuple #[])]) (blocking := true) (shape := .send) (w' := w) ho rfl hk (by simp [execOp, scase, ha.ev hx, ha.ev hy])]
    have : listed p.P b.fn a (⟨none, .send x y, ty, pos, af, none⟩ : Oper) w = #[] := by unfold listed; rw [show (execOp a.eval (⟨none, .send x y, ty, pos, af, none⟩ : Oper)).events p.P w #[] = #[] by simp [execOp, ha.ev hx, ha.ev hy]]; exact seen_none _ _
    rw [this]
  rw [fin_at' ho]; exact kk a ha
def dclose (ch : Nat) (ats : Array TypeId) (ty : TypeId) (cst : Array Bool) : Deferred := { target := .builtin .close ats ty cst, args := #[.chan (some ch)] }
theorem qx5 {X : TX} {ch : Nat} {x : Operand} {ats : Array TypeId} (ho : ops[i]? = some ⟨none, .defer ⟨.builtin .close, #[x], ats⟩, ty, pos, af, none⟩) (hk : b.kind ≠ .early) (hx : ev fr x = some (.chan (some ch)))
    (kk : ∀ cst, TC X { c with D := dclose ch ats ty cst :: c.D } b cs n (.inRegion ops rest :: k) fr hp) : TC X c b cs (n + 1) (.inRegion ops (i :: rest) :: k) fr hp := fun a ha => X.lift _ _ _ _ fun w he hh hr0 => by
  obtain ⟨cst, e2⟩ : ∃ cst, execOp a.eval (⟨none, .defer ⟨.builtin .close, #[x], ats⟩, ty, pos, af, none⟩ : Oper) = (pure (Next.defer (dclose ch ats ty cst)) : Sem Next) := by
    refine ⟨#[x].map (fun | .const _ => true | _ => false), ?_⟩; show ((do let dd ← resolve a.eval ⟨.builtin .close, #[x], ats⟩ ty; pure (Next.defer dd)) : Sem Next) = _; simp only [resolve]; have : (#[x].map a.eval) = #[.chan (some ch)] := by simp [ha.ev hx]
    rw [this]
    rfl
  have hk' : (b.kind == CallKind.early) = false := by simpa using hk
  have hfin : (b.at ⟨a.tmps, dclose ch ats ty cst :: a.defers⟩ (.inRegion ops (i :: rest) :: k)).finish undef = b.at (Act.put ⟨a.tmps, dclose ch ats ty cst :: a.defers⟩ none undef) (.inRegion ops rest :: k) := by rw [Frame.finish_at, ho]; rfl
  refine ⟨_, _, w, #[], hp, ?_, by simp, nA hh, kk cst ⟨a.tmps, dclose ch ats ty cst :: a.defers⟩ ⟨by show _ :: a.defers = _; rw [ha.d], ha.sz, ha.at_⟩⟩; rw [stepG_oper ho rfl, show (b.at ⟨a.tmps, dclose ch ats ty cst :: a.defers⟩ (.inRegion ops rest :: k)) = _ from hfin.symm]
  simp [stepG.apply, e2, G, Frame.at, hk', GStep.after, seen_none]
theorem wH {P : Program} {main : Bool} {a : Act} {todo : List Item} {ds : List Deferred} {ch : Nat} {ats : Array TypeId} {cst : Array Bool} {w : World} {cap s r : Nat} {buf : Array Value} {tm : Bool} (hd : a.defers = dclose ch ats ty cst :: ds)
    (hc : w.heap[ch]? = some (.chan cap buf false s r tm)) (hq : (P.funcs[b.fn]?).any (·.norace) = false) :
    stepG P main (G { b.at a todo with mode := .returning } cs) w = .go (G { b.at ⟨a.tmps, ds⟩ todo with mode := .returning } cs) (w.setChan ch cap buf true s r tm) (closeEvents ch) := by
  have hr : (invoke (.builtin .close ats ty cst) #[.chan (some ch)]).run P w = .ok (.value (.tuple #[])) (w.setChan ch cap buf true s r tm) := by
    simp [go_sem, run_close_open _ _ hc, World.setChan]
  have he : (invoke (.builtin .close ats ty cst) #[.chan (some ch)]).events P w #[] = closeEvents ch := by
    simp [go_sem, events_close_open _ _ hc, closeEvents]
  have hs : seen P b.fn (closeEvents ch) = closeEvents ch := seen_eq hq (by intro e he f; simp only [closeEvents, List.mem_toArray, List.mem_cons, List.not_mem_nil, or_false] at he; rcases he with rfl | rfl <;> simp)
  simp [G, stepG, unwind, callDeferred, Frame.at, hd, dclose, hr, GStep.after]
  rw [he, hs]
theorem at_end {j ch q f : Nat} {fn : Func} {ats : Array TypeId} {cst : Array Bool} (hf : p.P.funcs[f]? = some fn) (hr : fn.results = #[]) (hnr : fn.norace = false) (hq : q = p.n j) (hD : c.D = [dclose ch ats ty cst]) (hcs : cs = [bot p.P]) :
    TC (.folS p j ch ro q) c (baseD f) cs 4 [] fr hp := fun a ha => by
  subst hcs; refine (TX.folS p j ch ro q).lift _ _ _ _ fun w he hh hr0 => ⟨_, _, w, #[], hp, stepG_end, by simp, nA hh, ?_⟩; refine fun w he hh hr0 => .inr (.inr ⟨hq, rfl, _, _, fun s tm hc => wH (ha.d.trans hD) hc ?_, ?_⟩)
  · show (p.P.funcs[f]?).any (·.norace) = false
    rw [hf]; simp [hnr]
  exact kx0 (lz6 hf hr rfl) (Nat.le_refl _)
theorem px0 {j ch q f m : Nat} {fn : Func} {cd : Code} {cap : List Value} (hf : p.P.funcs[f]? = some fn) (hb : fn.body = some cd) (hname : (fn.name == "runtime.NumGoroutine") = false) (b0 : Bx) (hlen : cap.length ≤ fn.ntmps)
    (h : TC (.folS p j ch ro q) ⟨p.P, fn.ntmps, b0, [], none⟩ (baseD f) [bot p.P] m [.code cd] (argFr 0 cap) hp) : FolS p j ch ro (m + 1) q (born p.P ⟨.fn (.func f) cap.toArray, #[]⟩).frame [] hp := by
  refine (TX.folS p j ch ro q).lift _ _ _ _ fun w he hh hr0 => ⟨_, _, w, #[], hp, qj1 hf hb hname w, by simp, nA hh, ?_⟩; refine h _ ⟨rfl, by simp; omega, fun t u hu => ?_⟩; have h2 := (nZ cap 0 t u hu).2; simp only [Nat.sub_zero] at h2; have hlt : t < cap.length := (List.getElem?_eq_some_iff.1 h2).1
  simpa [Array.getD_eq_getD_getElem?, Array.getElem?_append, hlt] using (List.getElem?_eq_some_iff.1 h2).2
theorem at_go0 {x : Operand} {f ch : Nat} {cap : List Value} {r1 h2 : Hq} {tm : Bool} (ho : ops[i]? = some ⟨none, .go ⟨.value x, #[], #[]⟩, ty, pos, af, none⟩) (hk : b.kind ≠ .early) (hx : ev fr x = some (.func (.func f) #[] cap.toArray))
    (h1 : (ch, Obj.chan 0 #[] false 0 0 tm) ∈ hp) (hs1 : ∀ q ∈ r1, q ∈ hp) (hs2 : ∀ q ∈ h2, q ∈ hp) (hdis : ∀ k, Has r1 k → ¬ Has h2 k) (hc1 : ¬ Has r1 ch) (hc2 : ¬ Has h2 ch)
    (hF : FolS p 0 ch (r1 ++ ro) p.BW 0 (born p.P ⟨.fn (.func f) cap.toArray, #[]⟩).frame [] []) (kk : TC (.folM p Goal (.s1 ch) (r1 ++ ro)) c b cs n (.inRegion ops rest :: k) fr h2) :
    TC (.folM p Goal .s0 ro) c b cs (n + 1) (.inRegion ops (i :: rest) :: k) fr hp := fun a ha w he hh hr0 => by
  refine .inr ⟨b.at a (.inRegion ops rest :: k), cs, (born p.P ⟨.fn (.func f) cap.toArray, #[]⟩).frame, ch, tm, r1, h2, ?_, h1, hs1, hs2, hdis, hc1, hc2, hF, kk a ha⟩; rw [stepG_spawn (d := ⟨.fn (.func f) cap.toArray, #[]⟩) (w' := w) ho rfl hk (by simp [execOp, resolve, ha.ev hx, Deferred.ofValue]) rfl]; have : listed p.P b.fn a (⟨none, .go ⟨.value x, #[], #[]⟩, ty, pos, af, none⟩ : Oper) w = #[] := by unfold listed; rw [show (execOp a.eval (⟨none, .go ⟨.value x, #[], #[]⟩, ty, pos, af, none⟩ : Oper)).events p.P w #[] = #[] by simp [execOp, resolve, ha.ev hx, Deferred.ofValue]]; exact seen_none _ _
  rw [this]
  rfl
theorem at_go1 {x : Operand} {f c0 ch : Nat} {cap : List Value} {r1 h2 : Hq} {tm : Bool} (ho : ops[i]? = some ⟨none, .go ⟨.value x, #[], #[]⟩, ty, pos, af, none⟩) (hk : b.kind ≠ .early) (hx : ev fr x = some (.func (.func f) #[] cap.toArray))
    (h1 : (ch, Obj.chan 0 #[] false 0 0 tm) ∈ hp) (hs1 : ∀ q ∈ r1, q ∈ hp) (hs2 : ∀ q ∈ h2, q ∈ hp) (hdis : ∀ k, Has r1 k → ¬ Has h2 k) (hc1 : ¬ Has r1 ch) (hc2 : ¬ Has h2 ch)
    (hF : FolS p 1 ch (r1 ++ ro) p.BW 0 (born p.P ⟨.fn (.func f) cap.toArray, #[]⟩).frame [] []) (kk : TC (.folM p Goal (.ga c0 ch 0 0 false false) (r1 ++ ro)) c b cs n (.inRegion ops rest :: k) fr h2) :
    TC (.folM p Goal (.s1 c0) ro) c b cs (n + 1) (.inRegion ops (i :: rest) :: k) fr hp := fun a ha w he hh hr0 => by
  refine .inr ⟨b.at a (.inRegion ops rest :: k), cs, (born p.P ⟨.fn (.func f) cap.toArray, #[]⟩).frame, ch, tm, r1, h2, ?_, h1, hs1, hs2, hdis, hc1, hc2, hF, kk a ha⟩; rw [stepG_spawn (d := ⟨.fn (.func f) cap.toArray, #[]⟩) (w' := w) ho rfl hk (by simp [execOp, resolve, ha.ev hx, Deferred.ofValue]) rfl]; have : listed p.P b.fn a (⟨none, .go ⟨.value x, #[], #[]⟩, ty, pos, af, none⟩ : Oper) w = #[] := by unfold listed; rw [show (execOp a.eval (⟨none, .go ⟨.value x, #[], #[]⟩, ty, pos, af, none⟩ : Oper)).events p.P w #[] = #[] by simp [execOp, resolve, ha.ev hx, Deferred.ofValue]]; exact seen_none _ _
  rw [this]
  rfl
end
end Go.W
end
section
namespace Go.W
open Go Go.Conc Go.RowKit
/-! ### From what is known to the step -/
def bxOf (w : World) (hp : Hq) : Bx := ⟨w, hp.map (·.1), fun _ => False⟩
theorem sj4 (S : List Nat) (w : World) : Ext S w w := ⟨rfl, rfl, rfl, Nat.le_refl _, fun _ _ _ => rfl, Nat.le_refl _⟩
theorem wi_now {w : World} {hp : Hq} (hh : Held hp w) (nd : (hp.map (·.1)).Nodup) : WI (bxOf w hp) w hp [] :=
  { ext := sj4 _ w, own := hh, nd := nd, s0 := fun q hq => .inl (List.mem_map.2 ⟨q, hq, rfl⟩), fs := fun F hF => (by cases hF), ap := fun F hF => (by cases hF), al := fun F hF => (by cases hF) }
theorem trn_wi {w w' : World} {hp hp' : Hq} (h : WI (bxOf w hp) w' hp' []) : Trn w w' hp hp' :=
  { os := h.ext.os, tape := h.ext.tape, output := h.ext.output, size := h.ext.size
    keep := fun k hk hn => h.ext.block k hk (fun hm => by obtain ⟨q, hq, e⟩ := List.mem_map.1 hm; exact hn ⟨q, hq, e⟩)
    held := h.own
    new := fun q hq => (h.s0 q hq).imp (fun hm => by obtain ⟨q', hq', e⟩ := List.mem_map.1 hm; exact ⟨q', hq', e⟩) id }
theorem uQ {hp : Hq} {g : Nat} {o : Obj} (nd : (hp.map (·.1)).Nodup) (hg : ¬ Has hp g) : (((g, o) :: hp).map (·.1)).Nodup := by
  simp only [List.map_cons, List.nodup_cons]; exact ⟨fun hm => by obtain ⟨q, hq, e⟩ := List.mem_map.1 hm; exact hg ⟨q, hq, e⟩, nd⟩
/-! ### What may be listed -/
theorem gj8 {p : Dh} {ro hp : Hq} {g : Nat} {wr : Bool} (hg : Has hp g) : EvIn p ro hp ⟨.obj g, wr, false⟩ := by
  refine ⟨⟨by simp, by simp⟩, fun x hx _ k' hk' => ?_⟩; have e1 : MemAct.ofEvent ⟨.obj g, wr, false⟩ = .access ⟨.obj g, wr, false⟩ := by cases wr <;> rfl
  rw [e1] at hx; simp only [MemAct.touch?, Option.some.injEq] at hx; subst hx; simp only [blk, Option.some.injEq] at hk'; subst hk'; exact .inr hg
theorem px3 {p : Dh} {ro hp : Hq} {m : Mark} (hm : Neutral m) : EvIn p ro hp ⟨.mark m, false, true⟩ := by
  refine ⟨⟨fun e => hm.ne_disable (by simpa using e), fun e => hm.ne_enable (by simpa using e)⟩, fun x hx _ k' hk' => ?_⟩; have e1 : MemAct.ofEvent ⟨.mark m, false, true⟩ = .mark m := rfl; rw [e1, hm.touch] at hx
  cases hx
section
variable {P : Program} {w : World} {kt e t : TypeId} {l : List (Ment Int)} {g clk : Nat}
theorem dI {evs : Array Event} {es : Array MapEntry} (h : w.heap[g]? = some (.map es clk)) : (getObj g).events P w evs = evs.push ⟨.obj g, false, false⟩ := by
  simp [getObj, Sem.events, Sem.runT, h, Obj.isChan, -Sem.runT_eq]
theorem lZ {evs : Array Event} {es es' : Array MapEntry} {clk' : Nat} (h : w.heap[g]? = some (.map es clk)) : (setObj g (.map es' clk')).events P w evs = evs.push ⟨.obj g, true, false⟩ := by
  simp [setObj, Sem.events, Sem.runT, h, Obj.isChan, -Sem.runT_eq]
theorem zR (b : Bool) (n : Nat) (kd : IntKind) (k : Int) : Dry (Instr.checkKey b (n + 1) kt (.int kd k)) := by
  unfold Instr.checkKey; refine uF DC.out fun d => ?_
  cases d <;> trivial
theorem lB {evs : Array Event} (hk : P.underlying kt = some (.int .i64)) (k : Int) : (Instr.findKey kt (int k) (l.map (entOf int))).events P w evs = evs := by
  simp only [Instr.findKey, Sem.events_bind, run_underlying hk, Result.evThen_ok, uD, Sem.events_pure]; exact V6 DC.out _ _
theorem cx7 {evs : Array Event} (k : Int) : (Instr.keyThatStays (int k) (int k)).events P w evs = evs := by
  have : Instr.sameBits 10000 (int k) (int k) = true := by simp [Instr.sameBits, int]
  simp only [Instr.keyThatStays, this, if_true, Sem.events_pure]
theorem vY {evs : Array Event} (ht : P.underlying t = some (.map kt e)) (hk : P.underlying kt = some (.int .i64)) (hb : w.heap[g]? = some (mapO int l clk)) (k : Int) (ok : Bool) :
    ∀ ev ∈ (Instr.lookup t (.map (some g)) (int k) ok).events P w evs, ev ∈ evs ∨ ev = ⟨.obj g, false, false⟩ := by
  have K := KeyC.int (P := P) hk; have hb' : w.heap[g]? = some (.map (l.map (entOf int)).toArray clk) := hb; intro ev hev; have d1 : ∀ es : Array Event, (underlying t).events P w es = es := fun es => V6 DC.out _ _; have d2 : ∀ b (es : Array Event), (Instr.checkKey b 10000 kt (int k)).events P w es = es := fun b es => V6 (zR b 9999 .i64 k) _ _; have hf := K.find k l w; simp only [Instr.lookup, Sem.events_bind, Sem.run_bind, run_underlying ht, Result.evThen_ok, Result.andThen_ok, MapKept.run_getObj_map hb', dI hb', d1, d2, K.chk, Sem.run_pure, Sem.events_pure, hf, lB hk] at hev
  cases hr : findM k l 0 with
  | none =>
    rw [hr] at hev; simp only [Sem.events_bind, Sem.run_bind] at hev; have dz : (zeroValue e).events P w (evs.push ⟨.obj g, false, false⟩) = evs.push ⟨.obj g, false, false⟩ := V6 DC.out _ _
    have : ev ∈ evs.push ⟨.obj g, false, false⟩ := by
      cases hz : (zeroValue e).run P w <;> rw [hz] at hev <;> simp [dz] at hev <;> simpa using hev
    simpa using this
  | some q =>
    rw [hr] at hev
    simpa using hev
theorem gz3 (ht : P.underlying t = some (.map kt e)) (hk : P.underlying kt = some (.int .i64)) (hb : w.heap[g]? = some (mapO int l clk)) (k : Int) (v : Value) :
    (Instr.mapUpdate t (.map (some g)) (int k) v).run P w = .ok () { w with heap := w.heap.setIfInBounds g (mapO int (putM l k v clk) (clkM l k clk)) } ∧
    ∀ evs, ∀ ev ∈ (Instr.mapUpdate t (.map (some g)) (int k) v).events P w evs, ev ∈ evs ∨ ∃ b, ev = ⟨.obj g, b, false⟩ := by
  have K := KeyC.int (P := P) hk; have hg' : w.heap[g]? = some (.map (l.map (entOf int)).toArray clk) := hb; have hf := K.find k l w; have d1 : ∀ es : Array Event, (underlying t).events P w es = es := fun es => V6 DC.out _ _; have d2 : ∀ b (es : Array Event), (Instr.checkKey b 10000 kt (int k)).events P w es = es := fun b es => V6 (zR b 9999 .i64 k) _ _; unfold putM clkM
  cases hr : findM k l 0 with
  | none =>
    rw [hr] at hf; refine ⟨?_, fun evs ev hev => ?_⟩
    · simp only [Instr.mapUpdate, Sem.run_bind, run_underlying ht, Result.andThen_ok, MapKept.run_getObj_map hg', K.chk, hf, MapKept.run_setObj_map _ hg']
      have : ((l.map (entOf int)).toArray.push { key := int k, val := v, born := clk }) = ((l ++ [(k, v, clk)]).map (entOf int)).toArray := by
        apply Array.ext'; simp [entOf]
      rw [this]
      rfl
    simp only [Instr.mapUpdate, Sem.events_bind, Sem.run_bind, run_underlying ht, Result.evThen_ok, Result.andThen_ok, MapKept.run_getObj_map hg', dI hg', d1, d2, K.chk, hf, lB hk, lZ hg'] at hev; simp only [Array.mem_push] at hev
    rcases hev with (h | h) | h
    · exact .inl h
    · exact .inr ⟨_, h⟩
    exact .inr ⟨_, h⟩
  | some q =>
    obtain ⟨i, u⟩ := q; rw [hr] at hf; obtain ⟨m, q, h1, h2, h3, h4⟩ := zQ l 0 i u hr; have e1 : i = m := by omega
    subst e1
    have e2 : (((l.map (entOf int)).toArray[i]?).map (·.key)).getD (int k) = int k := by
      simp [h2, entOf, h3]
    refine ⟨?_, fun evs ev hev => ?_⟩
    · simp only [Instr.mapUpdate, Sem.run_bind, run_underlying ht, Result.andThen_ok, MapKept.run_getObj_map hg', K.chk, hf, e2, K.stays, MapKept.run_setObj_map _ hg', tM h2]
      rfl
    simp only [Instr.mapUpdate, Sem.events_bind, Sem.run_bind, run_underlying ht, Result.evThen_ok, Result.andThen_ok, MapKept.run_getObj_map hg', dI hg', d1, d2, K.chk, hf, e2, K.stays, cx7, lB hk, lZ hg'] at hev; simp only [Array.mem_push] at hev
    rcases hev with (h | h) | h
    · exact .inl h
    · exact .inr ⟨_, h⟩
    exact .inr ⟨_, h⟩
end
/-! ### The rules -/
section
variable {X : TX} {c : Cx} {b : Frame} {cs : List Frame} {n : Nat} {k : List Item} {fr : Fr} {hp hp' : Hq} {ops : Array Oper} {i : Nat} {rest : List Nat}
variable {d : Tmp} {ty : TypeId} {pos : String} {af : Array Edge} {kt e t : TypeId} {x y z : Operand}
theorem tr_look {g clk : Nat} {l : List (Ment Int)} {kk : Int} {v : Value} {ok : Bool} (ho : ops[i]? = some ⟨some d, .lookup t x y ok, ty, pos, af, none⟩) (hd : Nat.blt d c.n = true) (hk : b.kind ≠ .early) (ht : X.p.P.underlying t = some (.map kt e)) (hkt : X.p.P.underlying kt = some (.int .i64))
    (hx : ev fr x = some (.map (some g))) (hy : ev fr y = some (int kk)) (hm : (g, mapO int l clk) ∈ hp) (hv : getM l kk = some v)
    (k0 : TC X c b cs n (.inRegion ops rest :: k) ((d, if ok then .tuple #[v, .bool true] else v) :: fr) hp) : TC X c b cs (n + 1) (.inRegion ops (i :: rest) :: k) fr hp :=
  Y2 _ ho rfl rfl hd hk (fun a w ha he hh hr0 => by
    have hb := hh _ hm; simp only at hb; have h1 := (R2 (k := kk) (KeyC.int hkt) ht hb ok).1 (by simp [hv]); simp only [hv, Option.getD_some] at h1; refine ⟨by simp only [execOp, ha.ev hx, ha.ev hy, Sem.run_bind, h1, Result.andThen_ok, Sem.run_pure], fun ev hev => ?_⟩; simp only [execOp, ha.ev hx, ha.ev hy, Sem.events_bind, h1, Result.evThen_ok, Sem.events_pure] at hev
    rcases vY ht hkt hb kk ok ev hev with h2 | rfl
    · simp at h2
    exact gj8 ⟨_, hm, rfl⟩) k0
theorem qq9 {g clk : Nat} {l : List (Ment Int)} {kk : Int} {v : Value} {ok : Bool} (ho : ops[i]? = some ⟨some d, .lookup t x y ok, ty, pos, af, none⟩) (hd : Nat.blt d c.n = true) (hk : b.kind ≠ .early) (ht : X.p.P.underlying t = some (.map kt e)) (hkt : X.p.P.underlying kt = some (.int .i64))
    (hx : ev fr x = some (.map (some g))) (hy : ev fr y = some (int kk)) (hm : (g, mapO int l clk) ∈ hp) (hv : getM l kk = none) (hz : ∀ w, (zeroValue e).run X.p.P w = .ok v w)
    (k0 : TC X c b cs n (.inRegion ops rest :: k) ((d, if ok then .tuple #[v, .bool false] else v) :: fr) hp) : TC X c b cs (n + 1) (.inRegion ops (i :: rest) :: k) fr hp :=
  Y2 _ ho rfl rfl hd hk (fun a w ha he hh hr0 => by
    have hb := hh _ hm; simp only at hb; have h1 := (R2 (k := kk) (KeyC.int hkt) ht hb ok).2 v (hz w) hv; refine ⟨by simp only [execOp, ha.ev hx, ha.ev hy, Sem.run_bind, h1, Result.andThen_ok, Sem.run_pure], fun ev hev => ?_⟩; simp only [execOp, ha.ev hx, ha.ev hy, Sem.events_bind, h1, Result.evThen_ok, Sem.events_pure] at hev
    rcases vY ht hkt hb kk ok ev hev with h2 | rfl
    · simp at h2
    exact gj8 ⟨_, hm, rfl⟩) k0
theorem xL {g clk : Nat} {l : List (Ment Int)} {kk : Int} {v : Value} (ho : ops[i]? = some ⟨none, .mapUpdate t x y z, ty, pos, af, none⟩) (hk : b.kind ≠ .early) (ht : X.p.P.underlying t = some (.map kt e)) (hkt : X.p.P.underlying kt = some (.int .i64))
    (hx : ev fr x = some (.map (some g))) (hy : ev fr y = some (int kk)) (hz : ev fr z = some v) (hpp : hp.Perm ((g, mapO int l clk) :: hp')) (hn : ¬ Has hp' g)
    (k0 : TC X c b cs n (.inRegion ops rest :: k) fr ((g, mapO int (putM l kk v clk) (clkM l kk clk)) :: hp')) : TC X c b cs (n + 1) (.inRegion ops (i :: rest) :: k) fr hp :=
  lx6 ho rfl rfl hk fun a ha w he hh hr0 => by
    have hgm : (g, mapO int l clk) ∈ hp := hpp.mem_iff.2 (by simp); have hb := hh _ hgm; simp only at hb; obtain ⟨h1, h2⟩ := gz3 ht hkt hb kk v; refine ⟨{ w with heap := w.heap.setIfInBounds g (mapO int (putM l kk v clk) (clkM l kk clk)) }, _, by simp only [execOp, ha.ev hx, ha.ev hy, ha.ev hz, Sem.run_bind, h1, Result.andThen_ok, Sem.run_pure], fun ev hev => ?_, zY hh hpp hn ⟨rfl, rfl, rfl, by simp, fun j hj hn => by simp only [List.mem_singleton] at hn; simp [Array.getElem?_setIfInBounds_ne (Ne.symm hn)], Nat.le_refl _⟩ ?_, k0 a ha⟩
    · simp only [execOp, ha.ev hx, ha.ev hy, ha.ev hz, Sem.events_bind, h1, Result.evThen_ok, Sem.events_pure] at hev
      rcases h2 _ ev hev with h3 | ⟨bb, rfl⟩
      · simp at h3
      exact gj8 ⟨_, hgm, rfl⟩
    have := E1 hb
    simp [this]
theorem nq8 {sz bytes m cp nn cap gs : Nat} {A : Option Addr} {xs : List Value} {news : Array Value} {fz : Nat × Nat} {et : TypeId} {og : Hq} (n' : Nat) (xs' : List Value) (ho : ops[i]? = some ⟨some d, .call ⟨.builtin .append, #[x, y], #[t, t]⟩, ty, pos, af, none⟩) (hd : Nat.blt d c.n = true) (hk : b.kind ≠ .early)
    (el : ElT X.p.P t e sz bytes) (hx : ev fr x = some (.slice A nn cap)) (hy : ev fr y = some (.slice (k5 gs) m cp)) (hG : Grow e sz A nn cap xs og) (hpp : hp.Perm (og ++ hp')) (nd : (hp.map (·.1)).Nodup)
    (hs : (gs, Obj.cells news et fz) ∈ hp') (hs1 : news.size = m * sz) (hs2 : news.toList.all (·.oneCell') = true) (hn' : nn + m = n') (hxs : xs ++ news.toList = xs') (hn : n' ≤ maxLen) (hby : n' * bytes ≤ 140737488355328)
    (k0 : ∀ A' cap' og', Grow e sz A' n' cap' xs' og' → ((og' ++ hp').map (·.1)).Nodup → (∀ q ∈ og', Has hp q.1 ∨ X.p.W.heap.size ≤ q.1) → TC X c b cs n (.inRegion ops rest :: k) ((d, .slice A' n' cap') :: fr) (og' ++ hp')) : TC X c b cs (n + 1) (.inRegion ops (i :: rest) :: k) fr hp :=
  qx4 ho rfl hk fun a ha w he hh hr0 => by
    subst hn'; subst hxs; have hw : WI (bxOf w hp) w (og ++ hp') [] := (wi_now hh nd).perm hpp; have hsm : (gs, Obj.cells news et fz) ∈ og ++ hp' := List.mem_append.2 (.inr hs); obtain ⟨A', cap', og', w', hrun, hG', hw'⟩ := bx5 (cp := cp) el hG hw (Src.own hsm hs1 hs2) hn hby ty; refine ⟨.slice A' (nn + m) cap', w', og' ++ hp', by simp only [execOp, resolve, invoke, builtin, Sem.run_bind, Sem.run_pure, Result.andThen_ok, List.map_toArray, List.map_cons, List.map_nil, ha.ev hx, ha.ev hy, hrun], fun ev hev => ?_, trn_wi hw', k0 A' cap' og' hG' hw'.nd (fun q hq => (hw'.s0 q (by simp [hq])).imp (fun hm => by obtain ⟨q', hq', e⟩ := List.mem_map.1 hm; exact ⟨q', hq', e⟩) (fun h => Nat.le_trans he.size h)) _ (ha.put (by simpa using hd) _)⟩; obtain ⟨ii, zz, hi, hz, hsz, hb, hzs⟩ := el.i
    have hev2 : ev ∈ (Builtin.append_ #[t, t] ty #[.slice A nn cap, .slice (k5 gs) m cp]).events X.p.P w #[] := by
      simp only [execOp, resolve, invoke, builtin, Sem.events_bind, Sem.run_bind, Sem.run_pure, Sem.events_pure, Result.evThen_ok, Result.andThen_ok, List.map_toArray, List.map_cons, List.map_nil, ha.ev hx, ha.ev hy, hrun] at hev; exact hev
    have hcells : ∀ j u, news.toList[j]? = some u → w.cell? ((⟨gs, 0, none⟩ : Addr).add j) = some u := fun j u hu => by
      have := hw.own _ hsm; simp only at this; rw [iU, Nat.zero_add]
      simp at hu
      simp [World.cell?, this, hu]
    rcases events_append_where (P := X.p.P) w 0 t ty e ii zz sz bytes el.u hi hz hsz hb _ nn xs (ij4 hG hw) ⟨gs, 0, none⟩ m cp news.toList (by simpa using hs1) hcells (fun u hu => (List.all_eq_true.1 hs2) u hu) hn hby ev hev2 with ⟨ad, h1, h2⟩ | ⟨mm, rfl, hm⟩
    · refine vA h1 ?_
      rcases h2 with ⟨h2, h3⟩ | h2
      · exact .inr ⟨_, hpp.mem_iff.2 hsm, h3.symm⟩
      refine .inr ?_
      rcases hG.2 with ⟨rfl, _⟩ | ⟨g, cur, rfl, rfl, _⟩
      · simp [Value.ownBlock] at h2
      simp [Value.ownBlock] at h2
      exact ⟨(g, .cells cur e (0, 0)), hpp.mem_iff.2 (by simp), h2.symm⟩
    exact px3 hm
end
end Go.W
end
section
namespace Go.W
open Go Go.Conc Go.RowKit
section
variable {X : TX} {c : Cx} {b : Frame} {cs : List Frame} {n : Nat} {k : List Item} {fr : Fr} {hp hp' : Hq} {ops : Array Oper} {i : Nat} {rest : List Nat}
variable {d : Tmp} {ty : TypeId} {pos : String} {af : Array Edge} {t : TypeId} {x y z : Operand}
/-! ### Plain values -/
theorem tg_no {o : Oper} {j : Nat} {want v : Bool} {u : Tmp} (ho : ops[i]? = some o) (hdst : o.dst = some d) (hg : o.guard = some (j, want)) (hd : Nat.blt d c.n = true) (hj : (ops[j]?).bind (·.dst) = some u) (hv : lk fr u = some (.bool v)) (hb : (v == want) = false)
    (k0 : TC X c b cs n (.inRegion ops rest :: k) ((d, undef) :: fr) hp) : TC X c b cs (n + 1) (.inRegion ops (i :: rest) :: k) fr hp := fun a ha => by
  have hw : Region.wanted o (yielded ops a.tmps) = false := by
    rw [Region.wanted, hg]; show (yielded ops a.tmps j == some want) = false; rw [pX ha hj hv]
    simpa using hb
  refine hx9 (fun w => stepG_unwanted ho hw) ?_; rw [hdst]; exact k0 _ (ha.put (by simpa using hd) _)
theorem mz2 {o : Oper} {j : Nat} {want vb : Bool} {u : Tmp} (v : Value) (ho : ops[i]? = some o) (hdst : o.dst = some d) (hg : o.guard = some (j, want)) (hj : (ops[j]?).bind (·.dst) = some u) (hvb : lk fr u = some (.bool vb)) (hb : (vb == want) = true) (hd : Nat.blt d c.n = true) (hk : b.kind ≠ .early)
    (hrun : ∀ a w, Ok c a fr → Sur X.p w → Held hp w → Held X.ro w → (execOp a.eval o).run X.p.P w = .ok (.value v) w ∧ EvsIn X hp a o w)
    (k0 : TC X c b cs n (.inRegion ops rest :: k) ((d, v) :: fr) hp) : TC X c b cs (n + 1) (.inRegion ops (i :: rest) :: k) fr hp := fun a ha => X.lift _ _ _ _ fun w he hh hr0 => by
  have hw : Region.wanted o (yielded ops a.tmps) = true := by
    rw [Region.wanted, hg]; show (yielded ops a.tmps j == some want) = true; rw [pX ha hj hvb]
    simpa using hb
  obtain ⟨h1, h2⟩ := hrun a w ha he hh hr0; refine ⟨_, _, w, _, hp, stepG_value ho hw hk h1, fun e he' => h2 e (kH he'), nA hh, ?_⟩; rw [hdst]; exact k0 _ (ha.put (by simpa using hd) _)
theorem qq8 {j : Nat} {want vb : Bool} {u : Tmp} {v : Value} (ho : ops[i]? = some ⟨some d, .move x, ty, pos, af, some (j, want)⟩) (hj : (ops[j]?).bind (·.dst) = some u) (hvb : lk fr u = some (.bool vb)) (hb : (vb == want) = true) (hd : Nat.blt d c.n = true) (hk : b.kind ≠ .early) (hx : ev fr x = some v)
    (k0 : TC X c b cs n (.inRegion ops rest :: k) ((d, v) :: fr) hp) : TC X c b cs (n + 1) (.inRegion ops (i :: rest) :: k) fr hp :=
  mz2 v ho rfl rfl hj hvb hb hd hk (fun a w ha _ _ _ => ⟨by simp only [execOp, ha.ev hx]; rfl, D0 rfl⟩) k0
theorem bY {P : Program} {e : TypeId} {dir : ChanDir} (ht : P.underlying t = some (.chan dir e)) (x y : Operand) (p q : Option Nat) (w : World) :
    (eqGuard .neq t x y (.chan p) (.chan q)).run P w = .ok () w ∧ (eqGuard .neq t x y (.chan p) (.chan q)).events P w #[] = #[] ∧
    (binOp .neq t (.chan p) (.chan q)).run P w = .ok (.bool (!(p == q))) w ∧ (binOp .neq t (.chan p) (.chan q)).events P w #[] = #[] := by
  have h1 : ∀ d : Nat, (Op.equalIn (d + 1) t (.chan p) (.chan q)).run P w = .ok (p == q) w := fun d => by simp [Op.equalIn, run_underlying ht]
  have h2 : ∀ d : Nat, (Op.equalIn (d + 1) t (.chan p) (.chan q)).events P w #[] = #[] := fun d => by simp [Op.equalIn, run_underlying ht]
  refine ⟨rfl, rfl, ?_, ?_⟩
  · show ((do pure (.bool (!(← Op.equal t (.chan p) (.chan q)))) : Sem Value)).run P w = _
    rw [Sem.run_bind, show (Op.equal t (.chan p) (.chan q)).run P w = .ok (p == q) w from h1 9999]
    rfl
  show ((do pure (.bool (!(← Op.equal t (.chan p) (.chan q)))) : Sem Value)).events P w #[] = _; rw [Sem.events_bind, show (Op.equal t (.chan p) (.chan q)).run P w = .ok (p == q) w from h1 9999, show (Op.equal t (.chan p) (.chan q)).events P w #[] = #[] from h2 9999]
  rfl
theorem dj5 {e yt : TypeId} {dir : ChanDir} {p q : Option Nat} (ho : ops[i]? = some ⟨some d, .binOp .neq t x y yt, ty, pos, af, none⟩) (hd : Nat.blt d c.n = true) (hk : b.kind ≠ .early) (ht : X.p.P.underlying t = some (.chan dir e)) (hx : ev fr x = some (.chan p)) (hy : ev fr y = some (.chan q))
    (k0 : TC X c b cs n (.inRegion ops rest :: k) ((d, .bool (!(p == q))) :: fr) hp) : TC X c b cs (n + 1) (.inRegion ops (i :: rest) :: k) fr hp :=
  ix2 _ ho hd hk hx hy (fun w => (bY ht x y p q w).1) (fun w => (bY ht x y p q w).2.1) (fun w => (bY ht x y p q w).2.2.1) (fun w => (bY ht x y p q w).2.2.2) k0
theorem kj0 {e yt : TypeId} {dir : ChanDir} {p q : Option Nat} {j : Nat} {want vb : Bool} {u : Tmp} (ho : ops[i]? = some ⟨some d, .binOp .neq t x y yt, ty, pos, af, some (j, want)⟩) (hj : (ops[j]?).bind (·.dst) = some u) (hvb : lk fr u = some (.bool vb)) (hb : (vb == want) = true) (hd : Nat.blt d c.n = true) (hk : b.kind ≠ .early) (ht : X.p.P.underlying t = some (.chan dir e)) (hx : ev fr x = some (.chan p)) (hy : ev fr y = some (.chan q))
    (k0 : TC X c b cs n (.inRegion ops rest :: k) ((d, .bool (!(p == q))) :: fr) hp) : TC X c b cs (n + 1) (.inRegion ops (i :: rest) :: k) fr hp :=
  mz2 _ ho rfl rfl hj hvb hb hd hk (fun a w ha _ _ _ => by
    obtain ⟨h1, h2, h3, h4⟩ := bY ht x y p q w
    exact ⟨by simp only [execOp, ha.ev hx, ha.ev hy, Sem.run_bind, h1, h3, Result.andThen_ok, Sem.run_pure], D0 (by simp [execOp, ha.ev hx, ha.ev hy, h1, h2, h3, h4])⟩) k0
theorem cI {yt : TypeId} {p q : Int} (ho : ops[i]? = some ⟨some d, .binOp .eql t x y yt, ty, pos, af, none⟩) (hd : Nat.blt d c.n = true) (hk : b.kind ≠ .early) (hx : ev fr x = some (int p)) (hy : ev fr y = some (int q))
    (k0 : TC X c b cs n (.inRegion ops rest :: k) ((d, .bool (p == q)) :: fr) hp) : TC X c b cs (n + 1) (.inRegion ops (i :: rest) :: k) fr hp :=
  ix2 _ ho hd hk hx hy (fun w => rfl) (fun w => rfl) (fun w => rfl) (fun w => rfl) k0
theorem mz0 {z : Operand} {p : Bool} {v : Value} (ho : ops[i]? = some ⟨some d, .pick x y z, ty, pos, af, none⟩) (hd : Nat.blt d c.n = true) (hk : b.kind ≠ .early) (hx : ev fr x = some (.bool p)) (hv : ev fr (if p then y else z) = some v)
    (k0 : TC X c b cs n (.inRegion ops rest :: k) ((d, v) :: fr) hp) : TC X c b cs (n + 1) (.inRegion ops (i :: rest) :: k) fr hp :=
  Y2 v ho rfl rfl hd hk (fun a w ha _ _ _ => by
    have h1 := ha.ev hv
    cases p
    · simp only [Bool.false_eq_true, if_false] at h1
      exact ⟨by show ((do pure (.value (if ← asBool (a.eval x) then a.eval y else a.eval z)) : Sem Next)).run X.p.P w = _; rw [ha.ev hx, h1]; rfl, D0 (by show ((do pure (.value (if ← asBool (a.eval x) then a.eval y else a.eval z)) : Sem Next)).events X.p.P w #[] = _; rw [ha.ev hx, h1]; rfl)⟩
    simp only [if_true] at h1
    exact ⟨by show ((do pure (.value (if ← asBool (a.eval x) then a.eval y else a.eval z)) : Sem Next)).run X.p.P w = _; rw [ha.ev hx, h1]; rfl, D0 (by show ((do pure (.value (if ← asBool (a.eval x) then a.eval y else a.eval z)) : Sem Next)).events X.p.P w #[] = _; rw [ha.ev hx, h1]; rfl)⟩) k0
theorem iq9 {p : Bool} (ho : ops[i]? = some ⟨some d, .unOp .not t x, ty, pos, af, none⟩) (hd : Nat.blt d c.n = true) (hk : b.kind ≠ .early) (hx : ev fr x = some (.bool p))
    (k0 : TC X c b cs n (.inRegion ops rest :: k) ((d, .bool (!p)) :: fr) hp) : TC X c b cs (n + 1) (.inRegion ops (i :: rest) :: k) fr hp :=
  Y2 _ ho rfl rfl hd hk (fun a w ha _ _ _ => ⟨by show ((do pure (.value (← Op.unary .not (a.eval x))) : Sem Next)).run X.p.P w = _; rw [ha.ev hx]; rfl, D0 (by show ((do pure (.value (← Op.unary .not (a.eval x))) : Sem Next)).events X.p.P w #[] = _; rw [ha.ev hx]; rfl)⟩) k0
theorem hU {p : Addr} (ho : ops[i]? = some ⟨some d, .nilCheck x, ty, pos, af, none⟩) (hd : Nat.blt d c.n = true) (hk : b.kind ≠ .early) (hx : ev fr x = some (.pointer (some p)))
    (k0 : TC X c b cs n (.inRegion ops rest :: k) ((d, .pointer (some p)) :: fr) hp) : TC X c b cs (n + 1) (.inRegion ops (i :: rest) :: k) fr hp :=
  Y2 _ ho rfl rfl hd hk (fun a w ha _ _ _ => ⟨by simp only [execOp]; rw [ha.ev hx]; rfl, D0 (by simp only [execOp]; rw [ha.ev hx]; rfl)⟩) k0
theorem tr_run {o : Oper} (v : Value) (ho : ops[i]? = some o) (hdst : o.dst = some d) (hg : o.guard = none) (hd : Nat.blt d c.n = true) (hk : b.kind ≠ .early)
    (hrun : ∀ a w, Ok c a fr → (execOp a.eval o).run X.p.P w = .ok (.value v) w ∧ (execOp a.eval o).events X.p.P w #[] = #[])
    (k0 : TC X c b cs n (.inRegion ops rest :: k) ((d, v) :: fr) hp) : TC X c b cs (n + 1) (.inRegion ops (i :: rest) :: k) fr hp :=
  Y2 v ho hdst hg hd hk (fun a w ha _ _ _ => ⟨(hrun a w ha).1, D0 (hrun a w ha).2⟩) k0
theorem gx5 {e : TypeId} {m : Nat} {parts : Array (Nat × Operand)} {us : Array Value} (vs : List (Nat × Value)) (ho : ops[i]? = some ⟨some d, .buildSlice t m parts, ty, pos, af, none⟩) (hd : Nat.blt d c.n = true) (hk : b.kind ≠ .early) (hx : parts.toList.mapM (fun p => (ev fr p.2).map (p.1, ·)) = some vs)
    (hrun : ∀ w, (Instr.buildSlice t m vs.toArray).run X.p.P w = .ok (.slice (some ⟨w.heap.size, 0, none⟩) m m) (w.alloc (.cells us e (0, 0)))) (hev : ∀ w es, (Instr.buildSlice t m vs.toArray).events X.p.P w es = es)
    (kk : ∀ g, X.p.W.heap.size ≤ g → ¬ Has hp g → TC X c b cs n (.inRegion ops rest :: k) ((d, .slice (k5 g) m m) :: fr) ((g, .cells us e (0, 0)) :: hp)) : TC X c b cs (n + 1) (.inRegion ops (i :: rest) :: k) fr hp :=
  zZ (.cells us e (0, 0)) (fun g => .slice (k5 g) m m) ho rfl rfl hd hk (fun a w ha => by
    have key : ∀ (xs : List (Nat × Operand)) (vs : List (Nat × Value)), xs.mapM (fun p => (ev fr p.2).map (p.1, ·)) = some vs → xs.map (fun p => (p.1, a.eval p.2)) = vs := by
      intro xs
      induction xs with
      | nil => intro vs h; simpa using h
      | cons x xs ih =>
        intro vs h; simp only [List.mapM_cons, Option.bind_eq_bind, Option.bind_eq_some_iff, Option.pure_def, Option.some.injEq, Option.map_eq_some_iff] at h; obtain ⟨v, ⟨u, hu, rfl⟩, us, hus, rfl⟩ := h; rw [List.map_cons, ha.ev hu, ih us hus]
    have e1 : (parts.map fun (i, x) => (i, a.eval x)) = vs.toArray := by apply Array.ext'; simpa using key _ _ hx
    exact ⟨by simp only [execOp, e1, Sem.run_bind, hrun, Result.andThen_ok, Sem.run_pure], by simp only [execOp, e1]; simp [hrun, hev]⟩) kk
theorem bj8 {e : TypeId} {dir : ChanDir} {zi : TypeInfo} (ho : ops[i]? = some ⟨some d, .makeChan t x, ty, pos, af, none⟩) (hd : Nat.blt d c.n = true) (hk : b.kind ≠ .early) (ht : X.p.P.underlying t = some (.chan dir e)) (hi : X.p.P.info? e = some zi) (hx : ev fr x = some (int (0 : Nat)))
    (kk : ∀ g, X.p.W.heap.size ≤ g → ¬ Has hp g → TC X c b cs n (.inRegion ops rest :: k) ((d, .chan (some g)) :: fr) ((g, .chan 0 #[] false 0 0 false) :: hp)) : TC X c b cs (n + 1) (.inRegion ops (i :: rest) :: k) fr hp :=
  zZ (.chan 0 #[] false 0 0 false) (fun g => .chan (some g)) ho rfl rfl hd hk (fun a w ha => by
    have h1 := run_makeChan (P := X.p.P) (w := w) ht hi .i64 0 (by omega) (by omega); have h2 := events_makeChan (P := X.p.P) (w := w) ht hi .i64 0 (by omega) (by omega) #[]
    exact ⟨by simp only [execOp, Sem.run_bind, Sem.run_pure, Result.andThen_ok, ha.ev hx, int]; rw [h1]; rfl, by simp only [execOp, Sem.events_bind, ha.ev hx, int]; rw [h1, h2]; rfl⟩) kk
theorem hZ {e : TypeId} {g o m sz q : Nat} {kd : IntKind} {zz : Int} (j : Nat) (ho : ops[i]? = some ⟨some d, .indexAddr t x y, ty, pos, af, none⟩) (hd : Nat.blt d c.n = true) (hk : b.kind ≠ .early) (ht : X.p.P.underlying t = some (.array m e)) (hz : Sz X.p.P e sz)
    (hx : ev fr x = some (.pointer (some ⟨g, o, none⟩))) (hy : ev fr y = some (.int kd zz)) (hjz : zz = (j : Int)) (hj : j < m) (hq : o + j * sz = q)
    (k0 : TC X c b cs n (.inRegion ops rest :: k) ((d, .pointer (some ⟨g, q, none⟩)) :: fr) hp) : TC X c b cs (n + 1) (.inRegion ops (i :: rest) :: k) fr hp :=
  tr_run _ ho rfl rfl hd hk (fun a w ha => by
    subst hjz
    have hr : (Instr.indexAt t (.pointer (some ⟨g, o, none⟩)) (.int kd (j : Int))).run X.p.P w = .ok (.pointer (some ⟨g, q, none⟩)) w := by
      subst hq
      simp [Instr.indexAt, asIntOf, run_underlying ht, U8 hz, hj, Instr.sureAddr, iU]
    have he : (Instr.indexAt t (.pointer (some ⟨g, o, none⟩)) (.int kd (j : Int))).events X.p.P w #[] = #[] := V6 DC.out _ _
    exact ⟨by simp only [execOp, ha.ev hx, ha.ev hy, Sem.run_bind, hr, Result.andThen_ok, Sem.run_pure], by simp [execOp, ha.ev hx, ha.ev hy, hr, he]⟩) k0
/-! ### Calls -/
theorem cz0 {f : Nat} {ars : Array Operand} {ats : Array TypeId} {vs : List Value} (ho : ops[i]? = some ⟨some d, .call ⟨.value (.func f), ars, ats⟩, ty, pos, af, none⟩ ∨ ops[i]? = some ⟨none, .call ⟨.value (.func f), ars, ats⟩, ty, pos, af, none⟩) (hk : b.kind ≠ .early) (hcb : Callable X.p.P f) (hx : ars.toList.mapM (ev fr) = some vs) (hs : ∀ q ∈ hp', q ∈ hp)
    (kk : ∀ a, Ok c a fr → X.T n (Frame.enter X.p.P f vs.toArray .normal) (b.at a (.inRegion ops (i :: rest) :: k) :: cs) hp') : TC X c b cs (n + 1) (.inRegion ops (i :: rest) :: k) fr hp := fun a ha => X.lift _ _ _ _ fun w he hh hr0 => by
  have e1 : ars.map a.eval = vs.toArray := by apply Array.ext'; simpa using mapM_ev ha _ _ hx
  have e2 : ∀ dst, execOp a.eval (⟨dst, .call ⟨.value (.func f), ars, ats⟩, ty, pos, af, none⟩ : Oper) = callFunc f vs.toArray := fun dst => by
    show ((do let dd ← resolve a.eval ⟨.value (.func f), ars, ats⟩ ty; invoke dd.target dd.args) : Sem Next) = _; have e4 : a.eval (.func f) = .func (.func f) #[] #[] := rfl; have e3 : (#[] ++ vs.toArray ++ #[] : Array Value) = vs.toArray := by simp
    simp only [resolve, e4, e1, Deferred.ofValue]; show callFunc f (#[] ++ vs.toArray ++ #[]) = _; rw [e3]
  rcases ho with ho | ho
  · refine ⟨_, _, w, _, hp', stepG_enter ho rfl hk (by rw [e2]; exact hcb.run _ _), fun e hev => ?_, nB hh hs, kk a ha⟩
    have := kH hev; rw [e2, hcb.events] at this
    simp at this
  refine ⟨_, _, w, _, hp', stepG_enter ho rfl hk (by rw [e2]; exact hcb.run _ _), fun e hev => ?_, nB hh hs, kk a ha⟩; have := kH hev; rw [e2, hcb.events] at this
  simp at this
theorem ix8 {f m : Nat} {fn : Func} {cd : Code} {args : List Value} {cs' : List Frame} (hf : X.p.P.funcs[f]? = some fn) (hb : fn.body = some cd) (b0 : Bx) (hlen : args.length ≤ fn.ntmps)
    (h : TC X ⟨X.p.P, fn.ntmps, b0, [], none⟩ (base f) cs' m [.code cd] (argFr 0 args) hp) : X.T m (Frame.enter X.p.P f args.toArray .normal) cs' hp := by
  rw [enter_at args.toArray hf hb]; refine h _ ⟨rfl, by simp; omega, fun t u hu => ?_⟩; have h2 := (nZ args 0 t u hu).2; simp only [Nat.sub_zero] at h2; have hlt : t < args.length := (List.getElem?_eq_some_iff.1 h2).1
  simpa [Array.getD_eq_getD_getElem?, Array.getElem?_append, hlt] using (List.getElem?_eq_some_iff.1 h2).2
theorem gW {fn : Func} (h : fn.results = #[]) (tmps : Array Value) : results fn tmps = pure (.tuple #[]) := by
  unfold results; rw [h]; simp
theorem tc_end0 {fn : Func} {cf : Frame} {f : Nat} {hp' : Hq} (hc : c.D = []) (hf : X.p.P.funcs[f]? = some fn) (hr : fn.results = #[]) (hs : ∀ q ∈ hp', q ∈ hp) (kk : X.T n (cf.finish (.tuple #[])) cs hp') :
    TC X c (base f) (cf :: cs) (n + 2) [] fr hp := fun a ha => by
  refine hx9 (f' := { (base f).at a [] with mode := .returning }) (fun w => stepG_end) ?_; exact X.lift _ _ _ _ fun w he hh hr0 => ⟨_, _, w, #[], hp', stepG_leave (v := .tuple #[]) rfl (ha.d.trans hc) hf (by rw [gW hr]; rfl) (by rw [gW hr]; rfl), by simp, nB hh hs, kk⟩
theorem tc_ret0 {fn : Func} {cf : Frame} {f : Nat} {hp' : Hq} (hc : c.D = []) (hf : X.p.P.funcs[f]? = some fn) (hr : fn.results = #[]) (hs : ∀ q ∈ hp', q ∈ hp) (kk : X.T n (cf.finish (.tuple #[])) cs hp') :
    TC X c (base f) (cf :: cs) (n + 2) (.code .ret :: k) fr hp := fun a ha => by
  refine hx9 (f' := { (base f).at a (.code .ret :: k) with mode := .returning }) (fun w => stepG_ret') ?_; exact X.lift _ _ _ _ fun w he hh hr0 => ⟨_, _, w, #[], hp', stepG_leave (v := .tuple #[]) rfl (ha.d.trans hc) hf (by rw [gW hr]; rfl) (by rw [gW hr]; rfl), by simp, nB hh hs, kk⟩
/-! ### Regions whose order is open -/
theorem ta_all {m : Nat} (hm : ops.size = m) (S : (Nat → Bool) → Fr → Hq → Prop)
    (hstep : ∀ i, i < m → ∀ (ld : Nat → Bool) fr hp, S ld fr hp → (∀ i, ld i = true → ∀ j ∈ edgesOf ops i, ld j = true) → ld i = false → (∀ j ∈ edgesOf ops i, ld j = true) → ∀ n rest, (∀ fr' hp', S (fun j => ld j || Nat.beq j i) fr' hp' → TC X c b cs n (.inRegion ops rest :: k) fr' hp') → TC X c b cs (n + 1) (.inRegion ops (i :: rest) :: k) fr hp)
    (hb : ∀ i, i < m → ∀ j ∈ edgesOf ops i, j < i)
    (hend : ∀ (ld : Nat → Bool) fr hp, (∀ j, j < m → ld j = true) → S ld fr hp → TC X c b cs n (.inRegion ops [] :: k) fr hp) :
    ∀ (q : Nat) (listed : Array Bool) (fr : Fr) (hp : Hq), listed.size = m → Closed ops listed → listed.toList.countP (· == false) = q → S (fun j => listed.getD j false) fr hp → TA X c b cs k ops (n + q) q listed fr hp := by
  intro q
  induction q with
  | zero =>
    intro listed fr hp hsz hcl hc hS
    have hall : ∀ j, j < m → listed.getD j false = true := fun j hj => by
      have h1 := List.countP_eq_zero.1 hc (listed[j]'(by omega)) (by simp); simp only [beq_iff_eq, Bool.not_eq_false] at h1; rw [Array.getD_eq_getD_getElem?, Array.getElem?_eq_getElem (by omega)]; exact h1
    refine ta_nil ?_ (hend _ fr hp hall hS); refine Classical.byContradiction fun hne => ?_; obtain ⟨j, hj⟩ := List.exists_mem_of_ne_nil _ hne; obtain ⟨h1, h2, _⟩ := jO.1 hj; have h3 := hall j (by omega); rw [Array.getD_eq_getD_getElem?, Array.getElem?_eq_getElem (by omega)] at h2 h3; simp only [Option.getD_some] at h2 h3; rw [h2] at h3
    cases h3
  | succ q ih =>
    intro listed fr hp hsz hcl hc hS
    have hex : ∃ i, i < m ∧ listed.getD i false = false := by
      refine Classical.byContradiction fun hno => ?_
      have : listed.toList.countP (· == false) = 0 := List.countP_eq_zero.2 fun a ha => by
        obtain ⟨j, hj, rfl⟩ := List.mem_iff_getElem.1 ha; simp only [beq_iff_eq, Bool.not_eq_false]; refine Classical.byContradiction fun hv => hno ⟨j, by simpa [hsz] using hj, ?_⟩; rw [Array.getD_eq_getD_getElem?, Array.getElem?_eq_getElem (by simpa using hj)]
        simpa using hv
      omega
    obtain ⟨i0, hi0, hn0⟩ := hex; obtain ⟨k1, hk1⟩ := rM (l := listed) (fun i hi j hj => hb i (by omega) j hj) (by omega) (i := i0) (by omega) hn0; refine ta_step rfl (List.ne_nil_of_mem hk1) fun j hj rest ⟨t, ht⟩ => ?_; obtain ⟨h1, h2, h3⟩ := jO.1 hj; have hjm : j < m := by omega
    have hjl : listed.getD j false = false := by
      rw [Array.getD_eq_getD_getElem?, Array.getElem?_eq_getElem (by omega)] at h2 ⊢; exact h2
    refine hstep j hjm _ fr hp hS hcl hjl h3 (n + q) rest fun fr' hp' hS' => ?_; subst ht
    have hset : ∀ z, (listed.setIfInBounds j true).getD z false = (listed.getD z false || Nat.beq z j) := fun z => by
      by_cases e : z = j
      · subst e
        simp [Array.getD_eq_getD_getElem?, show z < listed.size by omega, Nat.beq_refl]
      have : Nat.beq z j = false := by
        cases hbq : Nat.beq z j
        · rfl
        exact absurd (Nat.eq_of_beq_eq_true hbq) e
      rw [this, Bool.or_false, Array.getD_eq_getD_getElem?, Array.getD_eq_getD_getElem?, Array.getElem?_setIfInBounds_ne (fun h => e h.symm)]
    refine ih (listed.setIfInBounds j true) fr' hp' (by simpa using hsz) (fun z hz y hy => ?_) ?_ ?_ t
    · rw [hset] at hz ⊢
      rw [Bool.or_eq_true] at hz ⊢
      rcases hz with hz | hz
      · exact .inl (hcl z hz y hy)
      obtain rfl := Nat.eq_of_beq_eq_true hz; exact .inl (h3 y hy)
    · have e : listed.toList.countP (· == false) = (listed.setIfInBounds j true).toList.countP (· == false) + 1 := by
        have hlt : j < listed.toList.length := by simp; omega
        have e1 : (listed.setIfInBounds j true).toList = listed.toList.set j true := by simp
        have hv : listed.toList[j] = false := by
          rw [Array.getD_eq_getD_getElem?, Array.getElem?_eq_getElem (by omega)] at hjl
          simpa using hjl
        rw [e1, List.countP_set hlt, hv]; have : 0 < listed.toList.countP (· == false) := List.countP_pos_iff.2 ⟨_, List.getElem_mem hlt, by rw [hv]; rfl⟩; rw [if_pos (show ((false == false) = true) from rfl), if_neg (show ¬ ((true == false) = true) by decide)]
        omega
      omega
    rw [show (fun j' => (listed.setIfInBounds j true).getD j' false) = fun j' => listed.getD j' false || Nat.beq j' j from funext hset]; exact hS'
theorem rN {ops : Array Oper} {ld : Nat → Bool} (hc : ∀ i, ld i = true → ∀ j ∈ edgesOf ops i, ld j = true) : ∀ (f i j : Nat), (∀ k ∈ edgesOf ops i, ld k = true) → deps ops f i j = true → ld j = true
  | 0, i, j, _, h => by simp [deps] at h
  | f + 1, i, j, hi, h => by
    rw [deps, Bool.or_eq_true, List.any_eq_true] at h
    rcases h with h | ⟨k, hk, h⟩
    · exact hi j (by simpa using h)
    exact rN hc f k j (hc k (hi k hk)) h
theorem qJ {m id : Nat} (hmx : X.p.P.follows .mixedOrders = true) (hm : ops.size = m) (S : (Nat → Bool) → Fr → Hq → Prop)
    (hstep : ∀ i, i < m → ∀ (ld : Nat → Bool) fr hp, S ld fr hp → (∀ i, ld i = true → ∀ j ∈ edgesOf ops i, ld j = true) → ld i = false → (∀ j ∈ edgesOf ops i, ld j = true) → ∀ n rest, (∀ fr' hp', S (fun j => ld j || Nat.beq j i) fr' hp' → TC X c b cs n (.inRegion ops rest :: k) fr' hp') → TC X c b cs (n + 1) (.inRegion ops (i :: rest) :: k) fr hp)
    (hb : ∀ i, i < m → ∀ j ∈ edgesOf ops i, j < i) (h0 : S (fun _ => false) fr hp)
    (hend : ∀ (ld : Nat → Bool) fr hp, (∀ j, j < m → ld j = true) → S ld fr hp → TC X c b cs n (.inRegion ops [] :: k) fr hp) : TC X c b cs (n + m + 1) (.code (.region id ops true) :: k) fr hp := by
  subst hm; refine lx5 hmx ?_
  have e : (fun j => (Array.replicate ops.size false).getD j false) = fun _ : Nat => false := by
    funext j
    simp only [Array.getD_eq_getD_getElem?, Array.getElem?_replicate]
    split <;> rfl
  exact ta_all rfl S hstep hb hend ops.size _ fr hp (by simp) (fun i hi => by rw [congrFun e i] at hi; cases hi) (by simp [List.countP_replicate]) (by rw [e]; exact h0)
def Tab (tab : List (Option Nat × Tmp × Value)) (ld : Nat → Bool) (fr : Fr) : Prop := ∀ e ∈ tab, e.1.all ld = true → lk fr e.2.1 = some e.2.2
theorem Tab.put {tab : List (Option Nat × Tmp × Value)} {ld : Nat → Bool} {fr : Fr} (h : Tab tab ld fr) (i : Nat) {d : Tmp} {v : Value} (hi : (some i, d, v) ∈ tab) (nd : (tab.map (·.2.1)).Nodup) (ni : (tab.filterMap (·.1)).Nodup) : Tab tab (fun j => ld j || Nat.beq j i) ((d, v) :: fr) := by
  have inj : ∀ (l : List (Option Nat × Tmp × Value)), (l.map (·.2.1)).Nodup → ∀ e ∈ l, ∀ e' ∈ l, e.2.1 = e'.2.1 → e = e' := by
    intro l
    induction l with
    | nil => intro _ e he; cases he
    | cons x l ih =>
      intro hn e he e' he' heq; simp only [List.map_cons, List.nodup_cons] at hn
      rcases List.mem_cons.1 he with rfl | hz <;> rcases List.mem_cons.1 he' with rfl | hz'
      · rfl
      · exact absurd (List.mem_map.2 ⟨e', hz', heq.symm⟩) hn.1
      · exact absurd (List.mem_map.2 ⟨e, hz, heq⟩) hn.1
      exact ih hn.2 e hz e' hz' heq
  have inj2 : ∀ (l : List (Option Nat × Tmp × Value)), (l.filterMap (·.1)).Nodup → ∀ e ∈ l, ∀ e' ∈ l, e.1 = some i → e'.1 = some i → e = e' := by
    intro l
    induction l with
    | nil => intro _ e he; cases he
    | cons x l ih =>
      intro hn e he e' he' h1 h2
      have hn' : (l.filterMap (·.1)).Nodup := by
        cases hx : x.1 with
        | none => rwa [List.filterMap_cons_none hx] at hn
        | some q => rw [List.filterMap_cons_some hx] at hn; exact (List.nodup_cons.1 hn).2
      rcases List.mem_cons.1 he with rfl | hz <;> rcases List.mem_cons.1 he' with rfl | hz'
      · rfl
      · rw [List.filterMap_cons_some h1] at hn
        exact absurd (List.mem_filterMap.2 ⟨e', hz', h2⟩) (List.nodup_cons.1 hn).1
      · rw [List.filterMap_cons_some h2] at hn
        exact absurd (List.mem_filterMap.2 ⟨e, hz, h1⟩) (List.nodup_cons.1 hn).1
      exact ih hn' e hz e' hz' h1 h2
  intro e he hl; rw [p9]
  by_cases e0 : d = e.2.1
  · have := inj tab nd _ hi _ he e0
    subst this
    simp
  rw [if_neg e0]; refine h e he ?_
  cases h1 : e.1 with
  | none => rfl
  | some j =>
    rw [h1] at hl; simp only [Option.all_some, Bool.or_eq_true] at hl ⊢
    rcases hl with hl | hl
    · exact hl
    obtain rfl := Nat.eq_of_beq_eq_true hl; exact absurd (congrArg (·.2.1) (inj2 tab ni _ hi _ he rfl h1)) e0
theorem Tab.base {tab : List (Option Nat × Tmp × Value)} {ld : Nat → Bool} {fr : Fr} (h : Tab tab ld fr) {t : Tmp} {v : Value} (hm : (none, t, v) ∈ tab) : lk fr t = some v := h _ hm rfl
theorem Tab.of {tab : List (Option Nat × Tmp × Value)} {ld : Nat → Bool} {fr : Fr} (h : Tab tab ld fr) {j : Nat} {t : Tmp} {v : Value} (hl : ld j = true) (hm : (some j, t, v) ∈ tab) : lk fr t = some v := h _ hm (by simpa using hl)
end
end Go.W
end
