/- Texts of this claim, one behind another. -/
import Derived.Conc.LoneCalls
import Derived.Laws.CopyRow
import Derived.Laws.Tables
import Derived.Lib.AppendStr
import Derived.Lib.UnsafeStr
import Derived.Lib.Builder
import Derived.Test.YtfhninnleacgiaaGreatAAh
import Derived.Test.YtfhninnleacgiaaGreatAAj
import Derived.Test.YtfhninnleacgiaaGreatAAa
import Derived.Test.YtfhninnleacgiaaGreatAAe
set_option linter.unusedVariables false
set_option linter.unusedSimpArgs false
section
namespace Go.W
open Go Go.RowKit Go.Conc
def wpk (P : Program) (x : Code) (Q : Exit → Act → World → Prop) (a : Act) (w : World) : Prop :=
  ∀ (b : Frame) (k : List Item) (cs : List Frame), b.kind = .normal → ∃ e a' w', Q e a' w' ∧ Arrives P (lone (b.at a (.code x :: k)) cs w) b k cs e a' w'
section
variable {P : Program} {Q : Exit → Act → World → Prop} {a : Act} {w : World}
theorem yB {x : Code} (h : x.wp P Q a w) : wpk P x Q a w := fun b k cs _ => h b k cs
theorem gz3 {x : Code} {Q' : Exit → Act → World → Prop} (h : wpk P x Q a w) (hq : ∀ e a w, Q e a w → Q' e a w) : wpk P x Q' a w :=
  fun b k cs hb => let ⟨e, a', w', q, r⟩ := h b k cs hb; ⟨e, a', w', hq _ _ _ q, r⟩
theorem wpk_seq {x y : Code} (h : wpk P x (Exit.then (wpk P y Q) Q) a w) : wpk P (.seq x y) Q a w := by
  intro b k cs hb; obtain ⟨e, a₁, w₁, hq, harr⟩ := h b (.code y :: k) cs hb
  cases e with
  | normal =>
    obtain ⟨e₂, a₂, w₂, hq₂, harr₂⟩ := hq b k cs hb; exact ⟨e₂, a₂, w₂, hq₂, .of_steps (.head step_seq harr) harr₂⟩
  | exit id => exact ⟨_, a₁, w₁, hq, .of_steps (.one step_seq) (.pass (x := .code y) rfl (fun _ _ => .inl (by simp)) harr)⟩
  | goto l => exact ⟨_, a₁, w₁, hq, .of_steps (.one step_seq) (.pass (x := .code y) rfl (fun _ _ => .inl (by simp)) harr)⟩
  | ret => exact ⟨_, a₁, w₁, hq, .of_steps (.one step_seq) (.pass (x := .code y) rfl (fun _ _ => .inl (by simp)) harr)⟩
  | panic ch => exact ⟨_, a₁, w₁, hq, .of_steps (.one step_seq) (.pass (x := .code y) rfl (fun _ _ => .inl (by simp)) harr)⟩
  | outgrown => exact ⟨_, a₁, w₁, hq, .of_steps (.one step_seq) (.pass (x := .code y) rfl (fun _ _ => .inl (by simp)) harr)⟩
theorem zP {c : Operand} {x y : Code} {t : Bool} (hc : a.eval c = .bool t) (h : wpk P (if t then x else y) Q a w) : wpk P (.cond c x y) Q a w :=
  fun b k cs hb => let ⟨e, a', w', q, r⟩ := h b k cs hb; ⟨e, a', w', q, .of_steps (.one (step_cond hc)) r⟩
theorem uA {c : Operand} {x y : Code} {t : Bool} (hc : a.eval c = .bool t) (ht : t = true → wpk P x Q a w) (hf : t = false → wpk P y Q a w) : wpk P (.cond c x y) Q a w := by
  cases t
  · exact zP hc (hf rfl)
  exact zP hc (ht rfl)
theorem dj4 {id : Nat} {c : Code} (h : wpk P c (Exit.inBlock id Q) a w) : wpk P (.block id c) Q a w := by
  intro b k cs hb; obtain ⟨e, a₁, w₁, hq, harr⟩ := h b (.inBlock id :: k) cs hb
  cases e with
  | normal => exact ⟨.normal, a₁, w₁, hq, .head step_block (Steps.trans harr (.one step_inBlock))⟩
  | exit id' =>
    by_cases hid : id' = id
    · simp only [Exit.inBlock, hid, if_true] at hq
      exact ⟨.normal, a₁, w₁, hq, .head step_block (harr k (by simp [exitTo, hid]))⟩
    simp only [Exit.inBlock, hid, if_false] at hq; refine ⟨.exit id', a₁, w₁, hq, fun k' hk => .head step_block (harr k' ?_)⟩; have : (id == id') = false := by simp; exact fun h => hid h.symm
    simp [exitTo, this, hk]
  | goto l => exact ⟨_, a₁, w₁, hq, fun k' hk => .head step_block (harr k' (by simp [gotoIn, hk]))⟩
  | ret => exact ⟨_, a₁, w₁, hq, .of_steps (.one step_block) harr⟩
  | panic ch => exact ⟨_, a₁, w₁, hq, .of_steps (.one step_block) harr⟩
  | outgrown => exact ⟨_, a₁, w₁, hq, .of_steps (b := b) (k := k) (cs := cs) (e := .outgrown) (.one step_block) harr⟩
theorem gz4 {c : Code} (I : Nat → Act → World → Prop) (m : Nat) (h₀ : I m a w)
    (round : ∀ m a w, I m a w → wpk P c (Exit.then (fun a' w' => ∃ m', m' < m ∧ I m' a' w') Q) a w) : wpk P (.loop c) Q a w := by
  intro b k cs hb
  have key : ∀ n a w, I n a w → ∃ e a' w', Q e a' w' ∧ Arrives P (lone (b.at a (.code c :: .inLoop c :: k)) cs w) b k cs e a' w' := by
    intro n
    induction n using Nat.strongRecOn with
    | _ n ih =>
      intro a w hI; obtain ⟨e, a₁, w₁, hq, harr⟩ := round n a w hI b (.inLoop c :: k) cs hb
      cases e with
      | normal =>
        obtain ⟨m', hlt, hI₁⟩ := hq; obtain ⟨e₂, a₂, w₂, hq₂, harr₂⟩ := ih m' hlt a₁ w₁ hI₁; exact ⟨e₂, a₂, w₂, hq₂, .of_steps (Steps.trans harr (.one step_inLoop)) harr₂⟩
      | exit id => exact ⟨_, a₁, w₁, hq, .pass (x := .inLoop c) rfl (fun _ _ => .inl (by simp)) harr⟩
      | goto l => exact ⟨_, a₁, w₁, hq, .pass (x := .inLoop c) rfl (fun _ _ => .inl (by simp)) harr⟩
      | ret => exact ⟨_, a₁, w₁, hq, .pass (x := .inLoop c) rfl (fun _ _ => .inl (by simp)) harr⟩
      | panic ch => exact ⟨_, a₁, w₁, hq, .pass (x := .inLoop c) rfl (fun _ _ => .inl (by simp)) harr⟩
      | outgrown => exact ⟨_, a₁, w₁, hq, .pass (x := .inLoop c) rfl (fun _ _ => .inl (by simp)) harr⟩
  obtain ⟨e, a', w', hq, harr⟩ := key m a w h₀; exact ⟨e, a', w', hq, .of_steps (.one step_loop) harr⟩
theorem zL {f : FuncId} {fn : Func} {c : Code} {args : Array Value} {R : Ending → World → Prop} (hf : P.funcs[f]? = some fn) (hb : fn.body = some c)
    (h : wpk P c (bodyPost P fn R) { tmps := args ++ Array.replicate (fn.ntmps - args.size) undef, defers := [] } w) : Calls P f args w R := by
  intro cs
  let b : Frame := { (default : Frame) with fn := f, kind := .normal }
  have henter : Frame.enter P f args .normal = b.at { tmps := args ++ Array.replicate (fn.ntmps - args.size) undef, defers := [] } [.code c] := by
    simp [Frame.enter, Frame.at, hf, hb, b]
  obtain ⟨e, a', w', hq, harr⟩ := h b [] cs rfl; rw [← henter] at harr
  cases e with
  | normal =>
    obtain ⟨hd, v, hr, hR⟩ := hq; exact ⟨.returned v, w', _, hR, Steps.trans harr (.one step_end), rfl, rfl, hd, rfl, fn, hf, hr⟩
  | ret =>
    obtain ⟨hd, v, hr, hR⟩ := hq; obtain ⟨todo, hs⟩ := harr; exact ⟨.returned v, w', _, hR, hs, rfl, rfl, hd, rfl, fn, hf, hr⟩
  | panic chain =>
    obtain ⟨hd, hR⟩ := hq; obtain ⟨todo, hs⟩ := harr; exact ⟨.panicked chain, w', _, hR, hs, rfl, rfl, hd, fn, hf⟩
  | exit id => exact hq.elim
  | goto l => exact hq.elim
  | outgrown => exact ⟨.outgrown, w', b, hq, harr.resolve_left (by simp [b]), rfl, trivial⟩
/-! Regions that communicate. -/
def OpSteps (P : Program) (o : Oper) (a : Act) (w : World) (v : Value) (w' : World) : Prop :=
  ∀ (b : Frame) (k : List Item) (cs : List Frame) (ops : Array Oper) (i : Nat) (rest : List Nat), b.kind = .normal → ops[i]? = some o → o.guard = none →
    step P (lone (b.at a (.inRegion ops (i :: rest) :: k)) cs w) = .next (lone (b.at (a.put o.dst v) (.inRegion ops rest :: k)) cs w')
def opsK (P : Program) (ops : Array Oper) (Q : Exit → Act → World → Prop) : List Nat → Act → World → Prop
  | [], a, w => Q .normal a w
  | i :: rest, a, w => ∃ o v w', ops[i]? = some o ∧ o.guard = none ∧ OpSteps P o a w v w' ∧ opsK P ops Q rest (a.put o.dst v) w'
theorem cq8 {ops : Array Oper} : ∀ {l : List Nat} {a : Act} {w : World}, opsK P ops Q l a w → ∀ (b : Frame) (k : List Item) (cs : List Frame), b.kind = .normal →
      ∃ e a' w', Q e a' w' ∧ Arrives P (lone (b.at a (.inRegion ops l :: k)) cs w) b k cs e a' w'
  | [], a, w, h, b, k, cs, hb => ⟨.normal, a, w, h, .one step_region_end⟩
  | i :: rest, a, w, ⟨o, v, w', ho, hg, hs, h⟩, b, k, cs, hb => by
    obtain ⟨e, a', w'', hq, harr⟩ := cq8 h b k cs hb; exact ⟨e, a', w'', hq, .of_steps (.one (hs b k cs ops i rest hb ho hg)) harr⟩
theorem az7 {id : Nat} {ops : Array Oper} (h : opsK P ops Q (List.range ops.size) a w) : wpk P (.region id ops false) Q a w :=
  fun b k cs hb => let ⟨e, a', w', q, r⟩ := cq8 h b k cs hb; ⟨e, a', w', q, .of_steps (.one step_region) r⟩
theorem aq2 {o : Oper} {v : Value} {w' : World} (h : (execOp a.eval o).run P w = .ok (.value v) w') : OpSteps P o a w v w' := by
  intro b k cs ops i rest hb ho hg; have hw : Region.wanted o (yielded ops a.tmps) = true := by simp [Region.wanted, hg]
  have hg' := stepG_op (P := P) (b := b) (k := k) (cs := cs) (w := w) (rest := rest) ho hw; have hfin : (b.at a (.inRegion ops (i :: rest) :: k)).finish v = b.at (a.put o.dst v) (.inRegion ops rest :: k) := by rw [Frame.finish_at, ho]; rfl
  refine step_lone_go ?_; rw [hg', ← hfin]; simp [stepG.apply, h]
theorem yV {o : Oper} {c cap s r : Nat} {buf : Array Value} {tm : Bool} {v z' : Value} (h : (execOp a.eval o).run P w = .ok (.comm #[scase c v z'] true .send) w) (hc : w.heap[c]? = some (.chan cap buf false s r tm)) (hroom : buf.size < cap) :
    OpSteps P o a w undef (w.setChan c cap (buf.push v) false (s + 1) r tm) := by
  intro b k cs ops i rest hb ho hg; have hw : Region.wanted o (yielded ops a.tmps) = true := by simp [Region.wanted, hg]
  have hfin : (b.at a (.inRegion ops (i :: rest) :: k)).finish undef = b.at (a.put o.dst undef) (.inRegion ops rest :: k) := by rw [Frame.finish_at, ho]; rfl
  have hs := stepG_comm (P := P) (main := true) (b := b) (a := a) (k := k) (cs := cs) (w := w) (rest := rest) ho hw (by rw [hb]; decide) h; have := step_lone_send_room (P := P) hs hc hroom; rw [hfin] at this; exact this
theorem yW {o : Oper} {c cap s r : Nat} {buf : Array Value} {tm closed : Bool} {z : Value} (h : (execOp a.eval o).run P w = .ok (.comm #[rcase c z] true (.recv false)) w) (hc : w.heap[c]? = some (.chan cap buf closed s r tm)) (hsome : 0 < buf.size) :
    OpSteps P o a w (buf.getD 0 undef) (w.setChan c cap (buf.extract 1 buf.size) closed s (r + 1) tm) := by
  intro b k cs ops i rest hb ho hg; have hw : Region.wanted o (yielded ops a.tmps) = true := by simp [Region.wanted, hg]
  have hfin : (b.at a (.inRegion ops (i :: rest) :: k)).finish (buf.getD 0 undef) = b.at (a.put o.dst (buf.getD 0 undef)) (.inRegion ops rest :: k) := by rw [Frame.finish_at, ho]; rfl
  have hs := stepG_comm (P := P) (main := true) (b := b) (a := a) (k := k) (cs := cs) (w := w) (rest := rest) ho hw (by rw [hb]; decide) h; have := step_lone_recv_buf (P := P) false hs hc hsome; simp only [got] at this; rw [if_neg (by decide), hfin] at this; exact this
end
/-! The rules. -/
def kw (c : Cx) (x : Code) (Q : Exit → Act → World → Prop) : Act → World → Prop := wpk c.P x Q
def KC (c : Cx) (x : Code) (Q : Exit → Act → World → Prop) (fr : Fr) (hp : Hp) (L : List Fact) : Prop := ∀ a w, Ok c a fr → WI c.b w hp L → kw c x Q a w
def KL (c : Cx) (ops : Array Oper) (Q : Exit → Act → World → Prop) (l : List Nat) (fr : Fr) (hp : Hp) (L : List Fact) : Prop := ∀ a w, Ok c a fr → WI c.b w hp L → opsK c.P ops Q l a w
section
variable {c : Cx} {Q : Exit → Act → World → Prop} {fr : Fr} {hp : Hp} {L : List Fact} {ops : Array Oper}
theorem J3 {x y : Code} (h : KC c x (Exit.then (kw c y Q) Q) fr hp L) : KC c (.seq x y) Q fr hp L := fun a w ha hw => wpk_seq (h a w ha hw)
theorem E2 {y : Code} (h : KC c y Q fr hp L) : HQ c (Exit.then (kw c y Q) Q) .normal fr hp L := fun a w ha hw => h a w ha hw
theorem C9 {P : Program} {n : Nat} {b : Bx} {D : List Deferred} {id : Nat} {l : List Oper} (h : HL ⟨P, n, b, D, none⟩ l.toArray Q l fr hp L) : KC ⟨P, n, b, D, none⟩ (.region id l.toArray false) Q fr hp L :=
  fun a w ha hw => yB (wpIn_wide.1 (b9 (id := id) h a w ha hw))
theorem zE (h : HQ c Q .normal fr hp L) : KC c .skip Q fr hp L := fun a w ha hw => yB (wp_skip (h a w ha hw))
theorem cx5 {id : Nat} (h : HQ c Q (.exit id) fr hp L) : KC c (.exit id) Q fr hp L := fun a w ha hw => yB (wp_exit (h a w ha hw))
theorem kc_ret (h : HQ c Q .ret fr hp L) : KC c .ret Q fr hp L := fun a w ha hw => yB (wp_ret (h a w ha hw))
theorem qZ {id : Nat} {x : Code} (h : KC c x (Exit.inBlock id Q) fr hp L) : KC c (.block id x) Q fr hp L := fun a w ha hw => dj4 (h a w ha hw)
theorem tV {x : Operand} {b : Bool} {thn els : Code} (hx : ev fr x = some (.bool b)) (ht : b = true → KC c thn Q fr hp L) (hf : b = false → KC c els Q fr hp L) : KC c (.cond x thn els) Q fr hp L :=
  fun a w ha hw => uA (ha.ev hx) (fun e => ht e a w ha hw) (fun e => hf e a w ha hw)
theorem ix0 {x : Operand} {p : Prop} [Decidable p] {thn els : Code} (hx : ev fr x = some (.bool (decide p))) (ht : p → KC c thn Q fr hp L) (hf : ¬ p → KC c els Q fr hp L) : KC c (.cond x thn els) Q fr hp L :=
  tV hx (fun e => ht (of_decide_eq_true e)) (fun e => hf (of_decide_eq_false e))
theorem cx4 {β : Type} (s : Sta β) (μ : β → Nat) {body : Code} (z0 : β) (hz0 : s.inv z0) (h1 : FrSub fr (s.fr z0)) (h2 : (s.hp z0).Sublist hp) (h3 : LSub L (s.L z0))
    (round : ∀ z, s.inv z → KC c body (Exit.then (AgainQ s μ (μ z) c) Q) (s.fr z) (s.hp z) (s.L z)) : KC c (.loop body) Q fr hp L :=
  fun a w ha hw => gz4 (fun m a w => ∃ y, μ y = m ∧ s.inv y ∧ Ok c a (s.fr y) ∧ WI c.b w (s.hp y) (s.L y)) (μ z0) ⟨z0, rfl, hz0, ha.sub h1, hw.weak h2 h3.mem⟩
    fun m a w ⟨y, hm, hy, hok, hwi⟩ => gz3 (round y hy a w hok hwi) fun e a w hq => by
      cases e <;> first | exact hq | (obtain ⟨z, hz, hlt, hok', hwi'⟩ := hq; exact ⟨μ z, by rw [← hm]; exact hlt, z, rfl, hz, hok', hwi'⟩)
theorem zC {β : Type} {P : Program} {f : Nat} {args : List Value} {k : Con β} {fn : Func} {code : Code} (hf : P.funcs[f]? = some fn) (hb : fn.body = some code) (hn : args.length ≤ fn.ntmps)
    (h : ∀ w, KC ⟨P, fn.ntmps, k.entry w, [], none⟩ code (bodyPost P fn (k.post w)) (argFr 0 args) k.hpI k.LI) : Meets P f args k := by
  intro w hw; refine zL hf hb (h w _ w ⟨rfl, by simp; omega, fun t v hv => ?_⟩ hw); obtain ⟨_, h2⟩ := qS args 0 t v hv; simp only [Nat.sub_zero] at h2
  have hlt : t < args.length := by
    rcases Nat.lt_or_ge t args.length with h' | h'
    · exact h'
    rw [List.getElem?_eq_none h'] at h2; cases h2
  rw [List.getElem?_eq_getElem hlt] at h2
  injection h2 with h2
  simp [Array.getElem?_append, hlt, h2]
theorem zF {id : Nat} {l : List Oper} (h : KL c l.toArray Q (List.range l.length) fr hp L) : KC c (.region id l.toArray false) Q fr hp L :=
  fun a w ha hw => az7 (by simpa using h a w ha hw)
theorem bx5 (h : HQ c Q .normal fr hp L) : KL c ops Q [] fr hp L := fun a w ha hw => h a w ha hw
variable {i : Nat} {rest : List Nat} {d : Tmp} {ty : TypeId} {pos : String} {af : Array Edge}
theorem iq9 {o : Oper} (v : Value) (hi : ops[i]? = some o) (ho : o.dst = some d) (hg : o.guard = none) (hd : Nat.blt d c.n = true)
    (hr : ∀ a w, Ok c a fr → WI c.b w hp L → (execOp a.eval o).run c.P w = .ok (.value v) w) (k : KL c ops Q rest ((d, v) :: fr) hp L) : KL c ops Q (i :: rest) fr hp L := by
  intro a w ha hw; refine ⟨o, v, w, hi, hg, aq2 (hr a w ha hw), ?_⟩; rw [ho]; exact k _ _ (ha.put (by simpa using hd) v) hw
theorem qX {x : Operand} {v : Value} (hi : ops[i]? = some ⟨some d, .move x, ty, pos, af, none⟩) (hd : Nat.blt d c.n = true) (hx : ev fr x = some v) (k : KL c ops Q rest ((d, v) :: fr) hp L) : KL c ops Q (i :: rest) fr hp L :=
  iq9 v hi rfl rfl hd (fun a w ha _ => by show Result.ok (Next.value (a.eval x)) w = _; rw [ha.ev hx]) k
theorem dz7 {x : Operand} {v : Value} (hi : ops[i]? = some ⟨some d, .assign x, ty, pos, af, none⟩) (hd : Nat.blt d c.n = true) (hx : ev fr x = some v) (k : KL c ops Q rest ((d, v) :: fr) hp L) : KL c ops Q (i :: rest) fr hp L :=
  iq9 v hi rfl rfl hd (fun a w ha _ => by show Result.ok (Next.value (a.eval x)) w = _; rw [ha.ev hx]) k
abbrev chanO (cap : Nat) (buf : List Value) (s r : Nat) : Obj := .chan cap buf.toArray false s r false
theorem cj5 {b : Bx} {w : World} {g cap s r s' r' : Nat} {buf buf' : Array Value} {o : Obj} (h : WI b w ((g, o) :: hp) L) : WI b (w.setChan g cap buf' false s' r' false) ((g, .chan cap buf' false s' r' false) :: hp) L := by
  have hg := h.own (g, o) (by simp); have hlt : g < w.heap.size := D6 hg; refine h.write ⟨rfl, rfl, rfl, by simp [World.setChan], fun k hk hn => ?_, Nat.le_refl _⟩ (heap_setChan w g cap buf' false s' r' false hlt); simp only [World.setChan]; rw [Array.getElem?_setIfInBounds_ne (fun e => hn (by rw [e]; simp))]
theorem cx3 {x y : Operand} {v : Value} {g cap s r : Nat} {buf : List Value} {hp' : Hp} (hi : ops[i]? = some ⟨none, .send x y, ty, pos, af, none⟩) (hx : ev fr x = some (.chan (some g))) (hy : ev fr y = some v) (hpp : hp.Perm ((g, chanO cap buf s r) :: hp')) (hroom : buf.length < cap)
    (k : KL c ops Q rest fr ((g, chanO cap (buf ++ [v]) (s + 1) r) :: hp') L) : KL c ops Q (i :: rest) fr hp L := by
  intro a w ha hw; have hw' := hw.perm hpp; have hg := hw'.own (g, chanO cap buf s r) (by simp); refine ⟨_, undef, _, hi, rfl, yV (c := g) (v := v) (z' := .tuple #[]) (by simp [execOp, scase, ha.ev hx, ha.ev hy]) hg (by simpa using hroom), ?_⟩; show opsK c.P ops Q rest a _; refine k a _ ha ?_; have h2 := cj5 (cap := cap) (s' := s + 1) (r' := r) (buf' := buf.toArray.push v) (s := s) (r := r) (buf := buf.toArray) hw'; have e : (buf ++ [v]).toArray = buf.toArray.push v := by simp
  show WI c.b _ ((g, .chan cap (buf ++ [v]).toArray false (s + 1) r false) :: hp') L; rw [e]; exact h2
theorem kl_recv {t e : TypeId} {dir : ChanDir} {x : Operand} {v z : Value} {g cap s r : Nat} {buf : List Value} {hp' : Hp} (hi : ops[i]? = some ⟨some d, .recv t x false, ty, pos, af, none⟩) (hd : Nat.blt d c.n = true) (ht : c.P.underlying t = some (.chan dir e)) (hz : ∀ w, (zeroValue e).run c.P w = .ok z w)
    (hx : ev fr x = some (.chan (some g))) (hpp : hp.Perm ((g, chanO cap (v :: buf) s r) :: hp'))
    (k : KL c ops Q rest ((d, v) :: fr) ((g, chanO cap buf s (r + 1)) :: hp') L) : KL c ops Q (i :: rest) fr hp L := by
  intro a w ha hw; have hw' := hw.perm hpp; have hg := hw'.own (g, chanO cap (v :: buf) s r) (by simp); refine ⟨_, v, _, hi, rfl, yW (c := g) (z := z) (cap := cap) (buf := (v :: buf).toArray) (closed := false) (s := s) (r := r) (tm := false) ?_ hg (by simp), ?_⟩
  · simp [execOp, Sem.run_bind, run_underlying ht, hz, rcase, ha.ev hx]
  refine k _ _ (ha.put (by simpa using hd) v) ?_; have h2 := cj5 (cap := cap) (s' := s) (r' := r + 1) (buf' := (v :: buf).toArray.extract 1 (v :: buf).toArray.size) (s := s) (r := r) (buf := (v :: buf).toArray) hw'; have e : (v :: buf).toArray.extract 1 (v :: buf).toArray.size = buf.toArray := by simp
  rw [e] at h2
  simpa using h2
end
section
variable {c : Cx} {Q : Exit → Act → World → Prop} {fr : Fr} {hp : Hp} {L : List Fact} {ops : Array Oper} {rest : List Oper}
variable {d : Tmp} {ty : TypeId} {pos : String} {af : Array Edge}
theorem bq4 {t e : TypeId} {dir : ChanDir} {x : Operand} {n : Nat} {z : TypeInfo} (hd : Nat.blt d c.n = true) (ht : c.P.underlying t = some (.chan dir e)) (hi : c.P.info? e = some z) (hx : ev fr x = some (int (n : Int))) (h63 : (n : Int) ≤ 9223372036854775807) (hb : (z.bytes : Int) * n ≤ 281474976710544)
    (k : ∀ g, HL c ops Q rest ((d, .chan (some g)) :: fr) ((g, chanO n [] 0 0) :: hp) L) : HL c ops Q (⟨some d, .makeChan t x, ty, pos, af, none⟩ :: rest) fr hp L :=
  iN rfl rfl hd fun a w ha hw => by
    refine ⟨.chan (some w.heap.size), _, _, L, ?_, hw.alloc _, k w.heap.size⟩; simp only [execOp, Sem.run_bind, Sem.run_pure, Result.andThen_ok, ha.ev hx, run_makeChan ht hi .i64 n h63 hb]
theorem hx3 {dT sT e : TypeId} {x y : Operand} {g off dLen dCap sLen sCap : Nat} {ad : Addr} {cur : Array Value} {cs : List Value} {hp' : Hp} (hd : Nat.blt d c.n = true) (ht : c.P.underlying dT = some (.slice e)) (hz : Sz c.P e 1)
    (hx : ev fr x = some (.slice (some ⟨g, off, none⟩) dLen dCap)) (hy : ev fr y = some (.slice (some ad) sLen sCap)) (hpp : hp.Perm ((g, .cells cur e (0, 0)) :: hp')) (hn : cs.length = Nat.min sLen dLen) (hs : Cells c.b ((g, .cells cur e (0, 0)) :: hp') L ad cs)
    (hfit : off + cs.length ≤ cur.size) (h1 : ∀ v ∈ cs, v.oneCell' = true)
    (k : HL c ops Q rest ((d, int cs.length) :: fr) ((g, .cells (cur.toList.take off ++ cs ++ cur.toList.drop (off + cs.length)).toArray e (0, 0)) :: hp') L) :
    HL c ops Q (⟨some d, .call ⟨.builtin .copy, #[x, y], #[dT, sT]⟩, ty, pos, af, none⟩ :: rest) fr hp L :=
  iN rfl rfl hd fun a w ha hw => by
    have hw' := hw.perm hpp; have hg := hw'.own (g, .cells cur e (0, 0)) (by simp); simp only at hg; have hrun := run_copy_row (P := c.P) w dT sT ty e g off dLen dCap ad sLen sCap cur e cs ht hz hg hn (hs w hw') hfit h1; refine ⟨int cs.length, w.setRow g (cur.toList.take off ++ cs ++ cur.toList.drop (off + cs.length)).toArray, _, L, ?_, hw'.write (o' := .cells (cur.toList.take off ++ cs ++ cur.toList.drop (off + cs.length)).toArray e (0, 0)) ⟨rfl, rfl, rfl, by simp [World.setRow], fun k hk hn => setRow_other w g k _ (fun e => hn (by rw [e]; simp)), Nat.le_refl _⟩ (setRow_heap w g cur _ e (0, 0) hg), k⟩; simp only [execOp, resolve, invoke, builtin, Sem.run_bind, Sem.run_pure, Result.andThen_ok, List.map_toArray, List.map_cons, List.map_nil, ha.ev hx, ha.ev hy, hrun]
    rfl
theorem r_makeN {t e : TypeId} {x y : Operand} {n sz bytes : Nat} {m m' : Int} (el : ElT c.P t e sz bytes) (hd : Nat.blt d c.n = true) (hx : ev fr x = some (int m')) (hy : ev fr y = some (int m)) (hm' : m' = (n : Int)) (hm : m = (n : Int)) (hb : bytes * n ≤ 140737488355328) (hn : n ≤ 140737488355328)
    (k : ∀ g (cur : Array Value), cur.size = n * sz → HL c ops Q rest ((d, .slice (b8 g) n n) :: fr) ((g, .cells cur e (0, 0)) :: hp) L) : HL c ops Q (⟨some d, .makeSlice t x y, ty, pos, af, none⟩ :: rest) fr hp L := by
  obtain ⟨i, z, hi, hz, hsz, hby, hzs⟩ := el.i; refine kW (.cells (madeCells z.cells (n * i.size)) e (0, 0)) (fun g => .slice (b8 g) n n) rfl rfl hd (fun a w ha _ => ?_) (fun g => k g _ ?_)
  · subst hm
    subst hm'
    have hb' : (i.bytes : Int) * (n : Int) ≤ 281474976710656 := by
      have h : ((i.bytes * n : Nat) : Int) ≤ 281474976710656 := by rw [hby]; omega
      rwa [Int.natCast_mul] at h
    have hr := run_make (P := c.P) w t e i z el.u hi hz .i64 .i64 (n : Int) n (by omega) (by omega) hb' (by omega); simp only [Int.toNat_natCast] at hr; simp only [execOp, ha.ev hx, ha.ev hy, Sem.run_bind, hr, Result.andThen_ok, Sem.run_pure]
  rw [← hsz]
  simp [madeCells]
end
/-! ### Slices that grow from nothing, whose cells are written -/
section
def GrowE (e : TypeId) (sz : Nat) (A : Option Addr) (n cap : Nat) (xs : List Value) (og : Hp) : Prop := Grow e sz A n cap xs og ∨ (n = 0 ∧ cap = 0 ∧ xs = [] ∧ og = [])
theorem GrowE.grow {e : TypeId} {sz n cap : Nat} {A : Option Addr} {xs : List Value} {og : Hp} (h : GrowE e sz A n cap xs og) (hn : 0 < n) : Grow e sz A n cap xs og := by
  rcases h with h | ⟨h, _⟩
  · exact h
  omega
theorem GrowE.le {e : TypeId} {sz n cap : Nat} {A : Option Addr} {xs : List Value} {og : Hp} (h : GrowE e sz A n cap xs og) : n ≤ cap := by
  rcases h with h | ⟨h, h2, _⟩
  · exact h.le
  omega
variable {c : Cx} {Q : Exit → Act → World → Prop} {fr : Fr} {hp : Hp} {L : List Fact} {ops : Array Oper} {rest : List Oper}
variable {d : Tmp} {ty : TypeId} {pos : String} {af : Array Edge}
/-! ### Cells of rows that are written -/
theorem xE {α : Type} [El α] {v : Value} {a : α} {f : Nat} (hf : f < El.sz α) : ∀ {l : List α} {k : Nat}, k < l.length → El.cells a = (El.cells (l.getD k default)).set f v → (rows l).set (k * El.sz α + f) v = rows (l.set k a)
  | [], k, hk, _ => by simp at hk
  | b :: l, 0, _, hc => by
    show (El.cells b ++ rows l).set _ v = El.cells a ++ rows l; rw [Nat.zero_mul, Nat.zero_add, List.set_append_left _ _ (by rw [El.len]; exact hf), hc]
    rfl
  | b :: l, k + 1, hk, hc => by
    have ih := xE hf (l := l) (k := k) (by simpa using hk) (by simpa using hc); show (El.cells b ++ rows l).set _ v = El.cells b ++ rows (l.set k a); rw [List.set_append_right _ _ (by rw [El.len, Nat.add_mul]; omega), El.len, ← ih]
    congr 2
    rw [Nat.add_mul]; omega
end
section
variable {c : Cx} {Q : Exit → Act → World → Prop} {fr : Fr} {hp : Hp} {L : List Fact} {ops : Array Oper} {rest : List Oper} {ty : TypeId} {pos : String} {af : Array Edge}
theorem aj0 {t : TypeId} {x y : Operand} {g o : Nat} {old cs : Array Value} {e : TypeId} {hp' : Hp} (hx : ev fr x = some (.pointer (some ⟨g, o, none⟩))) (hy : ev fr y = some (.agg cs)) (hpp : hp.Perm ((g, .cells old e (0, 0)) :: hp'))
    (hz : Sz c.P t cs.size) (ho : o + cs.size ≤ old.size) (h1 : cs.toList.all (·.oneCell') = true)
    (k : HL c ops Q rest fr ((g, .cells (old.toList.take o ++ cs.toList ++ old.toList.drop (o + cs.size)).toArray e (0, 0)) :: hp') L) : HL c ops Q (⟨none, .store t x y, ty, pos, af, none⟩ :: rest) fr hp L :=
  tW rfl rfl fun a w ha hw => by
    have hw' := hw.perm hpp; have hg := hw'.own (g, .cells old e (0, 0)) (by simp); simp only at hg; have hst := run_storeCells_at (P := c.P) g o e cs.toList 0 old w hg (by simpa using ho) (fun v hv => List.all_eq_true.1 h1 v hv); simp only [Nat.add_zero, Array.length_toList] at hst
    have hrun : (storeVar t ⟨g, o, none⟩ (.agg cs)).run c.P w = .ok () (w.setRow g (old.toList.take o ++ cs.toList ++ old.toList.drop (o + cs.size)).toArray) := by
      unfold Sz at hz
      cases hq : c.P.info? t with
      | none => simp [hq] at hz
      | some i =>
        have hs : cs.size = i.size := by simp [hq] at hz; omega
        simp [storeVar, sizeOf, typeInfo, hq, Value.cells, hs, hst]
    refine ⟨w.setRow g (old.toList.take o ++ cs.toList ++ old.toList.drop (o + cs.size)).toArray, _, L, ?_, hw'.write (pG _) (setRow_heap w g old _ e (0, 0) hg), k⟩; simp only [execOp, ha.ev hx, ha.ev hy, Instr.storeAt, Instr.sureAddr, Sem.run_bind, Sem.run_pure, Result.andThen_ok, hrun]
end
end Go.W
end
section
namespace Go.Proofs.YtfhninnleacgiaaGreat
open Go Go.W
set_option maxRecDepth 20000
attribute [local irreducible] HL HC HQ HB Row Rows2 Blk Facts
abbrev OutD := (OutC × Hp) × List Hd × (OutC × Hp)
structure DupOK (cs : List Cl) (hs : List Hd) (x : OutD) : Prop where
  a : GrowE T.r5 2 x.1.1.1 cs.length x.1.1.2 (rows cs) x.1.2
  b : GrowE T.i8 4 x.2.2.1.1 x.2.1.length x.2.2.1.2 (rows x.2.1) x.2.2.2
  p : x.2.1.map Hd.p = hs.map Hd.p
theorem p_len {hs hs2 : List Hd} (hp : hs2.map Hd.p = hs.map Hd.p) : hs2.length = hs.length := by
  have := congrArg List.length hp
  simpa using this
theorem p_at {hs hs2 : List Hd} (hp : hs2.map Hd.p = hs.map Hd.p) {k : Nat} (hk : k < hs2.length) : (hs2.getD k default).p = (hs.getD k default).p := by
  have h1 := p_len hp; have h2 : (hs2.map Hd.p)[k]? = (hs.map Hd.p)[k]? := by rw [hp]
  rw [List.getElem?_map, List.getElem?_map, List.getElem?_eq_getElem hk, List.getElem?_eq_getElem (show k < hs.length by omega)] at h2; rw [u9 hk, u9 (show k < hs.length by omega)]
  simpa using h2
end Go.Proofs.YtfhninnleacgiaaGreat
end
section
namespace Go.W
open Go Go.RowKit
def byteV (s : Str) : List Value := s.map fun b => Value.int .u8 b.toNat
theorem zM (s t : Str) : byteV (s ++ t) = byteV s ++ byteV t := List.map_append
theorem qE (s : Str) : Lib.strCells ⟨s.toArray⟩ = byteV s := by simp [Lib.strCells, byteV]
section
variable {L : List Fact} {hp : Hp}
theorem gz9 {b : Bx} {w w' : World} {g' : Nat} {o : Obj} (hpw : WI b w hp L) (h1 : w'.os = w.os) (h2 : w'.tape = w.tape) (h3 : w'.output = w.output) (h4 : w.heap.size ≤ w'.heap.size) (h5 : w.drawn ≤ w'.drawn) (hge : w.heap.size ≤ g') (hg' : w'.heap[g']? = some o)
    (hkeep : ∀ k, k < w.heap.size → (∃ p ∈ hp, p.1 = k) ∨ (∃ F ∈ L, F.fp k) ∨ (k < b.w0.heap.size ∧ k ∉ b.S0) → w'.heap[k]? = w.heap[k]?) : WI b w' ((g', o) :: hp) L := by
  have hne : ∀ p ∈ hp, p.1 ≠ g' := fun p hp e => by have := D6 (hpw.own p hp); omega
  refine { ext := ⟨h1.trans hpw.ext.os, h2.trans hpw.ext.tape, h3.trans hpw.ext.output, Nat.le_trans hpw.ext.size h4, fun k hk hn => ?_, Nat.le_trans hpw.ext.dr h5⟩, own := ?_, nd := ?_, s0 := ?_, fs := ?_, ap := ?_, al := hpw.al }
  · exact (hkeep k (Nat.lt_of_lt_of_le hk hpw.ext.size) (.inr (.inr ⟨hk, hn⟩))).trans (hpw.ext.block k hk hn)
  · intro p hp
    rcases List.mem_cons.1 hp with rfl | hp
    · exact hg'
    exact (hkeep p.1 (D6 (hpw.own p hp)) (.inl ⟨p, hp, rfl⟩)).trans (hpw.own p hp)
  · simp only [List.map_cons, List.nodup_cons]
    exact ⟨fun hm => by obtain ⟨p, hp, e⟩ := List.mem_map.1 hm; exact hne p hp e, hpw.nd⟩
  · intro p hp
    rcases List.mem_cons.1 hp with rfl | hp
    · right
      show b.w0.heap.size ≤ g'; exact Nat.le_trans hpw.ext.size hge
    exact hpw.s0 p hp
  · intro F hF
    exact F.st w w' (fun k hk => hkeep k (F.lt w (hpw.fs F hF) k hk) (.inr (.inl ⟨F, hF, hk⟩))) (hpw.fs F hF)
  intro F hF p hp hk
  rcases List.mem_cons.1 hp with rfl | hp
  · have := F.lt w (hpw.fs F hF) _ hk
    simp only at this
    omega
  exact hpw.ap F hF p hp hk
structure ElS (P : Program) (t u e : TypeId) : Prop where
  tu : P.underlying t = some (.slice e)
  ts : P.underlying u = some .string
  ti : ∃ i, P.info? e = some i ∧ i.zero = some (.int .u8 0) ∧ i.size = 1 ∧ i.bytes = 1
theorem ElS.of {P : Program} {t u e : TypeId} (h : P.underlying t = some (.slice e)) (hs : P.underlying u = some .string) (hi : (P.info? e).map (fun i => (i.zero, i.size, i.bytes)) = some (some (.int .u8 0), 1, 1)) : ElS P t u e := by
  obtain ⟨i, h1, h2, h3, h4⟩ := info_parts hi; exact ⟨h, hs, ⟨i, h1, h2, h3, h4⟩⟩
theorem tQ {b : Bx} {P : Program} {w : World} {t u e : TypeId} {n cap : Nat} {A : Option Addr} {xs : List Value} {og : Hp} (el : ElS P t u e) (hG : Grow e 1 A n cap xs og) (hw : WI b w (og ++ hp) L) (s : Str)
    (hn : n + s.length ≤ maxLen) (hby : n + s.length ≤ 140737488355328) (ty : TypeId) :
    ∃ A' cap' og' w', (Builtin.append_ #[t, u] ty #[.slice A n cap, str s]).run P w = .ok (.slice A' (n + s.length) cap') w' ∧ Grow e 1 A' (n + s.length) cap' (xs ++ byteV s) og' ∧ WI b w' (og' ++ hp) L := by
  obtain ⟨i, hi, hz, hsz, hb⟩ := el.ti; have hsize : (ByteArray.mk s.toArray).size = s.length := rfl; have hxl : xs.length = n := by simpa using hG.1
  rcases hG with ⟨hl, ⟨rfl, rfl, rfl, rfl⟩ | ⟨g, cur, rfl, rfl, q1, q2, q3, q4⟩⟩
  · -- onto nil
    obtain ⟨v', w', hrun, hown, h3, _⟩ := Lib.run_append_own_string (P := P) w w.heap.size t u ty e i el.tu el.ts hi hz hsz hb (.slice none 0 0) 0 xs ⟨hl, .inl ⟨rfl, rfl⟩⟩ ⟨s.toArray⟩ hn hby (Nat.le_refl _); rw [hsize, qE] at hown; obtain ⟨hl', ⟨rfl, h0⟩ | ⟨g', cap', cur', rfl, hge, hg', hle, hcm, hcs, htk⟩⟩ := hown
    · refine ⟨none, 0, [], w', ?_, ⟨hl', .inl ⟨rfl, h0, rfl, rfl⟩⟩, hw.quiet ⟨h3.os, h3.tape, h3.output, h3.size, fun k hk _ => h3.block k hk (by simp [Value.ownBlock]), W7 _ _ _ _ hrun⟩⟩
      rw [h0]; exact hrun
    exact ⟨some ⟨g', 0, none⟩, cap', [(g', .cells cur' e (0, 0))], w', hrun, ⟨hl', .inr ⟨g', cur', rfl, rfl, hle, hcm, hcs, htk⟩⟩, gz9 (by simpa using hw) h3.os h3.tape h3.output h3.size (W7 _ _ _ _ hrun) hge hg' fun k hk _ => h3.block k hk (by simp [Value.ownBlock])⟩
  have hw' : WI b w ((g, .cells cur e (0, 0)) :: hp) L := by simpa using hw
  have hgw : w.heap[g]? = some (.cells cur e (0, 0)) := hw'.own (g, .cells cur e (0, 0)) (by simp); obtain ⟨v', w', hrun, hown, h3, _⟩ := Lib.run_append_own_string (P := P) w 0 t u ty e i el.tu el.ts hi hz hsz hb (.slice (b8 g) n cap) n xs ⟨hl, .inr ⟨g, cap, cur, rfl, Nat.zero_le _, hgw, q1, q2, q3, q4⟩⟩ ⟨s.toArray⟩ hn hby (Nat.zero_le _); rw [hsize, qE] at hown
  by_cases hr : n + s.length ≤ cap
  · have hx := hrun.symm.trans (Lib.run_append_room_string (P := P) w t u ty e i el.tu el.ts hi hsz g n cap cur hgw ⟨s.toArray⟩ hr (by rw [hsize, q3]; omega))
    obtain ⟨rfl, rfl⟩ : v' = _ ∧ w' = _ := by injection hx with e1 e2; exact ⟨e1, e2⟩
    obtain ⟨hl', ⟨h0, _⟩ | ⟨g', cap', cur', e1, _, hg', hle, hcm, hcs, htk⟩⟩ := hown
    · cases h0
    have e2 : g = g' := by injection e1 with e1; injection e1 with e1; injection e1
    have e3 : cap = cap' := by injection e1
    subst e2; subst e3; exact ⟨some ⟨g, 0, none⟩, cap, [(g, .cells cur' e (0, 0))], _, hrun, ⟨hl', .inr ⟨g, cur', rfl, rfl, hle, hcm, hcs, htk⟩⟩, hw'.write (o' := .cells cur' e (0, 0)) ⟨h3.os, h3.tape, h3.output, h3.size, fun k hk hn => h3.block k hk (by simp [Value.ownBlock]; simpa using hn), W7 _ _ _ _ hrun⟩ hg'⟩
  have holds : ∀ j v, xs[j]? = some v → w.cell? ((⟨g, 0, none⟩ : Addr).add j) = some v := by
    have ho : w.ownsRow 0 e 1 (.slice (b8 g) n cap) n xs := ⟨hl, .inr ⟨g, cap, cur, rfl, Nat.zero_le _, hgw, q1, q2, q3, q4⟩⟩; exact ho.cells (g := g) rfl
  have hm : maxLen ≤ 9223372036854775807 := by unfold maxLen; omega
  have hx := hrun.symm.trans (Lib.run_append_grow_string (P := P) w t u ty e i (.int .u8 0) el.tu el.ts hi hz ⟨g, 0, none⟩ n cap xs (by rw [hsz]; simpa using hxl) holds ⟨s.toArray⟩ (by rw [hsize]; omega) (by rw [hsize]; omega) (by rw [hb, hsize]; exact growslice_fits (by omega) (by omega))); have e0 : v' = .slice (some ⟨w.heap.size, 0, none⟩) (n + s.length) (grownCap w (n + s.length) cap e) := by injection hx
  obtain ⟨hl', ⟨h0, _⟩ | ⟨g', cap', cur', e1, _, hg', hle, hcm, hcs, htk⟩⟩ := hown
  · rw [h0] at e0; cases e0
  have e2 : g' = w.heap.size := by
    have e3 := e1.symm.trans e0
    injection e3 with e3
    injection e3 with e3
    injection e3
  subst e1; refine ⟨some ⟨g', 0, none⟩, cap', [(g', .cells cur' e (0, 0))], w', hrun, ⟨hl', .inr ⟨g', cur', rfl, rfl, hle, hcm, hcs, htk⟩⟩, gz9 (hw'.weak (List.sublist_cons_self _ _) fun _ h => h) h3.os h3.tape h3.output h3.size (W7 _ _ _ _ hrun) (by omega) hg' fun k hk hor => h3.block k hk ?_⟩; simp only [Value.ownBlock, ne_eq, Option.some.injEq]; rintro rfl
  rcases hor with ⟨p, hp, e⟩ | ⟨F, hF, hk⟩ | ⟨hk1, hk2⟩
  · have := hw'.nd
    simp only [List.map_cons, List.nodup_cons] at this; exact this.1 (List.mem_map.2 ⟨p, hp, e⟩)
  · exact hw'.ap F hF (k, .cells cur e (0, 0)) (by simp) hk
  rcases hw'.s0 (k, .cells cur e (0, 0)) (by simp) with h6 | h6
  · exact hk2 h6
  simp only at h6; omega
end
section
variable {c : Cx} {Q : Exit → Act → World → Prop} {fr : Fr} {hp : Hp} {L : List Fact} {ops : Array Oper} {rest : List Oper}
variable {d : Tmp} {ty : TypeId} {pos : String} {af : Array Edge}
theorem yT {t u e : TypeId} {x y : Operand} {n cap : Nat} {A : Option Addr} {xs : List Value} {s : Str} {og hp' : Hp} (n' : Nat) (xs' : List Value) (el : ElS c.P t u e) (hd : Nat.blt d c.n = true)
    (hx : ev fr x = some (.slice A n cap)) (hy : ev fr y = some (str s)) (hG : Grow e 1 A n cap xs og) (hpp : hp.Perm (og ++ hp')) (hn' : n + s.length = n') (hxs : xs ++ byteV s = xs') (hn : n' ≤ 140737488355328)
    (k : ∀ A' cap' og', Grow e 1 A' n' cap' xs' og' → HL c ops Q rest ((d, .slice A' n' cap') :: fr) (og' ++ hp') L) :
    HL c ops Q (⟨some d, .call ⟨.builtin .append, #[x, y], #[t, u]⟩, ty, pos, af, none⟩ :: rest) fr hp L :=
  iN rfl rfl hd fun a w ha hw => by
    subst hn'; subst hxs; obtain ⟨A', cap', og', w', hrun, hG', hw'⟩ := tQ el hG (hw.perm hpp) s (by unfold maxLen; omega) hn ty; refine ⟨_, w', _, L, ?_, hw', k A' cap' og' hG'⟩; simp only [execOp, resolve, invoke, builtin, Sem.run_bind, Sem.run_pure, Result.andThen_ok, List.map_toArray, List.map_cons, List.map_nil, ha.ev hx, ha.ev hy, hrun]
theorem bj9 {s t te e : TypeId} {x : Operand} {g : Nat} {cs : Array Value} {fz : Nat × Nat} (hd : Nat.blt d c.n = true) (hs : c.P.underlying s = some (.pointer te)) (ht : c.P.underlying t = some .unsafePointer) (hi : (c.P.info? te).map (·.size) = some cs.size) (h0 : 0 < cs.size)
    (hx : ev fr x = some (.pointer (b8 g))) (hm : (g, Obj.cells cs e fz) ∈ hp) (k : HL c ops Q rest ((d, .pointer (b8 g)) :: fr) hp L) : HL c ops Q (⟨some d, .convert s t x, ty, pos, af, none⟩ :: rest) fr hp L :=
  u5 _ rfl rfl hd (fun a w ha hw => by
    obtain ⟨j, hj, hjs⟩ := Option.map_eq_some_iff.1 hi; have hg : w.heap[g]? = some (.cells cs e fz) := hw.own _ hm; have hrun := Lib.run_to_unsafe w ⟨g, 0, none⟩ hs ht hj (by omega) (e := e) (cells := cs.size) (by simp [World.shape?, hg]) h0
    simp only [execOp, ha.ev hx, Sem.run_bind, hrun, Result.andThen_ok, Sem.run_pure]) k
theorem yS {s t te e : TypeId} {x : Operand} {g : Nat} {cs : Array Value} {fz : Nat × Nat} (hd : Nat.blt d c.n = true) (hs : c.P.underlying s = some .unsafePointer) (ht : c.P.underlying t = some (.pointer te)) (hi : (c.P.info? te).map (·.size) = some cs.size) (hl : liesAt c.P c.P.depth e (cs.size / c.P.cellsOf e) 0 te 1 = true)
    (hx : ev fr x = some (.pointer (b8 g))) (hm : (g, Obj.cells cs e fz) ∈ hp) (k : HL c ops Q rest ((d, .pointer (b8 g)) :: fr) hp L) : HL c ops Q (⟨some d, .convert s t x, ty, pos, af, none⟩ :: rest) fr hp L :=
  u5 _ rfl rfl hd (fun a w ha hw => by
    obtain ⟨j, hj, hjs⟩ := Option.map_eq_some_iff.1 hi; have hg : w.heap[g]? = some (.cells cs e fz) := hw.own _ hm; have hrun := Lib.run_from_unsafe w ⟨g, 0, none⟩ hs ht hj (e := e) (cells := cs.size) (by simp [World.shape?, hg]) hl
    simp only [execOp, ha.ev hx, Sem.run_bind, hrun, Result.andThen_ok, Sem.run_pure]) k
theorem aj3 {t te yt : TypeId} {x y : Operand} {p : Addr} (hd : Nat.blt d c.n = true) (ht : c.P.underlying t = some (.pointer te)) (hi : (c.P.info? te).isSome = true) (hx : ev fr x = some (.pointer (some p))) (hy : ev fr y = some (.pointer (some p)))
    (k : HL c ops Q rest ((d, .bool false) :: fr) hp L) : HL c ops Q (⟨some d, .binOp .neq t x y yt, ty, pos, af, none⟩ :: rest) fr hp L :=
  u5 _ rfl rfl hd (fun a' w ha _ => by
    obtain ⟨j, hj⟩ := Option.isSome_iff_exists.1 hi
    exact K2 (ha.ev hx) (ha.ev hy) rfl (Lib.run_neq_ptr_same w p ht hj)) k
theorem bz7 {P : Program} {w : World} {tp te : TypeId} {p : Option Addr} (hp : P.underlying tp = some (.pointer te)) : (binOp .eql tp (.pointer p) (.pointer none)).run P w = .ok (.bool (p == none)) w := by
  have h : ∀ d : Nat, (Op.equalIn (d + 1) tp (.pointer p) (.pointer none)).run P w = .ok (p == none) w := fun d => by
    cases p <;> simp [Op.equalIn, run_underlying hp]
  simp only [binOp]
  simp [Op.equal, Op.maxDepth, h 9999]
theorem xJ {t te yt : TypeId} {x y : Operand} {p : Option Addr} (hd : Nat.blt d c.n = true) (ht : c.P.underlying t = some (.pointer te)) (hx : ev fr x = some (.pointer p)) (hy : ev fr y = some (.pointer none))
    (k : HL c ops Q rest ((d, .bool (p == none)) :: fr) hp L) : HL c ops Q (⟨some d, .binOp .eql t x y yt, ty, pos, af, none⟩ :: rest) fr hp L :=
  u5 _ rfl rfl hd (fun a' w ha _ => K2 (ha.ev hx) (ha.ev hy) rfl (bz7 ht)) k
theorem aj1 {t pt : TypeId} {x : Operand} {A : Addr} {n cap : Nat} (hd : Nat.blt d c.n = true) (hx : ev fr x = some (.slice (some A) n cap)) (hc : cap ≠ 0) (k : HL c ops Q rest ((d, .pointer (some A)) :: fr) hp L) :
    HL c ops Q (⟨some d, .call ⟨.builtin .unsafeSliceData, #[x], #[t]⟩, ty, pos, af, none⟩ :: rest) fr hp L :=
  u5 _ rfl rfl hd (fun a w ha hw => by
    simp only [execOp, resolve, invoke, builtin, Sem.run_bind, Sem.run_pure, Result.andThen_ok, List.map_toArray, List.map_cons, List.map_nil, ha.ev hx, Lib.run_unsafeSliceData_row _ _ _ _ _ _ hc]) k
theorem uR {pt it e : TypeId} {x y : Operand} {g cap : Nat} {s : Str} {og hp' : Hp} (hd : Nat.blt d c.n = true) (hp0 : c.P.underlying pt = some (.pointer e)) (hc : c.P.cellsOf e = 1) (h0 : s ≠ [])
    (hx : ev fr x = some (.pointer (b8 g))) (hy : ev fr y = some (int s.length)) (hG : Grow e 1 (b8 g) s.length cap (byteV s) og) (hpp : hp.Perm (og ++ hp'))
    (k : HL c ops Q rest ((d, str s) :: fr) hp' L) : HL c ops Q (⟨some d, .call ⟨.builtin .unsafeString, #[x, y], #[pt, it]⟩, ty, pos, af, none⟩ :: rest) fr hp L :=
  iN rfl rfl hd fun a w ha hw => by
    have hw1 := hw.perm hpp
    rcases hG with ⟨hl, ⟨h, _⟩ | ⟨g', cur, e1, rfl, q1, q2, q3, q4⟩⟩
    · cases h
    obtain rfl : g = g' := by injection e1 with e1; injection e1
    have hw2 : WI c.b w ((g, .cells cur e (0, 0)) :: hp') L := by simpa using hw1
    have hg : w.heap[g]? = some (.cells cur e (0, 0)) := hw2.own (g, .cells cur e (0, 0)) (by simp); have ho : w.ownsRow 0 e 1 (.slice (b8 g) s.length cap) s.length (byteV s) := ⟨hl, .inr ⟨g, cap, cur, rfl, Nat.zero_le _, hg, q1, q2, q3, q4⟩⟩; have hm : maxLen ≤ 9223372036854775807 := by unfold maxLen; omega
    have hrun := Lib.run_unsafeString_row (P := c.P) w pt it ty e hp0 hc g cur.size (by simp [World.shape?, hg]) s h0 (by omega) (by omega) (fun j x hx => ho.cells (g := g) rfl j (.int .u8 x.toNat) (by simp [byteV, hx])); refine ⟨str s, w.freeze ⟨g, 0, none⟩ s.length, hp', L, ?_, ?_, k⟩
    · simp only [execOp, resolve, invoke, builtin, Sem.run_bind, Sem.run_pure, Result.andThen_ok, List.map_toArray, List.map_cons, List.map_nil, ha.ev hx, ha.ev hy]
      exact congrArg (fun r => Result.andThen r _) hrun
    have hl0 : s.length ≠ 0 := by simpa using h0
    have hget : ∀ k, (w.freeze ⟨g, 0, none⟩ s.length).heap[k]? = if g = k then some (.cells cur e (0, s.length)) else w.heap[k]? := fun k => by
      unfold World.freeze; rw [if_neg hl0]; simp only [Array.getElem?_modify]
      split
      · rename_i e1
        subst e1
        simp [hg]
      rfl
    have hsame : (w.freeze ⟨g, 0, none⟩ s.length).os = w.os ∧ (w.freeze ⟨g, 0, none⟩ s.length).tape = w.tape ∧ (w.freeze ⟨g, 0, none⟩ s.length).output = w.output ∧ w.heap.size ≤ (w.freeze ⟨g, 0, none⟩ s.length).heap.size ∧ w.drawn ≤ (w.freeze ⟨g, 0, none⟩ s.length).drawn := by
      unfold World.freeze; rw [if_neg hl0]; exact ⟨rfl, rfl, rfl, by simp, Nat.le_refl _⟩
    exact (hw2.write (o' := .cells cur e (0, s.length)) ⟨hsame.1, hsame.2.1, hsame.2.2.1, hsame.2.2.2.1, fun k hk hn => by rw [hget, if_neg (fun e => hn (by simp [e]))], hsame.2.2.2.2⟩ (by rw [hget, if_pos rfl])).weak (List.sublist_cons_self _ _) fun _ h => h
end
end Go.W
end
section
namespace Go.Proofs.YtfhninnleacgiaaGreat
open Go Go.W
set_option maxRecDepth 20000
attribute [local irreducible] HL HC HQ HB Row Rows2 Blk Facts
theorem el_str : ElS Tryz.prog T.tY T.string T.u8 := ElS.of Tryz.underlying133 T.I9 (by kernel_rfl)
abbrev bldO (g : Nat) (P : Option Addr) (A : Option Addr) (n cap : Nat) : Nat × Obj := (g, Obj.cells #[.pointer P, .slice A n cap] T.sZ (0, 0))
theorem yX (v : Value) (w : World) : (callFunc 111 [v].toArray).run Tryz.prog w = .ok (.value v) w := by
  show (callFunc 111 #[v]).run Tryz.prog w = _; rw [run_callFunc_extern Tryz.func111 (by kernel_rfl) (by kernel_rfl) (by kernel_rfl) (e := Extern.AbiNoEscape.same) (by kernel_rfl)]
  rfl
theorem sG (g : Nat) (A : Option Addr) (n cap : Nat) : Meets Tryz.prog F.B5 [.pointer (b8 g)] { hpI := [bldO g none A n cap], hpO := fun _ => [bldO g (b8 g) A n cap], val := fun _ : Unit => .tuple #[] } := by
 refine i7 F.L5 rfl p7 fun w0 => ?_; refine i4 (a8 rfl (l9 rfl rfl ?_)); refine a7 ⟨g, 0, none⟩ rfl rfl T.I5 rfl (a6 (v := .pointer none) rfl T.K3 rfl (h9 m0 rfl) (xJ rfl Tryz.underlying132 rfl rfl ?_)); refine d9 ?_; refine c_t rfl (by first | rfl | assumption | exact bt1 (by assumption) | exact bt2 (by assumption)) ?_; refine b9 (a8 rfl (a8 rfl ?_)); refine bj9 (cs := #[.pointer none, .slice A n cap]) rfl Tryz.underlying132 Tryz.underlying180 (by kernel_rfl) (show 0 < 2 by decide) rfl m0 (xR rfl rfl (yX _) (yS (cs := #[.pointer none, .slice A n cap]) rfl Tryz.underlying180 Tryz.underlying132 (by kernel_rfl) (by kernel_rfl) rfl m0 (l9 rfl rfl (a7 ⟨g, 0, none⟩ rfl rfl T.I5 rfl (z9 rfl rfl (.refl _) T.kF (by rfl) (by rfl) ?_))))); refine b3 ?_; exact ret0n () rfl rfl rfl trivial (.refl _) trivial
theorem sF (g : Nat) (A : Option Addr) (n cap : Nat) : Meets Tryz.prog F.B5 [.pointer (b8 g)] { hpI := [bldO g (b8 g) A n cap], hpO := fun _ => [bldO g (b8 g) A n cap], val := fun _ : Unit => .tuple #[] } := by
 refine i7 F.L5 rfl p7 fun w0 => ?_; refine i4 (a8 rfl (l9 rfl rfl ?_)); refine a7 ⟨g, 0, none⟩ rfl rfl T.I5 rfl (a6 (v := .pointer (b8 g)) rfl T.K3 rfl (h9 m0 rfl) (xJ rfl Tryz.underlying132 rfl rfl ?_)); refine d9 ?_; refine c_f rfl (by first | rfl | assumption | exact bf1 (by assumption) | exact bf2 (by assumption)) ?_; refine i4 (a8 rfl (l9 rfl rfl ?_)); refine a7 ⟨g, 0, none⟩ rfl rfl T.I5 rfl (a6 (v := .pointer (b8 g)) rfl T.K3 rfl (h9 m0 rfl) (a8 rfl (aj3 rfl Tryz.underlying132 (by kernel_rfl) rfl rfl ?_))); refine d9 ?_; refine c_f rfl (by first | rfl | assumption | exact bf1 (by assumption) | exact bf2 (by assumption)) ?_; refine j3 ?_; exact ret0n () rfl rfl rfl trivial (.refl _) trivial
theorem tH (g : Nat) (P A : Option Addr) (n cap : Nat) (h : P = none ∨ P = some ⟨g, 0, none⟩) : Meets Tryz.prog F.B5 [.pointer (b8 g)] { hpI := [bldO g P A n cap], hpO := fun _ => [bldO g (b8 g) A n cap], val := fun _ : Unit => .tuple #[] } := by
  rcases h with rfl | rfl
  · exact sG g A n cap
  exact sF g A n cap
structure Bld (g : Nat) (s : Str) (P A : Option Addr) (cap : Nat) (og : Hp) : Prop where
  p : P = none ∨ P = some ⟨g, 0, none⟩
  g : Grow T.u8 1 A s.length cap (byteV s) og
theorem Bld.new (g : Nat) : Bld g [] none none 0 [] := ⟨.inl rfl, Grow.nil _ _⟩
abbrev BSt := Option Addr × Nat × Hp
abbrev bldH (g : Nat) (s : Str) (P : Option Addr) (x : BSt) : Hp := bldO g P x.1 s.length x.2.1 :: x.2.2
theorem w9 (g : Nat) (s t : Str) (P : Option Addr) (x : BSt) (hb : Bld g s P x.1 x.2.1 x.2.2) (hl : s.length + t.length ≤ 140737488355328) : Meets Tryz.prog F.G3 [.pointer (b8 g), str t] { hpI := bldH g s P x, inv := fun y : BSt => Bld g (s ++ t) (b8 g) y.1 y.2.1 y.2.2, hpO := fun y => bldH g (s ++ t) (b8 g) y, val := fun _ => .tuple #[int t.length, .nilIface] } := by
 obtain ⟨A, cap, og⟩ := x; obtain ⟨hP, hG⟩ := hb; simp only at hG; refine i7 F.Y4 rfl p7 fun w0 => ?_; refine i4 (b7 rfl (b7 rfl (j8 (a8 rfl ?_)))); refine d5 F.Z9 rfl rfl (tH g P A s.length cap hP) j5 trivial fun _ _ => ?_; refine j8 (a8 rfl (a8 rfl (l9 rfl rfl ?_))); refine a7 ⟨g, 1, none⟩ rfl rfl T.I4 rfl (a6 (v := .slice A s.length cap) rfl T.iQ rfl (h9 m0 rfl) (a8 rfl ?_)); refine yT (hp' := [bldO g (b8 g) A s.length cap]) (s ++ t).length (byteV (s ++ t)) el_str rfl rfl rfl hG (List.perm_append_comm (l₁ := [_])) List.length_append.symm (zM _ _).symm (by rw [List.length_append]; exact hl) fun A2 c2 o2 hG2 => ?_; refine l9 rfl rfl (a7 ⟨g, 1, none⟩ rfl rfl T.I4 rfl (z9 (hp' := o2) rfl rfl (List.perm_append_comm (l₂ := [_])) T.bj3 (by rfl) (by rfl) ?_)); refine j8 (a8 rfl ?_); refine aU rfl T.I9 rfl ?_; refine b7 rfl (b7 rfl (d9 (k5 ?_))); exact ret2 (A2, c2, o2) rfl rfl rfl rfl rfl ⟨.inr rfl, hG2⟩ (.refl _) trivial
theorem zO (g : Nat) (s : Str) (P : Option Addr) (x : BSt) (hb : Bld g s P x.1 x.2.1 x.2.2) (h0 : s ≠ []) : Meets Tryz.prog F.K1 [.pointer (b8 g)] { hpI := bldH g s P x, val := fun _ : Unit => str s } := by
 obtain ⟨A, cap, og⟩ := x; obtain ⟨hP, hG⟩ := hb; simp only at hG; have hle := hG.le; have hs0 : s.length ≠ 0 := by simpa using h0
 obtain ⟨gb, rfl⟩ : ∃ gb : Nat, A = some ⟨gb, 0, none⟩ := by
   rcases hG.2 with ⟨_, h, _⟩ | ⟨gb, _, h, _⟩
   · exact absurd h hs0
   exact ⟨gb, h⟩
 refine i7 F.cX rfl p7 fun w0 => ?_; refine i4 (b7 rfl (d9 (i1 (D9 ?_)))); refine C8 10 mixed (by decide) (by decide) rfl rfl (l3 (fun w1 => a8 rfl (q_z rfl)) (l3 (fun w1 => l9 rfl rfl (q_z rfl)) (l3 (fun w1 => a7 ⟨g, 1, none⟩ rfl rfl T.I4 rfl (q_z rfl)) (l3 (fun w1 => a6 (v := .slice (b8 gb) s.length cap) rfl T.iQ rfl (d8 (List.mem_append_right _ List.mem_cons_self) rfl) (q_z rfl)) (l3 (fun w1 => aj1 (pt := T.P_uint8) rfl rfl (by omega) (q_z rfl)) (l3 (fun w1 => a8 rfl (q_z rfl)) (l3 (fun w1 => l9 rfl rfl (q_z rfl)) ?_))))))); refine l3 (fun w1 => a7 ⟨g, 1, none⟩ rfl rfl T.I4 rfl (q_z rfl)) (l3 (fun w1 => a6 (v := .slice (b8 gb) s.length cap) rfl T.iQ rfl (d8 (List.mem_append_right _ List.mem_cons_self) rfl) (q_z rfl)) (l3 (fun w1 => k4 rfl T.dq0 rfl (q_z rfl)) ?_)); refine w5 ⟨rfl, ?_⟩; refine uR (hp' := []) rfl Tryz.underlying155 (by kernel_rfl) h0 rfl rfl hG (by show List.Perm ([] ++ og) (og ++ []); rw [List.append_nil, List.nil_append]) ?_; refine b7 rfl (d9 (k5 ?_)); exact ret1 () rfl rfl rfl trivial nil_sb trivial
end Go.Proofs.YtfhninnleacgiaaGreat
end
