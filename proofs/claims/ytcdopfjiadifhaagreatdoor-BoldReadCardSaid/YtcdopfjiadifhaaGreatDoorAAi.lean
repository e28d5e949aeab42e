/- Texts of this claim, one behind another. -/
import Derived.Conc.LoneCalls
import Derived.Laws.CopyRow
import Derived.Laws.Tables
import Derived.Conc.TokenWalk
import Derived.Test.YtcdopfjiadifhaaGreatDoorAAh
import Derived.Test.YtcdopfjiadifhaaGreatDoorAAa
set_option linter.unusedVariables false
set_option linter.unusedSimpArgs false
section
namespace Go.Proofs.YtcdopfjiadifhaaGreatDoor
open Go Go.W
set_option maxRecDepth 20000
attribute [local irreducible] HL HC HQ HB Row Rows2 Blk Facts
abbrev trB (g : Nat) (A : Option Addr) (n c : Nat) (B : Option Addr) (m k : Nat) : Nat × Obj := (g, .cells #[.slice A n c, .slice B m k] T.C2 (0, 0))
abbrev hdB (g : Nat) (w : Str) (cl se : Int) (A : Option Addr) (n c : Nat) : Nat × Obj := (g, .cells #[str w, int cl, int se, .slice A n c] T.yR (0, 0))
abbrev TRes := List Cl × List Hd × OutC × OutC
structure TOf (m1 m2 : Nat) (x : TRes) : Prop where
  ok : checkT (trOf x.1 x.2.1) = 0
  c1 : 1 ≤ x.1.length
  c2 : x.1.length ≤ m1
  h2 : x.2.1.length ≤ m2
  ca : x.1.length ≤ x.2.2.1.2
  cb : x.2.1.length ≤ x.2.2.2.2
  ha : ∀ h ∈ x.2.1, h.2.2.2.l.length ≤ 1000000
end Go.Proofs.YtcdopfjiadifhaaGreatDoor
end
section
namespace Go.Proofs.YtcdopfjiadifhaaGreatDoor
open Go Go.W
set_option maxRecDepth 20000
attribute [local irreducible] HL HC HQ HB Row Rows2 Blk Facts
theorem dok0 (nums : List Int) : DOK nums (0, 11400714819323198485) := ⟨by decide, by show (0 : Int) ≤ nums.length; omega, by decide, by decide⟩
end Go.Proofs.YtcdopfjiadifhaaGreatDoor
end
section
namespace Go.Proofs.YtcdopfjiadifhaaGreatDoor
open Go Go.W
set_option maxRecDepth 20000
attribute [local irreducible] HL HC HQ HB Row Rows2 Blk Facts
theorem ask_one {t : Tr} {h : Int} (h0 : checkT t = 0) (h1 : 0 ≤ h ∧ h ≤ (t.hs.length : Int) - 1) : askE t [h] = 0 := by
  unfold askE; rw [if_neg (by rw [Classical.not_not]; exact h0)]
  simp [h1]
end Go.Proofs.YtcdopfjiadifhaaGreatDoor
end
section
namespace Go.W
open Go Go.RowKit Go.Conc
section
/-! ### The words of a walk that communicates: the same aS9 of any other -/
def kw (c : Cx) (x : Code) (Q : Exit → Act → World → Prop) : Act → World → Prop := cw c x Q
def KC (c : Cx) (x : Code) (Q : Exit → Act → World → Prop) (fr : Fr) (hp : Hp) (L : List Fact) : Prop := HC c x Q fr hp L
def KL (c : Cx) (ops : Array Oper) (Q : Exit → Act → World → Prop) (l : List Nat) (fr : Fr) (hp : Hp) (L : List Fact) : Prop := ∀ a w, Ok c a fr → WI c.b w hp L → wpI c.P ops Q l a w
variable {c : Cx} {Q : Exit → Act → World → Prop} {fr : Fr} {hp : Hp} {L : List Fact} {ops : Array Oper}
theorem Q5 {x y : Code} (h : KC c x (Exit.then (kw c y Q) Q) fr hp L) : KC c (.seq x y) Q fr hp L := j4 h
theorem J5 {y : Code} (h : KC c y Q fr hp L) : HQ c (Exit.then (kw c y Q) Q) .normal fr hp L := fun a w ha hw => h a w ha hw
theorem I7 {P : Program} {n : Nat} {b : Bx} {D : List Deferred} {id : Nat} {l : List Oper} (h : HL ⟨P, n, b, D, none⟩ l.toArray Q l fr hp L) : KC ⟨P, n, b, D, none⟩ (.region id l.toArray false) Q fr hp L := j8 h
theorem kj0 (h : HQ c Q .normal fr hp L) : KC c .skip Q fr hp L := k6 h
theorem pz8 {id : Nat} (h : HQ c Q (.exit id) fr hp L) : KC c (.exit id) Q fr hp L := u9 h
theorem kc_ret (h : HQ c Q .ret fr hp L) : KC c .ret Q fr hp L := l5 h
theorem xP {id : Nat} {x : Code} (h : KC c x (Exit.inBlock id Q) fr hp L) : KC c (.block id x) Q fr hp L := k9 h
theorem bz9 {x : Operand} {b : Bool} {thn els : Code} (hx : ev fr x = some (.bool b)) (ht : b = true → KC c thn Q fr hp L) (hf : b = false → KC c els Q fr hp L) : KC c (.cond x thn els) Q fr hp L := j7 hx ht hf
theorem tx0 {x : Operand} {p : Prop} [Decidable p] {thn els : Code} (hx : ev fr x = some (.bool (decide p))) (ht : p → KC c thn Q fr hp L) (hf : ¬ p → KC c els Q fr hp L) : KC c (.cond x thn els) Q fr hp L :=
  bz9 hx (fun h => ht (of_decide_eq_true h)) (fun h => hf (of_decide_eq_false h))
theorem pz7 {β : Type} (s : Sta β) (μ : β → Nat) {body : Code} (z0 : β) (hz0 : s.inv z0) (h1 : FrSub fr (s.fr z0)) (h2 : (s.hp z0).Sublist hp) (h3 : LSub L (s.L z0))
    (round : ∀ z, s.inv z → KC c body (Exit.then (AgainQ s μ (μ z) c) Q) (s.fr z) (s.hp z) (s.L z)) : KC c (.loop body) Q fr hp L := w3 s μ z0 hz0 h1 h2 h3 round
theorem jz8 {β : Type} {P : Program} {f : Nat} {args : List Value} {k : Con β} {fn : Func} {code : Code} (hf : P.funcs[f]? = some fn) (hb : fn.body = some code) (hn : args.length ≤ fn.ntmps)
    (h : ∀ w, KC ⟨P, fn.ntmps, k.entry w, [], none⟩ code (postB P fn (k.post w)) (argFr 0 args) k.hpI k.LI) : Meets P f args k := i9 hf hb hn h
theorem kj1 {id : Nat} {l : List Oper} (h : KL c l.toArray Q (List.range l.length) fr hp L) : KC c (.region id l.toArray false) Q fr hp L := fun a w ha hw => by
  intro b k cs Goal hk hc; refine H2 rfl (fun _ => stepG_region) (vG hk hc _ a w ?_)
  simpa using h a w ha hw
theorem nx9 (h : HQ c Q .normal fr hp L) : KL c ops Q [] fr hp L := fun a w ha hw => h a w ha hw
variable {i : Nat} {rest : List Nat} {d : Tmp} {ty : TypeId} {pos : String} {af : Array Edge}
theorem tq8 {o : Oper} (hi : ops[i]? = some o) (hg : o.guard = none) (h : ∀ a w, Ok c a fr → WI c.b w hp L → owp c.P o a w (wpI c.P ops Q rest) Q) : KL c ops Q (i :: rest) fr hp L := by
  intro a w ha hw; show wpO c.P ops Q i (wpI c.P ops Q rest) a w; unfold wpO; simp only [hi]; rw [if_pos (by simp [Region.wanted, hg])]; exact h a w ha hw
theorem tq7 {o : Oper} (v : Value) (hi : ops[i]? = some o) (ho : o.dst = some d) (hg : o.guard = none) (hd : Nat.blt d c.n = true)
    (hr : ∀ a w, Ok c a fr → WI c.b w hp L → (execOp a.eval o).run c.P w = .ok (.value v) w) (k : KL c ops Q rest ((d, v) :: fr) hp L) (hok : okOp o = true := by exact rfl) : KL c ops Q (i :: rest) fr hp L := by
  refine tq8 hi hg fun a w ha hw d0 => ⟨bT hok _, ?_⟩; rw [hr a _ ha (hw.at d0), iS, ho]; exact k _ _ (ha.put (by simpa using hd) v) (hw.at d0)
theorem xL {x : Operand} {v : Value} (hi : ops[i]? = some ⟨some d, .move x, ty, pos, af, none⟩) (hd : Nat.blt d c.n = true) (hx : ev fr x = some v) (k : KL c ops Q rest ((d, v) :: fr) hp L) : KL c ops Q (i :: rest) fr hp L :=
  tq7 v hi rfl rfl hd (fun a w ha _ => by show Result.ok (Next.value (a.eval x)) w = _; rw [ha.ev hx]) k
theorem rj7 {x : Operand} {v : Value} (hi : ops[i]? = some ⟨some d, .assign x, ty, pos, af, none⟩) (hd : Nat.blt d c.n = true) (hx : ev fr x = some v) (k : KL c ops Q rest ((d, v) :: fr) hp L) : KL c ops Q (i :: rest) fr hp L :=
  tq7 v hi rfl rfl hd (fun a w ha _ => by show Result.ok (Next.value (a.eval x)) w = _; rw [ha.ev hx]) k
abbrev chanO (cap : Nat) (buf : List Value) (s r : Nat) : Obj := .chan cap buf.toArray false s r false
theorem pq3 {b : Bx} {w : World} {g cap s' r' : Nat} {buf' : Array Value} {o : Obj} (h : WI b w ((g, o) :: hp) L) : WI b { w with heap := w.heap.setIfInBounds g (.chan cap buf' false s' r' false) } ((g, .chan cap buf' false s' r' false) :: hp) L := by
  have hg := h.own (g, o) (by simp); have hlt : g < w.heap.size := E1 hg; refine h.write ⟨rfl, rfl, rfl, by simp, fun k hk hn => ?_, Nat.le_refl _⟩ (by simp [hlt])
  simp only
  rw [Array.getElem?_setIfInBounds_ne (fun e => hn (by rw [e]; simp))]
theorem pz6 {x y : Operand} {v : Value} {g cap s r : Nat} {buf : List Value} {hp' : Hp} (hi : ops[i]? = some ⟨none, .send x y, ty, pos, af, none⟩) (hx : ev fr x = some (.chan (some g))) (hy : ev fr y = some v) (hpp : hp.Perm ((g, chanO cap buf s r) :: hp')) (hroom : buf.length < cap)
    (k : KL c ops Q rest fr ((g, chanO cap (buf ++ [v]) (s + 1) r) :: hp') L) : KL c ops Q (i :: rest) fr hp L := by
  refine tq8 hi rfl fun a w ha hw d0 => ⟨bT rfl _, ?_⟩; have hw' := (hw.at d0).perm hpp; have hg := hw'.own (g, chanO cap buf s r) (by simp)
  have hrun : (execOp a.eval (⟨none, .send x y, ty, pos, af, none⟩ : Oper)).run c.P (w.at d0) = .ok (.comm #[scase g v (.tuple #[])] true .send) (w.at d0) := by
    simp [execOp, scase, ha.ev hx, ha.ev hy]
  rw [hrun, cj8]; refine .inl ⟨g, v, .tuple #[], cap, buf.toArray, s, r, false, rfl, rfl, hg, by simpa using hroom, ?_⟩; refine k a _ ha ?_; have h2 := pq3 (cap := cap) (s' := s + 1) (r' := r) (buf' := buf.toArray.push v) hw'; have e : (buf ++ [v]).toArray = buf.toArray.push v := by simp
  show WI c.b _ ((g, .chan cap (buf ++ [v]).toArray false (s + 1) r false) :: hp') L; rw [e]; exact h2
theorem kl_recv {t e : TypeId} {dir : ChanDir} {x : Operand} {v z : Value} {g cap s r : Nat} {buf : List Value} {hp' : Hp} (hi : ops[i]? = some ⟨some d, .recv t x false, ty, pos, af, none⟩) (hd : Nat.blt d c.n = true) (ht : c.P.underlying t = some (.chan dir e)) (hz : ∀ w, (zeroValue e).run c.P w = .ok z w)
    (hx : ev fr x = some (.chan (some g))) (hpp : hp.Perm ((g, chanO cap (v :: buf) s r) :: hp'))
    (k : KL c ops Q rest ((d, v) :: fr) ((g, chanO cap buf s (r + 1)) :: hp') L) : KL c ops Q (i :: rest) fr hp L := by
  refine tq8 hi rfl fun a w ha hw d0 => ⟨bT rfl _, ?_⟩; have hw' := (hw.at d0).perm hpp; have hg := hw'.own (g, chanO cap (v :: buf) s r) (by simp)
  have hrun : (execOp a.eval (⟨some d, .recv t x false, ty, pos, af, none⟩ : Oper)).run c.P (w.at d0) = .ok (.comm #[rcase g z] true (.recv false)) (w.at d0) := by
    simp [execOp, Sem.run_bind, run_underlying ht, hz, rcase, ha.ev hx]
  rw [hrun, cj8]; refine .inr ⟨g, z, false, cap, (v :: buf).toArray, false, s, r, false, rfl, rfl, hg, by simp, ?_⟩; refine k _ _ (ha.put (by simpa using hd) v) ?_; have h2 := pq3 (cap := cap) (s' := s) (r' := r + 1) (buf' := (v :: buf).toArray.extract 1 (v :: buf).toArray.size) hw'; have e : (v :: buf).toArray.extract 1 (v :: buf).toArray.size = buf.toArray := by simp
  rw [e] at h2 ⊢; exact h2
end
section
variable {c : Cx} {Q : Exit → Act → World → Prop} {fr : Fr} {hp : Hp} {L : List Fact} {ops : Array Oper} {rest : List Oper}
variable {d : Tmp} {ty : TypeId} {pos : String} {af : Array Edge}
theorem uK {t e : TypeId} {dir : ChanDir} {x : Operand} {n : Nat} {z : TypeInfo} (hd : Nat.blt d c.n = true) (ht : c.P.underlying t = some (.chan dir e)) (hi : c.P.info? e = some z) (hx : ev fr x = some (int (n : Int))) (h63 : (n : Int) ≤ 9223372036854775807) (hb : (z.bytes : Int) * n ≤ 281474976710544)
    (k : ∀ g, HL c ops Q rest ((d, .chan (some g)) :: fr) ((g, chanO n [] 0 0) :: hp) L) : HL c ops Q (⟨some d, .makeChan t x, ty, pos, af, none⟩ :: rest) fr hp L :=
  mR rfl rfl hd fun a w ha hw => by
    refine ⟨.chan (some w.heap.size), _, _, L, ?_, hw.alloc _, k w.heap.size⟩; simp only [execOp, Sem.run_bind, Sem.run_pure, Result.andThen_ok, ha.ev hx, run_makeChan ht hi .i64 n h63 hb]
theorem nx0 {dT sT e : TypeId} {x y : Operand} {g off dLen dCap sLen sCap : Nat} {ad : Addr} {cur : Array Value} {cs : List Value} {hp' : Hp} (hd : Nat.blt d c.n = true) (ht : c.P.underlying dT = some (.slice e)) (hz : Sz c.P e 1)
    (hx : ev fr x = some (.slice (some ⟨g, off, none⟩) dLen dCap)) (hy : ev fr y = some (.slice (some ad) sLen sCap)) (hpp : hp.Perm ((g, .cells cur e (0, 0)) :: hp')) (hn : cs.length = Nat.min sLen dLen) (hs : Cells c.b ((g, .cells cur e (0, 0)) :: hp') L ad cs)
    (hfit : off + cs.length ≤ cur.size) (h1 : ∀ v ∈ cs, v.oneCell' = true)
    (k : HL c ops Q rest ((d, int cs.length) :: fr) ((g, .cells (cur.toList.take off ++ cs ++ cur.toList.drop (off + cs.length)).toArray e (0, 0)) :: hp') L) :
    HL c ops Q (⟨some d, .call ⟨.builtin .copy, #[x, y], #[dT, sT]⟩, ty, pos, af, none⟩ :: rest) fr hp L :=
  mR rfl rfl hd fun a w ha hw => by
    have hw' := hw.perm hpp; have hg := hw'.own (g, .cells cur e (0, 0)) (by simp); simp only at hg; have hrun := run_copy_row (P := c.P) w dT sT ty e g off dLen dCap ad sLen sCap cur e cs ht hz hg hn (hs w hw') hfit h1; refine ⟨int cs.length, w.setRow g (cur.toList.take off ++ cs ++ cur.toList.drop (off + cs.length)).toArray, _, L, ?_, hw'.write (o' := .cells (cur.toList.take off ++ cs ++ cur.toList.drop (off + cs.length)).toArray e (0, 0)) ⟨rfl, rfl, rfl, by simp [World.setRow], fun k hk hn => setRow_other w g k _ (fun e => hn (by rw [e]; simp)), Nat.le_refl _⟩ (setRow_heap w g cur _ e (0, 0) hg), k⟩; simp only [execOp, resolve, invoke, builtin, Sem.run_bind, Sem.run_pure, Result.andThen_ok, List.map_toArray, List.map_cons, List.map_nil, ha.ev hx, ha.ev hy, hrun]
    rfl
theorem r_makeN {t e : TypeId} {x y : Operand} {n sz bytes : Nat} {m m' : Int} (el : ElT c.P t e sz bytes) (hd : Nat.blt d c.n = true) (hx : ev fr x = some (int m')) (hy : ev fr y = some (int m)) (hm' : m' = (n : Int)) (hm : m = (n : Int)) (hb : bytes * n ≤ 140737488355328) (hn : n ≤ 140737488355328)
    (k : ∀ g (cur : Array Value), cur.size = n * sz → HL c ops Q rest ((d, .slice (c8 g) n n) :: fr) ((g, .cells cur e (0, 0)) :: hp) L) : HL c ops Q (⟨some d, .makeSlice t x y, ty, pos, af, none⟩ :: rest) fr hp L := by
  obtain ⟨i, z, hi, hz, hsz, hby, hzs⟩ := el.i; refine mQ (.cells (madeCells z.cells (n * i.size)) e (0, 0)) (fun g => .slice (c8 g) n n) rfl rfl hd (fun a w ha _ => ?_) (fun g => k g _ ?_)
  · subst hm
    subst hm'
    have hb' : (i.bytes : Int) * (n : Int) ≤ 281474976710656 := by
      have h : ((i.bytes * n : Nat) : Int) ≤ 281474976710656 := by rw [hby]; omega
      rwa [Int.natCast_mul] at h
    have hr := run_make (P := c.P) w t e i z el.u hi hz .i64 .i64 (n : Int) n (by omega) (by omega) hb' (by omega); simp only [Int.toNat_natCast] at hr; simp only [execOp, ha.ev hx, ha.ev hy, Sem.run_bind, hr, Result.andThen_ok, Sem.run_pure]
  rw [← hsz]
  simp [madeCells]
end
/-! ### Slices that grow from nothing, whose cells are written -/
section
def GrowE (e : TypeId) (sz : Nat) (A : Option Addr) (n cap : Nat) (xs : List Value) (og : Hp) : Prop := Grow e sz A n cap xs og ∨ (n = 0 ∧ cap = 0 ∧ xs = [] ∧ og = [])
theorem GrowE.grow {e : TypeId} {sz n cap : Nat} {A : Option Addr} {xs : List Value} {og : Hp} (h : GrowE e sz A n cap xs og) (hn : 0 < n) : Grow e sz A n cap xs og := by
  rcases h with h | ⟨h, _⟩
  · exact h
  omega
theorem GrowE.le {e : TypeId} {sz n cap : Nat} {A : Option Addr} {xs : List Value} {og : Hp} (h : GrowE e sz A n cap xs og) : n ≤ cap := by
  rcases h with h | ⟨h, h2, _⟩
  · exact h.le
  omega
theorem GrowE.blk {e : TypeId} {sz n cap : Nat} {A : Option Addr} {xs : List Value} {og : Hp} (h : GrowE e sz A n cap xs og) (hn : 0 < n) : ∃ g cur, A = some ⟨g, 0, none⟩ ∧ og = [(g, .cells cur e (0, 0))] ∧ n ≤ cap ∧ cap ≤ maxLen ∧ cur.size = cap * sz ∧ cur.toList.take (n * sz) = xs := by
  rcases (h.grow hn).2 with ⟨_, h1, _⟩ | h1
  · omega
  exact h1
variable {c : Cx} {Q : Exit → Act → World → Prop} {fr : Fr} {hp : Hp} {L : List Fact} {ops : Array Oper} {rest : List Oper}
variable {d : Tmp} {ty : TypeId} {pos : String} {af : Array Edge}
/-! ### Cells of rows that are written -/
theorem iq1 {α : Type} [El α] {v : Value} {a : α} {f : Nat} (hf : f < El.sz α) : ∀ {l : List α} {k : Nat}, k < l.length → El.cells a = (El.cells (l.getD k default)).set f v → (rows l).set (k * El.sz α + f) v = rows (l.set k a)
  | [], k, hk, _ => by simp at hk
  | b :: l, 0, _, hc => by
    show (El.cells b ++ rows l).set _ v = El.cells a ++ rows l; rw [Nat.zero_mul, Nat.zero_add, List.set_append_left _ _ (by rw [El.len]; exact hf), hc]
    rfl
  | b :: l, k + 1, hk, hc => by
    have ih := iq1 hf (l := l) (k := k) (by simpa using hk) (by simpa using hc); show (El.cells b ++ rows l).set _ v = El.cells b ++ rows (l.set k a); rw [List.set_append_right _ _ (by rw [El.len, Nat.add_mul]; omega), El.len, ← ih]
    congr 2
    rw [Nat.add_mul]; omega
end
section
variable {c : Cx} {Q : Exit → Act → World → Prop} {fr : Fr} {hp : Hp} {L : List Fact} {ops : Array Oper} {rest : List Oper} {ty : TypeId} {pos : String} {af : Array Edge}
theorem cx5 {t : TypeId} {x y : Operand} {g o : Nat} {old cs : Array Value} {e : TypeId} {hp' : Hp} (hx : ev fr x = some (.pointer (some ⟨g, o, none⟩))) (hy : ev fr y = some (.agg cs)) (hpp : hp.Perm ((g, .cells old e (0, 0)) :: hp'))
    (hz : Sz c.P t cs.size) (ho : o + cs.size ≤ old.size) (h1 : cs.toList.all (·.oneCell') = true)
    (k : HL c ops Q rest fr ((g, .cells (old.toList.take o ++ cs.toList ++ old.toList.drop (o + cs.size)).toArray e (0, 0)) :: hp') L) : HL c ops Q (⟨none, .store t x y, ty, pos, af, none⟩ :: rest) fr hp L :=
  cj1 rfl rfl fun a w ha hw => by
    have hw' := hw.perm hpp; have hg := hw'.own (g, .cells old e (0, 0)) (by simp); simp only at hg; have hst := run_storeCells_at (P := c.P) g o e cs.toList 0 old w hg (by simpa using ho) (fun v hv => List.all_eq_true.1 h1 v hv); simp only [Nat.add_zero, Array.length_toList] at hst
    have hrun : (storeVar t ⟨g, o, none⟩ (.agg cs)).run c.P w = .ok () (w.setRow g (old.toList.take o ++ cs.toList ++ old.toList.drop (o + cs.size)).toArray) := by
      unfold Sz at hz
      cases hq : c.P.info? t with
      | none => simp [hq] at hz
      | some i =>
        have hs : cs.size = i.size := by simp [hq] at hz; omega
        simp [storeVar, sizeOf, typeInfo, hq, Value.cells, hs, hst]
    refine ⟨w.setRow g (old.toList.take o ++ cs.toList ++ old.toList.drop (o + cs.size)).toArray, _, L, ?_, hw'.write (vE _) (setRow_heap w g old _ e (0, 0) hg), k⟩; simp only [execOp, ha.ev hx, ha.ev hy, Instr.storeAt, Instr.sureAddr, Sem.run_bind, Sem.run_pure, Result.andThen_ok, hrun]
end
end Go.W
end
section
namespace Go.Proofs.YtcdopfjiadifhaaGreatDoor
open Go Go.W
set_option maxRecDepth 20000
attribute [local irreducible] HL HC HQ HB Row Rows2 Blk Facts
theorem uU : Meets Tryz.prog F.G1 [.int .u64 1, .int .u64 0] { val := fun _ : Unit => .tuple #[.int .u64 0, .int .u64 0] } := by
 refine i9 F.I2 rfl r6 fun w0 => ?_; refine i8 (d5 rfl (d5 rfl (k8 (c7 rfl ?_)))); refine m7 _ rfl rfl rfl (fun _ => rfl) (fun _ => rfl) ?_; refine d5 rfl (k8 (c7 rfl ?_)); refine m7 _ rfl rfl rfl (fun _ => rfl) (fun _ => rfl) ?_; refine d5 rfl (k8 (c7 rfl ?_)); refine m7 _ rfl rfl rfl (fun _ => rfl) (fun _ => rfl) ?_; refine d5 rfl (k8 (c7 rfl ?_)); refine m7 _ rfl rfl rfl (fun _ => rfl) (fun _ => rfl) ?_; refine d5 rfl (k8 (c7 rfl (c7 rfl ?_))); refine m7 _ rfl rfl rfl (fun _ => rfl) (fun _ => rfl) ?_; refine d5 rfl (k8 (c7 rfl (c7 rfl ?_))); refine m7 _ rfl rfl rfl (fun _ => rfl) (fun _ => rfl) (c7 rfl (m7 _ rfl rfl rfl (fun _ => rfl) (fun _ => rfl) (m7 _ rfl rfl rfl (fun _ => rfl) (fun _ => rfl) ?_))); refine d5 rfl (k8 (c7 rfl ?_)); refine m7 _ rfl rfl rfl (fun _ => rfl) (fun _ => rfl) ?_; refine d5 rfl (k8 (c7 rfl ?_)); refine m7 _ rfl rfl rfl (fun _ => rfl) (fun _ => rfl) ?_; refine d5 rfl (k8 (c7 rfl (c7 rfl (c7 rfl ?_)))); refine m7 _ rfl rfl rfl (fun _ => rfl) (fun _ => rfl) (m7 _ rfl rfl rfl (fun _ => rfl) (fun _ => rfl) ?_); refine d5 rfl (k8 (c7 rfl (c7 rfl ?_))); refine m7 _ rfl rfl rfl (fun _ => rfl) (fun _ => rfl) (c7 rfl (m7 _ rfl rfl rfl (fun _ => rfl) (fun _ => rfl) (c7 rfl (m7 _ rfl rfl rfl (fun _ => rfl) (fun _ => rfl) (m7 _ rfl rfl rfl (fun _ => rfl) (fun _ => rfl) ?_))))); refine d5 rfl (k8 (c7 rfl (c7 rfl ?_))); refine m7 _ rfl rfl rfl (fun _ => rfl) (fun _ => rfl) ?_; refine d5 rfl (d8 (l5 ?_)); exact ret2 () rfl rfl rfl rfl rfl trivial nil_sb trivial
theorem uT : Meets Tryz.prog F.G1 [.int .u64 1, .int .u64 1] { val := fun _ : Unit => .tuple #[.int .u64 0, .int .u64 1] } := by
 refine i9 F.I2 rfl r6 fun w0 => ?_; refine i8 (d5 rfl (d5 rfl (k8 (c7 rfl ?_)))); refine m7 _ rfl rfl rfl (fun _ => rfl) (fun _ => rfl) ?_; refine d5 rfl (k8 (c7 rfl ?_)); refine m7 _ rfl rfl rfl (fun _ => rfl) (fun _ => rfl) ?_; refine d5 rfl (k8 (c7 rfl ?_)); refine m7 _ rfl rfl rfl (fun _ => rfl) (fun _ => rfl) ?_; refine d5 rfl (k8 (c7 rfl ?_)); refine m7 _ rfl rfl rfl (fun _ => rfl) (fun _ => rfl) ?_; refine d5 rfl (k8 (c7 rfl (c7 rfl ?_))); refine m7 _ rfl rfl rfl (fun _ => rfl) (fun _ => rfl) ?_; refine d5 rfl (k8 (c7 rfl (c7 rfl ?_))); refine m7 _ rfl rfl rfl (fun _ => rfl) (fun _ => rfl) (c7 rfl (m7 _ rfl rfl rfl (fun _ => rfl) (fun _ => rfl) (m7 _ rfl rfl rfl (fun _ => rfl) (fun _ => rfl) ?_))); refine d5 rfl (k8 (c7 rfl ?_)); refine m7 _ rfl rfl rfl (fun _ => rfl) (fun _ => rfl) ?_; refine d5 rfl (k8 (c7 rfl ?_)); refine m7 _ rfl rfl rfl (fun _ => rfl) (fun _ => rfl) ?_; refine d5 rfl (k8 (c7 rfl (c7 rfl (c7 rfl ?_)))); refine m7 _ rfl rfl rfl (fun _ => rfl) (fun _ => rfl) (m7 _ rfl rfl rfl (fun _ => rfl) (fun _ => rfl) ?_); refine d5 rfl (k8 (c7 rfl (c7 rfl ?_))); refine m7 _ rfl rfl rfl (fun _ => rfl) (fun _ => rfl) (c7 rfl (m7 _ rfl rfl rfl (fun _ => rfl) (fun _ => rfl) (c7 rfl (m7 _ rfl rfl rfl (fun _ => rfl) (fun _ => rfl) (m7 _ rfl rfl rfl (fun _ => rfl) (fun _ => rfl) ?_))))); refine d5 rfl (k8 (c7 rfl (c7 rfl ?_))); refine m7 _ rfl rfl rfl (fun _ => rfl) (fun _ => rfl) ?_; refine d5 rfl (d8 (l5 ?_)); exact ret2 () rfl rfl rfl rfl rfl trivial nil_sb trivial
theorem uS : Meets Tryz.prog F.G1 [.int .u64 1, .int .u64 2] { val := fun _ : Unit => .tuple #[.int .u64 0, .int .u64 2] } := by
 refine i9 F.I2 rfl r6 fun w0 => ?_; refine i8 (d5 rfl (d5 rfl (k8 (c7 rfl ?_)))); refine m7 _ rfl rfl rfl (fun _ => rfl) (fun _ => rfl) ?_; refine d5 rfl (k8 (c7 rfl ?_)); refine m7 _ rfl rfl rfl (fun _ => rfl) (fun _ => rfl) ?_; refine d5 rfl (k8 (c7 rfl ?_)); refine m7 _ rfl rfl rfl (fun _ => rfl) (fun _ => rfl) ?_; refine d5 rfl (k8 (c7 rfl ?_)); refine m7 _ rfl rfl rfl (fun _ => rfl) (fun _ => rfl) ?_; refine d5 rfl (k8 (c7 rfl (c7 rfl ?_))); refine m7 _ rfl rfl rfl (fun _ => rfl) (fun _ => rfl) ?_; refine d5 rfl (k8 (c7 rfl (c7 rfl ?_))); refine m7 _ rfl rfl rfl (fun _ => rfl) (fun _ => rfl) (c7 rfl (m7 _ rfl rfl rfl (fun _ => rfl) (fun _ => rfl) (m7 _ rfl rfl rfl (fun _ => rfl) (fun _ => rfl) ?_))); refine d5 rfl (k8 (c7 rfl ?_)); refine m7 _ rfl rfl rfl (fun _ => rfl) (fun _ => rfl) ?_; refine d5 rfl (k8 (c7 rfl ?_)); refine m7 _ rfl rfl rfl (fun _ => rfl) (fun _ => rfl) ?_; refine d5 rfl (k8 (c7 rfl (c7 rfl (c7 rfl ?_)))); refine m7 _ rfl rfl rfl (fun _ => rfl) (fun _ => rfl) (m7 _ rfl rfl rfl (fun _ => rfl) (fun _ => rfl) ?_); refine d5 rfl (k8 (c7 rfl (c7 rfl ?_))); refine m7 _ rfl rfl rfl (fun _ => rfl) (fun _ => rfl) (c7 rfl (m7 _ rfl rfl rfl (fun _ => rfl) (fun _ => rfl) (c7 rfl (m7 _ rfl rfl rfl (fun _ => rfl) (fun _ => rfl) (m7 _ rfl rfl rfl (fun _ => rfl) (fun _ => rfl) ?_))))); refine d5 rfl (k8 (c7 rfl (c7 rfl ?_))); refine m7 _ rfl rfl rfl (fun _ => rfl) (fun _ => rfl) ?_; refine d5 rfl (d8 (l5 ?_)); exact ret2 () rfl rfl rfl rfl rfl trivial nil_sb trivial
theorem uR : Meets Tryz.prog F.G1 [.int .u64 1, .int .u64 3] { val := fun _ : Unit => .tuple #[.int .u64 0, .int .u64 3] } := by
 refine i9 F.I2 rfl r6 fun w0 => ?_; refine i8 (d5 rfl (d5 rfl (k8 (c7 rfl ?_)))); refine m7 _ rfl rfl rfl (fun _ => rfl) (fun _ => rfl) ?_; refine d5 rfl (k8 (c7 rfl ?_)); refine m7 _ rfl rfl rfl (fun _ => rfl) (fun _ => rfl) ?_; refine d5 rfl (k8 (c7 rfl ?_)); refine m7 _ rfl rfl rfl (fun _ => rfl) (fun _ => rfl) ?_; refine d5 rfl (k8 (c7 rfl ?_)); refine m7 _ rfl rfl rfl (fun _ => rfl) (fun _ => rfl) ?_; refine d5 rfl (k8 (c7 rfl (c7 rfl ?_))); refine m7 _ rfl rfl rfl (fun _ => rfl) (fun _ => rfl) ?_; refine d5 rfl (k8 (c7 rfl (c7 rfl ?_))); refine m7 _ rfl rfl rfl (fun _ => rfl) (fun _ => rfl) (c7 rfl (m7 _ rfl rfl rfl (fun _ => rfl) (fun _ => rfl) (m7 _ rfl rfl rfl (fun _ => rfl) (fun _ => rfl) ?_))); refine d5 rfl (k8 (c7 rfl ?_)); refine m7 _ rfl rfl rfl (fun _ => rfl) (fun _ => rfl) ?_; refine d5 rfl (k8 (c7 rfl ?_)); refine m7 _ rfl rfl rfl (fun _ => rfl) (fun _ => rfl) ?_; refine d5 rfl (k8 (c7 rfl (c7 rfl (c7 rfl ?_)))); refine m7 _ rfl rfl rfl (fun _ => rfl) (fun _ => rfl) (m7 _ rfl rfl rfl (fun _ => rfl) (fun _ => rfl) ?_); refine d5 rfl (k8 (c7 rfl (c7 rfl ?_))); refine m7 _ rfl rfl rfl (fun _ => rfl) (fun _ => rfl) (c7 rfl (m7 _ rfl rfl rfl (fun _ => rfl) (fun _ => rfl) (c7 rfl (m7 _ rfl rfl rfl (fun _ => rfl) (fun _ => rfl) (m7 _ rfl rfl rfl (fun _ => rfl) (fun _ => rfl) ?_))))); refine d5 rfl (k8 (c7 rfl (c7 rfl ?_))); refine m7 _ rfl rfl rfl (fun _ => rfl) (fun _ => rfl) ?_; refine d5 rfl (d8 (l5 ?_)); exact ret2 () rfl rfl rfl rfl rfl trivial nil_sb trivial
theorem uQ : Meets Tryz.prog F.G1 [.int .u64 1, .int .u64 4] { val := fun _ : Unit => .tuple #[.int .u64 0, .int .u64 4] } := by
 refine i9 F.I2 rfl r6 fun w0 => ?_; refine i8 (d5 rfl (d5 rfl (k8 (c7 rfl ?_)))); refine m7 _ rfl rfl rfl (fun _ => rfl) (fun _ => rfl) ?_; refine d5 rfl (k8 (c7 rfl ?_)); refine m7 _ rfl rfl rfl (fun _ => rfl) (fun _ => rfl) ?_; refine d5 rfl (k8 (c7 rfl ?_)); refine m7 _ rfl rfl rfl (fun _ => rfl) (fun _ => rfl) ?_; refine d5 rfl (k8 (c7 rfl ?_)); refine m7 _ rfl rfl rfl (fun _ => rfl) (fun _ => rfl) ?_; refine d5 rfl (k8 (c7 rfl (c7 rfl ?_))); refine m7 _ rfl rfl rfl (fun _ => rfl) (fun _ => rfl) ?_; refine d5 rfl (k8 (c7 rfl (c7 rfl ?_))); refine m7 _ rfl rfl rfl (fun _ => rfl) (fun _ => rfl) (c7 rfl (m7 _ rfl rfl rfl (fun _ => rfl) (fun _ => rfl) (m7 _ rfl rfl rfl (fun _ => rfl) (fun _ => rfl) ?_))); refine d5 rfl (k8 (c7 rfl ?_)); refine m7 _ rfl rfl rfl (fun _ => rfl) (fun _ => rfl) ?_; refine d5 rfl (k8 (c7 rfl ?_)); refine m7 _ rfl rfl rfl (fun _ => rfl) (fun _ => rfl) ?_; refine d5 rfl (k8 (c7 rfl (c7 rfl (c7 rfl ?_)))); refine m7 _ rfl rfl rfl (fun _ => rfl) (fun _ => rfl) (m7 _ rfl rfl rfl (fun _ => rfl) (fun _ => rfl) ?_); refine d5 rfl (k8 (c7 rfl (c7 rfl ?_))); refine m7 _ rfl rfl rfl (fun _ => rfl) (fun _ => rfl) (c7 rfl (m7 _ rfl rfl rfl (fun _ => rfl) (fun _ => rfl) (c7 rfl (m7 _ rfl rfl rfl (fun _ => rfl) (fun _ => rfl) (m7 _ rfl rfl rfl (fun _ => rfl) (fun _ => rfl) ?_))))); refine d5 rfl (k8 (c7 rfl (c7 rfl ?_))); refine m7 _ rfl rfl rfl (fun _ => rfl) (fun _ => rfl) ?_; refine d5 rfl (d8 (l5 ?_)); exact ret2 () rfl rfl rfl rfl rfl trivial nil_sb trivial
theorem uP : Meets Tryz.prog F.G1 [.int .u64 1, .int .u64 5] { val := fun _ : Unit => .tuple #[.int .u64 0, .int .u64 5] } := by
 refine i9 F.I2 rfl r6 fun w0 => ?_; refine i8 (d5 rfl (d5 rfl (k8 (c7 rfl ?_)))); refine m7 _ rfl rfl rfl (fun _ => rfl) (fun _ => rfl) ?_; refine d5 rfl (k8 (c7 rfl ?_)); refine m7 _ rfl rfl rfl (fun _ => rfl) (fun _ => rfl) ?_; refine d5 rfl (k8 (c7 rfl ?_)); refine m7 _ rfl rfl rfl (fun _ => rfl) (fun _ => rfl) ?_; refine d5 rfl (k8 (c7 rfl ?_)); refine m7 _ rfl rfl rfl (fun _ => rfl) (fun _ => rfl) ?_; refine d5 rfl (k8 (c7 rfl (c7 rfl ?_))); refine m7 _ rfl rfl rfl (fun _ => rfl) (fun _ => rfl) ?_; refine d5 rfl (k8 (c7 rfl (c7 rfl ?_))); refine m7 _ rfl rfl rfl (fun _ => rfl) (fun _ => rfl) (c7 rfl (m7 _ rfl rfl rfl (fun _ => rfl) (fun _ => rfl) (m7 _ rfl rfl rfl (fun _ => rfl) (fun _ => rfl) ?_))); refine d5 rfl (k8 (c7 rfl ?_)); refine m7 _ rfl rfl rfl (fun _ => rfl) (fun _ => rfl) ?_; refine d5 rfl (k8 (c7 rfl ?_)); refine m7 _ rfl rfl rfl (fun _ => rfl) (fun _ => rfl) ?_; refine d5 rfl (k8 (c7 rfl (c7 rfl (c7 rfl ?_)))); refine m7 _ rfl rfl rfl (fun _ => rfl) (fun _ => rfl) (m7 _ rfl rfl rfl (fun _ => rfl) (fun _ => rfl) ?_); refine d5 rfl (k8 (c7 rfl (c7 rfl ?_))); refine m7 _ rfl rfl rfl (fun _ => rfl) (fun _ => rfl) (c7 rfl (m7 _ rfl rfl rfl (fun _ => rfl) (fun _ => rfl) (c7 rfl (m7 _ rfl rfl rfl (fun _ => rfl) (fun _ => rfl) (m7 _ rfl rfl rfl (fun _ => rfl) (fun _ => rfl) ?_))))); refine d5 rfl (k8 (c7 rfl (c7 rfl ?_))); refine m7 _ rfl rfl rfl (fun _ => rfl) (fun _ => rfl) ?_; refine d5 rfl (d8 (l5 ?_)); exact ret2 () rfl rfl rfl rfl rfl trivial nil_sb trivial
theorem uO : Meets Tryz.prog F.G1 [.int .u64 1, .int .u64 6] { val := fun _ : Unit => .tuple #[.int .u64 0, .int .u64 6] } := by
 refine i9 F.I2 rfl r6 fun w0 => ?_; refine i8 (d5 rfl (d5 rfl (k8 (c7 rfl ?_)))); refine m7 _ rfl rfl rfl (fun _ => rfl) (fun _ => rfl) ?_; refine d5 rfl (k8 (c7 rfl ?_)); refine m7 _ rfl rfl rfl (fun _ => rfl) (fun _ => rfl) ?_; refine d5 rfl (k8 (c7 rfl ?_)); refine m7 _ rfl rfl rfl (fun _ => rfl) (fun _ => rfl) ?_; refine d5 rfl (k8 (c7 rfl ?_)); refine m7 _ rfl rfl rfl (fun _ => rfl) (fun _ => rfl) ?_; refine d5 rfl (k8 (c7 rfl (c7 rfl ?_))); refine m7 _ rfl rfl rfl (fun _ => rfl) (fun _ => rfl) ?_; refine d5 rfl (k8 (c7 rfl (c7 rfl ?_))); refine m7 _ rfl rfl rfl (fun _ => rfl) (fun _ => rfl) (c7 rfl (m7 _ rfl rfl rfl (fun _ => rfl) (fun _ => rfl) (m7 _ rfl rfl rfl (fun _ => rfl) (fun _ => rfl) ?_))); refine d5 rfl (k8 (c7 rfl ?_)); refine m7 _ rfl rfl rfl (fun _ => rfl) (fun _ => rfl) ?_; refine d5 rfl (k8 (c7 rfl ?_)); refine m7 _ rfl rfl rfl (fun _ => rfl) (fun _ => rfl) ?_; refine d5 rfl (k8 (c7 rfl (c7 rfl (c7 rfl ?_)))); refine m7 _ rfl rfl rfl (fun _ => rfl) (fun _ => rfl) (m7 _ rfl rfl rfl (fun _ => rfl) (fun _ => rfl) ?_); refine d5 rfl (k8 (c7 rfl (c7 rfl ?_))); refine m7 _ rfl rfl rfl (fun _ => rfl) (fun _ => rfl) (c7 rfl (m7 _ rfl rfl rfl (fun _ => rfl) (fun _ => rfl) (c7 rfl (m7 _ rfl rfl rfl (fun _ => rfl) (fun _ => rfl) (m7 _ rfl rfl rfl (fun _ => rfl) (fun _ => rfl) ?_))))); refine d5 rfl (k8 (c7 rfl (c7 rfl ?_))); refine m7 _ rfl rfl rfl (fun _ => rfl) (fun _ => rfl) ?_; refine d5 rfl (d8 (l5 ?_)); exact ret2 () rfl rfl rfl rfl rfl trivial nil_sb trivial
theorem pI (n : Nat) (hn : n ≤ 6) : Meets Tryz.prog F.G1 [.int .u64 1, .int .u64 (n : Int)] { val := fun _ : Unit => .tuple #[.int .u64 0, .int .u64 (n : Int)] } := by
  match n, hn with
  | 0, _ => exact uU
  | 1, _ => exact uT
  | 2, _ => exact uS
  | 3, _ => exact uR
  | 4, _ => exact uQ
  | 5, _ => exact uP
  | 6, _ => exact uO
theorem wrapu {n : Nat} (h : n ≤ 1000000) : IntKind.u64.wrap (n : Int) = n := IntWalk.u64_in _ (by omega)
theorem wrapi {n : Nat} (h : n ≤ 1000000) : IntKind.i64.wrap (n : Int) = n := IntWalk.i64_in _ (by omega)
theorem sx9 {m k : Nat} {v : Value} {l : List Value} (h : l.take k = List.replicate k v) (hm : k + m ≤ l.length) : (l.take k ++ List.replicate m v ++ l.drop (k + m)).take (k + m) = List.replicate (k + m) v := by
  rw [h, List.replicate_append_replicate]; exact List.take_left' (by simp)
theorem rep_get {k m : Nat} {v : Value} {cu : Array Value} (h : cu.toList.take k = List.replicate k v) (hm : m ≤ k) (i : Nat) (u : Value) (hu : (List.replicate m v)[i]? = some u) : cu[0 + i]? = some u := by
  rw [List.getElem?_replicate] at hu
  split at hu
  · rename_i hi
    cases hu
    have h2 : (cu.toList.take k)[i]? = some v := by rw [h, List.getElem?_replicate, if_pos (by omega)]
    rw [List.getElem?_take, if_pos (by omega)] at h2; rw [Nat.zero_add]
    simpa using h2
  cases hu
theorem cut_k {g n k : Nat} (h : k < n) : cutA (c8 g) n k 1 = some ⟨g, k, none⟩ := by
  rw [cutA, if_neg (by omega)]
  simp [Addr.add]
  omega
theorem lq6 (x : Int) : ∀ n : Nat, rows (List.replicate n x) = List.replicate n (int x)
  | 0 => rfl
  | n + 1 => by
    rw [List.replicate_succ, List.replicate_succ, ← lq6 x n]
    rfl
theorem tG (n : Nat) (hn : n ≤ 6) : Meets Tryz.prog F.jS [.int .u64 1, .int .u64 (n : Int)] { val := fun _ : Unit => .tuple #[.int .u64 0, .int .u64 (n : Int)] } := by
 refine i9 F.bq0 rfl r6 fun w0 => ?_; refine i8 (d5 rfl (d5 rfl (d8 (j4 (c_f rfl rfl (k6 (j6 (i8 ?_)))))))); refine c7 rfl (c7 rfl ?_); refine k5 F.uV rfl rfl (pI n hn) p6 trivial fun _ _ => ?_; refine c7 rfl (p8 rfl rfl rfl (p8 rfl rfl rfl (d5 rfl (d5 rfl (k8 (c7 rfl (c7 rfl (d5 rfl ?_)))))))); refine d5 rfl (d8 (l5 ?_)); exact ret2 () rfl rfl rfl rfl rfl trivial nil_sb trivial
set_option maxHeartbeats 1000000 in
theorem jO {b0 cb : Nat} (x : Int) (n : Nat) (h0 : 0 < n) (hn : n ≤ 6) : Meets Tryz.prog F.Y7 [.slice (c8 b0) 1 cb, int n] { LI := [Row (c8 b0) (rows [x])], val := fun g : Nat => .slice (c8 g) n n, hpO := fun g => [(g, .cells (rows (List.replicate n x)).toArray T.int (0, 0))] } := by
 refine i9 F.qH rfl r6 fun w0 => ?_; refine i8 (d5 rfl (d8 (j4 (i8 (c7 rfl (B6 rfl rfl rfl (d8 ?_)))))))
 first | refine m3 rfl (fun hb1 => ?_) (fun hb1 => ?_) | refine j7 rfl (fun hb1 => ?_) (fun hb1 => ?_)
 ·exact absurd hb1 (by omega)
 have hb1' := hb1; try simp at hb1'
 refine k6 (j6 (i8 (c7 rfl ?_))); refine l7 rfl T.t7 rfl (X5 1 rfl T.pP T.nj4 rfl (wrapu (n := 1) (by decide)) (c7 rfl (X5 (n : Int) rfl T.pP T.nj4 rfl (wrapu (by omega)) ?_))); refine k5 F.zP rfl rfl (tG n hn) p6 trivial fun _ _ => ?_; refine c7 rfl (p8 rfl rfl rfl (p8 rfl rfl rfl (d5 rfl (d5 rfl (d8 (j4 (i8 (c7 rfl (R0 rfl rfl rfl ?_))))))))); refine c7 rfl ?_; refine u6 rfl rfl ?_ ?_
 ·intro hg1; have hg1' := hg1; try simp at hg1'
  refine l3 rfl rfl hg1 (c7 rfl (l3 rfl rfl hg1 (R0 rfl rfl rfl ?_))); refine p_f rfl rfl (bf1 hg1) rfl ?_; refine d8 ?_
  first | refine m3 rfl (fun hb2 => ?_) (fun hb2 => ?_) | refine j7 rfl (fun hb2 => ?_) (fun hb2 => ?_)
  ·exact absurd hb2 (by omega)
  have hb2' := hb2; try simp at hb2'
  refine k6 (j6 (i8 (c7 rfl ?_))); refine X5 (n : Int) rfl T.nj4 T.pP rfl (wrapi (by omega)) ?_; refine r_makeN (n := n) T.cj3 rfl rfl rfl rfl rfl (by omega) (by omega) fun gM cur hcs => ?_; refine d5 rfl (k8 (c7 rfl (c7 rfl ?_))); refine nx0 (cs := [int x]) (off := 0) rfl T.t7 T.w9 rfl rfl p6 (show 1 = Nat.min 1 n from (Nat.min_eq_left h0).symm) (t5 (cs := [int x]) (j := 0) mB (fun i u hu => by rw [Nat.zero_add]; exact hu)) (by simp; omega) (by intro v hv; rw [List.mem_singleton.1 hv]; rfl) ?_; refine d5 rfl (d8 (j4 (k9 ?_))); refine w3 (β := Nat × Array Value) ⟨fun y => 1 ≤ y.1 ∧ y.1 ≤ n ∧ y.2.size = n ∧ y.2.toList.take y.1 = List.replicate y.1 (int x), fun y => [(7, .slice (c8 gM) n n), (8, int y.1)], fun y => [(gM, .cells y.2 T.int (0, 0))], fun _ => []⟩ (fun y => n - y.1) (1, _) ⟨Nat.le_refl _, h0, by simp; omega, by simp⟩ mC (List.Sublist.refl _) trivial fun y hy => ?_; obtain ⟨k, cu⟩ := y; obtain ⟨h1, hk, hcu, ht⟩ := hy; simp only at h1 hk hcu ht; refine j4 (i8 (c7 rfl (c7 rfl ?_))); refine l7 rfl T.t7 rfl ?_; refine B6 rfl rfl rfl (d8 ?_)
  first | refine m3 rfl (fun hb3 => ?_) (fun hb3 => ?_) | refine j7 rfl (fun hb3 => ?_) (fun hb3 => ?_)
  ·have hb3' := hb3; try simp at hb3'
   have hk2 : k < n := by omega
   obtain ⟨m, hm, hm1, hm2, hm3⟩ : ∃ m, m = Nat.min k (n - k) ∧ 1 ≤ m ∧ m ≤ k ∧ m ≤ n - k := ⟨min k (n - k), rfl, by omega, by omega, by omega⟩; refine k6 (j6 (k9 ?_)); refine S6 ([(gM, .cells cu T.int (0, 0))]) ([]) p6 8 [7] mixed (by decide) (by decide) (by decide) rfl rfl rfl (l9 (fun w1 => c7 rfl (q_z rfl)) (l9 (fun w1 => c7 rfl (q_z rfl)) (l9 (fun w1 => c7 rfl (q_z rfl)) (l9 (fun w1 => cx7 k rfl T.t7 T.w9 rfl rfl rfl (by omega) (q_z rfl)) (l9 (fun w1 => c7 rfl (q_z rfl)) (l9 (fun w1 => c7 rfl (q_z rfl)) (l9 (fun w1 => mG k rfl T.t7 T.w9 rfl rfl rfl (by omega) (q_z rfl)) ?_))))))); refine iZ ⟨Array Value, fun c2 => c2.size = n ∧ c2.toList.take (k + m) = List.replicate (k + m) (int x), fun _ => int (m : Int), fun _ => [], fun c2 => [(gM, Obj.cells c2 T.int (0, 0))]⟩ rfl rfl rfl ?_ ?_
   ·intro w1; refine nx0 (g := gM) (off := k) (ad := ⟨gM, 0, none⟩) (cs := List.replicate m (int x)) rfl T.t7 T.w9 (show ev _ _ = some (.slice (some ⟨gM, k, none⟩) (n - k) (n - k)) from congrArg (fun A => some (Value.slice A (n - k) (n - k))) (cut_k hk2)) rfl p6 (by rw [List.length_replicate]; exact hm) (bS (List.mem_cons_self ..) (rep_get ht hm2)) (by rw [List.length_replicate]; omega) (by intro v hv; rw [List.eq_of_mem_replicate hv]; rfl) ?_; refine d4 ?_; exact O8 _ ⟨by simp; omega, by rw [List.length_replicate]; exact sx9 ht (by simp; omega)⟩ (fun _ => congrArg (fun z : Nat => some (int (z : Int))) List.length_replicate) (.refl _) trivial
   refine D1 ⟨rfl, ?_⟩; intro c2 hc2; refine v4 _ rfl rfl rfl rfl r5 ?_; refine d5 rfl (d4 (y6 ?_)); exact again _ (k + m, c2) ⟨by show 1 ≤ k + m; omega, by show k + m ≤ n; omega, hc2.1, hc2.2⟩ (by show n - (k + m) < n - k; omega) mC (List.Sublist.refl _) trivial
  have hb3' := hb3; try simp at hb3'
  obtain rfl : k = n := by omega
  obtain rfl : cu = (rows (List.replicate k x)).toArray := by
    rw [lq6, ← ht, List.take_of_length_le (by simp; omega)]
  refine u9 (D6 (u5 (j6 (i8 (c7 rfl (d5 rfl (d8 (l5 ?_)))))))); exact ret1 gM rfl rfl rfl trivial (List.Sublist.refl _) trivial
 intro hg1; have hg1' := hg1; try simp at hg1'
end Go.Proofs.YtcdopfjiadifhaaGreatDoor
end
section
namespace Go.Proofs.YtcdopfjiadifhaaGreatDoor
open Go Go.W
set_option maxRecDepth 20000
attribute [local irreducible] HL HC HQ HB Row Rows2 Blk Facts
attribute [local irreducible] KC KL
theorem cz5 : ∀ {n : Nat} {l : List Nat}, l.Nodup → (∀ y ∈ l, y < n) → l.length ≤ n
  | 0, [], _, _ => Nat.le_refl _
  | 0, x :: l, _, h => by have := h x (by simp); omega
  | n + 1, l, hnd, h => by
    have h1 := cz5 (n := n) (hnd.erase n) fun y hy => by
      have h2 := (List.Nodup.mem_erase_iff hnd).1 hy; have h3 := h y h2.2; have := h2.1
      omega
    rw [List.length_erase] at h1
    split at h1 <;> omega
section
variable {n : Nat} {e : Edges} {h : Nat}
abbrev dAt (ds : List Int) (i : Nat) : Int := ds.getD i default
structure Bf (n : Nat) (e : Edges) (h : Nat) (ds : List Int) : Prop where
  len : ds.length = n
  lo : ∀ i, i < n → -1 ≤ dAt ds i
  at_ : ∀ i, i < n → 0 ≤ dAt ds i → reachB n e h (dAt ds i).toNat i = true ∧ ∀ m, m < (dAt ds i).toNat → reachB n e h m i = false
structure Bo (n : Nat) (e : Edges) (h : Nat) (k : Nat) (ds : List Int) (q : List Nat) : Prop where
  b : Bf n e h ds
  nd : q.Nodup
  inq : ∀ y ∈ q, y < n ∧ (dAt ds y = (k : Int) ∨ dAt ds y = (k : Int) + 1)
  srt : q.Pairwise fun a b => dAt ds a ≤ dAt ds b
  pr : ∀ i, i < n → 0 ≤ dAt ds i → i ∉ q → ∀ s, s < n → e i s = true → 0 ≤ dAt ds s
  lv : ∀ i, i < n → reachB n e h k i = true → 0 ≤ dAt ds i
structure Br (n : Nat) (e : Edges) (h : Nat) (k : Nat) (x : Nat) (ds : List Int) (q : List Nat) : Prop where
  b : Bf n e h ds
  hx : x < n
  dx : dAt ds x = (k : Int)
  nd : q.Nodup
  inq : ∀ y ∈ q, y < n ∧ (dAt ds y = (k : Int) ∨ dAt ds y = (k : Int) + 1)
  srt : q.Pairwise fun a b => dAt ds a ≤ dAt ds b
  pr : ∀ i, i < n → 0 ≤ dAt ds i → i ∉ q → i ≠ x → ∀ s, s < n → e i s = true → 0 ≤ dAt ds s
  lv : ∀ i, i < n → reachB n e h k i = true → 0 ≤ dAt ds i
theorem bf_le {ds : List Int} (hb : Bf n e h ds) {i m : Nat} (hi : i < n) (hr : reachB n e h m i = true) (h0 : 0 ≤ dAt ds i) : dAt ds i ≤ (m : Int) := by
  apply Classical.byContradiction
  intro hn; have := (hb.at_ i hi h0).2 m (by omega); rw [hr] at this; cases this
theorem bo_pop {k : Nat} {ds : List Int} {x : Nat} {q : List Nat} (H : Bo n e h k ds (x :: q)) : ∃ k', Br n e h k' x ds q := by
  obtain ⟨hx, hdx⟩ := H.inq x (by simp); have hs := List.pairwise_cons.1 H.srt; have hnd := List.nodup_cons.1 H.nd
  rcases hdx with hdx | hdx
  · refine ⟨k, H.b, hx, hdx, hnd.2, fun y hy => H.inq y (by simp [hy]), hs.2, fun i hi h0 hq hix => H.pr i hi h0 (by simp [hq, hix]), H.lv⟩
  refine ⟨k + 1, H.b, hx, by rw [hdx]; omega, hnd.2, fun y hy => ?_, hs.2, fun i hi h0 hq hix => H.pr i hi h0 (by simp [hq, hix]), fun i hi hr => ?_⟩
  · have h1 := H.inq y (by simp [hy])
    have h2 := hs.1 y hy; refine ⟨h1.1, .inl ?_⟩
    rcases h1.2 with h3 | h3 <;> omega
  rcases hC.1 hr with h1 | ⟨z, hz, hrz, hez⟩
  · exact H.lv i hi h1
  have hz0 := H.lv z hz hrz; have hzk := bf_le H.b hz hrz hz0; refine H.pr z hz hz0 (fun hm => ?_) i hi hez
  rcases List.mem_cons.1 hm with e1 | hm
  · subst e1; omega
  have := hs.1 z hm
  omega
theorem xX {ds : List Int} {i j : Nat} {v : Int} (hi : i < ds.length) : dAt (ds.set i v) j = if j = i then v else dAt ds j := by
  unfold dAt; rw [List.getD_eq_getElem?_getD, List.getElem?_set, List.getD_eq_getElem?_getD]
  by_cases e1 : i = j
  · subst e1; rw [if_pos rfl, if_pos rfl, if_pos hi]; rfl
  rw [if_neg e1, if_neg (fun e2 => e1 e2.symm)]
theorem br_put {k x i : Nat} {ds : List Int} {q : List Nat} (H : Br n e h k x ds q) (hi : i < n) (hei : e x i = true) (h0 : dAt ds i < 0) : Br n e h k x (ds.set i (dAt ds x + 1)) (q ++ [i]) ∧ q.length < n := by
  have hil : i < ds.length := by rw [H.b.len]; exact hi
  have hg : ∀ j, dAt (ds.set i (dAt ds x + 1)) j = if j = i then dAt ds x + 1 else dAt ds j := fun j => xX hil; have hge : ∀ j, ¬ j = i → dAt (ds.set i (dAt ds x + 1)) j = dAt ds j := fun j hj => by rw [hg, if_neg hj]
  have hgi : dAt (ds.set i (dAt ds x + 1)) i = (k : Int) + 1 := by rw [hg, if_pos rfl, H.dx]
  have hxi : ¬ x = i := fun e1 => by subst e1; have := H.dx; omega
  have hiq : i ∉ q := fun hm => by rcases (H.inq i hm).2 with h1 | h1 <;> omega
  have hqi : ∀ y ∈ q, ¬ y = i := fun y hy e1 => by subst e1; exact hiq hy
  have hnd : (q ++ [i]).Nodup := by
    rw [List.nodup_append]; exact ⟨H.nd, by simp, fun a ha b hb e1 => by rw [List.mem_singleton] at hb; subst hb; subst e1; exact hiq ha⟩
  have hrx := H.b.at_ x H.hx (by rw [H.dx]; omega); rw [H.dx, Int.toNat_natCast] at hrx
  have hni : reachB n e h k i = false := by
    cases hc : reachB n e h k i with
    | false => rfl
    | true => have := H.lv i hi hc; omega
  refine ⟨⟨⟨by rw [List.length_set]; exact H.b.len, fun j hj => ?_, fun j hj hj0 => ?_⟩, H.hx, by rw [hge x hxi]; exact H.dx, hnd, fun y hy => ?_, ?_, fun j hj hj0 hjq hjx s hs hes => ?_, fun j hj hr => ?_⟩, ?_⟩
  · by_cases e1 : j = i
    · subst e1; rw [hgi]; omega
    rw [hge j e1]; exact H.b.lo j hj
  · by_cases e1 : j = i
    · subst e1
      rw [hgi, show ((k : Int) + 1).toNat = k + 1 by omega]; refine ⟨hC.2 (.inr ⟨x, H.hx, hrx.1, hei⟩), fun m hm => ?_⟩
      cases hc : reachB n e h m j with
      | false => rfl
      | true => rw [mF (show m ≤ k by omega) hc] at hni; cases hni
    rw [hge j e1] at hj0 ⊢; exact H.b.at_ j hj hj0
  · rcases List.mem_append.1 hy with hy | hy
    · rw [hge y (hqi y hy)]; exact H.inq y hy
    rw [List.mem_singleton] at hy; subst hy; exact ⟨hi, .inr hgi⟩
  · rw [List.pairwise_append]
    refine ⟨H.srt.imp_of_mem fun {a b} ha hb hab => by rw [hge a (hqi a ha), hge b (hqi b hb)]; exact hab, by simp, fun a ha b hb => ?_⟩; rw [List.mem_singleton] at hb; subst hb; rw [hgi, hge a (hqi a ha)]
    rcases (H.inq a ha).2 with h1 | h1 <;> omega
  · have hji : ¬ j = i := fun e1 => hjq (by simp [e1])
    rw [hge j hji] at hj0; have := H.pr j hj hj0 (fun hm => hjq (by simp [hm])) hjx s hs hes
    by_cases e1 : s = i
    · subst e1; rw [hgi]; omega
    rw [hge s e1]; exact this
  · by_cases e1 : j = i
    · subst e1; rw [hgi]; omega
    rw [hge j e1]; exact H.lv j hj hr
  have h1 : (q ++ [i]).length ≤ n := cz5 hnd fun y hy => by
    rcases List.mem_append.1 hy with hy | hy
    · exact (H.inq y hy).1
    rw [List.mem_singleton] at hy; subst hy; exact hi
  rw [List.length_append, List.length_singleton] at h1
  omega
theorem br_k {k x : Nat} {ds : List Int} {q : List Nat} (hh : h < n) (H : Br n e h k x ds q) : k ≤ n := by
  have hr := H.b.at_ x H.hx (by rw [H.dx]; omega); rw [H.dx, Int.toNat_natCast] at hr
  apply Classical.byContradiction
  intro hn; have := hr.2 n (by omega); rw [iq2 hh H.hx hr.1] at this; cases this
theorem br_done {k x : Nat} {ds : List Int} {q : List Nat} (H : Br n e h k x ds q) (hd : ∀ s, s < n → e x s = true → 0 ≤ dAt ds s) : Bo n e h k ds q :=
  ⟨H.b, H.nd, H.inq, H.srt, fun i hi h0 hq s hs hes => by
    by_cases e1 : i = x
    · subst e1; exact hd s hs hes
    exact H.pr i hi h0 hq e1 s hs hes, H.lv⟩
theorem bo_end {k : Nat} {ds : List Int} (hh : h < n) (H : Bo n e h k ds []) (h0 : dAt ds h = 0) : ds = (List.range n).map fun i => distI n e h i := by
  have hall : ∀ m i, i < n → reachB n e h m i = true → 0 ≤ dAt ds i := by
    intro m
    induction m with
    | zero => intro i hi hr; rw [reachB] at hr; rw [of_decide_eq_true hr, h0]; omega
    | succ m ih =>
      intro i hi hr
      rcases hC.1 hr with h1 | ⟨z, hz, hrz, hez⟩
      · exact ih i hi h1
      exact H.pr z hz (ih z hz hrz) (by simp) i hi hez
  refine List.ext_getElem (by rw [H.b.len, List.length_map, List.length_range]) fun i hi hi2 => ?_; rw [H.b.len] at hi; rw [List.getElem_map, List.getElem_range, ← A7]; have hlo := H.b.lo i hi; unfold distI
  cases hd : distB n e h i with
  | none =>
    have hr := rx7.1 hd; show dAt ds i = -1
    apply Classical.byContradiction
    intro hn; have h1 := (H.b.at_ i hi (by omega)).1; have h2 := hr n (Nat.le_refl _); rw [iq2 hh hi h1] at h2; cases h2
  | some s =>
    have hr := rx6.1 hd; show dAt ds i = (s : Int); have h1 := hall s i hi hr.2.1; have h2 := bf_le H.b hi hr.2.1 h1; have h3 := (H.b.at_ i hi h1).1
    apply Classical.byContradiction
    intro hn; have h4 := hr.2.2 (dAt ds i).toNat (by omega); rw [h3] at h4; cases h4
theorem uq3 (hh : h < n) : Bo n e h 0 ((List.replicate n (-1 : Int)).set h 0) [h] := by
  have hg : ∀ j, dAt ((List.replicate n (-1 : Int)).set h 0) j = if j = h then 0 else dAt (List.replicate n (-1 : Int)) j := fun j => xX (by rw [List.length_replicate]; exact hh)
  have hm : ∀ j, j < n → ¬ j = h → dAt ((List.replicate n (-1 : Int)).set h 0) j = -1 := fun j hj e1 => by
    rw [hg, if_neg e1]; unfold dAt; rw [List.getD_eq_getElem?_getD, List.getElem?_replicate, if_pos hj]; rfl
  have h0 : dAt ((List.replicate n (-1 : Int)).set h 0) h = 0 := by rw [hg, if_pos rfl]
  refine ⟨⟨by simp, fun j hj => ?_, fun j hj hj0 => ?_⟩, by simp, fun y hy => ?_, by simp, fun i hi hi0 hq => ?_, fun i hi hr => ?_⟩
  · by_cases e1 : j = h
    · subst e1; rw [h0]; omega
    rw [hm j hj e1]; omega
  · by_cases e1 : j = h
    · subst e1; rw [h0]; exact ⟨by simp [reachB], fun m hm => by simp at hm⟩
    rw [hm j hj e1] at hj0; omega
  · rw [List.mem_singleton] at hy; subst hy; exact ⟨hh, .inl h0⟩
  · by_cases e1 : i = h
    · subst e1; exact absurd (List.mem_singleton.2 rfl) hq
    rw [hm i hi e1] at hi0; omega
  rw [reachB] at hr; rw [of_decide_eq_true hr, h0]; omega
end
theorem zv_int (w : World) : (zeroValue T.int).run Tryz.prog w = .ok (int 0) w := by kernel_rfl
theorem qq0 (l : List Int) (k : Nat) (v : Int) : (rows l).toArray.setIfInBounds (0 + k * 1) (int v) = (rows (l.set k v)).toArray := by
  rw [← zG rfl (int v) v rfl]
  simp
theorem yQ (l : List Int) : (rows l).toArray.toList.take (l.length * 1) = rows l := by
  have h1 : (rows l).length = l.length := by rw [V8]; exact Nat.mul_one _
  rw [List.take_of_length_le (by simp [h1])]
theorem cnt_set {l : List Int} {i : Nat} {v : Int} (hi : i < l.length) (h : l.getD i default < 0) (hv : 0 ≤ v) : (l.set i v).countP (fun z => decide (z < 0)) + 1 = l.countP fun z => decide (z < 0) := by
  rw [A7 hi] at h; rw [List.countP_set hi]; have h1 : 0 < l.countP fun z => decide (z < 0) := List.countP_pos_iff.2 ⟨l[i], List.getElem_mem hi, by simpa using h⟩; rw [if_pos (by simpa using h), if_neg (by simpa using hv)]
  omega
set_option maxHeartbeats 2000000 in
theorem lO {A B oa ka : Option Addr} {ca cb oc kc gl : Nat} (cs : List Cl) (hs : List Hd) (h : Nat) (hok : TrOK (trOf cs hs)) (hh : h < hs.length) : Meets Tryz.prog F.bD [.pointer (c8 gl), int h] { LI := [Row (c8 gl) [.slice A cs.length ca, .slice B hs.length cb, .slice oa cs.length oc, .slice ka hs.length kc], Row ka (rows (kindsN hs hs.length)), RowsF B hs Hd.row], inv := fun x : OutC => (stepsT (trOf cs hs) (h : Int)).length ≤ x.2, val := fun x => .slice x.1 (stepsT (trOf cs hs) (h : Int)).length x.2, LO := fun x => [Row x.1 (rows (stepsT (trOf cs hs) (h : Int)))] } := by
 refine jz8 F.tZ rfl r6 fun w0 => ?_; refine Q5 (I7 (d5 rfl (d4 (J5 (Q5 ?_))))); have h6h := hok.h6; have hln := W1 cs hs; rw [hln] at h6h; refine I7 ?_; refine q7 _ rfl rfl (fun _ => T.Z7 ..) fun gS => ?_; refine c7 rfl (p9 rfl rfl ?_)
 first | refine a9 ⟨_, 3, none⟩ rfl rfl T.w6 rfl ?_ | refine a9 _ rfl rfl T.w6 rfl ?_
 first | refine b8 rfl T.p7 rfl (j0 mB rfl) ?_ | refine b8 rfl T.p7 rfl (j3 mB rfl) ?_ | refine b8 rfl T.p7 rfl (d6 mB (c9 (by omega) rfl)) ?_ | refine b8 rfl T.p7 rfl (d7 mB (rows_get (by omega) rfl)) ?_ | refine b8 rfl T.p7 rfl (j5 mB rfl) ?_
 refine l7 rfl T.gK rfl (C6 (rows [(-1 : Int)]) ⟨[], List.append_nil _⟩ ?_); refine k5 F.pF rfl rfl (jO (-1) hs.length (by omega) h6h) p6 mC fun g5 _ => ?_; refine d5 rfl (d4 (J5 (Q5 (I7 (c7 rfl (c7 rfl ?_)))))); refine y0 h (0 + h * 1) rfl T.t7 T.w9 rfl rfl rfl hh rfl ?_; refine z9 rfl rfl (.refl _) T.w9 (jx8 rfl (yQ (List.replicate hs.length (-1))) (by rw [List.length_replicate]; exact hh) (by omega) rfl) (by rfl) ?_; rw [qq0]; refine d4 (J5 (Q5 (I7 (c7 rfl (p9 rfl rfl ?_)))))
 first | refine a9 ⟨_, 3, none⟩ rfl rfl T.w6 rfl ?_ | refine a9 _ rfl rfl T.w6 rfl ?_
 first | refine b8 rfl T.p7 rfl (j0 mB rfl) ?_ | refine b8 rfl T.p7 rfl (j3 mB rfl) ?_ | refine b8 rfl T.p7 rfl (d6 mB (c9 (by omega) rfl)) ?_ | refine b8 rfl T.p7 rfl (d7 mB (rows_get (by omega) rfl)) ?_ | refine b8 rfl T.p7 rfl (j5 mB rfl) ?_
 refine l7 rfl T.gK rfl ?_; obtain ⟨ii, zz, hii, _, _, hby, _⟩ := T.cj3.i; refine uK (n := hs.length) rfl Tryz.underlying183 hii rfl (by omega) (by rw [hby]; omega) fun gC => ?_; refine d5 rfl (d4 (J5 (Q5 (kj1 ?_)))); show KL _ _ _ [0, 1, 2] _ _ _; refine xL rfl rfl rfl (xL rfl rfl rfl ?_); refine pz6 (buf := []) rfl rfl rfl p6 (by simp; omega) ?_; refine nx9 (J5 (Q5 (Q5 (I7 (d5 rfl (d4 (J5 (xP ?_)))))))); refine pz7 (β := Nat × List Int × List Nat × Nat × Nat) ⟨fun x => Bo hs.length (nextB (trOf cs hs)) h x.1 x.2.1 x.2.2.1 ∧ dAt x.2.1 h = 0, fun x => [(0, .pointer (c8 gl)), (5, .slice (c8 g5) hs.length hs.length), (6, .chan (some gC)), (7, int x.2.2.1.length)], fun x => [(gC, chanO hs.length (x.2.2.1.map fun y : Nat => int (y : Int)) x.2.2.2.1 x.2.2.2.2), (g5, Obj.cells (rows x.2.1).toArray T.int (0, 0))], fun _ => [Row (c8 gl) [.slice A cs.length ca, .slice B hs.length cb, .slice oa cs.length oc, .slice ka hs.length kc], Row ka (rows (kindsN hs hs.length)), RowsF B hs Hd.row]⟩ (fun x => 2 * x.2.1.countP (fun z => decide (z < 0)) + x.2.2.1.length) (0, (List.replicate hs.length (-1 : Int)).set h 0, [h], 1, 0) ⟨uq3 hh, by rw [xX (by rw [List.length_replicate]; exact hh), if_pos rfl]⟩ mC (List.Sublist.refl _) mC fun x hx => ?_; obtain ⟨k, ds, q, s, r⟩ := x; obtain ⟨hB, hd0⟩ := hx; simp only at hB hd0; refine Q5 (Q5 (I7 (c7 rfl (R0 rfl rfl rfl (d4 (J5 ?_))))))
 first | refine tx0 rfl (fun hb1 => ?_) (fun hb1 => ?_) | refine bz9 rfl (fun hb1 => ?_) (fun hb1 => ?_)
 ·have hb1' := hb1; try simp at hb1'
  obtain ⟨x, q, rfl⟩ : ∃ x q', q = x :: q' := by
    cases q with
    | nil => simp at hb1
    | cons x q => exact ⟨x, q, rfl⟩
  obtain ⟨k, hR⟩ := bo_pop hB; clear hB; have hx := hR.hx; have hin := next_in hok hx; have hnle := tq0 hok hx; have hnb := fun k => lz5 hok hx k; generalize hnl : nextL (hs.getD x default) = nl at hin hnle hnb; refine kj0 (J5 (Q5 (xP (Q5 (kj1 ?_))))); show KL _ _ _ [0, 1, 2] _ _ _; refine xL rfl rfl rfl ?_; refine kl_recv (v := int x) (buf := q.map fun y : Nat => int (y : Int)) rfl rfl Tryz.underlying183 zv_int rfl p6 ?_; refine rj7 rfl rfl rfl (nx9 (J5 (Q5 (I7 (c7 rfl (p9 rfl rfl ?_))))))
  first | refine a9 ⟨_, 3, none⟩ rfl rfl T.w6 rfl ?_ | refine a9 _ rfl rfl T.w6 rfl ?_
  first | refine b8 rfl T.p7 rfl (j0 mB rfl) ?_ | refine b8 rfl T.p7 rfl (j3 mB rfl) ?_ | refine b8 rfl T.p7 rfl (d6 mB (c9 (by omega) rfl)) ?_ | refine b8 rfl T.p7 rfl (d7 mB (rows_get (by omega) rfl)) ?_ | refine b8 rfl T.p7 rfl (j5 mB rfl) ?_
  refine c7 rfl ?_; refine v6 (α := Kd) (kindsN hs hs.length) x rfl T.gK T.gq8 rfl rfl rfl mB (sL (Nat.le_refl _)).symm (by rw [sL (Nat.le_refl _)]; exact hx) (by decide) ?_; refine b8 (v := (kindOf (hs.getD x default)).v) rfl T.bx0 rfl (d6 mB (by rw [← tq9 hx]; exact c9 (by rw [sL (Nat.le_refl _)]; exact hx) rfl)) ?_; refine rq3 (p := hs.getD x default) mB (w7 hx) ?_; refine r_next rfl rfl rfl m0 fun o => ?_; rw [hnl]; refine l7 rfl T.t7 rfl ?_; refine c7 rfl (d4 (J5 (xP ?_))); refine pz7 (β := Nat × List Int × List Nat × Nat × Nat) ⟨fun y => y.1 ≤ nl.length ∧ Br hs.length (nextB (trOf cs hs)) h k x y.2.1 y.2.2.1 ∧ (∀ i, i < y.1 → 0 ≤ dAt y.2.1 (nl.getD i default).toNat) ∧ dAt y.2.1 h = 0 ∧ 2 * y.2.1.countP (fun z => decide (z < 0)) + y.2.2.1.length < 2 * ds.countP (fun z => decide (z < 0)) + (x :: q).length, fun y => [(0, .pointer (c8 gl)), (5, .slice (c8 g5) hs.length hs.length), (6, .chan (some gC)), (7, int (y.2.2.1.length + 1 : Nat)), (8, int x), (42, .slice o.1 nl.length o.2), (43, int nl.length), (44, int y.1)], fun y => [(gC, chanO hs.length (y.2.2.1.map fun y : Nat => int (y : Int)) y.2.2.2.1 y.2.2.2.2), (g5, Obj.cells (rows y.2.1).toArray T.int (0, 0))], fun _ => Row o.1 (rows nl) :: [Row (c8 gl) [.slice A cs.length ca, .slice B hs.length cb, .slice oa cs.length oc, .slice ka hs.length kc], Row ka (rows (kindsN hs hs.length)), RowsF B hs Hd.row]⟩ (fun y => nl.length - y.1) (0, ds, q, s, r + 1) ⟨Nat.zero_le _, hR, fun i hi => by omega, hd0, by show 2 * ds.countP (fun z => decide (z < 0)) + q.length < 2 * ds.countP (fun z => decide (z < 0)) + (x :: q).length; rw [List.length_cons]; omega⟩ mC (List.Sublist.refl _) mC fun y hy => ?_; generalize 2 * ds.countP (fun z => decide (z < 0)) + (x :: q).length = M at hy ⊢; clear hR hd0; obtain ⟨j, ds, q, s, r⟩ := y; obtain ⟨hj, hR, hdn, hd0, hM⟩ := hy; simp only at hj hR hdn hd0 hM; have hdl := hR.b.len; have hqn := cz5 hR.nd fun y hy => (hR.inq y hy).1; have hdx := hR.dx; have hkn := br_k hh hR; refine Q5 (I7 (B6 rfl rfl rfl (d4 (J5 (Q5 ?_)))))
  first | refine tx0 rfl (fun hb2 => ?_) (fun hb2 => ?_) | refine bz9 rfl (fun hb2 => ?_) (fun hb2 => ?_)
  ·have hb2' := hb2; try simp at hb2'
   have hj2 : j < nl.length := by omega
   have hij := hin _ (w7 hj2); obtain ⟨i, hi⟩ := Int.eq_ofNat_of_zero_le hij.1; have hil : i < hs.length := by omega
   refine kj0 (J5 (Q5 (xP (Q5 (I7 ?_))))); refine v6 (α := Int) nl j rfl T.t7 T.w9 rfl rfl rfl mB rfl hj2 (by decide) ?_; refine b8 (v := int (i : Int)) rfl T.b9 rfl (d6 mB (c9 hj2 (by rw [← hi]; rfl))) ?_; refine d5 rfl (d4 (J5 (Q5 (I7 (c7 rfl (c7 rfl ?_)))))); refine y0 i (0 + i * 1) rfl T.t7 T.w9 rfl rfl rfl hil rfl ?_; refine b8 (v := int (dAt ds i)) rfl T.b9 rfl (j0 mB (jx8 rfl (yQ ds) (by rw [hdl]; exact hil) (by omega) rfl)) ?_; refine B6 rfl rfl rfl (d4 (J5 ?_))
   first | refine tx0 rfl (fun hb3 => ?_) (fun hb3 => ?_) | refine bz9 rfl (fun hb3 => ?_) (fun hb3 => ?_)
   ·have hb3' := hb3; try simp at hb3'
    obtain ⟨hR2, hql⟩ := br_put hR hil (by rw [hnb i, decide_eq_true_eq, ← hi]; exact w7 hj2) hb3; have hc2 := cnt_set (v := dAt ds x + 1) (by rw [hdl]; exact hil) hb3 (by rw [hdx]; omega); refine Q5 (I7 (c7 rfl (c7 rfl (c7 rfl (c7 rfl ?_))))); refine y0 x (0 + x * 1) rfl T.t7 T.w9 rfl rfl rfl hx rfl ?_; refine b8 (v := int (dAt ds x)) rfl T.b9 rfl (j0 mB (jx8 rfl (yQ ds) (by rw [hdl]; exact hx) (by omega) rfl)) ?_; refine v4 _ rfl rfl rfl rfl r5 (y0 i (0 + i * 1) rfl T.t7 T.w9 rfl rfl rfl hil rfl ?_); refine z9 rfl rfl (.swap _ _ _) T.w9 (jx8 rfl (yQ ds) (by rw [hdl]; exact hil) (by omega) rfl) (by rfl) ?_; rw [qq0]; refine d4 (J5 (Q5 (kj1 ?_))); show KL _ _ _ [0, 1, 2] _ _ _; refine xL rfl rfl rfl (xL rfl rfl rfl ?_); refine pz6 (buf := q.map fun y : Nat => int (y : Int)) rfl rfl rfl (.swap _ _ _) (by rw [List.length_map]; exact hql) ?_; refine nx9 (J5 (I7 (c7 rfl ?_))); refine v4 ((q.length : Int) + 2) rfl rfl rfl (by show ((q.length + 1 : Nat) : Int) + 1 = _; omega) r5 ?_; refine d5 rfl (d4 (y6 (J5 (I7 ?_)))); refine v4 _ rfl rfl rfl rfl r5 ?_; refine c7 rfl (d4 ?_); exact again _ (j + 1, ds.set i (dAt ds x + 1), q ++ [i], s + 1, r) ⟨by show j + 1 ≤ nl.length; omega, hR2, fun p hp => by show 0 ≤ dAt (ds.set i (dAt ds x + 1)) _; rw [xX (by rw [hdl]; exact hil)]; split; omega; exact hdn p (by rename_i hne; rcases Nat.lt_or_ge p j with h1 | h1; exact h1; exact absurd (by rw [show p = j by omega, hi]; rfl) hne), by show dAt (ds.set i (dAt ds x + 1)) h = 0; rw [xX (by rw [hdl]; exact hil), if_neg (fun e1 => by subst e1; omega)]; exact hd0, by show 2 * (ds.set i (dAt ds x + 1)).countP (fun z => decide (z < 0)) + (q ++ [i]).length < M; rw [List.length_append, List.length_singleton]; omega⟩ (D5 (by omega)) ⟨rfl, rfl, rfl, congrArg (fun z : Int => some (int z)) (by show (q.length : Int) + 2 = (((q ++ [i]).length + 1 : Nat) : Int); rw [List.length_append, List.length_singleton]; omega), rfl, rfl, rfl, rfl, trivial⟩ (by show List.Sublist [(gC, chanO hs.length ((q ++ [i]).map fun y : Nat => int (y : Int)) (s + 1) r), (g5, Obj.cells (rows (ds.set i (dAt ds x + 1))).toArray T.int (0, 0))] _; rw [List.map_append]; exact List.Sublist.refl _) mC
   have hb3' := hb3; try simp at hb3'
   skip
   refine kj0 (y6 (J5 (I7 ?_))); refine v4 _ rfl rfl rfl rfl r5 ?_; refine c7 rfl (d4 ?_); exact again _ (j + 1, ds, q, s, r) ⟨by show j + 1 ≤ nl.length; omega, hR, fun p hp => by rcases Nat.lt_or_ge p j with h1 | h1; exact hdn p h1; rw [show p = j by omega, hi]; exact Int.not_lt.1 hb3, hd0, hM⟩ (D5 (by omega)) mC (List.Sublist.refl _) mC
  have hb2' := hb2; try simp at hb2'
  obtain rfl : j = nl.length := by omega
  have hB := br_done hR fun t ht het => by
    rw [hnb t, decide_eq_true_eq] at het; obtain ⟨p, hp, he⟩ := List.getElem_of_mem het; have h1 := hdn p hp; rw [A7 hp, he, Int.toNat_natCast] at h1; exact h1
  refine pz8 (D6 (u5 (y6 (J5 (I7 (c7 rfl ?_)))))); refine S1 (q.length : Int) rfl rfl rfl (by show ((q.length + 1 : Nat) : Int) - 1 = _; omega) r5 ?_; refine d5 rfl (d4 ?_); exact again _ (k, ds, q, s, r) ⟨hB, hd0⟩ hM mC (List.Sublist.refl _) mC
 have hb1' := hb1; try simp at hb1'
 have hq0 : q = [] := by
   cases q with
   | nil => rfl
   | cons x q => exact absurd hb1 (by simp)
 subst hq0; have hE := bo_end hh hB hd0; refine pz8 (D6 (u5 (J5 (Q5 (I7 (c7 rfl (d5 rfl (d4 (J5 (kc_ret ?_)))))))))); have hE2 : ds = (stepsT (trOf cs hs) (h : Int)) := by rw [hE]; unfold stepsT; rw [hln]; try rfl
 have hle : (stepsT (trOf cs hs) (h : Int)).length = hs.length := by rw [← hE2]; exact hB.b.len
 refine R8 (.swap _ _ _) (E5 (rows ds) ⟨[], List.append_nil _⟩ ?_); exact ret1 (some ⟨g5, 0, none⟩, hs.length) rfl (by show some (Value.slice _ hs.length hs.length) = some (Value.slice _ (stepsT (trOf cs hs) (h : Int)).length hs.length); rw [hle]) rfl (by show (stepsT (trOf cs hs) (h : Int)).length ≤ hs.length; rw [hle]; exact Nat.le_refl _) nil_sb (by rw [← hE2]; exact ⟨m0, trivial⟩)
end Go.Proofs.YtcdopfjiadifhaaGreatDoor
end
section
namespace Go.Proofs.YtcdopfjiadifhaaGreatDoor
open Go Go.W
set_option maxRecDepth 20000
attribute [local irreducible] HL HC HQ HB Row Rows2 Blk Facts
def stepsE (t : Tr) (h : Int) : List Int × Int := if ¬ askE t [h] = 0 then ([], askE t [h]) else (stepsT t h, 0)
def hiB (t : Tr) (h s : Int) (i : Nat) : Bool := isTrB t (i : Int) && !decide (0 ≤ (stepsT t h).getD i default ∧ (stepsT t h).getD i default ≤ s)
def hiK (t : Tr) (h s : Int) (k : Nat) : List Int := ((List.range k).filter (hiB t h s)).map fun i : Nat => (i : Int)
def hiddenT (t : Tr) (h s : Int) : List Int := hiK t h s t.hs.length
def hiddenE (t : Tr) (h s : Int) : List Int × Int := if ¬ askE t [h] = 0 then ([], askE t [h]) else if 0 ≤ s ∧ s ≤ 6 then (hiddenT t h s, 0) else ([], 1)
theorem ij3 (t : Tr) (h : Int) : (stepsT t h).length = t.hs.length := by unfold stepsT; rw [List.length_map, List.length_range]
theorem wN {A B : Option Addr} {ca cb : Nat} (cs : List Cl) (hs : List Hd) (h : Int) (hca : cs.length ≤ ca) (hcb : hs.length ≤ cb) (ha : ∀ h ∈ hs, h.2.2.2.l.length ≤ 1000000) : Meets Tryz.prog F.pY [.agg #[.slice A cs.length ca, .slice B hs.length cb], int h] { LI := [Row A (rows cs), RowsF B hs Hd.row], inv := fun x : OutC => (stepsE (trOf cs hs) h).1.length ≤ x.2, val := fun x => .tuple #[.slice x.1 (stepsE (trOf cs hs) h).1.length x.2, int (stepsE (trOf cs hs) h).2], LO := fun x => [Row x.1 (rows (stepsE (trOf cs hs) h).1)] } := by
 refine i9 F.gq6 rfl r6 fun w0 => ?_; refine i8 ?_; refine H6 rfl rfl fun gB => ?_; refine d5 rfl (d5 rfl (d8 ?_)); refine mT ⟨fun _ : Nat × OutC × OutC => True, fun x => [(1, int h), (2, .pointer (c8 gB)), (6, if askE (trOf cs hs) [h] = 0 then .pointer (some ⟨x.1, 0, none⟩) else .pointer none), (7, int (askE (trOf cs hs) [h]))], fun _ => [(gB, .cells #[.slice A cs.length ca, .slice B hs.length cb] T.C2 (0, 0))], fun x => (if askE (trOf cs hs) [h] = 0 then beginL cs hs A ca B cb x else []) ++ [Row A (rows cs), RowsF B hs Hd.row]⟩ ?_ ?_
 ·skip
  refine j8 ?_
  first | refine B5 rfl T.v5 T.v9 rfl mB (by rfl) ?_ | refine C1 rfl T.v5 T.v9 rfl mB (by rfl) ?_ | refine u7 rfl T.v5 T.v9 rfl rfl (t5 mB (t9 (by omega))) ?_
  refine c7 rfl ?_; refine q7 _ rfl rfl (fun _ => T.Z7 ..) fun gS => ?_; refine C6 (rows [h]) (List.prefix_refl _) ?_; refine k5 F.jj8 rfl rfl (bj3 cs hs [h] hca hcb ha (by simp)) p6 mC fun x _ => ?_; refine c7 rfl (p8 rfl rfl rfl (p8 rfl rfl rfl (d5 rfl (d5 rfl (d4 ?_))))); exact Y0 _ x trivial mC (List.Sublist.refl _) (LSub.of_mem fun F hF => (List.mem_append.1 hF).elim (fun h1 => List.mem_append_left _ h1) (fun h2 => List.mem_append_right _ (List.mem_cons_of_mem _ h2)))
 refine fun x _ => ?_
 dsimp only
 refine j4 (i8 (c7 rfl (N5 rfl rfl rfl (d8 ?_))))
 first | refine m3 rfl (fun hb1 => ?_) (fun hb1 => ?_) | refine j7 rfl (fun hb1 => ?_) (fun hb1 => ?_)
 ·have hb1' := hb1; try simp at hb1'
  have hE : stepsE (trOf cs hs) h = ([], askE (trOf cs hs) [h]) := by rw [stepsE, if_pos hb1]
  refine i8 (c7 rfl (d5 rfl (d5 rfl (d8 (N4 ?_))))); refine C3 (α := Int) ?_; exact ret2 (none, 0) rfl rfl rfl (by show Value.tuple #[.slice none (stepsE (trOf cs hs) h).1.length 0, int (stepsE (trOf cs hs) h).2] = _; rw [hE]; rfl) rfl (by show (stepsE (trOf cs hs) h).1.length ≤ 0; rw [hE]; exact Nat.le_refl _) nil_sb (by show LSub _ [Row none (rows (stepsE (trOf cs hs) h).1)]; rw [hE]; exact ⟨m0, trivial⟩)
 have hb1' := hb1; try simp at hb1'
 have h0 := Classical.not_not.1 hb1; rw [if_pos h0, if_pos h0]; have hch := iz8 h0; have hin := ask_in h0 (List.mem_singleton.2 rfl); rw [W1] at hin; obtain ⟨i, hi⟩ := Int.eq_ofNat_of_zero_le hin.1; have hok := pq5 hch; have h6 : cs.length ≤ 6 := hok.c6; have h6h := hok.h6; rw [W1] at h6h; have hcl : ∀ i, i < cs.length → ClsOK cs i := hok.c; obtain ⟨gl, ⟨oa, oc⟩, ⟨ka, kc⟩⟩ := x; have hln := W1 cs hs; show HC _ _ _ _ _ [Row (c8 gl) [.slice A cs.length ca, .slice B hs.length cb, .slice oa cs.length oc, .slice ka hs.length kc], Row oa (rows (masksN cs cs.length)), Row ka (rows (kindsN hs hs.length)), Row A (rows cs), RowsF B hs Hd.row]; refine k6 (j6 (i8 (c7 rfl (c7 rfl ?_)))); have hE : stepsE (trOf cs hs) h = (stepsT (trOf cs hs) h, 0) := by rw [stepsE, if_neg hb1]
 subst hi; refine k5 F.sU rfl rfl (lO (A := A) (B := B) (oa := oa) (ka := ka) (ca := ca) (cb := cb) (oc := oc) (kc := kc) (gl := gl) cs hs i hok (by omega)) p6 mC fun y hy => ?_; refine d5 rfl (d5 rfl (d8 (l5 ?_))); exact ret2 y rfl rfl rfl (by show Value.tuple #[.slice y.1 (stepsE (trOf cs hs) (i : Int)).1.length y.2, int (stepsE (trOf cs hs) (i : Int)).2] = _; rw [hE]) rfl (by show (stepsE (trOf cs hs) (i : Int)).1.length ≤ y.2; rw [hE]; exact hy) nil_sb (by show LSub _ [Row y.1 (rows (stepsE (trOf cs hs) (i : Int)).1)]; rw [hE]; exact ⟨m0, trivial⟩)
end Go.Proofs.YtcdopfjiadifhaaGreatDoor
end
section
namespace Go.W
open Go Go.Conc
open Go.ConcN (sumTo upd sumTo_upd upd_ne upd_same)
structure Ph where
  P : Program
  W : World
  F : Nat
  Lf : Nat
  o : Nat
  N : Nat
  v : Nat → Value
  z : Value
  BW : Nat
  BC : Nat
abbrev Hq := List (Nat × Obj)
def Held (hp : Hq) (w : World) : Prop := ∀ q ∈ hp, w.heap[q.1]? = some q.2
structure Sur (p : Ph) (w : World) : Prop where
  os : w.os = p.W.os
  tape : w.tape = p.W.tape
  output : w.output = p.W.output
  size : p.W.heap.size ≤ w.heap.size
  block : ∀ k, k < p.W.heap.size → k ≠ p.F → k ≠ p.Lf → k ≠ p.o → w.heap[k]? = p.W.heap[k]?
def blk : Loc → Option Nat
  | .cell a => some a.block
  | .obj r => some r
  | _ => none
theorem blk_mem {l : Loc} (h : l.isMemory = true) : ∃ k, blk l = some k := by
  cases l <;> first | exact ⟨_, rfl⟩ | cases h
def RdT (p : Ph) (k : Nat) : Prop := k < p.W.heap.size ∧ k ≠ p.o
def Has (hp : Hq) (k : Nat) : Prop := ∃ q ∈ hp, q.1 = k
def EvIn (p : Ph) (hp : Hq) (e : Event) : Prop :=
  Calm e ∧ ∀ x, (MemAct.ofEvent e).touch? = some x → x.loc.isMemory = true → ∀ k, blk x.loc = some k → (x.write = false ∧ RdT p k) ∨ Has hp k
structure Trn (w w' : World) (hp hp' : Hq) : Prop where
  os : w'.os = w.os
  tape : w'.tape = w.tape
  output : w'.output = w.output
  size : w.heap.size ≤ w'.heap.size
  keep : ∀ k, k < w.heap.size → ¬ Has hp k → w'.heap[k]? = w.heap[k]?
  held : Held hp' w'
  new : ∀ q ∈ hp', Has hp q.1 ∨ w.heap.size ≤ q.1
inductive Pr where
  | send1 (j : Nat)
  | send2
  | recv (k : Nat)
  | close
def nxt : Nat → Pr
  | 0 => .close
  | k + 1 => .recv k
def Fol (p : Ph) : Nat → Pr → Frame → List Frame → Hq → Prop
  | 0, _, _, _, _ => False
  | B + 1, pr, fr, cs, hp => ∀ w, Sur p w → Held hp w →
      (∃ fr' cs' w' es hp', stepG p.P false (G fr cs) w = .go (G fr' cs') w' es ∧ (∀ e ∈ es, EvIn p hp e) ∧ Trn w w' hp hp' ∧ Fol p B pr fr' cs' hp') ∨
      (match pr with
       | .send1 j => ∃ zz, stepG p.P false (G fr cs) w = .comm (G fr cs) #[scase p.F (p.v j) zz] true .send w #[] ∧ Fol p B .send2 (fr.finish undef) cs hp
       | .send2 => ∃ zz, stepG p.P false (G fr cs) w = .comm (G fr cs) #[scase p.Lf (.bool true) zz] true .send w #[] ∧ QuitsD p.P B 0 (G (fr.finish undef) cs)
       | .recv k => ∃ zz, stepG p.P false (G fr cs) w = .comm (G fr cs) #[rcase p.Lf zz] true (.recv false) w #[] ∧
           Fol p B (nxt k) (fr.finish (.bool true)) cs hp
       | .close => mayWake p.P (G fr cs) = true ∧ ∃ fr' cs', (∀ s tm, w.heap[p.F]? = some (.chan 0 #[] false s s tm) → stepG p.P false (G fr cs) w = .go (G fr' cs') (w.setChan p.F 0 #[] true s s tm) (closeEvents p.F)) ∧ QuitsD p.P B 0 (G fr' cs'))
inductive Ms where
  | sp (j : Nat)
  | ga (R : List Nat)
def FolM (p : Ph) (Goal : Goroutine → World → Prop) : Nat → Ms → Frame → List Frame → Hq → Prop
  | 0, _, _, _, _ => False
  | B + 1, ms, fr, cs, hp => ∀ w, Sur p w → Held hp w →
      (∃ fr' cs' w' es hp', stepG p.P true (G fr cs) w = .go (G fr' cs') w' es ∧ (∀ e ∈ es, EvIn p hp e) ∧ Trn w w' hp hp' ∧ FolM p Goal B ms fr' cs' hp') ∨
      (match ms with
       | .sp j => ∃ fr' cs' fc h1 h2, stepG p.P true (G fr cs) w = .spawn (G fr' cs') (G fc []) w #[] ∧
           (∀ q ∈ h1, q ∈ hp) ∧ (∀ q ∈ h2, q ∈ hp) ∧ (∀ k, Has h1 k → ¬ Has h2 k) ∧ (∀ q ∈ h1, p.W.heap.size ≤ q.1) ∧
           ((j < p.N ∧ Fol p p.BW (.send1 j) fc [] h1 ∧ FolM p Goal B (.sp (j + 1)) fr' cs' h2) ∨
            (j = p.N ∧ Fol p p.BC (nxt p.N) fc [] h1 ∧ FolM p Goal B (.ga (List.range p.N)) fr' cs' h2))
       | .ga R => stepG p.P true (G fr cs) w = .comm (G fr cs) #[rcase p.F p.z] true (.recv true) w #[] ∧
           (∀ j ∈ R, FolM p Goal B (.ga (R.erase j)) (fr.finish (.tuple #[p.v j, .bool true])) cs hp) ∧
           (R = [] → ∀ w', Sur p w' → Held hp w' → Co p.P (G (fr.finish (.tuple #[p.z, .bool false])) cs) w' Goal))
/-! ### The trace -/
structure TI (p : Ph) (t : Trace) (τ n : Nat) (own : Nat → Nat → Prop) (live : Nat → Prop) : Prop where
  τle : τ ≤ t.size
  clean : ∀ said, ¬ Race said t
  pre : ∀ g, live g → ∀ i a, i < τ → touchAt t i = some a → a.loc.isMemory = true → Knows t g i
  own_ : ∀ g k, own g k → ∀ i a, τ ≤ i → touchAt t i = some a → blk a.loc = some k → Knows t g i
  rd : ∀ i a k, τ ≤ i → touchAt t i = some a → a.write = true → blk a.loc = some k → ¬ RdT p k
  low : ∀ i a k, τ ≤ i → touchAt t i = some a → blk a.loc = some k → k < n
  hears : ∀ g, live g → Deaf t g = 0
def Mild (u : Trace) : Prop := ∀ op ∈ u, op.act.touch? = none ∧ op.act ≠ .mark .disable ∧ op.act ≠ .mark .enable
theorem W8 {t u : Trace} (hu : ∀ op ∈ u, op.act ≠ .mark .disable ∧ op.act ≠ .mark .enable) (g : Nat) : Deaf (t ++ u) g = Deaf t g := by
  obtain ⟨l⟩ := u; rw [Deaf_append]
  have : ∀ (l : List MemOp) d, (∀ op ∈ l, op.act ≠ .mark .disable ∧ op.act ≠ .mark .enable) → l.foldl (deafStep g) d = d := by
    intro l
    induction l with
    | nil => intro d _; rfl
    | cons y l ih =>
      intro d hl; have hy := hl y (by simp)
      have e1 : deafStep g d y = d := by
        unfold deafStep
        split
        · rename_i h1; exact absurd h1 hy.1
        · rename_i h1; exact absurd h1 hy.2
        rfl
      rw [List.foldl_cons, e1]; exact ih d fun op hop => hl op (by simp [hop])
  exact this l _ fun op hop => hu op (by simpa using hop)
section
variable {p : Ph} {t u : Trace} {τ n : Nat} {own : Nat → Nat → Prop} {live : Nat → Prop}
theorem E3 {i : Nat} {a : Touch} (ha : touchAt (t ++ u) i = some a) : (i < t.size ∧ touchAt t i = some a) ∨ (t.size ≤ i ∧ ∃ op ∈ u, (t ++ u)[i]? = some op ∧ op.act.touch? = some a) := by
  obtain ⟨x, hx, hxa⟩ := touch_of ha
  rcases getElem?_append_cases hx with ⟨hi, hx'⟩ | ⟨hi, hxu⟩
  · exact .inl ⟨hi, by rw [touchAt_of hx']; exact hxa⟩
  exact .inr ⟨hi, x, hxu, hx, hxa⟩
theorem TI.step (h : TI p t τ n own live) {g n' : Nat} (hg : live g) (hn : n ≤ n') (hu : ∀ op ∈ u, op.g = g) (hm : ∀ op ∈ u, op.act ≠ .mark .disable ∧ op.act ≠ .mark .enable)
    (hx : ∀ op ∈ u, ∀ x, op.act.touch? = some x → x.loc.isMemory = true → ∀ k, blk x.loc = some k → (x.write = false ∧ RdT p k) ∨ own g k)
    (d1 : ∀ g' k, own g k → own g' k → g = g') (d2 : ∀ g' k, own g' k → ¬ RdT p k) (d3 : ∀ k, own g k ∨ RdT p k → k < n') : TI p (t ++ u) τ n' own live := by
  have hmem : ∀ op ∈ u, ∀ x k, op.act.touch? = some x → blk x.loc = some k → (x.write = false ∧ RdT p k) ∨ own g k := by
    intro op hop x k h1 h2; refine hx op hop x h1 ?_ k h2
    cases hl : x.loc <;> rw [hl] at h2 <;> first | rfl | cases h2
  refine ⟨by simp; have := h.τle; omega, fun said => noRace_append (h.clean said) hu fun i a ha op hop b hb hc => ?_, fun g' hg' i a hi ha hmm => ?_, fun g' k ho i a hi ha hb => ?_, fun i a k hi ha hw hb => ?_, fun i a k hi ha hb => ?_, fun g' hg' => ?_⟩
  · obtain ⟨e1, e2, e3, _⟩ := hc
    obtain ⟨k, hk⟩ := blk_mem e2; have hkb : blk b.loc = some k := by rw [← e1]; exact hk
    by_cases hiτ : i < τ
    · exact h.pre g hg i a hiτ ha e2
    rcases hmem op hop b k hb hkb with ⟨hw, hr⟩ | ho
    · rcases e3 with e3 | e3
      · exact absurd hr (h.rd i a k (by omega) ha e3 hk)
      rw [hw] at e3; cases e3
    exact h.own_ g k ho i a (by omega) ha hk
  · rcases E3 ha with ⟨_, ha'⟩ | ⟨hi', _⟩
    · exact (h.pre g' hg' i a hi ha' hmm).app u
    have := h.τle; omega
  · rcases E3 ha with ⟨_, ha'⟩ | ⟨hi', op, hop, hat, hoa⟩
    · exact (h.own_ g' k ho i a hi ha' hb).app u
    rcases hmem op hop a k hoa hb with ⟨_, hr⟩ | ho'
    · exact absurd hr (d2 g' k ho)
    obtain rfl := d1 g' k ho' ho; have := knows_own hat
    rwa [hu op hop] at this
  · rcases E3 ha with ⟨_, ha'⟩ | ⟨hi', op, hop, hat, hoa⟩
    · exact h.rd i a k hi ha' hw hb
    rcases hmem op hop a k hoa hb with ⟨hw', _⟩ | ho'
    · rw [hw] at hw'; cases hw'
    exact d2 g k ho'
  · rcases E3 ha with ⟨_, ha'⟩ | ⟨hi', op, hop, hat, hoa⟩
    · have := h.low i a k hi ha' hb; omega
    rcases hmem op hop a k hoa hb with ⟨_, hr⟩ | ho'
    · have := d3 k (.inr hr); omega
    have := d3 k (.inl ho'); omega
  rw [W8 hm]; exact h.hears g' hg'
theorem TI.mild (h : TI p t τ n own live) (hu : Mild u) : TI p (t ++ u) τ n own live := by
  have no : ∀ op ∈ u, ∀ a, op.act.touch? = some a → False := fun op hop a ha => by rw [(hu op hop).1] at ha; cases ha
  refine ⟨by simp; have := h.τle; omega, fun said => ?_, fun g' hg' i a hi ha hmm => ?_, fun g' k ho i a hi ha hb => ?_, fun i a k hi ha hw hb => ?_, fun i a k hi ha hb => ?_, fun g' hg' => ?_⟩
  · rintro ⟨i, j, hij, ⟨a, b, ha, hb, hc⟩, n1, n2⟩
    rcases E3 (show touchAt (t ++ u) i = some a from ha) with ⟨hi, ha'⟩ | ⟨_, op, hop, _, hoa⟩
    · rcases E3 (show touchAt (t ++ u) j = some b from hb) with ⟨hj, hb'⟩ | ⟨_, op, hop, _, hoa⟩
      · exact h.clean said ⟨i, j, hij, ⟨a, b, ha', hb', hc⟩, fun e => n1 (hb_app u e), fun e => n2 (hb_app u e)⟩
      exact no op hop _ hoa
    exact no op hop _ hoa
  · rcases E3 ha with ⟨_, ha'⟩ | ⟨_, op, hop, _, hoa⟩
    · exact (h.pre g' hg' i a hi ha' hmm).app u
    exact (no op hop _ hoa).elim
  · rcases E3 ha with ⟨_, ha'⟩ | ⟨_, op, hop, _, hoa⟩
    · exact (h.own_ g' k ho i a hi ha' hb).app u
    exact (no op hop _ hoa).elim
  · rcases E3 ha with ⟨_, ha'⟩ | ⟨_, op, hop, _, hoa⟩
    · exact h.rd i a k hi ha' hw hb
    exact (no op hop _ hoa).elim
  · rcases E3 ha with ⟨_, ha'⟩ | ⟨_, op, hop, _, hoa⟩
    · exact h.low i a k hi ha' hb
    exact (no op hop _ hoa).elim
  rw [W8 fun op hop => (hu op hop).2]; exact h.hears g' hg'
theorem TI.weak {own' : Nat → Nat → Prop} {live' : Nat → Prop} {n' : Nat} (h : TI p t τ n own live) (ho : ∀ g k, own' g k → own g k) (hl : ∀ g, live' g → live g) (hn : n ≤ n') : TI p t τ n' own' live' :=
  ⟨h.τle, h.clean, fun g hg => h.pre g (hl g hg), fun g k hk => h.own_ g k (ho g k hk), h.rd, fun i a k a1 a2 a3 => Nat.lt_of_lt_of_le (h.low i a k a1 a2 a3) hn, fun g hg => h.hears g (hl g hg)⟩
theorem TI.fresh {own' : Nat → Nat → Prop} (h : TI p t τ n own live) (ho : ∀ g k, own' g k → own g k ∨ n ≤ k) : TI p t τ n own' live :=
  ⟨h.τle, h.clean, h.pre, fun g k hk i a hi ha hb => (ho g k hk).elim (fun h1 => h.own_ g k h1 i a hi ha hb) (fun h1 => by have := h.low i a k hi ha hb; omega), h.rd, h.low, h.hears⟩
theorem dq5 {g i : Nat} {op : MemOp} (hop : t[i]? = some op) (hg : op.g = g) (h : t.deaf g i = 0) : t.heard i := ⟨g, by simp [Trace.g?, hop, hg], h⟩
theorem kj9 {g : Nat} (hd : Deaf t g = 0) (hu : ∀ op ∈ u, op.act ≠ .mark .disable ∧ op.act ≠ .mark .enable) {i : Nat} (h1 : t.size ≤ i) (h2 : i ≤ (t ++ u).size) : (t ++ u).deaf g i = 0 := by
  have e : (t ++ u).deaf g i = (t ++ u.extract 0 (i - t.size)).deaf g i := by
    have e2 : t ++ u = (t ++ u.extract 0 (i - t.size)) ++ u.extract (i - t.size) u.size := by
      rw [Array.append_assoc, Array.extract_append_extract]; have : max (i - t.size) u.size = u.size := by simp at h2; omega
      simp [this]
    rw [e2, deaf_old]
    simp at h2 ⊢
    omega
  rw [e]; have hs : (t ++ u.extract 0 (i - t.size)).size = i := by simp at h2 ⊢; omega
  have := W8 (t := t) (u := u.extract 0 (i - t.size)) (fun op hop => hu op (by
    obtain ⟨j, hj, rfl⟩ := Array.mem_iff_getElem.1 hop; rw [Array.getElem_extract]
    exact Array.getElem_mem _)) g
  unfold Deaf at this hd; rw [hs] at this; rw [this]; exact hd
end
end Go.W
end
section
namespace Go.W
open Go Go.Conc
open Go.ConcN (sumTo upd sumTo_upd upd_ne upd_same le_sumTo sumTo_congr)
inductive Role where
  | quit (n : Nat)
  | s1 (B j : Nat) (fr : Frame) (cs : List Frame) (hp : Hq)
  | p1 (B j : Nat) (fr : Frame) (cs : List Frame) (hp : Hq)
  | s2 (B : Nat) (fr : Frame) (cs : List Frame) (hp : Hq)
  | rc (B k : Nat) (fr : Frame) (cs : List Frame) (hp : Hq)
  | pr (B k : Nat) (fr : Frame) (cs : List Frame) (hp : Hq)
  | cz (B : Nat) (fr : Frame) (cs : List Frame) (hp : Hq)
inductive Tag where
  | quit | s1 (j : Nat) | p1 (j : Nat) | s2 | rc (k : Nat) | pr (k : Nat) | cz
def Role.tag : Role → Tag
  | .quit _ => .quit | .s1 _ j .. => .s1 j | .p1 _ j .. => .p1 j | .s2 .. => .s2 | .rc _ k .. => .rc k | .pr _ k .. => .pr k | .cz .. => .cz
def Role.wt : Role → Nat
  | .quit n => 2 * n | .s1 B .. => 2 * B + 2 | .p1 B .. => 2 * B + 3 | .s2 B .. => 2 * B + 2 | .rc B .. => 2 * B + 2 | .pr B .. => 2 * B + 3 | .cz B .. => 2 * B + 2
def Role.hp : Role → Hq
  | .quit _ => [] | .s1 _ _ _ _ hp => hp | .p1 _ _ _ _ hp => hp | .s2 _ _ _ hp => hp | .rc _ _ _ _ hp => hp | .pr _ _ _ _ hp => hp | .cz _ _ _ hp => hp
def RoleOK (p : Ph) (d : Nat) (g : Goroutine) : Role → Prop
  | .quit n => QuitsD p.P n d g
  | .s1 B j fr cs hp => d = 0 ∧ g = G fr cs ∧ Fol p B (.send1 j) fr cs hp
  | .p1 B j fr cs hp => d = 0 ∧ (∃ zz, g = parked (G fr cs) #[scase p.F (p.v j) zz] .send) ∧ Fol p B .send2 (fr.finish undef) cs hp
  | .s2 B fr cs hp => d = 0 ∧ g = G fr cs ∧ Fol p B .send2 fr cs hp
  | .rc B k fr cs hp => d = 0 ∧ g = G fr cs ∧ Fol p B (.recv k) fr cs hp
  | .pr B k fr cs hp => d = 0 ∧ (∃ zz, g = parked (G fr cs) #[rcase p.Lf zz] (.recv false)) ∧ Fol p B (nxt k) (fr.finish (.bool true)) cs hp
  | .cz B fr cs hp => d = 0 ∧ g = G fr cs ∧ Fol p B .close fr cs hp
inductive MR where
  | run (B : Nat) (ms : Ms) (fr : Frame) (cs : List Frame) (hp : Hq)
  | park (B : Nat) (R : List Nat) (fr : Frame) (cs : List Frame) (hp : Hq)
def MR.wt : MR → Nat
  | .run B .. => 2 * B + 2
  | .park B .. => 2 * B + 3
def MR.hp : MR → Hq
  | .run _ _ _ _ hp => hp
  | .park _ _ _ _ hp => hp
def MR.st : MR → Ms
  | .run _ ms .. => ms
  | .park _ R .. => .ga R
def MR.waits : MR → Bool
  | .run .. => false
  | .park .. => true
def Like (g : Goroutine) (fr : Frame) (cs : List Frame) : Prop := g.status = .running ∧ g.frame = fr ∧ g.callers = cs ∧ g.dying = none
theorem Like.step {P : Program} {main : Bool} {g : Goroutine} {fr : Frame} {cs : List Frame} (h : Like g fr cs) (w : World) : stepG P main g w = stepG P main (G fr cs) w := stepG_same h.2.1 h.2.2.1 h.2.2.2 w
def MainOK (p : Ph) (Goal : Goroutine → World → Prop) (g : Goroutine) : MR → Prop
  | .run B ms fr cs hp => Like g fr cs ∧ FolM p Goal B ms fr cs hp
  | .park B R fr cs hp => g = parked (G fr cs) #[rcase p.F p.z] (.recv true) ∧ FolM p Goal (B + 1) (.ga R) fr cs hp ∧ (∀ j ∈ R, FolM p Goal B (.ga (R.erase j)) (fr.finish (.tuple #[p.v j, .bool true])) cs hp)
def nsp (p : Ph) : Ms → Nat
  | .sp j => j
  | .ga _ => p.N + 1
def unb (p : Ph) : Ms → Nat
  | .sp j => (p.N - j) * (2 * p.BW + 3) + (2 * p.BC + 3)
  | .ga _ => 0
def Tag.isQ : Tag → Nat
  | .quit => 1
  | _ => 0
structure Cmb (p : Ph) (m : Nat) (c : Nat → Tag) (st : Ms) (wt : Bool) (s r : Nat) (cl : Bool) : Prop where
  m0 : 0 < m
  old : ∀ i, 0 < i → i < m → c i = .quit
  far : ∀ i, m + nsp p st ≤ i → (c i).isQ = 0
  wk : ∀ j, j < p.N → j < nsp p st → c (m + j) = .quit ∨ c (m + j) = .s1 j ∨ c (m + j) = .p1 j ∨ c (m + j) = .s2
  ck : p.N < nsp p st → (∃ k, r + k + 1 = p.N ∧ (c (m + p.N) = .rc k ∨ (c (m + p.N) = .pr k ∧ s = r))) ∨ (r = p.N ∧ cl = false ∧ c (m + p.N) = .cz) ∨ (r = p.N ∧ cl = true ∧ c (m + p.N) = .quit)
  op : nsp p st ≤ p.N → cl = false
  op2 : ∀ k, c (m + p.N) = .rc k ∨ c (m + p.N) = .pr k → p.N < nsp p st → cl = false
  jn : ∀ j, st = .sp j → j ≤ p.N ∧ ∀ i, i < j → c (m + i) = .s1 i ∨ c (m + i) = .p1 i
  und : ∀ R, st = .ga R → R.Nodup ∧ ∀ j, j ∈ R ↔ j < p.N ∧ (c (m + j) = .s1 j ∨ c (m + j) = .p1 j)
  rs : r ≤ s
  cnt : sumTo p.N (fun j => (c (m + j)).isQ) = s
  i1 : wt = true → cl = false ∧ ∀ j, j < p.N → c (m + j) ≠ .p1 j
def ownOf (M : MR) (ρ : Nat → Role) (g k : Nat) : Prop := (g = 0 ∧ Has M.hp k) ∨ (0 < g ∧ Has (ρ g).hp k)
def liveOf (m n : Nat) (ρ : Nat → Role) (g : Nat) : Prop := g = 0 ∨ (m ≤ g ∧ g < n ∧ (ρ g).tag ≠ .quit)
def Root (p : Ph) (t : Trace) (live : Nat → Prop) (s r : Nat) (cl : Bool) (q : Nat) : Prop :=
  ∃ op, t[q]? = some op ∧ (live op.g ∨ (∃ k, op.act = .send p.Lf k ∧ r ≤ k ∧ k < s ∧ t.heard q) ∨ (op.act = .close p.F ∧ cl = true ∧ t.heard q))
structure InvP (p : Ph) (Goal : Goroutine → World → Prop) (m τ : Nat) (ρ : Nat → Role) (M : MR) (t : Trace) (gs : Array Goroutine) (w : World) (s r f : Nat) (cl : Bool) : Prop where
  cmb : Cmb p m (fun i => (ρ i).tag) M.st M.waits s r cl
  size : gs.size = m + nsp p M.st
  main : ∃ g, gs[0]? = some g ∧ MainOK p Goal g M
  roles : ∀ i g, 0 < i → gs[i]? = some g → RoleOK p (Deaf t i) g (ρ i)
  chF : ∃ tm, w.heap[p.F]? = some (.chan 0 #[] cl f f tm)
  chL : ∃ tm, w.heap[p.Lf]? = some (.chan p.N (Array.replicate (s - r) (.bool true)) false s r tm)
  ne : p.F ≠ p.Lf ∧ p.F < p.W.heap.size ∧ p.Lf < p.W.heap.size ∧ p.F ≠ p.o ∧ p.Lf ≠ p.o
  env : Sur p w
  heldM : Held M.hp w
  held : ∀ i, 0 < i → i < gs.size → Held (ρ i).hp w
  far : ∀ i, gs.size ≤ i → (ρ i).hp = []
  d1 : ∀ g g' k, ownOf M ρ g k → ownOf M ρ g' k → g = g'
  ge : ∀ g k, ownOf M ρ g k → p.W.heap.size ≤ k ∨ (g = 0 ∧ k = p.o)
  ti : TI p t τ w.heap.size (ownOf M ρ) (liveOf m gs.size ρ)
  kn : ∀ i a, touchAt t i = some a → a.loc.isMemory = true → ∃ q, Before t i q ∧ Root p t (liveOf m gs.size ρ) s r cl q
  seen : ∃ B, ∀ op ∈ t, op.act.low B
  above : ∀ j, gs.size ≤ j → Deaf t j = 0
def Wt (p : Ph) (n : Nat) (ρ : Nat → Role) (M : MR) : Nat := M.wt + unb p M.st + sumTo n (fun i => if i = 0 then 0 else (ρ i).wt)
section
variable {p : Ph} {Goal : Goroutine → World → Prop} {m τ : Nat} {ρ : Nat → Role} {M : MR} {t : Trace} {gs : Array Goroutine} {w : World} {s r f : Nat} {cl : Bool}
theorem Sur.at (h : Sur p w) (d : Nat) : Sur p (w.at d) := ⟨h.os, h.tape, h.output, h.size, h.block⟩
theorem InvP.at (h : InvP p Goal m τ ρ M t gs w s r f cl) (d : Nat) : InvP p Goal m τ ρ M t gs (w.at d) s r f cl :=
  { h with env := h.env.at d, chF := h.chF, chL := h.chL, heldM := h.heldM, held := h.held, ti := h.ti }
theorem InvP.pos (h : InvP p Goal m τ ρ M t gs w s r f cl) : 0 < gs.size := by rw [h.size]; have := h.cmb.m0; omega
theorem InvP.RdD (h : InvP p Goal m τ ρ M t gs w s r f cl) {g k : Nat} (ho : ownOf M ρ g k) : ¬ RdT p k := fun hr => by
  rcases h.ge g k ho with h1 | ⟨_, rfl⟩
  · have := hr.1; omega
  exact hr.2 rfl
theorem sM {hp : Hq} (h : Held hp w) {k : Nat} (hk : Has hp k) : k < w.heap.size := by
  obtain ⟨q, hq, rfl⟩ := hk; have := h q hq
  rcases Nat.lt_or_ge q.1 w.heap.size with h' | h'
  · exact h'
  rw [Array.getElem?_eq_none h'] at this; cases this
theorem InvP.own_lt (h : InvP p Goal m τ ρ M t gs w s r f cl) {g k : Nat} (ho : ownOf M ρ g k) : k < w.heap.size := by
  rcases ho with ⟨_, hk⟩ | ⟨hg, hk⟩
  · exact sM h.heldM hk
  rcases Nat.lt_or_ge g gs.size with hlt | hge
  · exact sM (h.held g hg hlt) hk
  rw [h.far g hge] at hk; obtain ⟨q, hq, _⟩ := hk; cases hq
theorem InvP.rd_lt (h : InvP p Goal m τ ρ M t gs w s r f cl) {k : Nat} (hr : RdT p k) : k < w.heap.size := Nat.lt_of_lt_of_le hr.1 h.env.size
theorem InvP.still (h : InvP p Goal m τ ρ M t gs w s r f cl) {w₁ : World} (hF : w₁.heap[p.F]? = w.heap[p.F]?) (hL : ∃ cap buf s r tm, w₁.heap[p.Lf]? = some (.chan cap buf false s r tm)) (a a' : Goroutine) {i : Nat} {g : Goroutine} (hi : gs[i]? = some g) : woken p.P a a' w₁ g = g := by
  have key : g.again w₁ = g := by
    rcases Nat.eq_zero_or_pos i with rfl | hpos
    · obtain ⟨g0, h0, hm⟩ := h.main
      rw [h0] at hi; obtain rfl := Option.some.inj hi
      cases M with
      | run B ms fr cs hp => exact again_running _ (.inl hm.1.1)
      | park B R fr cs hp =>
        obtain ⟨rfl, _⟩ := hm; obtain ⟨tm, hc⟩ := h.chF; rw [(h.cmb.i1 rfl).1] at hc; exact again_recv_open (hF.trans hc)
    have hr := h.roles i g hpos hi
    cases hρ : ρ i with
    | quit n => rw [hρ] at hr; exact again_running _ (QuitsD.status hr)
    | s1 B j fr cs hp => rw [hρ] at hr; obtain ⟨_, rfl, _⟩ := hr; exact again_running _ (.inl rfl)
    | s2 B fr cs hp => rw [hρ] at hr; obtain ⟨_, rfl, _⟩ := hr; exact again_running _ (.inl rfl)
    | rc B k fr cs hp => rw [hρ] at hr; obtain ⟨_, rfl, _⟩ := hr; exact again_running _ (.inl rfl)
    | cz B fr cs hp => rw [hρ] at hr; obtain ⟨_, rfl, _⟩ := hr; exact again_running _ (.inl rfl)
    | pr B k fr cs hp =>
      rw [hρ] at hr; obtain ⟨_, ⟨zz, rfl⟩, _⟩ := hr; obtain ⟨cap, buf, s, r, tm, hc⟩ := hL; exact again_recv_open hc
    | p1 B j fr cs hp =>
      rw [hρ] at hr; obtain ⟨_, ⟨zz, rfl⟩, _⟩ := hr; obtain ⟨tm, hc⟩ := h.chF
      have hcl : cl = false := by
        have hsz := h.size; have hilt : i < gs.size := (Array.getElem?_eq_some_iff.1 hi).1
        cases hc2 : cl with
        | false => rfl
        | true =>
          exfalso
          by_cases hN : p.N < nsp p M.st
          · have hall : r = p.N := by
              rcases h.cmb.ck hN with ⟨k, hk, h1 | ⟨h1, _⟩⟩ | ⟨_, h1, _⟩ | ⟨h1, _⟩
              · have := h.cmb.op2 k (.inl h1) hN; rw [hc2] at this; cases this
              · have := h.cmb.op2 k (.inr h1) hN; rw [hc2] at this; cases this
              · rw [hc2] at h1; cases h1
              exact h1
            have hcnt := h.cmb.cnt; have hs : p.N ≤ s := hall ▸ h.cmb.rs
            have hle : ∀ n, sumTo n (fun j => ((ρ (m + j)).tag).isQ) ≤ n := by
              intro n
              induction n with
              | zero => exact Nat.le_refl _
              | succ n ih =>
                simp only [sumTo]; have : ((ρ (m + n)).tag).isQ ≤ 1 := by cases (ρ (m + n)).tag <;> simp [Tag.isQ]
                omega
            -- one of them has not left
            by_cases him : i < m
            · have := h.cmb.old i hpos him; simp [hρ, Role.tag] at this
            have hq : ∀ n, n ≤ p.N → i - m < n → sumTo n (fun j => ((ρ (m + j)).tag).isQ) < n := by
              intro n
              induction n with
              | zero => intro _ h; omega
              | succ n ih =>
                intro hn hlt; simp only [sumTo]; have h1 : ((ρ (m + n)).tag).isQ ≤ 1 := by cases (ρ (m + n)).tag <;> simp [Tag.isQ]
                rcases Nat.lt_or_ge (i - m) n with h2 | h2
                · have := ih (by omega) h2; omega
                have e : m + n = i := by omega
                have h3 : ((ρ (m + n)).tag).isQ = 0 := by rw [e, hρ]; rfl
                have := hle n
                omega
            by_cases hin : i - m < p.N
            · have := hq p.N (Nat.le_refl _) hin; omega
            have e : i = m + p.N := by
              cases hst : M.st with
              | sp j => rw [hst] at hN; have := (h.cmb.jn j hst).1; simp [nsp] at hN; omega
              | ga R => rw [hst] at hsz; simp [nsp] at hsz; omega
            rcases h.cmb.ck hN with ⟨k, _, h1 | ⟨h1, _⟩⟩ | ⟨_, _, h1⟩ | ⟨_, _, h1⟩ <;> simp [← e, hρ, Role.tag] at h1
          have := h.cmb.op (by omega); rw [hc2] at this; cases this
      rw [hcl] at hc; exact again_send_open (hF.trans hc)
  unfold woken
  split
  · exact key
  rfl
end
end Go.W
end
