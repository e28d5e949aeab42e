/- Texts of this claim, one behind another. -/
import Derived.Laws.Cover3
import Derived.Sort.Walk0
import Derived.Test.YtmpfpfbcejfijaaGreatDoorAAe
set_option linter.unusedVariables false
set_option linter.unusedSimpArgs false
section
namespace Go.W
open Go Go.RowKit
/-! ### The first of a list of slices -/
section
variable {α : Type} [El α] {c : Cx} {Q : Exit → Act → World → Prop} {fr : Fr} {hp : Hp} {L : List Fact} {ops : Array Oper} {rest : List Oper} {A : Option Addr} {ps : List (Sl α)}
end
/-! ### Facts that follow from the world; nil -/
section
variable {c : Cx} {Q : Exit → Act → World → Prop} {fr : Fr} {hp : Hp} {L : List Fact} {ops : Array Oper} {rest : List Oper}
theorem jx9 {g : Nat} {o : Obj} {e : Exit} (k : HQ c Q e fr hp (Blk g o :: L)) : HQ c Q e fr ((g, o) :: hp) L := fun a w ha hw => k a w ha (tM hw)
variable {d : Tmp} {ty : TypeId} {pos : String} {af : Array Edge}
end
/-! ### A store into a slice of the call's own -/
theorem Grow.open_ {e : TypeId} {sz n cap : Nat} {A : Option Addr} {xs : List Value} {og : Hp} (h : Grow e sz A n cap xs og) (hn : 0 < n) : ∃ g cur, A = some ⟨g, 0, none⟩ ∧ og = [(g, Obj.cells cur e (0, 0))] ∧ n ≤ cap ∧ cap ≤ maxLen ∧ cur.size = cap * sz ∧ cur.toList.take (n * sz) = xs ∧ xs.length = n * sz := by
  rcases h with ⟨hl, ⟨_, h, _⟩ | ⟨g, cur, h1, h2, h3, h4, h5, h6⟩⟩
  · omega
  exact ⟨g, cur, h1, h2, h3, h4, h5, h6, hl⟩
theorem tQ {α : Type} [El α] (h1 : El.sz α = 1) (v : Value) (a : α) (hv : El.cells a = [v]) : ∀ (l : List α) (k : Nat), (rows l).set k v = rows (l.set k a)
  | [], k => by simp [xM]
  | b :: l, 0 => by
    have hb : ∃ u, El.cells b = [u] := by
      have := El.len b; rw [h1] at this; exact List.length_eq_one_iff.1 this
    obtain ⟨u, hu⟩ := hb; rw [List.set_cons_zero, P5, P5, hu, hv]
    rfl
  | b :: l, k + 1 => by
    have hb : ∃ u, El.cells b = [u] := by
      have := El.len b; rw [h1] at this; exact List.length_eq_one_iff.1 this
    obtain ⟨u, hu⟩ := hb; rw [List.set_cons_succ, P5, P5, hu, ← tQ h1 v a hv l k]
    rfl
theorem Grow.set {α : Type} [El α] {e : TypeId} {cap g k : Nat} {cur : Array Value} {l : List α} {v : Value} {a : α} (h1 : El.sz α = 1) (hv : El.cells a = [v]) (h3 : l.length ≤ cap) (h4 : cap ≤ maxLen) (h5 : cur.size = cap * 1) (h6 : cur.toList.take (l.length * 1) = rows l) :
    Grow e 1 (b4 g) l.length cap (rows (l.set k a)) [(g, Obj.cells (cur.setIfInBounds k v) e (0, 0))] := by
  refine ⟨by rw [Q9, h1, List.length_set], .inr ⟨g, _, rfl, rfl, h3, h4, by simpa using h5, ?_⟩⟩; rw [← tQ h1 v a hv, ← h6, Array.toList_setIfInBounds, List.take_set]
/-! ### make -/
theorem made1 (z : Value) (n : Nat) : madeCells #[z] n = (List.replicate n z).toArray := by
  apply Array.ext
  · simp [madeCells]
  intro i h1 h2
  simp [madeCells, Nat.mod_one]
theorem bz6 {c : Cx} {Q : Exit → Act → World → Prop} {fr : Fr} {hp : Hp} {L : List Fact} {ops : Array Oper} {rest : List Oper} {d : Tmp} {ty : TypeId} {pos : String} {af : Array Edge}
    {t e : TypeId} {x y : Operand} {n bytes : Nat} {z : Value} {m : Int} (hd : Nat.blt d c.n = true) (ht : c.P.underlying t = some (.slice e)) (hi : (c.P.info? e).map (fun i => (i.zero, i.size, i.bytes)) = some (some z, 1, bytes)) (hz : z.cells = #[z])
    (hx : ev fr x = some (int m)) (hy : ev fr y = some (int m)) (hm : m = (n : Int)) (hb : bytes * n ≤ 140737488355328) (hn : n ≤ 140737488355328)
    (k : ∀ g, HL c ops Q rest ((d, .slice (b4 g) n n) :: fr) ((g, .cells (List.replicate n z).toArray e (0, 0)) :: hp) L) : HL c ops Q (⟨some d, .makeSlice t x y, ty, pos, af, none⟩ :: rest) fr hp L :=
  jA (.cells (List.replicate n z).toArray e (0, 0)) (fun g => .slice (b4 g) n n) rfl rfl hd (fun a w ha _ => by
    subst hm; obtain ⟨i, h1, h2, h3, h4⟩ := info_parts hi
    have hb' : (i.bytes : Int) * (n : Int) ≤ 281474976710656 := by
      have h : ((i.bytes * n : Nat) : Int) ≤ 281474976710656 := by rw [h4]; omega
      rwa [Int.natCast_mul] at h
    have hr := run_make (P := c.P) w t e i z ht h1 h2 .i64 .i64 n n (by omega) (Int.le_refl _) hb' (by omega); simp only [Int.toNat_natCast, h3, Nat.mul_one, hz, made1] at hr
    simp only [execOp, ha.ev hx, ha.ev hy, Sem.run_bind, hr, Result.andThen_ok, Sem.run_pure]) k
/-! ### Scopes and labels -/
section
variable {Q : Exit → Act → World → Prop} {fr : Fr} {hp : Hp} {L : List Fact}
def noGoto (Q : Exit → Act → World → Prop) : Exit → Act → World → Prop
  | .goto _, _, _ => False
  | e, a, w => Q e a w
theorem mj6 {P : Program} {n : Nat} {b : Bx} {D : List Deferred} {x : Code} (h : HC ⟨P, n, b, D, none⟩ x (noGoto Q) fr hp L) : HC ⟨P, n, b, D, none⟩ (.scope x) Q fr hp L :=
  fun a w ha hw => hz1 (hQ (h a w ha hw) fun e a w hq => by cases e <;> first | exact ⟨fun _ h => (by cases h), hq⟩ | exact hq.elim)
theorem lR {c : Cx} (h : HQ c Q .ret fr hp L) : HQ c (noGoto Q) .ret fr hp L := fun a w ha hw => h a w ha hw
theorem dz4 {c : Cx} {l : Nat} (h : HQ c Q .normal fr hp L) : HC c (.label l) Q fr hp L := fun a w ha hw => kq2 (h a w ha hw)
end
def markOf (d : Nat) : Deferred := { target := .collected d, args := #[] }
def shutM (ds : List Nat) : Hp := ds.map fun d => (d, Obj.deferred (some []))
end Go.W
end
section
namespace Go.W
open Go Go.RowKit
section
variable {c : Cx} {Q : Exit → Act → World → Prop} {fr : Fr} {hp : Hp} {L : List Fact} {ops : Array Oper} {rest : List Oper}
variable {α : Type} [El α]
abbrev innerF (ps : List (Sl α)) : Fact := Facts (ps.map fun p => Row p.a (rows p.l))
end
end Go.W
end
section
namespace Go.W
open Go Go.RowKit
def notI (dd : TypeDesc) : Bool := match dd with | .interface _ => false | _ => true
def NoI (P : Program) (t : TypeId) : Prop := ∃ dd, P.underlying t = some dd ∧ notI dd = true
section
variable {c : Cx} {Q : Exit → Act → World → Prop} {fr : Fr} {hp : Hp} {L : List Fact} {ops : Array Oper} {rest : List Oper}
variable {d : Tmp} {ty : TypeId} {pos : String} {af : Array Edge}
/-! ### Interfaces -/
theorem ax6 {t : TypeId} {x : Operand} {v : Value} (hd : Nat.blt d c.n = true) (ht : NoI c.P t) (hx : ev fr x = some v) (k : HL c ops Q rest ((d, .iface t v) :: fr) hp L) : HL c ops Q (⟨some d, .makeInterface t x, ty, pos, af, none⟩ :: rest) fr hp L :=
  B7 _ rfl rfl hd (fun a w ha _ => by
    obtain ⟨dd, h1, h2⟩ := ht; simp only [execOp, ha.ev hx, Instr.makeInterface, Sem.run_bind, run_underlying h1, Result.andThen_ok]
    cases dd <;> first | rfl | cases h2) k
theorem tS {t xt : TypeId} {x : Operand} {v : Value} (hd : Nat.blt d c.n = true) (ht : NoI c.P t) (hx : ev fr x = some (.iface t v)) (k : HL c ops Q rest ((d, .tuple #[v, .bool true]) :: fr) hp L) : HL c ops Q (⟨some d, .typeAssert x xt t true, ty, pos, af, none⟩ :: rest) fr hp L :=
  B7 _ rfl rfl hd (fun a w ha _ => by
    obtain ⟨dd, h1, h2⟩ := ht; simp only [execOp, ha.ev hx, Instr.typeAssert, Sem.run_bind, run_underlying h1, Result.andThen_ok]
    cases dd <;> first | (cases h2; done) | simp) k
theorem tT {t t' xt : TypeId} {x : Operand} {v z : Value} (hd : Nat.blt d c.n = true) (ht : NoI c.P t) (hx : ev fr x = some (.iface t' v)) (hne : Nat.beq t' t = false) (hz : ∀ w, (zeroValue t).run c.P w = .ok z w) (k : HL c ops Q rest ((d, .tuple #[z, .bool false]) :: fr) hp L) : HL c ops Q (⟨some d, .typeAssert x xt t true, ty, pos, af, none⟩ :: rest) fr hp L :=
  B7 _ rfl rfl hd (fun a w ha _ => by
    obtain ⟨dd, h1, h2⟩ := ht; have hn : ¬ t' = t := fun e => by subst e; simp [Nat.beq_refl] at hne
    simp only [execOp, ha.ev hx, Instr.typeAssert, Sem.run_bind, run_underlying h1, Result.andThen_ok]
    cases dd <;> first | (cases h2; done) | simp [hn, hz]) k
/-! ### Three results -/
theorem results3 {fn : Func} {t u v : Tmp} (h : fn.results = #[.tmp t, .tmp u, .tmp v]) (tmps : Array Value) (P : Program) (w : World) : (results fn tmps).run P w = .ok (.tuple #[tmps.getD t undef, tmps.getD u undef, tmps.getD v undef]) w := by
  simp [results, h]
theorem ret3 {β : Type} {k : Con β} {fn : Func} {w0 : World} (x : β) {t u v : Tmp} {v1 v2 v3 : Value} (hres : fn.results = #[.tmp t, .tmp u, .tmp v]) (hv1 : lk fr t = some v1) (hv2 : lk fr u = some v2) (hv3 : lk fr v = some v3) (hk : k.val x = .tuple #[v1, v2, v3]) (hb : c.b = k.entry w0) (hi : k.inv x) (h2 : (k.hpO x).Sublist hp) (h3 : LSub L (k.LO x)) (hD : c.D = [] := by exact rfl) :
    HQ c (postB c.P fn (k.post w0)) .ret fr hp L :=
  rU x (fun a w ha _ => by rw [results3 hres, ha.at_ _ _ hv1, ha.at_ _ _ hv2, ha.at_ _ _ hv3, hk]) hb hi h2 h3 hD
/-! ### Strings that are ranged over -/
abbrev iter (s : Str) (p : Nat) : Obj := .stringIter ⟨s.toArray⟩ p
theorem lq2 {t : TypeId} {x : Operand} {s : Str} (hd : Nat.blt d c.n = true) (ht : c.P.underlying t = some .string) (hx : ev fr x = some (str s)) (k : ∀ g, HL c ops Q rest ((d, .pointer (b4 g)) :: fr) ((g, iter s 0) :: hp) L) : HL c ops Q (⟨some d, .range t x, ty, pos, af, none⟩ :: rest) fr hp L :=
  jA (iter s 0) (fun g => .pointer (b4 g)) rfl rfl hd (fun a w ha _ => by
    simp only [execOp, ha.ev hx, Instr.range, Sem.run_bind, run_underlying ht, Result.andThen_ok, str]
    simp [run_newObj_alloc]) k
theorem aq9 {P : Program} {w : World} {g : Nat} {s : ByteArray} {p : Nat} (h : w.heap[g]? = some (.stringIter s p)) : (getObj g).run P w = .ok (.stringIter s p) w := by simp [getObj, Sem.run, h]
theorem jj4 {P : Program} {w : World} {g : Nat} {s : ByteArray} {p : Nat} (h : w.heap[g]? = some (.stringIter s p)) (o : Obj) : (setObj g o).run P w = .ok () { w with heap := w.heap.setIfInBounds g o } := by
  have hlt : g < w.heap.size := C0 h
  simp [setObj, Sem.run, h]
theorem dj9 (s : Str) : (ByteArray.mk s.toArray).size = s.length := rfl
theorem gz4 {x : Operand} {s : Str} {g p : Nat} (hd : Nat.blt d c.n = true) (hx : ev fr x = some (.pointer (b4 g))) (hm : (g, iter s p) ∈ hp) (hp1 : s.length ≤ p) (k : HL c ops Q rest ((d, .tuple #[.bool false]) :: fr) hp L) : HL c ops Q (⟨some d, .next x true, ty, pos, af, none⟩ :: rest) fr hp L :=
  B7 _ rfl rfl hd (fun a w ha hw => by
    have h := hw.own _ hm; simp only at h; simp only [execOp, ha.ev hx, Instr.next, Sem.run_bind, aq9 h, Result.andThen_ok, dj9]; rw [if_neg (by omega)]
    rfl) k
def nextV (s : Str) (p : Nat) : Value := if p < s.length then .tuple #[.bool true, int p, .int .i32 ((Utf8.decode ⟨s.toArray⟩ p).1 : Nat)] else .tuple #[.bool false]
def nextP (s : Str) (p : Nat) : Nat := if p < s.length then p + (Utf8.decode ⟨s.toArray⟩ p).2 else p
theorem gz5 {x : Operand} {s : Str} {g p : Nat} {hp' : Hp} {r wd : Nat} (hd : Nat.blt d c.n = true) (hx : ev fr x = some (.pointer (b4 g))) (hpp : hp.Perm ((g, iter s p) :: hp')) (hp1 : p < s.length) (hdec : Utf8.decode ⟨s.toArray⟩ p = (r, wd)) (k : HL c ops Q rest ((d, .tuple #[.bool true, int p, .int .i32 r]) :: fr) ((g, iter s (p + wd)) :: hp') L) : HL c ops Q (⟨some d, .next x true, ty, pos, af, none⟩ :: rest) fr hp L :=
  lW rfl rfl hd fun a w ha hw => by
    have hw' := hw.perm hpp; have h := hw'.own (g, iter s p) (by simp); simp only at h; refine ⟨_, _, _, L, ?_, hw'.write (o' := iter s (p + wd)) (w' := { w with heap := w.heap.setIfInBounds g (iter s (p + wd)) }) ⟨rfl, rfl, rfl, by simp, fun q _ hn => ?_, Nat.le_refl _⟩ ?_, k⟩
    · simp only [execOp, ha.ev hx, Instr.next, Sem.run_bind, aq9 h, Result.andThen_ok, dj9]
      rw [if_pos hp1]
      simp [hdec, jj4 h, goInt]
    · simp only [List.mem_singleton] at hn
      simp [Array.getElem?_setIfInBounds_ne (fun e => hn e.symm)]
    have hlt := C0 h
    simp [Array.getElem?_setIfInBounds, hlt]
theorem r_nextS {x : Operand} {s : Str} {g p : Nat} {hp' : Hp} (hd : Nat.blt d c.n = true) (hx : ev fr x = some (.pointer (b4 g))) (hpp : hp.Perm ((g, iter s p) :: hp')) (k : HL c ops Q rest ((d, nextV s p) :: fr) ((g, iter s (nextP s p)) :: hp') L) : HL c ops Q (⟨some d, .next x true, ty, pos, af, none⟩ :: rest) fr hp L := by
  by_cases h : p < s.length
  · simp only [nextV, nextP, if_pos h] at k
    exact gz5 hd hx hpp h rfl k
  simp only [nextV, nextP, if_neg h] at k; refine gz4 hd hx (hpp.mem_iff.2 m0) (by omega) fun a w ha hw => k a w ha (hw.perm hpp)
theorem r_ext0 {x : Operand} {s : Str} {p : Nat} (hd : Nat.blt d c.n = true) (hx : ev fr x = some (nextV s p)) (k : HL c ops Q rest ((d, .bool (decide (p < s.length))) :: fr) hp L) : HL c ops Q (⟨some d, .extract x 0, ty, pos, af, none⟩ :: rest) fr hp L := by
  by_cases h : p < s.length
  · simp only [nextV, if_pos h] at hx
    rw [decide_eq_true h] at k; exact l6 hd hx rfl k
  simp only [nextV, if_neg h] at hx; rw [decide_eq_false h] at k; exact l6 hd hx rfl k
theorem r_ext2 {x : Operand} {s : Str} {p : Nat} (hd : Nat.blt d c.n = true) (hx : ev fr x = some (nextV s p)) (h : p < s.length) (k : HL c ops Q rest ((d, .int .i32 ((Utf8.decode ⟨s.toArray⟩ p).1 : Nat)) :: fr) hp L) : HL c ops Q (⟨some d, .extract x 2, ty, pos, af, none⟩ :: rest) fr hp L := by
  simp only [nextV, if_pos h] at hx; exact l6 hd hx rfl k
end
theorem g4 {b : Bx} {hp : Hp} {L : List Fact} {g o : Nat} {cs : List Value} {v : Value} (h : Row (b4 g) cs ∈ L) (hv : cs[o]? = some v) : Cell b hp L ⟨g, o, none⟩ v := fun w hw => by
  have := Row.cell (hw.fs _ h) hv
  simpa [adr, Y1] using this
theorem bj4 {s : Str} {p : Nat} {b : UInt8} (h : s[p]? = some b) (hb : b.toNat < 128) : Utf8.decode ⟨s.toArray⟩ p = (b.toNat, 1) := by
  have hlt : p < s.length := (List.getElem?_eq_some_iff.1 h).1
  have hg : (ByteArray.mk s.toArray).get! (p + 0) = b := by
    rw [Nat.add_zero]; show s.toArray[p]! = b; rw [List.getElem?_eq_getElem hlt] at h
    injection h with h
    simp [h, hlt]
  unfold Utf8.decode; simp only [hg]; rw [if_pos hb]
theorem dec_big {s : Str} {p : Nat} {b : UInt8} (h : s[p]? = some b) (hb : 128 ≤ b.toNat) : 128 ≤ (Utf8.decode ⟨s.toArray⟩ p).1 := by
  have hlt : p < s.length := (List.getElem?_eq_some_iff.1 h).1
  have hg : (ByteArray.mk s.toArray).get! (p + 0) = b := by
    rw [Nat.add_zero]; show s.toArray[p]! = b; rw [List.getElem?_eq_getElem hlt] at h
    injection h with h
    simp [h, hlt]
  unfold Utf8.decode; simp only [hg]; rw [if_neg (by omega)]; unfold Utf8.runeError
  repeat' split
  all_goals first | (simp only; omega) | (rename_i h1; simp only [Bool.and_eq_true, decide_eq_true_eq, ge_iff_le] at h1; simp only; omega)
theorem dec_in {s : Str} {p : Nat} (hp : p < s.length) {lo hi : Nat} (h2 : hi < 128) (h : lo ≤ (Utf8.decode ⟨s.toArray⟩ p).1 ∧ (Utf8.decode ⟨s.toArray⟩ p).1 ≤ hi) : lo ≤ s[p].toNat ∧ s[p].toNat ≤ hi ∧ nextP s p = p + 1 := by
  have hs : s[p]? = some s[p] := List.getElem?_eq_getElem hp
  rcases Nat.lt_or_ge s[p].toNat 128 with hb | hb
  · have := bj4 hs hb
    rw [nextP, if_pos hp]; rw [this] at h ⊢; exact ⟨h.1, h.2, rfl⟩
  have := dec_big hs hb; omega
theorem ix6 {s : Str} {p : Nat} (hp : p < s.length) {lo hi : Nat} (h2 : hi < 128) (h : (Utf8.decode ⟨s.toArray⟩ p).1 < lo ∨ hi < (Utf8.decode ⟨s.toArray⟩ p).1) : s[p].toNat < lo ∨ hi < s[p].toNat := by
  have hs : s[p]? = some s[p] := List.getElem?_eq_getElem hp
  rcases Nat.lt_or_ge s[p].toNat 128 with hb | hb
  · have := bj4 hs hb
    rw [this] at h; exact h
  right; omega
/-! ### Small sets of bits -/
def u8 (m : Nat) : Value := .int .u8 (m : Int)
theorem wrap8 {m : Nat} (h : m < 256) : IntKind.u8.wrap (m : Int) = (m : Int) := by
  have h1 : 0 ≤ (m : Int) := by omega
  have h2 : (m : Int) < 256 := by omega
  simp only [IntKind.wrap, IntKind.bits, IntKind.signed]
  simp
  omega
theorem bv8 {m : Nat} (h : m < 256) : (BitVec.ofInt 8 (m : Int)).toNat = m := by
  simp [BitVec.toNat_ofInt]
  omega
section
variable {c : Cx} {Q : Exit → Act → World → Prop} {fr : Fr} {hp : Hp} {L : List Fact} {ops : Array Oper} {rest : List Oper}
variable {d : Tmp} {ty : TypeId} {pos : String} {af : Array Edge}
theorem r_or8 {t yt : TypeId} {x y : Operand} {a b : Nat} (hd : Nat.blt d c.n = true) (hx : ev fr x = some (u8 a)) (hy : ev fr y = some (u8 b)) (ha : a < 256) (hb : b < 256) (k : HL c ops Q rest ((d, u8 (a ||| b)) :: fr) hp L) :
    HL c ops Q (⟨some d, .binOp .or t x y yt, ty, pos, af, none⟩ :: rest) fr hp L :=
  q7 _ hd hx hy (fun _ => rfl) (fun w => by
    show (Op.intBits .or .u8 (a : Int) (b : Int)).run c.P w = _; have h : (BitVec.ofInt 8 (a : Int) ||| BitVec.ofInt 8 (b : Int)).toNat = a ||| b := by rw [BitVec.toNat_or, bv8 ha, bv8 hb]
    have hl : a ||| b < 256 := Nat.or_lt_two_pow (n := 8) ha hb
    show Result.ok (Value.int .u8 (IntKind.u8.wrap ((BitVec.ofInt 8 (a : Int) ||| BitVec.ofInt 8 (b : Int)).toNat : Nat))) w = _; rw [h, wrap8 hl]
    rfl) k
def diff8 (a b : Nat) : Nat := a &&& (255 - b)
theorem r_shl8 {t yt : TypeId} {x y : Operand} {ky : IntKind} {z : Int} (n : Nat) (hd : Nat.blt d c.n = true) (hx : ev fr x = some (.int .u8 1)) (hy : ev fr y = some (.int ky z)) (hz : z = (n : Int)) (hn : n < 8) (k : HL c ops Q rest ((d, u8 (2 ^ n)) :: fr) hp L) :
    HL c ops Q (⟨some d, .binOp .shl t x y yt, ty, pos, af, none⟩ :: rest) fr hp L :=
  q7 _ hd hx hy (fun _ => rfl) (fun w => by
    subst hz; show (Op.shift .shl .u8 1 ky (n : Int)).run c.P w = _; have hl : 2 ^ n < 256 := Nat.pow_lt_pow_right (by omega) hn; have hm : min ((n : Int).toNat) (IntKind.u8.bits) = n := by show min ((n : Int).toNat) 8 = n; omega
    simp only [Op.shift]; rw [if_neg (by omega), hm, Int.one_mul, show ((2 : Int) ^ n) = ((2 ^ n : Nat) : Int) by simp, wrap8 hl]
    rfl) k
end
theorem mz5 (a n : Nat) : (decide (((a / 2 ^ n &&& 1 : Nat) : Int) = 1)) = a.testBit n := by
  rw [Nat.and_one_is_mod, Nat.testBit_eq_decide_div_mod_eq]; exact decide_eq_decide.2 (by omega)
/-! ### Rows whose elements have facts of their own -/
def RowsF {α : Type} [El α] (A : Option Addr) (ps : List α) (f : α → Fact) : Fact where
  P w := (Row A (rows ps)).P w ∧ ∀ p ∈ ps, (f p).P w
  fp k := (Row A (rows ps)).fp k ∨ ∃ p ∈ ps, (f p).fp k
  st w w' h hP := ⟨(Row A (rows ps)).st w w' (fun k hk => h k (.inl hk)) hP.1, fun p hp => (f p).st w w' (fun k hk => h k (.inr ⟨p, hp, hk⟩)) (hP.2 p hp)⟩
  lt w hP k hk := by
    rcases hk with hk | ⟨p, hp, hk⟩
    · exact (Row A (rows ps)).lt w hP.1 k hk
    exact (f p).lt w (hP.2 p hp) k hk
section
variable {c : Cx} {Q : Exit → Act → World → Prop} {fr : Fr} {hp : Hp} {L : List Fact} {ops : Array Oper} {rest : List Oper}
variable {α : Type} [El α] {A : Option Addr} {ps : List α} {f : α → Fact}
theorem aj9 {b : Bx} {w : World} (h : RowsF A ps f ∈ L) (hw : WI b w hp L) : WI b w hp (Row A (rows ps) :: L) := aR hw (hw.fs _ h).1 (fun k hk => ⟨_, h, .inl hk⟩)
theorem aq0 {b : Bx} {w : World} {p : α} (h : RowsF A ps f ∈ L) (hp' : p ∈ ps) (hw : WI b w hp L) : WI b w hp (f p :: L) := aR hw ((hw.fs _ h).2 p hp') (fun k hk => ⟨_, h, .inr ⟨p, hp', hk⟩⟩)
theorem az4 (h : RowsF A ps f ∈ L) (k : HL c ops Q rest fr hp (Row A (rows ps) :: L)) : HL c ops Q rest fr hp L := fun a w ha hw => k a w ha (aj9 h hw)
theorem az7 {x : Code} (h : RowsF A ps f ∈ L) (k : HC c x Q fr hp (Row A (rows ps) :: L)) : HC c x Q fr hp L := fun a w ha hw => k a w ha (aj9 h hw)
theorem jz0 {p : α} (h : RowsF A ps f ∈ L) (hp' : p ∈ ps) (k : HL c ops Q rest fr hp (f p :: L)) : HL c ops Q rest fr hp L := fun a w ha hw => k a w ha (aq0 h hp' hw)
theorem jz2 {p : α} {x : Code} (h : RowsF A ps f ∈ L) (hp' : p ∈ ps) (k : HC c x Q fr hp (f p :: L)) : HC c x Q fr hp L := fun a w ha hw => k a w ha (aq0 h hp' hw)
abbrev innersF (ps : List α) (f : α → Fact) : Fact := Facts (ps.map f)
theorem kz2 {b : Bx} {w : World} (h : Row A (rows ps) ∈ L) (h2 : innersF ps f ∈ L) (hw : WI b w hp L) : WI b w hp (RowsF A ps f :: L) := by
  have : ∀ p ∈ ps, (f p).P w := fun p hp => hw.fs _ h2 _ (List.mem_map.2 ⟨p, hp, rfl⟩); refine aR hw ⟨hw.fs _ h, this⟩ (fun k hk => ?_)
  rcases hk with hk | ⟨p, hp, hk⟩
  · exact ⟨_, h, hk⟩
  exact ⟨_, h2, _, List.mem_map.2 ⟨p, hp, rfl⟩, hk⟩
theorem mj2 {e : Exit} (h : Row A (rows ps) ∈ L) (h2 : innersF ps f ∈ L) (k : HQ c Q e fr hp (RowsF A ps f :: L)) : HQ c Q e fr hp L := fun a w ha hw => k a w ha (kz2 h h2 hw)
end
theorem gx3 {α : Type} [El α] {A : Option Addr} {ps : List α} {hp : Hp} {L : List Fact} {b : Bx} {w : World} (n : Nat) (h : Row A (rows ps) ∈ L) (hw : WI b w hp L) : WI b w hp (Row A (rows (ps.take n)) :: L) := by
  have h0 := hw.fs _ h; obtain ⟨r, hr⟩ : ∃ r, rows ps = rows (ps.take n) ++ r := ⟨rows (ps.drop n), by rw [← E9, List.take_append_drop]⟩; refine aR hw (fun j u hj => h0 j u ?_) (fun k hk => ⟨_, h, ?_⟩)
  · rw [hr, List.getElem?_append, if_pos (List.getElem?_eq_some_iff.1 hj).1]; exact hj
  obtain ⟨ad, e, h1, h2⟩ := hk; exact ⟨ad, e, h1, fun h3 => h2 (by rw [h3] at hr; exact (List.append_eq_nil_iff.1 hr.symm).1)⟩
theorem yA {α : Type} [El α] {A : Option Addr} {ps : List α} {hp : Hp} {L : List Fact} {c : Cx} {Q : Exit → Act → World → Prop} {fr : Fr} {ops : Array Oper} {rest : List Oper} (n : Nat) (h : Row A (rows ps) ∈ L) (k : HL c ops Q rest fr hp (Row A (rows (ps.take n)) :: L)) : HL c ops Q rest fr hp L := fun a w ha hw => k a w ha (gx3 n h hw)
theorem vB {α : Type} {ps : List α} {f : α → Fact} {L : List Fact} {p : α} (h : innersF ps f ∈ L) (h2 : f p ∈ L) : ∀ F ∈ (ps ++ [p]).map f, F ∈ L ∨ ∃ Gs, Facts Gs ∈ L ∧ F ∈ Gs := by
  intro F hF; rw [List.map_append] at hF
  rcases List.mem_append.1 hF with hF | hF
  · exact .inr ⟨_, h, hF⟩
  simp at hF; subst hF; exact .inl h2
end Go.W
end
section
open Go Go.W
set_option maxRecDepth 20000
attribute [local irreducible] HL HC HQ HB Row Rows2 Blk Facts
namespace Go.W
abbrev Cl := Str × Int
abbrev PH := Str × Int × Int × List Int
structure Tr where
  cs : List Cl
  hs : List PH
deriving DecidableEq
def wd (s : String) : Str := s.toUTF8.toList
def azB (c : UInt8) : Bool := decide (97 ≤ c.toNat) && decide (c.toNat ≤ 122)
def wClass : Str := [99, 108, 97, 115, 115]
def wFinis : Str := [102, 105, 110, 105, 115]
def wordB (s : Str) : Bool := decide (0 < s.length) && (decide (s.length ≤ 12) && (decide (¬ s = wClass) && (decide (¬ s = wFinis) && s.all azB)))
def clsErr (cs : List Cl) (i : Nat) : Int :=
  if wordB (cs.getD i default).1 = false then 2
  else if (cs.getD i default).1 ∈ (cs.take i).map (·.1) then 4
  else if (cs.getD i default).2 < -1 ∨ (cs.length : Int) ≤ (cs.getD i default).2 then 3
  else if (i : Int) ≤ (cs.getD i default).2 then 5 else 0
def alsoErr (n i : Nat) (l : List Int) (k : Nat) : Int :=
  if l.getD k default < 0 ∨ (n : Int) ≤ l.getD k default then 3
  else if l.getD k default = (i : Int) then 9
  else if 0 < k ∧ l.getD k default ≤ l.getD (k - 1) default then 5 else 0
def firstE (f : Nat → Int) : Nat → Int
  | 0 => 0
  | n + 1 => if firstE f n = 0 then f n else firstE f n
def kindBad (h : PH) : Bool := (decide (¬ h.2.2.1 = -1) && (decide (¬ h.2.1 = -1) || decide (0 < h.2.2.2.length))) || (decide (h.2.2.1 = -1) && (decide (h.2.1 = -1) && decide (h.2.2.2.length = 0)))
def headErr (t : Tr) (i : Nat) : Int :=
  if wordB (t.hs.getD i default).1 = false then 2
  else if (t.hs.getD i default).1 ∈ (t.hs.take i).map (·.1) then 4
  else if 0 < i ∧ (t.hs.getD i default).1 < (t.hs.getD (i - 1) default).1 then 5
  else if (t.hs.getD i default).2.1 < -1 ∨ (t.cs.length : Int) ≤ (t.hs.getD i default).2.1 ∨ (t.hs.getD i default).2.2.1 < -1 ∨ (t.hs.length : Int) ≤ (t.hs.getD i default).2.2.1 then 3
  else if (t.hs.getD i default).2.2.1 = (i : Int) then 9
  else if ¬ firstE (alsoErr t.hs.length i (t.hs.getD i default).2.2.2) (t.hs.getD i default).2.2.2.length = 0 then firstE (alsoErr t.hs.length i (t.hs.getD i default).2.2.2) (t.hs.getD i default).2.2.2.length
  else if kindBad (t.hs.getD i default) = true then 8 else 0
def checkT (t : Tr) : Int :=
  if 6 < t.cs.length ∨ 6 < t.hs.length then 6
  else if ¬ firstE (clsErr t.cs) t.cs.length = 0 then firstE (clsErr t.cs) t.cs.length
  else firstE (headErr t) t.hs.length
def pathL (cs : List Cl) : Nat → Int → List Int
  | 0, _ => []
  | d + 1, c => if c < 0 then [] else pathL cs d (cs.getD c.toNat default).2 ++ [c]
def pathT (cs : List Cl) (c : Int) : List Int := pathL cs (c.toNat + 1) c
def leastN (p q : List Int) : Nat → Int
  | 0 => -1
  | k + 1 => if (k : Int) ∈ p ∧ (k : Int) ∈ q then (k : Int) else leastN p q k
def leastT (t : Tr) (a b : Int) : Int := leastN (pathT t.cs a) (pathT t.cs b) t.cs.length
def underT (t : Tr) (c : Int) : List Int := ((List.range t.hs.length).filter fun i => decide (¬ (t.hs.getD i default).2.1 = -1) && decide (c ∈ pathT t.cs (t.hs.getD i default).2.1)).map fun i : Nat => (i : Int)
def followN (hs : List PH) : Nat → Int → Int → Option (Int × Int)
  | 0, _, _ => none
  | d + 1, h, n => if (hs.getD h.toNat default).2.2.1 = -1 then some (h, n) else followN hs d (hs.getD h.toNat default).2.2.1 (n + 1)
def followT (t : Tr) (h : Int) : Option (Int × Int) := followN t.hs (t.hs.length + 1) h 0
def isTrB (t : Tr) (h : Int) : Bool := decide ((t.hs.getD h.toNat default).2.2.1 = -1) && decide (¬ (t.hs.getD h.toNat default).2.1 = -1)
def leadsB (t : Tr) (b : Str) (h i : Nat) : Bool := decide (b <+: (t.hs.getD h default).1) && (match followT t h with | some (e, _) => decide (e = (i : Int)) && isTrB t e | none => false)
def mayT (t : Tr) (b : Str) : List Int := ((List.range t.hs.length).filter fun i => (List.range t.hs.length).any fun h => leadsB t b h i).map fun i : Nat => (i : Int)
def shortN (t : Tr) (w : Str) : Nat → Nat → Option Str
  | 0, n => none
  | d + 1, n => if (mayT t (w.take n)).length = 1 then some (w.take n) else shortN t w d (n + 1)
def shortT (t : Tr) (h : Int) : Option Str := shortN t (t.hs.getD h.toNat default).1 ((t.hs.getD h.toNat default).1.length + 1) 0
theorem firstE_zero {f : Nat → Int} : ∀ {n : Nat}, firstE f n = 0 → ∀ i, i < n → f i = 0
  | 0, _, i, h => by omega
  | n + 1, h, i, hi => by
    rw [firstE] at h
    by_cases h1 : firstE f n = 0
    · rw [if_pos h1] at h
      by_cases h2 : i = n
      · rw [h2]; exact h
      exact firstE_zero h1 i (by omega)
    rw [if_neg h1] at h; exact absurd h h1
theorem lZ {f : Nat → Int} {n : Nat} (h : firstE f n = 0) : firstE f (n + 1) = f n := by rw [firstE, if_pos h]
theorem S7 {f : Nat → Int} {k : Nat} (h0 : firstE f k = 0) (h1 : ¬ f k = 0) : ∀ n, k < n → firstE f n = f k
  | 0, h => by omega
  | n + 1, h => by
    rw [firstE]
    by_cases hk : k = n
    · subst hk; rw [if_pos h0]
    rw [S7 h0 h1 n (by omega), if_neg h1]
structure ClsOK (cs : List Cl) (i : Nat) : Prop where
  w : wordB (cs.getD i default).1 = true
  n : (cs.getD i default).1 ∉ (cs.take i).map (·.1)
  lo : -1 ≤ (cs.getD i default).2
  hi : (cs.getD i default).2 < (i : Int)
structure HeadOK (t : Tr) (i : Nat) : Prop where
  w : wordB (t.hs.getD i default).1 = true
  n : (t.hs.getD i default).1 ∉ (t.hs.take i).map (·.1)
  o : ¬ (0 < i ∧ (t.hs.getD i default).1 < (t.hs.getD (i - 1) default).1)
  c : -1 ≤ (t.hs.getD i default).2.1 ∧ (t.hs.getD i default).2.1 < (t.cs.length : Int)
  s : -1 ≤ (t.hs.getD i default).2.2.1 ∧ (t.hs.getD i default).2.2.1 < (t.hs.length : Int) ∧ ¬ (t.hs.getD i default).2.2.1 = (i : Int)
  a : ∀ k, k < (t.hs.getD i default).2.2.2.length → alsoErr t.hs.length i (t.hs.getD i default).2.2.2 k = 0
  k : kindBad (t.hs.getD i default) = false
structure TrOK (t : Tr) : Prop where
  c6 : t.cs.length ≤ 6
  h6 : t.hs.length ≤ 6
  c : ∀ i, i < t.cs.length → ClsOK t.cs i
  h : ∀ i, i < t.hs.length → HeadOK t i
theorem cls_ok {cs : List Cl} {i : Nat} (h : clsErr cs i = 0) : ClsOK cs i := by
  unfold clsErr at h
  split at h
  · omega
  rename_i h1
  split at h
  · omega
  rename_i h2
  split at h
  · omega
  rename_i h3
  split at h
  · omega
  rename_i h4
  exact ⟨by simpa using h1, h2, by omega, by omega⟩
theorem head_ok {t : Tr} {i : Nat} (h : headErr t i = 0) : HeadOK t i := by
  unfold headErr at h
  split at h
  · omega
  rename_i h1
  split at h
  · omega
  rename_i h2
  split at h
  · omega
  rename_i h3
  split at h
  · omega
  rename_i h4
  split at h
  · omega
  rename_i h5
  split at h
  · rename_i h6; exact absurd h h6
  rename_i h6
  split at h
  · omega
  rename_i h7
  exact ⟨by simpa using h1, h2, h3, by omega, by omega, firstE_zero (Classical.not_not.1 h6), by simpa using h7⟩
theorem dj3 {t : Tr} (h : checkT t = 0) : TrOK t := by
  unfold checkT at h
  split at h
  · omega
  rename_i h1
  split at h
  · rename_i h2; exact absurd h h2
  rename_i h2
  exact ⟨by omega, by omega, fun i hi => cls_ok (firstE_zero (Classical.not_not.1 h2) i hi), fun i hi => head_ok (firstE_zero h i hi)⟩
theorem wW {n i : Nat} {l : List Int} {k : Nat} (h : alsoErr n i l k = 0) : 0 ≤ l.getD k default ∧ l.getD k default < (n : Int) ∧ ¬ l.getD k default = (i : Int) ∧ (0 < k → l.getD (k - 1) default < l.getD k default) := by
  unfold alsoErr at h
  split at h
  · omega
  split at h
  · omega
  split at h
  · omega
  exact ⟨by omega, by omega, by omega, by omega⟩
theorem HeadOK.kinds {t : Tr} {i : Nat} (h : HeadOK t i) : (0 ≤ (t.hs.getD i default).2.2.1 ∧ (t.hs.getD i default).2.1 = -1 ∧ (t.hs.getD i default).2.2.2 = []) ∨ ((t.hs.getD i default).2.2.1 = -1 ∧ 0 ≤ (t.hs.getD i default).2.1) ∨ ((t.hs.getD i default).2.2.1 = -1 ∧ (t.hs.getD i default).2.1 = -1 ∧ (t.hs.getD i default).2.2.2 ≠ []) := by
  have hk := h.k; have hs := h.s; have hc := h.c; unfold kindBad at hk; generalize t.hs.getD i default = x at *; simp only [Bool.or_eq_false_iff, Bool.and_eq_false_iff, decide_eq_false_iff_not] at hk; have hl : x.2.2.2.length = 0 ↔ x.2.2.2 = [] := List.length_eq_zero_iff
  by_cases h1 : x.2.2.1 = -1
  · by_cases h2 : x.2.1 = -1
    · right; right
      refine ⟨h1, h2, fun e => ?_⟩
      rcases hk.2 with h3 | h3 | h3
      · exact h3 h1
      · exact h3 h2
      exact h3 (hl.2 e)
    right; left
    exact ⟨h1, by omega⟩
  left
  rcases hk.1 with h3 | ⟨h3, h4⟩
  · exact absurd h1 h3
  exact ⟨by omega, Classical.not_not.1 h3, hl.1 (by omega)⟩
theorem ax9 (cs : List Cl) (d : Nat) {u : Int} (h : u < 0) : pathL cs d u = [] := by
  cases d with
  | zero => rfl
  | succ d => rw [pathL, if_pos h]
theorem tX (cs : List Cl) (hc : ∀ i, i < cs.length → ClsOK cs i) : ∀ (d : Nat) (c : Int), c < (cs.length : Int) → c.toNat + 1 ≤ d → pathL cs d c = pathT cs c
  | 0, c, _, h => by omega
  | d + 1, c, hl, h => by
    unfold pathT; rw [pathL, pathL]
    by_cases h0 : c < 0
    · rw [if_pos h0, if_pos h0]
    rw [if_neg h0, if_neg h0]; have hcl := hc c.toNat (by omega); have h1 := hcl.lo; have h2 := hcl.hi
    congr 1
    generalize (cs.getD c.toNat default).2 = u at *
    by_cases hu : u < 0
    · rw [ax9 cs d hu, ax9 cs c.toNat hu]
    rw [tX cs hc d u (by omega) (by omega), tX cs hc c.toNat u (by omega) (by omega)]
theorem sD (cs : List Cl) {c : Int} (h : c < 0) : pathT cs c = [] := by unfold pathT; rw [pathL, if_pos h]
theorem ax8 (cs : List Cl) (hc : ∀ i, i < cs.length → ClsOK cs i) {c : Int} (h0 : 0 ≤ c) (hl : c < (cs.length : Int)) : pathT cs c = pathT cs (cs.getD c.toNat default).2 ++ [c] := by
  have hcl := hc c.toNat (by omega); have h1 := hcl.lo; have h2 := hcl.hi
  conv => lhs; unfold pathT
  rw [pathL, if_neg (by omega)]
  congr 1
  by_cases hu : (cs.getD c.toNat default).2 < 0
  · rw [sD cs hu]
    cases hn : c.toNat with
    | zero => rfl
    | succ m => rw [pathL, if_pos (by rw [← hn]; exact hu)]
  exact tX cs hc c.toNat _ (by omega) (by omega)
theorem dx2 (cs : List Cl) (hc : ∀ i, i < cs.length → ClsOK cs i) : ∀ (n : Nat) (c : Int), c.toNat ≤ n → c < (cs.length : Int) → (pathT cs c).Pairwise (· < ·) ∧ ∀ x ∈ pathT cs c, 0 ≤ x ∧ x ≤ c
  | n, c, hn, hl => by
    by_cases h0 : c < 0
    · rw [sD cs h0]; simp
    have hcl := hc c.toNat (by omega); have h1 := hcl.lo; have h2 := hcl.hi; rw [ax8 cs hc (by omega) hl]; generalize (cs.getD c.toNat default).2 = u at *
    have ih : (pathT cs u).Pairwise (· < ·) ∧ ∀ x ∈ pathT cs u, 0 ≤ x ∧ x ≤ u := by
      by_cases hu : u < 0
      · rw [sD cs hu]; simp
      cases n with
      | zero => omega
      | succ n => exact dx2 cs hc n u (by omega) (by omega)
    refine ⟨List.pairwise_append.2 ⟨ih.1, by simp, fun a ha b hb => ?_⟩, fun x hx => ?_⟩
    · rw [List.mem_singleton] at hb; have := (ih.2 a ha).2; omega
    rcases List.mem_append.1 hx with hx | hx
    · have := ih.2 x hx; omega
    rw [List.mem_singleton] at hx; omega
end Go.W
namespace Go.W
structure LeastOK (p q : List Int) (n : Nat) (m : Int) : Prop where
  lo : -1 ≤ m
  hi : m < n
  mem : 0 ≤ m → m ∈ p ∧ m ∈ q
  no : ∀ c : Int, m < c → c < n → c ∈ p → c ∈ q → False
/-! ### Following -/
/-! ### What a beginning means -/
end Go.W
namespace Go.W
/-! ### A heading dropped -/
def fallsB (t : Tr) (g : List Bool) (i : Nat) : Bool :=
  if ¬ (t.hs.getD i default).2.2.1 = -1 then g.getD (t.hs.getD i default).2.2.1.toNat default
  else if ¬ (t.hs.getD i default).2.1 = -1 then false
  else (t.hs.getD i default).2.2.2.all fun n => g.getD n.toNat default
def fallStep (t : Tr) (g : List Bool) (i : Nat) : List Bool := g.set i (g.getD i default || fallsB t g i)
def fallRound (t : Tr) (g : List Bool) : List Bool := (List.range t.hs.length).foldl (fallStep t) g
def goneL (t : Tr) (h : Int) : List Bool := (List.range t.hs.length).foldl (fun g _ => fallRound t g) ((List.replicate t.hs.length false).set h.toNat true)
def numB (g : List Bool) (i : Nat) : Int := (((List.range i).filter fun k => !g.getD k default).length : Nat)
def dropH (g : List Bool) (x : PH) : PH := (x.1, x.2.1, (if 0 ≤ x.2.2.1 then numB g x.2.2.1.toNat else x.2.2.1), (x.2.2.2.filter fun a => !g.getD a.toNat default).map fun a => numB g a.toNat)
def dropT (t : Tr) (h : Int) : Tr := ⟨t.cs, ((List.range t.hs.length).filter fun i => !(goneL t h).getD i default).map fun i => dropH (goneL t h) (t.hs.getD i default)⟩
/-! ### Editions compared -/
def insU (s : Str) : List Str → List Str
  | [] => [s]
  | x :: l => if s < x then s :: x :: l else if s = x then x :: l else x :: insU s l
def sortU (ws : List Str) : List Str := ws.foldr insU []
def wordsT (t : Tr) : List Str := t.hs.map (·.1)
def namesN (t : Tr) (s : Str) : Option (List Str) := (t.hs.find? fun h => decide (h.1 = s) && decide (¬ h.2.1 = -1)).map fun h => (pathT t.cs h.2.1).map fun c => (t.cs.getD c.toNat default).1
def moveN (a b : Tr) (s : Str) : Option (Str × Int) :=
  match namesN a s, namesN b s with
  | some _, none => some (s, 1)
  | none, some _ => some (s, 2)
  | some p, some q => if p = q then none else some (s, 3)
  | none, none => none
def compareT (a b : Tr) : List (Str × Int) := (sortU (wordsT a ++ wordsT b)).filterMap (moveN a b)
/-! ### The fewest references -/
def nextB (t : Tr) (h k : Nat) : Bool := decide ((t.hs.getD h default).2.2.1 = (k : Int)) || decide ((k : Int) ∈ (t.hs.getD h default).2.2.2)
abbrev Edges := Nat → Nat → Bool
def reachB (n : Nat) (e : Edges) (h : Nat) : Nat → Nat → Bool
  | 0, i => decide (i = h)
  | s + 1, i => reachB n e h s i || (List.range n).any fun k => reachB n e h s k && e k i
def freeT (t : Tr) : List (Int × Int) := (List.range t.hs.length).flatMap fun i => if (t.hs.getD i default).2.2.1 = -1 then ((List.range t.hs.length).filter fun k => decide (¬ k = i) && !nextB t i k).map fun k : Nat => ((i : Int), (k : Int)) else []
def withE (t : Tr) (r : List (Int × Int)) : Edges := fun h k => nextB t h k || decide (((h : Int), (k : Int)) ∈ r)
def fineB (t : Tr) (h : Int) (s : Int) (r : List (Int × Int)) : Bool := (List.range t.hs.length).all fun i => !isTrB t i || reachB t.hs.length (withE t r) h.toNat s.toNat i
def combos {α : Type} : Nat → List α → List (List α)
  | 0, _ => [[]]
  | k + 1, [] => []
  | k + 1, x :: l => (combos k l).map (x :: ·) ++ combos (k + 1) l
def joinT (t : Tr) (h s : Int) : Option (List (Int × Int)) :=
  if fineB t h s (freeT t) = false then none else ((List.range ((freeT t).length + 1)).flatMap fun m => combos m (freeT t)).find? (fineB t h s)
end Go.W
open Go.W
def shopsT : Tr := ⟨[(wd "food", -1), (wd "bread", 0), (wd "cloth", -1), (wd "hats", 2)], [(wd "baker", 1, -1, []), (wd "bonnets", -1, 3, []), (wd "confectioner", 0, -1, [0]), (wd "hatter", 3, -1, []), (wd "mercer", 2, -1, [3]), (wd "milliner", -1, 1, [])]⟩
def laterT : Tr := ⟨shopsT.cs, [(wd "baker", 1, -1, []), (wd "bonnets", -1, 2, []), (wd "hatter", 2, -1, []), (wd "ironmonger", 0, -1, []), (wd "mercer", 2, -1, [2]), (wd "milliner", -1, 1, [])]⟩
namespace Go.W
theorem iV {n : Nat} {e : Edges} {h : Nat} {i : Nat} : ∀ {s t : Nat}, s ≤ t → reachB n e h s i = true → reachB n e h t i = true := by
  intro s t hst
  induction t with
  | zero => intro hr; obtain rfl : s = 0 := (by omega); exact hr
  | succ t ih =>
    intro hr
    by_cases hs : s = t + 1
    · subst hs; exact hr
    rw [reachB, ih (by omega) hr, Bool.true_or]
theorem bR {n : Nat} {e : Edges} {h s i : Nat} : reachB n e h (s + 1) i = true ↔ reachB n e h s i = true ∨ ∃ k, k < n ∧ reachB n e h s k = true ∧ e k i = true := by
  rw [reachB, Bool.or_eq_true, List.any_eq_true]
  constructor
  · rintro (h1 | ⟨k, h1, h2⟩)
    · exact .inl h1
    rw [Bool.and_eq_true] at h2; exact .inr ⟨k, List.mem_range.1 h1, h2⟩
  rintro (h1 | ⟨k, h1, h2⟩)
  · exact .inl h1
  exact .inr ⟨k, List.mem_range.2 h1, by rw [Bool.and_eq_true]; exact h2⟩
theorem lL {n : Nat} {e : Edges} {h s : Nat} (hs : ∀ i, i < n → reachB n e h (s + 1) i = true → reachB n e h s i = true) : ∀ (d i : Nat), i < n → reachB n e h (s + d) i = true → reachB n e h s i = true
  | 0, i, _, hr => hr
  | d + 1, i, hi, hr => by
    rw [show s + (d + 1) = (s + d) + 1 by omega, bR] at hr
    rcases hr with hr | ⟨k, h1, h2, h3⟩
    · exact lL hs d i hi hr
    exact hs i hi (bR.2 (.inr ⟨k, h1, lL hs d k h1 h2, h3⟩))
theorem gj8 {p q : Nat → Bool} : ∀ {n : Nat}, (∀ i, i < n → p i = true → q i = true) → (∃ i, i < n ∧ q i = true ∧ p i = false) → (List.range n).countP p < (List.range n).countP q
  | 0, _, ⟨i, h, _⟩ => by omega
  | n + 1, h, ⟨i, h1, h2, h3⟩ => by
    rw [List.range_succ, List.countP_append, List.countP_append]; have hle : (List.range n).countP p ≤ (List.range n).countP q := List.countP_mono_left fun x hx hp => h x (by have := List.mem_range.1 hx; omega) hp; simp only [List.countP_cons, List.countP_nil]
    by_cases hi : i = n
    · subst hi
      rw [h2, h3]
      simp; omega
    have := gj8 (n := n) (fun x hx hp => h x (by omega) hp) ⟨i, by omega, h2, h3⟩; have hn := h n (by omega)
    cases hp : p n
    · simp; split <;> omega
    rw [hn hp]; simp; omega
theorem ax4 {n : Nat} {e : Edges} {h : Nat} (hh : h < n) : ∀ (s : Nat), (∃ k, k ≤ s ∧ ∀ i, i < n → reachB n e h (k + 1) i = true → reachB n e h k i = true) ∨ s < (List.range n).countP (reachB n e h s)
  | 0 => by
    right
    rw [List.countP_pos_iff]; exact ⟨h, List.mem_range.2 hh, by rw [reachB]; simp⟩
  | s + 1 => by
    rcases ax4 hh s with ⟨k, h1, h2⟩ | h1
    · exact .inl ⟨k, by omega, h2⟩
    by_cases hs : ∀ i, i < n → reachB n e h (s + 1) i = true → reachB n e h s i = true
    · exact .inl ⟨s, by omega, hs⟩
    right
    simp only [Classical.not_forall] at hs; obtain ⟨i, hi, hr, hn⟩ := hs; have := gj8 (p := reachB n e h s) (q := reachB n e h (s + 1)) (n := n) (fun x _ hp => iV (by omega) hp) ⟨i, hi, hr, by simpa using hn⟩
    omega
theorem ax3 {n : Nat} {e : Edges} {h : Nat} (hh : h < n) {s i : Nat} (hi : i < n) (hr : reachB n e h s i = true) : reachB n e h n i = true := by
  by_cases hs : s ≤ n
  · exact iV hs hr
  rcases ax4 (e := e) hh n with ⟨k, h1, h2⟩ | h1
  · exact iV h1 (lL h2 (s - k) i hi (by rw [show k + (s - k) = s by omega]; exact hr))
  have : (List.range n).countP (reachB n e h n) ≤ (List.range n).length := List.countP_le_length; rw [List.length_range] at this
  omega
def distB (n : Nat) (e : Edges) (h i : Nat) : Option Nat := (List.range (n + 1)).find? fun s => reachB n e h s i
theorem yF {p : Nat → Bool} : ∀ {m s : Nat}, (List.range m).find? p = some s ↔ s < m ∧ p s = true ∧ ∀ k, k < s → p k = false
  | 0, s => by simp
  | m + 1, s => by
    rw [List.range_succ, List.find?_append]
    cases hf : (List.range m).find? p with
    | some r =>
      have hr := (yF (m := m)).1 hf; simp only [Option.some_or, Option.some.injEq]
      constructor
      · rintro rfl; exact ⟨by omega, hr.2⟩
      rintro ⟨h1, h2, h3⟩
      rcases Nat.lt_trichotomy r s with h | h | h
      · have := h3 r h; rw [hr.2.1] at this; cases this
      · exact h
      have := hr.2.2 s h; rw [h2] at this; cases this
    | none =>
      have hn : ∀ k, k < m → p k = false := by
        intro k hk; have := List.find?_eq_none.1 hf k (List.mem_range.2 hk)
        simpa using this
      simp only [Option.none_or, List.find?_singleton]
      constructor
      · intro h
        split at h
        · rename_i hp; cases h; exact ⟨by omega, hp, hn⟩
        cases h
      rintro ⟨h1, h2, h3⟩
      by_cases hs : s = m
      · subst hs; rw [if_pos h2]
      have := hn s (by omega); rw [h2] at this; cases this
theorem kj9 {n : Nat} {e : Edges} {h i s : Nat} : distB n e h i = some s ↔ s < n + 1 ∧ reachB n e h s i = true ∧ ∀ k, k < s → reachB n e h k i = false := yF
theorem kq0 {n : Nat} {e : Edges} {h i : Nat} : distB n e h i = none ↔ ∀ s, s ≤ n → reachB n e h s i = false := by
  unfold distB; rw [List.find?_eq_none]
  constructor
  · intro h s hs; simpa using h s (List.mem_range.2 (by omega))
  intro h s hs; simp [h s (by have := List.mem_range.1 hs; omega)]
def distI (n : Nat) (e : Edges) (h i : Nat) : Int := match distB n e h i with | some s => (s : Int) | none => -1
def stepsT (t : Tr) (h : Int) : List Int := (List.range t.hs.length).map fun i => distI t.hs.length (nextB t) h.toNat i
end Go.W
namespace Go.W
theorem slt_irr (a : Str) : ¬ a < a := List.lt_irrefl a
theorem ij8 {a b : Str} (h1 : ¬ a < b) (h2 : ¬ b < a) : a = b := List.le_antisymm (List.not_lt.1 h2) (List.not_lt.1 h1)
def flipK (m : Str × Int) : Str × Int := (m.1, if m.2 = 1 then 2 else if m.2 = 2 then 1 else m.2)
structure MoveOK (a b : Tr) (m : Str × Int) : Prop where
  k1 : m.2 = 1 → (namesN a m.1).isSome = true ∧ (namesN b m.1).isSome = false
  k2 : m.2 = 2 → (namesN a m.1).isSome = false ∧ (namesN b m.1).isSome = true
  k3 : m.2 = 3 → (namesN a m.1).isSome = true ∧ (namesN b m.1).isSome = true
  k : m.2 = 1 ∨ m.2 = 2 ∨ m.2 = 3
end Go.W
end
section
namespace Go.Proofs.YtmpfpfbcejfijaaGreatDoor
open Go Go.W
set_option maxRecDepth 20000
attribute [local irreducible] HL HC HQ HB Row Rows2 Blk Facts
instance : El Cl where
  default := ([], 0)
  cells m := [str m.1, int m.2]
  sz := 2
  len _ := rfl
  one a u h := by simp at h; rcases h with h | h <;> subst h <;> rfl
abbrev Hd := Str × Int × Int × Sl Int
instance : El Hd where
  default := ([], 0, 0, ⟨none, 0, []⟩)
  cells m := [str m.1, int m.2.1, int m.2.2.1, .slice m.2.2.2.a m.2.2.2.l.length m.2.2.2.c]
  sz := 4
  len _ := rfl
  one a u h := by simp at h; rcases h with h | h | h | h <;> subst h <;> rfl
def Hd.p (h : Hd) : PH := (h.1, h.2.1, h.2.2.1, h.2.2.2.l)
abbrev Hd.row (h : Hd) : Fact := Row h.2.2.2.a (rows h.2.2.2.l)
abbrev trOf (cs : List Cl) (hs : List Hd) : Tr := ⟨cs, hs.map Hd.p⟩
theorem gx9 (a b : Str) : Op.bytesLess a b = decide (a < b) := bytesLess_eq a b
theorem w4 {α : Type} [Inhabited α] {l : List α} {k : Nat} (hk : k < l.length) : l.getD k default = l[k] := by simp [List.getD_eq_getElem?_getD, hk]
theorem u0 {α : Type} [Inhabited α] {l : List α} {k : Nat} (hk : k < l.length) : l.getD k default ∈ l := by rw [w4 hk]; exact List.getElem_mem hk
theorem yC {hs : List Hd} {k : Nat} (hk : k < hs.length) : (hs.map Hd.p).getD k default = (hs.getD k default).p := by
  rw [w4 hk, w4 (by simpa using hk)]; simp
theorem H5 (n lo hi : Int) : Meets Tryz.prog F.dG [int n, int lo, int hi] { val := fun _ : Unit => .bool (decide (lo ≤ n ∧ n ≤ hi)) } := by
 refine j8 F.vO rfl t4 fun w0 => ?_; refine j3 (b9 rfl (k9 (b8 rfl (b8 rfl (uV rfl rfl rfl (b8 rfl ?_)))))); refine r5 rfl rfl ?_ ?_
 ·intro hg1; have hg1' := hg1; try simp at hg1'
  refine k5 rfl rfl hg1 (b8 rfl (k5 rfl rfl hg1 (b8 rfl (k5 rfl rfl hg1 (uV rfl rfl rfl ?_))))); refine p_t rfl rfl (bt1 hg1) rfl ?_; refine b9 rfl (d9 (l7 ?_)); exact ret1 () rfl (congrArg (fun b => some (Value.bool b)) (by simp [hg1'])) rfl trivial nil_sb trivial
 intro hg1; have hg1' := hg1; try simp at hg1'
 refine u2 rfl rfl rfl rfl rfl hg1 (u2 rfl rfl rfl rfl rfl hg1 (u2 rfl rfl rfl rfl rfl hg1 ?_)); refine p_f rfl rfl (bf2 hg1) rfl ?_; refine b9 rfl (d9 (l7 ?_)); exact ret1 () rfl (congrArg (fun b => some (Value.bool b)) (by simp [Int.not_le.2 hg1'])) rfl trivial nil_sb trivial
theorem aj8 {s : Str} {p : Nat} (hp : p < s.length) (h : s[p].toNat < 97 ∨ 122 < s[p].toNat) : wordB s = false := by
  have : s.all azB = false := by
    rw [List.all_eq_false]; refine ⟨s[p], List.getElem_mem hp, ?_⟩; simp only [azB, Bool.and_eq_true, decide_eq_true_eq]
    omega
  simp [wordB, this]
theorem nj6 {s : Str} {k : Nat} (hk : k < s.length) (h : (s.take k).all azB = true) (h1 : 97 ≤ s[k].toNat ∧ s[k].toNat ≤ 122) : (s.take (k + 1)).all azB = true := by
  rw [List.take_succ_eq_append_getElem hk, List.all_append, h]
  simp [azB, h1]
theorem iz7 {s : Str} (h1 : ¬ s = []) (h2 : (s.length : Int) ≤ 12) (h3 : ¬ s = wClass) (h4 : ¬ s = wFinis) (h5 : s.all azB = true) : wordB s = true := by
  have h0 : 0 < s.length := List.length_pos_iff.2 h1; have h2' : s.length ≤ 12 := by omega
  simp only [wordB, h5, h3, h4, h0, h2', decide_true, Bool.and_true, not_false_eq_true]
theorem dY (s : Str) : Meets Tryz.prog F.pI [str s] { val := fun _ : Unit => .bool (wordB s) } := by
 refine j8 F.bq6 rfl t4 fun w0 => ?_; refine j3 (b9 rfl (d9 (j6 (j3 (b8 rfl ?_))))); refine ax7 rfl T.kU rfl ?_; refine D8 rfl rfl rfl (b8 rfl ?_); refine r5 rfl rfl ?_ ?_
 ·intro hg1; have hg1' := hg1; try simp at hg1'
  refine k5 rfl rfl hg1 (b8 rfl (k5 rfl rfl hg1 ?_)); refine ax7 rfl T.kU rfl ?_; refine k5 rfl rfl hg1 (V7 rfl rfl rfl ?_); refine p_f rfl rfl (bf1 hg1) rfl (b8 rfl ?_); refine r5 rfl rfl ?_ ?_
  ·intro hg2; have hg2' := hg2; try simp at hg2'
   refine k5 rfl rfl hg2 (b8 rfl (k5 rfl rfl hg2 (xN rfl rfl rfl ?_))); refine p_f rfl rfl (bf1 hg2) rfl (b8 rfl ?_); refine r5 rfl rfl ?_ ?_
   ·intro hg3; have hg3' := hg3; try simp at hg3'
    refine k5 rfl rfl hg3 (b8 rfl (k5 rfl rfl hg3 (xN rfl rfl rfl ?_))); refine p_f rfl rfl (bf1 hg3) rfl ?_; refine d9 ?_
    first | refine m7 rfl (fun hb1 => ?_) (fun hb1 => ?_) | refine k4 rfl (fun hb1 => ?_) (fun hb1 => ?_)
    ·have hb1' := hb1; try simp at hb1'
     refine j3 (b9 rfl (d9 (J1 ?_))); exact ret1 () rfl (congrArg (fun b => some (Value.bool b)) (by rw [hb1]; decide)) rfl trivial nil_sb trivial
    have hb1' := hb1; try simp at hb1'
    have h4 := hb1; refine k7 (j9 (j6 (j3 (b8 rfl ?_)))); refine lq2 rfl T.kU rfl fun gI => ?_; refine d9 (l4 ?_); refine v8 (β := Nat) ⟨fun k => k ≤ s.length ∧ (s.take k).all azB = true, fun k => [(0, str s), (22, .pointer (b4 gI))], fun k => [(gI, iter s k)], fun _ => []⟩ (fun k => s.length - k) 0 ⟨Nat.zero_le _, rfl⟩ mC (.refl _) trivial fun k hk => ?_; obtain ⟨hk, ht⟩ := hk; refine j3 ?_; refine r_nextS rfl rfl (.refl _) ?_; refine r_ext0 rfl rfl (d9 (j6 ?_))
    first | refine m7 rfl (fun hb2 => ?_) (fun hb2 => ?_) | refine k4 rfl (fun hb2 => ?_) (fun hb2 => ?_)
    ·have hb2' := hb2; try simp at hb2'
     refine k7 (j9 (l4 (j3 (r_ext2 rfl rfl hb2 (b9 rfl (k9 (b8 rfl ?_))))))); refine A7 rfl rfl rfl (b8 rfl ?_); refine r5 rfl rfl ?_ ?_
     ·intro hg4; have hg4' := hg4; try simp at hg4'
      refine k5 rfl rfl hg4 (b8 rfl (k5 rfl rfl hg4 (V7 rfl rfl rfl ?_))); refine p_f rfl rfl (bf1 hg4) rfl ?_; refine d9 ?_
      first | refine m7 rfl (fun hb3 => ?_) (fun hb3 => ?_) | refine k4 rfl (fun hb3 => ?_) (fun hb3 => ?_)
      ·have hb3' := hb3; try simp at hb3'
       refine j3 (b9 rfl (d9 (l7 (C2 (C2 ?_))))); exact ret1 () rfl (congrArg (fun b => some (Value.bool b)) (by exact (aj8 hb2 (ix6 hb2 (lo := 97) (hi := 122) (by decide) (.inr (by omega)))).symm)) rfl trivial nil_sb trivial
      have hb3' := hb3; try simp at hb3'
      refine k7 (z2 ?_); have hin := dec_in (p := k) (s := s) hb2 (lo := 97) (hi := 122) (by decide) (by simp at hg4; omega); refine again _ (k + 1) ⟨by omega, nj6 hb2 ht ⟨hin.1, hin.2.1⟩⟩ (A5 (by omega)) mC ?_ trivial; rw [hin.2.2]; exact (.refl _)
     intro hg4; have hg4' := hg4; try simp at hg4'
     refine u2 rfl rfl rfl rfl rfl hg4 (u2 rfl rfl rfl rfl rfl hg4 ?_); refine p_t rfl rfl (bt2 hg4) rfl ?_; refine d9 (c_t rfl rfl (j3 (b9 rfl (d9 (l7 (C2 (Y6 ?_))))))); refine w6 ?_; exact ret1 () rfl (congrArg (fun b => some (Value.bool b)) (by exact (aj8 hb2 (ix6 hb2 (lo := 97) (hi := 122) (by decide) (.inl (by simp at hg4; omega)))).symm)) rfl trivial nil_sb trivial
    have hb2' := hb2; try simp at hb2'
    have hk2 : k = s.length := by omega
    subst hk2; rw [List.take_length] at ht; refine v5 (C3 (u9 (j9 (j3 (b9 rfl (d9 (l7 ?_))))))); exact ret1 () rfl (congrArg (fun b => some (Value.bool b)) (by exact (iz7 hg1' hg2' hg3' h4 ht).symm)) rfl trivial nil_sb trivial
   intro hg3; have hg3' := hg3; try simp at hg3'
   refine u2 rfl rfl rfl rfl rfl hg3 (u2 rfl rfl rfl rfl rfl hg3 ?_); refine p_t rfl rfl (bt2 hg3) rfl ?_; refine d9 (c_t rfl rfl (j3 (b9 rfl (d9 (J1 ?_))))); exact ret1 () rfl (congrArg (fun b => some (Value.bool b)) (by simp at hg3; rw [hg3]; decide)) rfl trivial nil_sb trivial
  intro hg2; have hg2' := hg2; try simp at hg2'
  refine u2 rfl rfl rfl rfl rfl hg2 (u2 rfl rfl rfl rfl rfl hg2 ?_); refine p_t rfl rfl (bt2 hg2) rfl ?_; refine b8 rfl (u2 rfl rfl rfl rfl rfl rfl (u2 rfl rfl rfl rfl rfl rfl (p_t rfl rfl rfl rfl (d9 (c_t rfl rfl (j3 (b9 rfl (d9 ?_)))))))); refine J1 ?_; exact ret1 () rfl (congrArg (fun b => some (Value.bool b)) (by simp at hg2; simp [wordB, Nat.not_le.2 (show 12 < s.length by omega)])) rfl trivial nil_sb trivial
 intro hg1; have hg1' := hg1; try simp at hg1'
 refine u2 rfl rfl rfl rfl rfl hg1 (u2 rfl rfl rfl rfl rfl hg1 (u2 rfl rfl rfl rfl rfl hg1 ?_)); refine p_t rfl rfl (bt2 hg1) rfl ?_; refine b8 rfl (u2 rfl rfl rfl rfl rfl rfl (u2 rfl rfl rfl rfl rfl rfl (p_t rfl rfl rfl rfl (b8 rfl (u2 rfl rfl rfl rfl rfl rfl (u2 rfl rfl rfl rfl rfl rfl (p_t rfl rfl rfl rfl (d9 (c_t rfl rfl (j6 ?_)))))))))); refine k8 (b9 rfl (d9 (J1 ?_))); exact ret1 () rfl (congrArg (fun b => some (Value.bool b)) (by simp at hg1; simp [wordB, hg1])) rfl trivial nil_sb trivial
theorem dz0 {α : Type} [Inhabited α] (f : α → Str) {l : List α} {k : Nat} {s : Str} (hk : k < l.length) (ht : s ∉ (l.take k).map f) (h : ¬ f (l.getD k default) = s) : s ∉ (l.take (k + 1)).map f := by
  rw [L3 l k hk, List.map_append]; simp only [List.mem_append, List.map_cons, List.map_nil, List.mem_singleton, not_or]; exact ⟨ht, fun e => h e.symm⟩
theorem dF {g : Nat} (x c : Cl) : Meets Tryz.prog F.G2 [.agg (El.cells x).toArray, .pointer (b4 g)] { LI := [Row (b4 g) (rows [c])], val := fun _ : Unit => .bool (decide (x.1 = c.1)) } := by
 refine j8 F.kZ rfl t4 fun w0 => ?_; refine j3 ?_; refine C4 rfl rfl fun gB => ?_; refine b9 rfl (k9 ?_)
 first | refine a7 ⟨_, 0, none⟩ rfl rfl T.L7 rfl ?_ | refine a7 _ rfl rfl T.L7 rfl ?_
 first | refine a8 rfl T.s6 rfl (j0 mB rfl) ?_ | refine a8 rfl T.s6 rfl (i8 mB rfl) ?_ | refine a8 rfl T.s6 rfl (d8 mB (d4 (by omega) rfl)) ?_ | refine a8 rfl T.s6 rfl (d7 mB (rows_get (by omega) rfl)) ?_ | refine a8 rfl T.s6 rfl (g4 mB rfl) ?_
 first | refine a7 ⟨_, 0, none⟩ rfl rfl T.L7 rfl ?_ | refine a7 _ rfl rfl T.L7 rfl ?_
 first | refine a8 rfl T.s6 rfl (j0 mB rfl) ?_ | refine a8 rfl T.s6 rfl (i8 mB rfl) ?_ | refine a8 rfl T.s6 rfl (d8 mB (d4 (by omega) rfl)) ?_ | refine a8 rfl T.s6 rfl (d7 mB (rows_get (by omega) rfl)) ?_ | refine a8 rfl T.s6 rfl (g4 mB rfl) ?_
 refine xN rfl rfl rfl (b9 rfl (d9 (l7 ?_))); exact ret1 () rfl rfl rfl trivial nil_sb trivial
theorem iQ {A : Option Addr} {cp g : Nat} (l : List Cl) (c : Cl) (hl : l.length ≤ 1000000) : Meets Tryz.prog F.W3 [.slice A l.length cp, .func (.func F.G2) #[] #[.pointer (b4 g)]] { LI := [Row A (rows l), Row (b4 g) (rows [c])], inv := fun z : Int => (0 ≤ z ↔ c.1 ∈ l.map (·.1)), val := fun z => int z } := by
 refine j8 F.pR rfl t4 fun w0 => ?_; refine j3 (b9 rfl (d9 (j6 (j3 (b8 rfl ?_))))); refine l9 rfl T.D9 rfl ?_; refine b8 rfl (d9 (l4 ?_)); refine v8 (β := Nat) ⟨fun k => k ≤ l.length ∧ c.1 ∉ (l.take k).map (·.1), fun k => [(0, .slice A l.length cp), (1, .func (.func F.G2) #[] #[.pointer (b4 g)]), (7, int l.length), (8, int k)], fun _ => [], fun _ => [Row A (rows l), Row (b4 g) (rows [c])]⟩ (fun k => l.length - k) 0 ⟨Nat.zero_le _, by simp⟩ mC (.refl _) ⟨m0, m1, trivial⟩ fun k hk => ?_; obtain ⟨hk, ht⟩ := hk; refine j3 (A7 rfl rfl rfl (d9 (j6 ?_)))
 first | refine m7 rfl (fun hb1 => ?_) (fun hb1 => ?_) | refine k4 rfl (fun hb1 => ?_) (fun hb1 => ?_)
 ·have hb1' := hb1; try simp at hb1'
  have hk2 : k < l.length := by omega
  refine k7 (j9 (j6 (l4 (j3 (b8 rfl (b9 rfl (k9 ?_))))))); refine b8 rfl (b8 rfl (b8 rfl ?_)); refine w3 (α := Cl) _ _ rfl T.D9 T.H9 rfl rfl rfl mB rfl (by omega) (by decide) (r8 rfl T.dL T.H9 rfl rfl (m9 mB (q8 (by omega))) ?_); refine O8 (vs := [.agg (El.cells (l.getD k default)).toArray]) (cap := [.pointer (b4 g)]) F.kF rfl rfl rfl (dF (l.getD k default) c) l5 ⟨m1, trivial⟩ fun _ _ => ?_; refine d9 ?_
  first | refine m7 rfl (fun hb2 => ?_) (fun hb2 => ?_) | refine k4 rfl (fun hb2 => ?_) (fun hb2 => ?_)
  ·have hb2' := hb2; try simp at hb2'
   refine j3 (b8 rfl (b9 rfl (d9 (l7 (C2 (w6 (C2 ?_))))))); exact ret1 (k : Int) rfl rfl rfl ⟨fun _ => List.mem_map.2 ⟨_, u0 hk2, hb2⟩, fun _ => by omega⟩ nil_sb trivial
  have hb2' := hb2; try simp at hb2'
  refine k7 (z2 (j9 (k8 ?_))); refine y2 _ rfl rfl rfl rfl s9 ?_; refine b8 rfl (d6 ?_); exact again _ (k + 1) ⟨by omega, dz0 (·.1) hk2 ht hb2⟩ (A5 (by omega)) mC nil_sb ⟨m0, m1, trivial⟩
 have hb1' := hb1; try simp at hb1'
 have hk2 : k = l.length := by omega
 subst hk2; rw [List.take_length] at ht; refine v5 (C3 (u9 (j9 (j3 (b9 rfl (d9 (l7 ?_))))))); exact ret1 (-1) rfl rfl rfl ⟨fun h => by omega, fun h => absurd h ht⟩ (.refl _) trivial
theorem cN {A : Option Addr} {cp g : Nat} (l : List Cl) (c : Cl) (hl : l.length ≤ 1000000) : Meets Tryz.prog F.Q1 [.slice A l.length cp, .func (.func F.G2) #[] #[.pointer (b4 g)]] { LI := [Row A (rows l), Row (b4 g) (rows [c])], val := fun _ : Unit => .bool (decide (c.1 ∈ l.map (·.1))) } := by
 refine j8 F.kJ rfl t4 fun w0 => ?_; refine j3 (b9 rfl (k9 (b8 rfl (b8 rfl ?_)))); refine i9 F.nN rfl rfl (iQ l c hl) (.refl _) ⟨m0, m1, trivial⟩ fun z hz => ?_; refine nX rfl rfl rfl (b9 rfl (d9 (l7 ?_))); exact ret1 () rfl (congrArg (fun b => some (Value.bool b)) (decide_eq_decide.2 hz)) rfl trivial nil_sb trivial
theorem dZ {g : Nat} (x c : Hd) : Meets Tryz.prog F.H1 [.agg (El.cells x).toArray, .pointer (b4 g)] { LI := [Row (b4 g) (rows [c])], val := fun _ : Unit => .bool (decide (x.1 = c.1)) } := by
 refine j8 F.nJ rfl t4 fun w0 => ?_; refine j3 ?_; refine C4 rfl rfl fun gB => ?_; refine b9 rfl (k9 ?_)
 first | refine a7 ⟨_, 0, none⟩ rfl rfl T.E1 rfl ?_ | refine a7 _ rfl rfl T.E1 rfl ?_
 first | refine a8 rfl T.s6 rfl (j0 mB rfl) ?_ | refine a8 rfl T.s6 rfl (i8 mB rfl) ?_ | refine a8 rfl T.s6 rfl (d8 mB (d4 (by omega) rfl)) ?_ | refine a8 rfl T.s6 rfl (d7 mB (rows_get (by omega) rfl)) ?_ | refine a8 rfl T.s6 rfl (g4 mB rfl) ?_
 first | refine a7 ⟨_, 0, none⟩ rfl rfl T.E1 rfl ?_ | refine a7 _ rfl rfl T.E1 rfl ?_
 first | refine a8 rfl T.s6 rfl (j0 mB rfl) ?_ | refine a8 rfl T.s6 rfl (i8 mB rfl) ?_ | refine a8 rfl T.s6 rfl (d8 mB (d4 (by omega) rfl)) ?_ | refine a8 rfl T.s6 rfl (d7 mB (rows_get (by omega) rfl)) ?_ | refine a8 rfl T.s6 rfl (g4 mB rfl) ?_
 refine xN rfl rfl rfl (b9 rfl (d9 (l7 ?_))); exact ret1 () rfl rfl rfl trivial nil_sb trivial
theorem gJ {A : Option Addr} {cp g : Nat} (l : List Hd) (c : Hd) (hl : l.length ≤ 1000000) : Meets Tryz.prog F.U4 [.slice A l.length cp, .func (.func F.H1) #[] #[.pointer (b4 g)]] { LI := [Row A (rows l), Row (b4 g) (rows [c])], inv := fun z : Int => (0 ≤ z ↔ c.1 ∈ l.map (·.1)), val := fun z => int z } := by
 refine j8 F.nM rfl t4 fun w0 => ?_; refine j3 (b9 rfl (d9 (j6 (j3 (b8 rfl ?_))))); refine l9 rfl T.w8 rfl ?_; refine b8 rfl (d9 (l4 ?_)); refine v8 (β := Nat) ⟨fun k => k ≤ l.length ∧ c.1 ∉ (l.take k).map (·.1), fun k => [(0, .slice A l.length cp), (1, .func (.func F.H1) #[] #[.pointer (b4 g)]), (7, int l.length), (8, int k)], fun _ => [], fun _ => [Row A (rows l), Row (b4 g) (rows [c])]⟩ (fun k => l.length - k) 0 ⟨Nat.zero_le _, by simp⟩ mC (.refl _) ⟨m0, m1, trivial⟩ fun k hk => ?_; obtain ⟨hk, ht⟩ := hk; refine j3 (A7 rfl rfl rfl (d9 (j6 ?_)))
 first | refine m7 rfl (fun hb1 => ?_) (fun hb1 => ?_) | refine k4 rfl (fun hb1 => ?_) (fun hb1 => ?_)
 ·have hb1' := hb1; try simp at hb1'
  have hk2 : k < l.length := by omega
  refine k7 (j9 (j6 (l4 (j3 (b8 rfl (b9 rfl (k9 ?_))))))); refine b8 rfl (b8 rfl (b8 rfl ?_)); refine w3 (α := Hd) _ _ rfl T.w8 T.E8 rfl rfl rfl mB rfl (by omega) (by decide) (r8 rfl T.iU T.E8 rfl rfl (m9 mB (q8 (by omega))) ?_); refine O8 (vs := [.agg (El.cells (l.getD k default)).toArray]) (cap := [.pointer (b4 g)]) F.kY rfl rfl rfl (dZ (l.getD k default) c) l5 ⟨m1, trivial⟩ fun _ _ => ?_; refine d9 ?_
  first | refine m7 rfl (fun hb2 => ?_) (fun hb2 => ?_) | refine k4 rfl (fun hb2 => ?_) (fun hb2 => ?_)
  ·have hb2' := hb2; try simp at hb2'
   refine j3 (b8 rfl (b9 rfl (d9 (l7 (C2 (w6 (C2 ?_))))))); exact ret1 (k : Int) rfl rfl rfl ⟨fun _ => List.mem_map.2 ⟨_, u0 hk2, hb2⟩, fun _ => by omega⟩ nil_sb trivial
  have hb2' := hb2; try simp at hb2'
  refine k7 (z2 (j9 (k8 ?_))); refine y2 _ rfl rfl rfl rfl s9 ?_; refine b8 rfl (d6 ?_); exact again _ (k + 1) ⟨by omega, dz0 (·.1) hk2 ht hb2⟩ (A5 (by omega)) mC nil_sb ⟨m0, m1, trivial⟩
 have hb1' := hb1; try simp at hb1'
 have hk2 : k = l.length := by omega
 subst hk2; rw [List.take_length] at ht; refine v5 (C3 (u9 (j9 (j3 (b9 rfl (d9 (l7 ?_))))))); exact ret1 (-1) rfl rfl rfl ⟨fun h => by omega, fun h => absurd h ht⟩ (.refl _) trivial
theorem bP {A : Option Addr} {cp g : Nat} (l : List Hd) (c : Hd) (hl : l.length ≤ 1000000) : Meets Tryz.prog F.O5 [.slice A l.length cp, .func (.func F.H1) #[] #[.pointer (b4 g)]] { LI := [Row A (rows l), Row (b4 g) (rows [c])], val := fun _ : Unit => .bool (decide (c.1 ∈ l.map (·.1))) } := by
 refine j8 F.iS rfl t4 fun w0 => ?_; refine j3 (b9 rfl (k9 (b8 rfl (b8 rfl ?_)))); refine i9 F.lJ rfl rfl (gJ l c hl) (.refl _) ⟨m0, m1, trivial⟩ fun z hz => ?_; refine nX rfl rfl rfl (b9 rfl (d9 (l7 ?_))); exact ret1 () rfl (congrArg (fun b => some (Value.bool b)) (decide_eq_decide.2 hz)) rfl trivial nil_sb trivial
theorem iN {A : Option Addr} {cp : Nat} (cs : List Cl) (i : Nat) (h6 : cs.length ≤ 6) (hc : cs.length ≤ cp) (hi : i < cs.length) : Meets Tryz.prog F.W2 [.slice A cs.length cp, int i] { LI := [Row A (rows cs)], val := fun _ : Unit => int (clsErr cs i) } := by
 refine j8 F.pN rfl t4 fun w0 => ?_; refine j3 (b9 rfl (k9 (b8 rfl (b8 rfl ?_)))); refine w3 (α := Cl) _ _ rfl T.D9 T.H9 rfl rfl rfl mB rfl (by omega) (by decide) (r8 rfl T.dL T.H9 rfl rfl (m9 mB (q8 (by omega))) ?_); refine z1 rfl (fun _ => T.tL _) fun gA => ?_; refine u3 rfl rfl (by first | exact .refl _ | exact perm2 _ _ _ | exact perm3 _ _ _ _ | exact perm4 _ _ _ _ _) T.H9 (by rfl) (by rfl) ?_; refine d9 (j6 (l4 (j6 ?_))); refine lX (rows [cs.getD i default]) ⟨[], List.append_nil _⟩ ?_; refine k8 ?_
 first | refine a7 ⟨_, 0, none⟩ rfl rfl T.L7 rfl ?_ | refine a7 _ rfl rfl T.L7 rfl ?_
 first | refine a8 rfl T.s6 rfl (j0 mB rfl) ?_ | refine a8 rfl T.s6 rfl (i8 mB rfl) ?_ | refine a8 rfl T.s6 rfl (d8 mB (d4 (by omega) rfl)) ?_ | refine a8 rfl T.s6 rfl (d7 mB (rows_get (by omega) rfl)) ?_ | refine a8 rfl T.s6 rfl (g4 mB rfl) ?_
 refine i9 F.nT rfl rfl (dY (cs.getD i default).1) (.refl _) trivial fun _ _ => ?_; refine D5 rfl rfl (b9 rfl (d9 ?_))
 first | refine m7 rfl (fun hb1 => ?_) (fun hb1 => ?_) | refine k4 rfl (fun hb1 => ?_) (fun hb1 => ?_)
 ·have hb1' := hb1; try simp at hb1'
  have h1 : wordB (cs.getD i default).1 = false := by simpa using hb1
  refine j3 (b9 rfl (d9 (l7 (C2 ?_)))); exact ret1 () rfl (congrArg (fun b => some (int b)) (by rw [clsErr, if_pos h1])) rfl trivial nil_sb trivial
 have hb1' := hb1; try simp at hb1'
 have h1 : ¬ wordB (cs.getD i default).1 = false := by simpa using hb1
 refine j3 (b8 rfl (b8 rfl ?_)); refine pT (cs.take i).length rfl T.D9 T.H9 rfl rfl (by simp; omega) (by simp; omega) ?_; refine yA i m1 (bS rfl rfl rfl ?_); refine i9 F.iT rfl rfl (cN (cs.take i) (cs.getD i default) (by simp; omega)) (.refl _) ⟨m0, m1, trivial⟩ fun _ _ => ?_; refine b9 rfl (d9 ?_)
 first | refine m7 rfl (fun hb2 => ?_) (fun hb2 => ?_) | refine k4 rfl (fun hb2 => ?_) (fun hb2 => ?_)
 ·have hb2' := hb2; try simp at hb2'
  refine j3 (b9 rfl (d9 (l7 (C2 ?_)))); exact ret1 () rfl (congrArg (fun b => some (int b)) (by rw [clsErr, if_neg h1, if_pos hb2])) rfl trivial nil_sb trivial
 have hb2' := hb2; try simp at hb2'
 refine j3 ?_
 first | refine a7 ⟨_, 1, none⟩ rfl rfl T.H0 rfl ?_ | refine a7 _ rfl rfl T.H0 rfl ?_
 first | refine a8 rfl T.a9 rfl (j0 mB rfl) ?_ | refine a8 rfl T.a9 rfl (i8 mB rfl) ?_ | refine a8 rfl T.a9 rfl (d8 mB (d4 (by omega) rfl)) ?_ | refine a8 rfl T.a9 rfl (d7 mB (rows_get (by omega) rfl)) ?_ | refine a8 rfl T.a9 rfl (g4 mB rfl) ?_
 refine b8 rfl (l9 rfl T.D9 rfl (U6 _ rfl rfl rfl rfl s9 ?_)); refine i9 F.K9 rfl rfl (H5 _ _ _) (.refl _) trivial fun _ _ => ?_; refine D5 rfl rfl (b9 rfl (d9 ?_))
 first | refine m7 rfl (fun hb3 => ?_) (fun hb3 => ?_) | refine k4 rfl (fun hb3 => ?_) (fun hb3 => ?_)
 ·have hb3' := hb3; try simp at hb3'
  have h3 : ¬ (-1 ≤ (cs.getD i default).2 ∧ (cs.getD i default).2 ≤ (cs.length : Int) - 1) := fun e => by rw [decide_eq_true e] at hb3; cases hb3
  refine j3 (b9 rfl (d9 (l7 (C2 ?_)))); exact ret1 () rfl (congrArg (fun b => some (int b)) (by rw [clsErr, if_neg h1, if_neg hb2, if_pos (by omega)])) rfl trivial nil_sb trivial
 have hb3' := hb3; try simp at hb3'
 have h3 : -1 ≤ (cs.getD i default).2 ∧ (cs.getD i default).2 ≤ (cs.length : Int) - 1 := by simpa using hb3
 refine j3 ?_
 first | refine a7 ⟨_, 1, none⟩ rfl rfl T.H0 rfl ?_ | refine a7 _ rfl rfl T.H0 rfl ?_
 first | refine a8 rfl T.a9 rfl (j0 mB rfl) ?_ | refine a8 rfl T.a9 rfl (i8 mB rfl) ?_ | refine a8 rfl T.a9 rfl (d8 mB (d4 (by omega) rfl)) ?_ | refine a8 rfl T.a9 rfl (d7 mB (rows_get (by omega) rfl)) ?_ | refine a8 rfl T.a9 rfl (g4 mB rfl) ?_
 refine b8 rfl (nX rfl rfl rfl (b9 rfl (d9 ?_)))
 first | refine m7 rfl (fun hb4 => ?_) (fun hb4 => ?_) | refine k4 rfl (fun hb4 => ?_) (fun hb4 => ?_)
 ·have hb4' := hb4; try simp at hb4'
  refine j3 (b9 rfl (d9 (l7 (C2 ?_)))); exact ret1 () rfl (congrArg (fun b => some (int b)) (by rw [clsErr, if_neg h1, if_neg hb2, if_neg (by omega), if_pos hb4])) rfl trivial nil_sb trivial
 have hb4' := hb4; try simp at hb4'
 refine k7 (z2 (j9 (j3 (b9 rfl (d9 (l7 ?_)))))); exact ret1 () rfl (congrArg (fun b => some (int b)) (by rw [clsErr, if_neg h1, if_neg hb2, if_neg (by omega), if_neg hb4])) rfl trivial nil_sb trivial
end Go.Proofs.YtmpfpfbcejfijaaGreatDoor
end
