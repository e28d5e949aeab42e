/- Rules for interfaces, for strings that are ranged over, for small sets of bits. -/
import Derived.Test.YtlpgheniajdkfaaGreatWn
namespace Go.W
open Go Go.RowKit
set_option linter.unusedVariables false
set_option linter.unusedSimpArgs false
def notI (dd : TypeDesc) : Bool := match dd with | .interface _ => false | _ => true
def NoI (P : Program) (t : TypeId) : Prop := ∃ dd, P.underlying t = some dd ∧ notI dd = true
section
variable {c : Cx} {Q : Exit → Act → World → Prop} {fr : Fr} {hp : Hp} {L : List Fact} {ops : Array Oper} {rest : List Oper}
variable {d : Tmp} {ty : TypeId} {pos : String} {af : Array Edge}
/-! ### Interfaces -/
theorem r_mkI {t : TypeId} {x : Operand} {v : Value} (hd : Nat.blt d c.n = true) (ht : NoI c.P t) (hx : ev fr x = some v) (k : HL c ops Q rest ((d, .iface t v) :: fr) hp L) : HL c ops Q (⟨some d, .makeInterface t x, ty, pos, af, none⟩ :: rest) fr hp L :=
  hl_val _ rfl rfl hd (fun a w ha _ => by
    obtain ⟨dd, h1, h2⟩ := ht
    simp only [execOp, ha.ev hx, Instr.makeInterface, Sem.run_bind, run_underlying h1, Result.andThen_ok]
    cases dd <;> first | rfl | cases h2) k
theorem r_assertY {t xt : TypeId} {x : Operand} {v : Value} (hd : Nat.blt d c.n = true) (ht : NoI c.P t) (hx : ev fr x = some (.iface t v)) (k : HL c ops Q rest ((d, .tuple #[v, .bool true]) :: fr) hp L) : HL c ops Q (⟨some d, .typeAssert x xt t true, ty, pos, af, none⟩ :: rest) fr hp L :=
  hl_val _ rfl rfl hd (fun a w ha _ => by
    obtain ⟨dd, h1, h2⟩ := ht
    simp only [execOp, ha.ev hx, Instr.typeAssert, Sem.run_bind, run_underlying h1, Result.andThen_ok]
    cases dd <;> first | (cases h2; done) | simp) k
theorem r_assertN {t t' xt : TypeId} {x : Operand} {v z : Value} (hd : Nat.blt d c.n = true) (ht : NoI c.P t) (hx : ev fr x = some (.iface t' v)) (hne : Nat.beq t' t = false) (hz : ∀ w, (zeroValue t).run c.P w = .ok z w) (k : HL c ops Q rest ((d, .tuple #[z, .bool false]) :: fr) hp L) : HL c ops Q (⟨some d, .typeAssert x xt t true, ty, pos, af, none⟩ :: rest) fr hp L :=
  hl_val _ rfl rfl hd (fun a w ha _ => by
    obtain ⟨dd, h1, h2⟩ := ht
    have hn : ¬ t' = t := fun e => by subst e; simp [Nat.beq_refl] at hne
    simp only [execOp, ha.ev hx, Instr.typeAssert, Sem.run_bind, run_underlying h1, Result.andThen_ok]
    cases dd <;> first | (cases h2; done) | simp [hn, hz]) k
/-! ### Three results -/
theorem results3 {fn : Func} {t u v : Tmp} (h : fn.results = #[.tmp t, .tmp u, .tmp v]) (tmps : Array Value) (P : Program) (w : World) : (results fn tmps).run P w = .ok (.tuple #[tmps.getD t undef, tmps.getD u undef, tmps.getD v undef]) w := by
  simp [results, h]
theorem ret3 {β : Type} {k : Con β} {fn : Func} {w0 : World} (x : β) {t u v : Tmp} {v1 v2 v3 : Value} (hres : fn.results = #[.tmp t, .tmp u, .tmp v]) (hv1 : lk fr t = some v1) (hv2 : lk fr u = some v2) (hv3 : lk fr v = some v3) (hk : k.val x = .tuple #[v1, v2, v3]) (hb : c.b = k.entry w0) (hi : k.inv x) (h2 : (k.hpO x).Sublist hp) (h3 : LSub L (k.LO x)) (hD : c.D = [] := by exact rfl) :
    HQ c (bodyPost c.P fn (k.post w0)) .ret fr hp L :=
  ret_run x (fun a w ha _ => by rw [results3 hres, ha.at_ _ _ hv1, ha.at_ _ _ hv2, ha.at_ _ _ hv3, hk]) hb hi h2 h3 hD
/-! ### Strings that are ranged over -/
abbrev iter (s : Str) (p : Nat) : Obj := .stringIter ⟨s.toArray⟩ p
theorem r_rangeS {t : TypeId} {x : Operand} {s : Str} (hd : Nat.blt d c.n = true) (ht : c.P.underlying t = some .string) (hx : ev fr x = some (str s)) (k : ∀ g, HL c ops Q rest ((d, .pointer (some ⟨g, 0, none⟩)) :: fr) ((g, iter s 0) :: hp) L) : HL c ops Q (⟨some d, .range t x, ty, pos, af, none⟩ :: rest) fr hp L :=
  hl_new (iter s 0) (fun g => .pointer (some ⟨g, 0, none⟩)) rfl rfl hd (fun a w ha _ => by
    simp only [execOp, ha.ev hx, Instr.range, Sem.run_bind, run_underlying ht, Result.andThen_ok, str]
    simp [run_newObj_alloc]) k
theorem run_getIt {P : Program} {w : World} {g : Nat} {s : ByteArray} {p : Nat} (h : w.heap[g]? = some (.stringIter s p)) : (getObj g).run P w = .ok (.stringIter s p) w := by simp [getObj, Sem.run, h]
theorem run_setIt {P : Program} {w : World} {g : Nat} {s : ByteArray} {p : Nat} (h : w.heap[g]? = some (.stringIter s p)) (o : Obj) : (setObj g o).run P w = .ok () { w with heap := w.heap.setIfInBounds g o } := by
  have hlt : g < w.heap.size := lt_of_own h
  simp [setObj, Sem.run, h]
theorem size_str (s : Str) : (ByteArray.mk s.toArray).size = s.length := rfl
theorem r_nextOver {x : Operand} {s : Str} {g p : Nat} (hd : Nat.blt d c.n = true) (hx : ev fr x = some (.pointer (some ⟨g, 0, none⟩))) (hm : (g, iter s p) ∈ hp) (hp1 : s.length ≤ p) (k : HL c ops Q rest ((d, .tuple #[.bool false]) :: fr) hp L) : HL c ops Q (⟨some d, .next x true, ty, pos, af, none⟩ :: rest) fr hp L :=
  hl_val _ rfl rfl hd (fun a w ha hw => by
    have h := hw.own _ hm
    simp only at h
    simp only [execOp, ha.ev hx, Instr.next, Sem.run_bind, run_getIt h, Result.andThen_ok, size_str]
    rw [if_neg (by omega)]
    rfl) k
/-- What comes next of a string, and where one is then. -/
def nextV (s : Str) (p : Nat) : Value := if p < s.length then .tuple #[.bool true, int p, .int .i32 ((Utf8.decode ⟨s.toArray⟩ p).1 : Nat)] else .tuple #[.bool false]
def nextP (s : Str) (p : Nat) : Nat := if p < s.length then p + (Utf8.decode ⟨s.toArray⟩ p).2 else p
theorem r_nextMore {x : Operand} {s : Str} {g p : Nat} {hp' : Hp} {r wd : Nat} (hd : Nat.blt d c.n = true) (hx : ev fr x = some (.pointer (some ⟨g, 0, none⟩))) (hpp : hp.Perm ((g, iter s p) :: hp')) (hp1 : p < s.length) (hdec : Utf8.decode ⟨s.toArray⟩ p = (r, wd)) (k : HL c ops Q rest ((d, .tuple #[.bool true, int p, .int .i32 r]) :: fr) ((g, iter s (p + wd)) :: hp') L) : HL c ops Q (⟨some d, .next x true, ty, pos, af, none⟩ :: rest) fr hp L :=
  hl_gen rfl rfl hd fun a w ha hw => by
    have hw' := hw.perm hpp
    have h := hw'.own (g, iter s p) (by simp)
    simp only at h
    refine ⟨_, _, _, L, ?_, hw'.write (o' := iter s (p + wd)) (w' := { w with heap := w.heap.setIfInBounds g (iter s (p + wd)) }) ⟨rfl, rfl, rfl, by simp, fun q _ hn => ?_⟩ ?_, k⟩
    · simp only [execOp, ha.ev hx, Instr.next, Sem.run_bind, run_getIt h, Result.andThen_ok, size_str]
      rw [if_pos hp1]
      simp [hdec, run_setIt h, goInt]
    · simp only [List.mem_singleton] at hn
      simp [Array.getElem?_setIfInBounds_ne (fun e => hn e.symm)]
    · have hlt := lt_of_own h
      simp [Array.getElem?_setIfInBounds, hlt]
theorem r_nextS {x : Operand} {s : Str} {g p : Nat} {hp' : Hp} (hd : Nat.blt d c.n = true) (hx : ev fr x = some (.pointer (some ⟨g, 0, none⟩))) (hpp : hp.Perm ((g, iter s p) :: hp')) (k : HL c ops Q rest ((d, nextV s p) :: fr) ((g, iter s (nextP s p)) :: hp') L) : HL c ops Q (⟨some d, .next x true, ty, pos, af, none⟩ :: rest) fr hp L := by
  by_cases h : p < s.length
  · simp only [nextV, nextP, if_pos h] at k
    exact r_nextMore hd hx hpp h rfl k
  · simp only [nextV, nextP, if_neg h] at k
    refine r_nextOver hd hx (hpp.mem_iff.2 m0) (by omega) fun a w ha hw => k a w ha (hw.perm hpp)
theorem r_ext0 {x : Operand} {s : Str} {p : Nat} (hd : Nat.blt d c.n = true) (hx : ev fr x = some (nextV s p)) (k : HL c ops Q rest ((d, .bool (decide (p < s.length))) :: fr) hp L) : HL c ops Q (⟨some d, .extract x 0, ty, pos, af, none⟩ :: rest) fr hp L := by
  by_cases h : p < s.length
  · simp only [nextV, if_pos h] at hx
    rw [decide_eq_true h] at k
    exact r_extract hd hx rfl k
  · simp only [nextV, if_neg h] at hx
    rw [decide_eq_false h] at k
    exact r_extract hd hx rfl k
theorem r_ext1 {x : Operand} {s : Str} {p : Nat} (hd : Nat.blt d c.n = true) (hx : ev fr x = some (nextV s p)) (h : p < s.length) (k : HL c ops Q rest ((d, int p) :: fr) hp L) : HL c ops Q (⟨some d, .extract x 1, ty, pos, af, none⟩ :: rest) fr hp L := by
  simp only [nextV, if_pos h] at hx
  exact r_extract hd hx rfl k
theorem r_ext2 {x : Operand} {s : Str} {p : Nat} (hd : Nat.blt d c.n = true) (hx : ev fr x = some (nextV s p)) (h : p < s.length) (k : HL c ops Q rest ((d, .int .i32 ((Utf8.decode ⟨s.toArray⟩ p).1 : Nat)) :: fr) hp L) : HL c ops Q (⟨some d, .extract x 2, ty, pos, af, none⟩ :: rest) fr hp L := by
  simp only [nextV, if_pos h] at hx
  exact r_extract hd hx rfl k
end
theorem cell_rowg {b : Bx} {hp : Hp} {L : List Fact} {g o : Nat} {cs : List Value} {v : Value} (h : Row (some ⟨g, 0, none⟩) cs ∈ L) (hv : cs[o]? = some v) : Cell b hp L ⟨g, o, none⟩ v := fun w hw => by
  have := Row.cell (hw.fs _ h) hv
  simpa [adr, add_mk] using this
/-- What is decoded of a small byte, of another one. -/
theorem dec_small {s : Str} {p : Nat} {b : UInt8} (h : s[p]? = some b) (hb : b.toNat < 128) : Utf8.decode ⟨s.toArray⟩ p = (b.toNat, 1) := by
  have hlt : p < s.length := (List.getElem?_eq_some_iff.1 h).1
  have hg : (ByteArray.mk s.toArray).get! (p + 0) = b := by
    rw [Nat.add_zero]
    show s.toArray[p]! = b
    rw [List.getElem?_eq_getElem hlt] at h
    injection h with h
    simp [h, hlt]
  unfold Utf8.decode
  simp only [hg]
  rw [if_pos hb]
theorem dec_big {s : Str} {p : Nat} {b : UInt8} (h : s[p]? = some b) (hb : 128 ≤ b.toNat) : 128 ≤ (Utf8.decode ⟨s.toArray⟩ p).1 := by
  have hlt : p < s.length := (List.getElem?_eq_some_iff.1 h).1
  have hg : (ByteArray.mk s.toArray).get! (p + 0) = b := by
    rw [Nat.add_zero]
    show s.toArray[p]! = b
    rw [List.getElem?_eq_getElem hlt] at h
    injection h with h
    simp [h, hlt]
  unfold Utf8.decode
  simp only [hg]
  rw [if_neg (by omega)]
  unfold Utf8.runeError
  repeat' split
  all_goals first | (simp only; omega) | (rename_i h1; simp only [Bool.and_eq_true, decide_eq_true_eq, ge_iff_le] at h1; simp only; omega)
/-- A rune between two small ones is a byte; so is one that is not. -/
theorem dec_in {s : Str} {p : Nat} (hp : p < s.length) {lo hi : Nat} (h2 : hi < 128) (h : lo ≤ (Utf8.decode ⟨s.toArray⟩ p).1 ∧ (Utf8.decode ⟨s.toArray⟩ p).1 ≤ hi) : lo ≤ s[p].toNat ∧ s[p].toNat ≤ hi ∧ nextP s p = p + 1 := by
  have hs : s[p]? = some s[p] := List.getElem?_eq_getElem hp
  rcases Nat.lt_or_ge s[p].toNat 128 with hb | hb
  · have := dec_small hs hb
    rw [nextP, if_pos hp]
    rw [this] at h ⊢
    exact ⟨h.1, h.2, rfl⟩
  · have := dec_big hs hb; omega
theorem dec_out {s : Str} {p : Nat} (hp : p < s.length) {lo hi : Nat} (h2 : hi < 128) (h : (Utf8.decode ⟨s.toArray⟩ p).1 < lo ∨ hi < (Utf8.decode ⟨s.toArray⟩ p).1) : s[p].toNat < lo ∨ hi < s[p].toNat := by
  have hs : s[p]? = some s[p] := List.getElem?_eq_getElem hp
  rcases Nat.lt_or_ge s[p].toNat 128 with hb | hb
  · have := dec_small hs hb
    rw [this] at h
    exact h
  · right; omega
/-- A call of a function without a body, by what it gives. -/
theorem hl_extern {c : Cx} {Q : Exit → Act → World → Prop} {fr : Fr} {hp : Hp} {L : List Fact} {ops : Array Oper} {rest : List Oper} {d : Tmp} {ty : TypeId} {pos : String} {af : Array Edge} {f : Nat} {xs0 : Array Operand} {ats : Array TypeId} {vs : List Value} {v : Value} (hd : Nat.blt d c.n = true) (hx : xs0.toList.mapM (ev fr) = some vs) (hrun : ∀ w, (callFunc f vs.toArray).run c.P w = .ok (.value v) w) (kk : HL c ops Q rest ((d, v) :: fr) hp L) :
    HL c ops Q (⟨some d, .call ⟨.value (.func f), xs0, ats⟩, ty, pos, af, none⟩ :: rest) fr hp L := by
  intro a w ha hw
  refine wpL_plain rfl fun K hK => ?_
  have key : ∀ (xs : List Operand) (vs : List Value), xs.mapM (ev fr) = some vs → xs.map a.eval = vs := by
    intro xs
    induction xs with
    | nil => intro vs h; simpa using h
    | cons x xs ih =>
      intro vs h
      simp only [List.mapM_cons, Option.bind_eq_bind, Option.bind_eq_some_iff, Option.pure_def, Option.some.injEq] at h
      obtain ⟨v, hv, us, hus, rfl⟩ := h
      rw [List.map_cons, ha.ev hv, ih us hus]
  have e1 : (#[] ++ xs0.map a.eval ++ #[]) = vs.toArray := by simp; apply Array.ext'; simpa using key _ _ hx
  unfold Oper.wp
  rw [execOp_call_go, e1, hrun, Oper.upon_value]
  exact hK _ _ (kk _ _ (ha.put (by simpa using hd) _) hw)
/-! ### Small sets of bits -/
def u8 (m : Nat) : Value := .int .u8 (m : Int)
theorem wrap8 {m : Nat} (h : m < 256) : IntKind.u8.wrap (m : Int) = (m : Int) := by
  have h1 : 0 ≤ (m : Int) := by omega
  have h2 : (m : Int) < 256 := by omega
  simp only [IntKind.wrap, IntKind.bits, IntKind.signed]
  simp
  omega
theorem bv8 {m : Nat} (h : m < 256) : (BitVec.ofInt 8 (m : Int)).toNat = m := by
  simp [BitVec.toNat_ofInt]
  omega
section
variable {c : Cx} {Q : Exit → Act → World → Prop} {fr : Fr} {hp : Hp} {L : List Fact} {ops : Array Oper} {rest : List Oper}
variable {d : Tmp} {ty : TypeId} {pos : String} {af : Array Edge}
theorem r_or8 {t yt : TypeId} {x y : Operand} {a b : Nat} (hd : Nat.blt d c.n = true) (hx : ev fr x = some (u8 a)) (hy : ev fr y = some (u8 b)) (ha : a < 256) (hb : b < 256) (k : HL c ops Q rest ((d, u8 (a ||| b)) :: fr) hp L) :
    HL c ops Q (⟨some d, .binOp .or t x y yt, ty, pos, af, none⟩ :: rest) fr hp L :=
  r_bin _ hd hx hy (fun _ => rfl) (fun w => by
    show (Op.intBits .or .u8 (a : Int) (b : Int)).run c.P w = _
    have h : (BitVec.ofInt 8 (a : Int) ||| BitVec.ofInt 8 (b : Int)).toNat = a ||| b := by rw [BitVec.toNat_or, bv8 ha, bv8 hb]
    have hl : a ||| b < 256 := Nat.or_lt_two_pow (n := 8) ha hb
    show Result.ok (Value.int .u8 (IntKind.u8.wrap ((BitVec.ofInt 8 (a : Int) ||| BitVec.ofInt 8 (b : Int)).toNat : Nat))) w = _
    rw [h, wrap8 hl]
    rfl) k
theorem r_and8 {t yt : TypeId} {x y : Operand} {a b : Nat} (hd : Nat.blt d c.n = true) (hx : ev fr x = some (u8 a)) (hy : ev fr y = some (u8 b)) (ha : a < 256) (hb : b < 256) (k : HL c ops Q rest ((d, u8 (a &&& b)) :: fr) hp L) :
    HL c ops Q (⟨some d, .binOp .and t x y yt, ty, pos, af, none⟩ :: rest) fr hp L :=
  r_bin _ hd hx hy (fun _ => rfl) (fun w => by
    show (Op.intBits .and .u8 (a : Int) (b : Int)).run c.P w = _
    have h : (BitVec.ofInt 8 (a : Int) &&& BitVec.ofInt 8 (b : Int)).toNat = a &&& b := by rw [BitVec.toNat_and, bv8 ha, bv8 hb]
    have hl : a &&& b < 256 := Nat.lt_of_le_of_lt Nat.and_le_left ha
    show Result.ok (Value.int .u8 (IntKind.u8.wrap ((BitVec.ofInt 8 (a : Int) &&& BitVec.ofInt 8 (b : Int)).toNat : Nat))) w = _
    rw [h, wrap8 hl]
    rfl) k
/-- The bits of one set that are not in another one. -/
def diff8 (a b : Nat) : Nat := a &&& (255 - b)
theorem r_andNot8 {t yt : TypeId} {x y : Operand} {a b : Nat} (hd : Nat.blt d c.n = true) (hx : ev fr x = some (u8 a)) (hy : ev fr y = some (u8 b)) (ha : a < 256) (hb : b < 256) (k : HL c ops Q rest ((d, u8 (diff8 a b)) :: fr) hp L) :
    HL c ops Q (⟨some d, .binOp .andNot t x y yt, ty, pos, af, none⟩ :: rest) fr hp L :=
  r_bin _ hd hx hy (fun _ => rfl) (fun w => by
    show (Op.intBits .andNot .u8 (a : Int) (b : Int)).run c.P w = _
    have h : (BitVec.ofInt 8 (a : Int) &&& ~~~BitVec.ofInt 8 (b : Int)).toNat = diff8 a b := by rw [BitVec.toNat_and, BitVec.toNat_not, bv8 ha, bv8 hb]; rfl
    have hl : diff8 a b < 256 := Nat.lt_of_le_of_lt Nat.and_le_left ha
    show Result.ok (Value.int .u8 (IntKind.u8.wrap ((BitVec.ofInt 8 (a : Int) &&& ~~~BitVec.ofInt 8 (b : Int)).toNat : Nat))) w = _
    rw [h, wrap8 hl]
    rfl) k
theorem r_shl8 {t yt : TypeId} {x y : Operand} {ky : IntKind} {z : Int} (n : Nat) (hd : Nat.blt d c.n = true) (hx : ev fr x = some (.int .u8 1)) (hy : ev fr y = some (.int ky z)) (hz : z = (n : Int)) (hn : n < 8) (k : HL c ops Q rest ((d, u8 (2 ^ n)) :: fr) hp L) :
    HL c ops Q (⟨some d, .binOp .shl t x y yt, ty, pos, af, none⟩ :: rest) fr hp L :=
  r_bin _ hd hx hy (fun _ => rfl) (fun w => by
    subst hz
    show (Op.shift .shl .u8 1 ky (n : Int)).run c.P w = _
    have hl : 2 ^ n < 256 := Nat.pow_lt_pow_right (by omega) hn
    have hm : min ((n : Int).toNat) (IntKind.u8.bits) = n := by show min ((n : Int).toNat) 8 = n; omega
    simp only [Op.shift]
    rw [if_neg (by omega), hm, Int.one_mul, show ((2 : Int) ^ n) = ((2 ^ n : Nat) : Int) by simp, wrap8 hl]
    rfl) k
theorem r_shr8 {t yt : TypeId} {x y : Operand} {ky : IntKind} {z : Int} {a : Nat} (n : Nat) (hd : Nat.blt d c.n = true) (hx : ev fr x = some (u8 a)) (hy : ev fr y = some (.int ky z)) (hz : z = (n : Int)) (hn : n < 8) (k : HL c ops Q rest ((d, u8 (a / 2 ^ n)) :: fr) hp L) :
    HL c ops Q (⟨some d, .binOp .shr t x y yt, ty, pos, af, none⟩ :: rest) fr hp L :=
  r_bin _ hd hx hy (fun _ => rfl) (fun w => by
    subst hz
    show (Op.shift .shr .u8 (a : Int) ky (n : Int)).run c.P w = _
    have hm : min ((n : Int).toNat) (IntKind.u8.bits) = n := by show min ((n : Int).toNat) 8 = n; omega
    simp only [Op.shift]
    rw [if_neg (by omega), hm, Int.fdiv_eq_ediv_of_nonneg _ (by exact_mod_cast Nat.zero_le (2 ^ n))]
    rfl) k
end
theorem bit_of (a n : Nat) : (decide (((a / 2 ^ n &&& 1 : Nat) : Int) = 1)) = a.testBit n := by
  rw [Nat.and_one_is_mod, Nat.testBit_eq_decide_div_mod_eq]
  exact decide_eq_decide.2 (by omega)
/-! ### Rows whose elements have facts of their own -/
def RowsF {α : Type} [El α] (A : Option Addr) (ps : List α) (f : α → Fact) : Fact where
  P w := (Row A (rows ps)).P w ∧ ∀ p ∈ ps, (f p).P w
  fp k := (Row A (rows ps)).fp k ∨ ∃ p ∈ ps, (f p).fp k
  st w w' h hP := ⟨(Row A (rows ps)).st w w' (fun k hk => h k (.inl hk)) hP.1, fun p hp => (f p).st w w' (fun k hk => h k (.inr ⟨p, hp, hk⟩)) (hP.2 p hp)⟩
  lt w hP k hk := by
    rcases hk with hk | ⟨p, hp, hk⟩
    · exact (Row A (rows ps)).lt w hP.1 k hk
    · exact (f p).lt w (hP.2 p hp) k hk
section
variable {c : Cx} {Q : Exit → Act → World → Prop} {fr : Fr} {hp : Hp} {L : List Fact} {ops : Array Oper} {rest : List Oper}
variable {α : Type} [El α] {A : Option Addr} {ps : List α} {f : α → Fact}
theorem wi_outerF {b : Bx} {w : World} (h : RowsF A ps f ∈ L) (hw : WI b w hp L) : WI b w hp (Row A (rows ps) :: L) := wi_more hw (hw.fs _ h).1 (fun k hk => ⟨_, h, .inl hk⟩)
theorem wi_innerF {b : Bx} {w : World} {p : α} (h : RowsF A ps f ∈ L) (hp' : p ∈ ps) (hw : WI b w hp L) : WI b w hp (f p :: L) := wi_more hw ((hw.fs _ h).2 p hp') (fun k hk => ⟨_, h, .inr ⟨p, hp', hk⟩⟩)
theorem hc_outerF {x : Code} (h : RowsF A ps f ∈ L) (k : HC c x Q fr hp (Row A (rows ps) :: L)) : HC c x Q fr hp L := fun a w ha hw => k a w ha (wi_outerF h hw)
theorem hl_innerF {p : α} (h : RowsF A ps f ∈ L) (hp' : p ∈ ps) (k : HL c ops Q rest fr hp (f p :: L)) : HL c ops Q rest fr hp L := fun a w ha hw => k a w ha (wi_innerF h hp' hw)
theorem hc_innerF {p : α} {x : Code} (h : RowsF A ps f ∈ L) (hp' : p ∈ ps) (k : HC c x Q fr hp (f p :: L)) : HC c x Q fr hp L := fun a w ha hw => k a w ha (wi_innerF h hp' hw)
/-- The facts of the elements, as one. -/
abbrev innersF (ps : List α) (f : α → Fact) : Fact := Facts (ps.map f)
theorem wi_rowsF {b : Bx} {w : World} (h : Row A (rows ps) ∈ L) (h2 : innersF ps f ∈ L) (hw : WI b w hp L) : WI b w hp (RowsF A ps f :: L) := by
  have : ∀ p ∈ ps, (f p).P w := fun p hp => hw.fs _ h2 _ (List.mem_map.2 ⟨p, hp, rfl⟩)
  refine wi_more hw ⟨hw.fs _ h, this⟩ (fun k hk => ?_)
  rcases hk with hk | ⟨p, hp, hk⟩
  · exact ⟨_, h, hk⟩
  · exact ⟨_, h2, _, List.mem_map.2 ⟨p, hp, rfl⟩, hk⟩
theorem hc_rowsF {x : Code} (h : Row A (rows ps) ∈ L) (h2 : innersF ps f ∈ L) (k : HC c x Q fr hp (RowsF A ps f :: L)) : HC c x Q fr hp L := fun a w ha hw => k a w ha (wi_rowsF h h2 hw)
theorem hq_rowsF {e : Exit} (h : Row A (rows ps) ∈ L) (h2 : innersF ps f ∈ L) (k : HQ c Q e fr hp (RowsF A ps f :: L)) : HQ c Q e fr hp L := fun a w ha hw => k a w ha (wi_rowsF h h2 hw)
theorem wi_innersF {b : Bx} {w : World} (h : RowsF A ps f ∈ L) (hw : WI b w hp L) : WI b w hp (innersF ps f :: L) :=
  wi_more hw (fun F hF => by
    obtain ⟨p, hp', rfl⟩ := List.mem_map.1 hF
    exact (wi_innerF h hp' hw).fs _ m0) (fun k hk => by
    obtain ⟨F, hF, hk⟩ := hk
    obtain ⟨p, hp', rfl⟩ := List.mem_map.1 hF
    exact ⟨_, h, .inr ⟨p, hp', hk⟩⟩)
theorem hc_innersF {x : Code} (h : RowsF A ps f ∈ L) (k : HC c x Q fr hp (innersF ps f :: L)) : HC c x Q fr hp L := fun a w ha hw => k a w ha (wi_innersF h hw)
end
/-- A beginning of a row. -/
theorem wi_takerow {α : Type} [El α] {A : Option Addr} {ps : List α} {hp : Hp} {L : List Fact} {b : Bx} {w : World} (n : Nat) (h : Row A (rows ps) ∈ L) (hw : WI b w hp L) : WI b w hp (Row A (rows (ps.take n)) :: L) := by
  have h0 := hw.fs _ h
  obtain ⟨r, hr⟩ : ∃ r, rows ps = rows (ps.take n) ++ r := ⟨rows (ps.drop n), by rw [← rows_append, List.take_append_drop]⟩
  refine wi_more hw (fun j u hj => h0 j u ?_) (fun k hk => ⟨_, h, ?_⟩)
  · rw [hr, List.getElem?_append, if_pos (List.getElem?_eq_some_iff.1 hj).1]; exact hj
  · obtain ⟨ad, e, h1, h2⟩ := hk
    exact ⟨ad, e, h1, fun h3 => h2 (by rw [h3] at hr; exact (List.append_eq_nil_iff.1 hr.symm).1)⟩
theorem hl_takerow {α : Type} [El α] {A : Option Addr} {ps : List α} {hp : Hp} {L : List Fact} {c : Cx} {Q : Exit → Act → World → Prop} {fr : Fr} {ops : Array Oper} {rest : List Oper} (n : Nat) (h : Row A (rows ps) ∈ L) (k : HL c ops Q rest fr hp (Row A (rows (ps.take n)) :: L)) : HL c ops Q rest fr hp L := fun a w ha hw => k a w ha (wi_takerow n h hw)
/-- One element more. -/
theorem innerF_snoc {α : Type} {ps : List α} {f : α → Fact} {L : List Fact} {p : α} (h : innersF ps f ∈ L) (h2 : f p ∈ L) : ∀ F ∈ (ps ++ [p]).map f, F ∈ L ∨ ∃ Gs, Facts Gs ∈ L ∧ F ∈ Gs := by
  intro F hF
  rw [List.map_append] at hF
  rcases List.mem_append.1 hF with hF | hF
  · exact .inr ⟨_, h, hF⟩
  · simp at hF; subst hF; exact .inl h2
end Go.W
