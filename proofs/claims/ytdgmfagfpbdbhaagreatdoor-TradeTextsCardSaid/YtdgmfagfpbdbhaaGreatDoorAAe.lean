/- Texts. -/
import Derived.MapKept
import Derived.Laws.Rows
import Derived.Deep.AppendSrc
import Derived.Deep.Upon
import Derived.RangeFuncLeaves
import Derived.RangeFuncRecord
import Derived.Scope
import Derived.Laws.Cover3
import Derived.Test.YtdgmfagfpbdbhaaGreatDoorAAd
set_option linter.unusedVariables false
set_option linter.unusedSimpArgs false
section
namespace Go.W
open Go Go.RowKit
abbrev Ment (κ : Type) := κ × Value × Nat
def entOf {κ : Type} (enc : κ → Value) (p : Ment κ) : MapEntry := ⟨enc p.1, p.2.1, p.2.2⟩
def mapO {κ : Type} (enc : κ → Value) (l : List (Ment κ)) (clk : Nat) : Obj := .map (l.map (entOf enc)).toArray clk
def findM {κ : Type} [DecidableEq κ] (k : κ) : List (Ment κ) → Nat → Option (Nat × Value)
  | [], _ => none
  | p :: l, i => if p.1 = k then some (i, p.2.1) else findM k l (i + 1)
def getM {κ : Type} [DecidableEq κ] (l : List (Ment κ)) (k : κ) : Option Value := (findM k l 0).map (·.2)
def putM {κ : Type} [DecidableEq κ] (l : List (Ment κ)) (k : κ) (v : Value) (clk : Nat) : List (Ment κ) :=
  match findM k l 0 with
  | some (i, _) => l.modify i fun p => (k, v, p.2.2)
  | none => l ++ [(k, v, clk)]
def clkM {κ : Type} [DecidableEq κ] (l : List (Ment κ)) (k : κ) (clk : Nat) : Nat := if (findM k l 0).isSome then clk else clk + 1
structure KeyC (P : Program) (kt : TypeId) {κ : Type} [DecidableEq κ] (enc : κ → Value) : Prop where
  chk : ∀ b k w, (Instr.checkKey b 10000 kt (enc k)).run P w = .ok () w
  find : ∀ k l w, (Instr.findKey kt (enc k) (l.map (entOf enc))).run P w = .ok (findM k l 0) w
  stays : ∀ k w, (Instr.keyThatStays (enc k) (enc k)).run P w = .ok (enc k) w
theorem bz5 (k : Int) : ∀ (l : List (Ment Int)) (i : Nat), Instr.findNow (.int .i64) (int k) (l.map (entOf int)) i = some (findM k l i)
  | [], i => rfl
  | p :: l, i => by
    rw [List.map_cons, Instr.findNow]; simp only [Instr.sameNow, entOf, findM]
    by_cases h : p.1 = k
    · simp [h]
    have h' : ¬ k = p.1 := fun e => h e.symm; simp only [if_true, h, if_false, beq_eq_false_iff_ne.2 h']; exact bz5 k l (i + 1)
theorem bz4 (k : Str) : ∀ (l : List (Ment Str)) (i : Nat), Instr.findNow .string (str k) (l.map (entOf str)) i = some (findM k l i)
  | [], i => rfl
  | p :: l, i => by
    rw [List.map_cons, Instr.findNow]; simp only [str, Instr.sameNow, entOf, findM]
    have hb : ((ByteArray.mk k.toArray) == ByteArray.mk p.1.toArray) = decide (p.1 = k) := by
      rw [Bool.eq_iff_iff, MapKept.bytes_beq, decide_eq_true_iff]
      constructor
      · intro e
        injection e with e
        have := congrArg Array.toList e
        simpa using this.symm
      intro e; rw [e]
    rw [hb]
    by_cases h : p.1 = k
    · simp [h]
    simp only [h, decide_false, if_false]; exact bz4 k l (i + 1)
theorem KeyC.int {P : Program} {kt : TypeId} (h : P.underlying kt = some (.int .i64)) : KeyC P kt W.int where
  chk b k w := MapKept.run_checkKey h (by simp [MapKept.IsKey]) b 9999
  find k l w := MapKept.run_findKey h (bz5 k l 0)
  stays k w := MapKept.run_keyThatStays (d := .int .i64) (by simp [MapKept.IsKey])
theorem KeyC.str {P : Program} {kt : TypeId} (h : P.underlying kt = some .string) : KeyC P kt W.str where
  chk b k w := MapKept.run_checkKey h (by simp [MapKept.IsKey, W.str]) b 9999
  find k l w := MapKept.run_findKey h (bz4 k l 0)
  stays k w := MapKept.run_keyThatStays (d := .string) (by simp [MapKept.IsKey, W.str])
def pair (p : Int × Int) : Value := .agg #[W.int p.1, W.int p.2]
theorem pY {P : Program} {e : TypeId} (he : P.underlying e = some (.int .i64)) (cs : Array Value) (i : Nat) (v : Value) (hv : cs[i]? = some v) (w : World) : (part e cs i).run P w = .ok v w := by
  have hagg : (isAgg e).run P w = .ok false w := by
    unfold isAgg; rw [Sem.run_bind, run_underlying he w]
    rfl
  simp [part, Sem.run_bind, hagg, hv]
theorem kq5 {P : Program} {e : TypeId} (he : P.underlying e = some (.int .i64)) (d : Nat) (a b : Int) (w : World) : (Op.equalIn (d + 1) e (W.int a) (W.int b)).run P w = .ok (a == b) w := by
  simp [Op.equalIn, run_underlying he]
theorem eq_pair {P : Program} {kt e : TypeId} (h : P.underlying kt = some (.array 2 e)) (he : P.underlying e = some (.int .i64)) (hz : Sz P e 1) (p q : Int × Int) (w : World) : (Op.equal kt (pair p) (pair q)).run P w = .ok (decide (p = q)) w := by
  have hs := dT hz w
  have key : ∀ d, (Op.equalIn (d + 2) kt (pair p) (pair q)).run P w = .ok (decide (p = q)) w := by
    intro d; obtain ⟨a, b⟩ := p; obtain ⟨a', b'⟩ := q; have p0 := pY he #[W.int a, W.int b] 0 (W.int a) rfl w; have p1 := pY he #[W.int a, W.int b] 1 (W.int b) rfl w; have q0 := pY he #[W.int a', W.int b'] 0 (W.int a') rfl w; have q1 := pY he #[W.int a', W.int b'] 1 (W.int b') rfl w; unfold Op.equalIn; simp only [Sem.run_bind, run_underlying h, pair, hs, Result.andThen_ok, Std.Legacy.Range.forIn_eq_forIn_range', Std.Legacy.Range.size, Nat.sub_zero, Nat.reduceAdd, Nat.reduceSub, Nat.reduceDiv, List.range', List.forIn_cons, List.forIn_nil, Nat.zero_mul, Nat.mul_one, Nat.zero_add, p0, p1, q0, q1, kq5 he d]
    by_cases h1 : a = a'
    · subst h1
      by_cases h2 : b = b'
      · subst h2; simp [p1, kq5 he d]
      simp [h2, p1, q1, kq5 he d]
    simp [h1]
  exact key 9998
theorem dx0 {P : Program} {kt e : TypeId} (h : P.underlying kt = some (.array 2 e)) (he : P.underlying e = some (.int .i64)) (hz : Sz P e 1) (k : Int × Int) (w : World) : ∀ (l : List (Ment (Int × Int))) (i : Nat), (Instr.findAsking kt (pair k) (l.map (entOf pair)) i).run P w = .ok (findM k l i) w
  | [], i => rfl
  | p :: l, i => by
    rw [List.map_cons, Instr.findAsking]; simp only [Sem.run_bind, entOf, eq_pair h he hz, Result.andThen_ok, findM]
    by_cases hk : p.1 = k
    · simp [hk]
    have h' : ¬ k = p.1 := fun e => hk e.symm; simp only [hk, h', decide_false, Bool.false_eq_true, if_false]; exact dx0 h he hz k w l (i + 1)
theorem KeyC.pair {P : Program} {kt e : TypeId} (h : P.underlying kt = some (.array 2 e)) (he : P.underlying e = some (.int .i64)) (hz : Sz P e 1) : KeyC P kt W.pair where
  chk b k w := by
    have hs := dT hz w; have p0 := pY he #[W.int k.1, W.int k.2] 0 (W.int k.1) rfl w; have p1 := pY he #[W.int k.1, W.int k.2] 1 (W.int k.2) rfl w; have c : ∀ (n : Int), (Instr.checkKey b 9999 e (W.int n)).run P w = .ok () w := fun n => MapKept.run_checkKey he (by simp [MapKept.IsKey]) b 9998; unfold Instr.checkKey
    simp [run_underlying h, W.pair, hs, Std.Legacy.Range.forIn_eq_forIn_range', List.range', p0, p1, c]
  find k l w := by
    unfold Instr.findKey; simp only [Sem.run_bind, run_underlying h, Result.andThen_ok]
    have : Instr.findNow (.array 2 e) (W.pair k) (l.map (entOf W.pair)) 0 = none ∨ (l = [] ∧ Instr.findNow (.array 2 e) (W.pair k) (l.map (entOf W.pair)) 0 = some none) := by
      cases l with
      | nil => exact .inr ⟨rfl, rfl⟩
      | cons p l => exact .inl rfl
    rcases this with h1 | ⟨rfl, h1⟩
    · rw [h1]
      exact dx0 h he hz k w l 0
    rw [h1]; rfl
  stays k w := by
    obtain ⟨a, b⟩ := k
    have : Instr.sameBits 10000 (W.pair (a, b)) (W.pair (a, b)) = true := by
      simp [Instr.sameBits, W.pair]
    unfold Instr.keyThatStays; rw [if_pos this]
    rfl
/-! ### Cuts aS9 facts; perms -/
theorem B1 {α : Type} {l l' : List α} (h : ∀ p : α → Bool, l.countP p = l'.countP p) : l.Perm l' := by
  classical
  refine List.perm_iff_count.2 fun a => ?_
  simpa [List.count] using h (· == a)
theorem pm3 {α : Type} (l : List α) (a b c : α) : (a :: (l ++ [b, c])).Perm (l ++ [a, b, c]) := B1 fun p => by simp only [List.countP_append, List.countP_cons, List.countP_nil]; omega
theorem pm4 {α : Type} (l : List α) (a b c : α) : (l ++ [a, b, c]).Perm (a :: (l ++ [b, c])) := (pm3 l a b c).symm
theorem px6 {α : Type} [El α] {A : Option Addr} {p : List α} {ca lo hi : Nat} {w : World} (h : (Row A (rows p)).P w) (hc : p.length ≤ ca) : (Row (cutA A ca lo (El.sz α)) (rows ((p.take hi).drop lo))).P w := by
  refine cut_row h (fun j u hj => ?_) (fun hne => ?_)
  · rw [← ax0, ← aq9, List.getElem?_drop, List.getElem?_take] at hj
    split at hj
    · exact hj
    cases hj
  rcases Nat.lt_or_ge lo p.length with h | h
  · omega
  have : (p.take hi).drop lo = [] := List.drop_eq_nil_of_le (by rw [List.length_take]; omega); rw [this] at hne; exact absurd rfl hne
theorem wi_cut {α : Type} [El α] {b : Bx} {hp : Hp} {L : List Fact} {A : Option Addr} {p : List α} {ca : Nat} {w : World} (lo hi : Nat) (h : Row A (rows p) ∈ L) (hc : p.length ≤ ca) (hw : WI b w hp L) : WI b w hp (Row (cutA A ca lo (El.sz α)) (rows ((p.take hi).drop lo)) :: L) :=
  Y2 hw (px6 (hw.fs _ h) hc) (fun k hk => ⟨_, h, by
    obtain ⟨ad, e, hb⟩ := cut_fp hk; refine ⟨ad, e, hb, ?_⟩; obtain ⟨_, _, _, hne⟩ := hk; rintro h0
    apply hne
    rw [← ax0, ← aq9, h0]
    simp⟩)
section
variable {c : Cx} {Q : Exit → Act → World → Prop} {fr : Fr} {hp : Hp} {L : List Fact} {ops : Array Oper} {rest : List Oper}
theorem lC {e : TypeId} {sz n cap : Nat} {A : Option Addr} {xs : List Value} {og : Hp} {x : Exit} (hG : Grow e sz A n cap xs og) (k : HQ c Q x fr [] (Row A xs :: L)) : HQ c Q x fr og L := fun a w ha hw => k a w ha (xZ hG (by simpa using hw))
theorem rB {α : Type} [El α] {A : Option Addr} {p : List α} {ca : Nat} (lo hi : Nat) (h : Row A (rows p) ∈ L) (hc : p.length ≤ ca) (k : HL c ops Q rest fr hp (Row (cutA A ca lo (El.sz α)) (rows ((p.take hi).drop lo)) :: L)) : HL c ops Q rest fr hp L :=
  fun a w ha hw => k a w ha (wi_cut lo hi h hc hw)
end
/-! ### The rules -/
def MapAt (b : Bx) (hp : Hp) (L : List Fact) (g : Nat) (o : Obj) : Prop := ∀ w, WI b w hp L → w.heap[g]? = some o
section
variable {κ : Type} [DecidableEq κ] {enc : κ → Value} {kt e : TypeId}
theorem map_own {b : Bx} {hp : Hp} {L : List Fact} {g : Nat} {o : Obj} (h : (g, o) ∈ hp) : MapAt b hp L g o := fun w hw => hw.own _ h
theorem vC {b : Bx} {hp : Hp} {L : List Fact} {g : Nat} {o : Obj} (h : Blk g o ∈ L) : MapAt b hp L g o := fun w hw => hw.fs _ h
variable {c : Cx} {Q : Exit → Act → World → Prop} {fr : Fr} {hp : Hp} {L : List Fact} {ops : Array Oper} {rest : List Oper}
variable {d : Tmp} {ty : TypeId} {pos : String} {af : Array Edge}
theorem dU {P : Program} {t : TypeId} (K : KeyC P kt enc) (ht : P.underlying t = some (.map kt e)) {g : Nat} {l : List (Ment κ)} {clk : Nat} {k : κ} {w : World} (hb : w.heap[g]? = some (mapO enc l clk)) (ok : Bool) :
    ((getM l k).isSome = true → (Instr.lookup t (.map (some g)) (enc k) ok).run P w = .ok (if ok then .tuple #[(getM l k).getD undef, .bool true] else (getM l k).getD undef) w) ∧
    ∀ z, (zeroValue e).run P w = .ok z w → getM l k = none → (Instr.lookup t (.map (some g)) (enc k) ok).run P w = .ok (if ok then .tuple #[z, .bool false] else z) w := by
  have hf := K.find k l w; have hc := fun b => K.chk b k w; unfold getM
  cases hr : findM k l 0 with
  | none =>
    rw [hr] at hf; refine ⟨fun h => by simp at h, fun z hz _ => ?_⟩
    simp [Instr.lookup, run_underlying ht, MapKept.run_getObj_map (show w.heap[g]? = some (.map _ _) from hb), hc, hf, hz]
  | some p =>
    obtain ⟨i, v⟩ := p; rw [hr] at hf; refine ⟨fun _ => ?_, fun z hz h => by simp at h⟩
    simp [Instr.lookup, run_underlying ht, MapKept.run_getObj_map (show w.heap[g]? = some (.map _ _) from hb), hc, hf]
theorem r_look {t : TypeId} {x y : Operand} {g : Nat} {l : List (Ment κ)} {clk : Nat} {k : κ} {v : Value} (K : KeyC c.P kt enc) (hd : Nat.blt d c.n = true) (ht : c.P.underlying t = some (.map kt e)) (hx : ev fr x = some (.map (some g))) (hy : ev fr y = some (enc k)) (hm : MapAt c.b hp L g (mapO enc l clk))
    (hv : getM l k = some v) (kk : HL c ops Q rest ((d, v) :: fr) hp L) : HL c ops Q (⟨some d, .lookup t x y false, ty, pos, af, none⟩ :: rest) fr hp L :=
  E0 _ rfl rfl hd (fun a w ha hw => by
    have := (dU (k := k) K ht (hm w hw) false).1 (by simp [hv]); simp only [hv, Option.getD_some, Bool.false_eq_true, if_false] at this
    simp only [execOp, ha.ev hx, ha.ev hy, Sem.run_bind, this, Result.andThen_ok, Sem.run_pure]) kk
theorem r_look0 {t : TypeId} {x y : Operand} {g : Nat} {l : List (Ment κ)} {clk : Nat} {k : κ} {z : Value} (K : KeyC c.P kt enc) (hd : Nat.blt d c.n = true) (ht : c.P.underlying t = some (.map kt e)) (hx : ev fr x = some (.map (some g))) (hy : ev fr y = some (enc k)) (hm : MapAt c.b hp L g (mapO enc l clk))
    (hz : ∀ w, (zeroValue e).run c.P w = .ok z w) (hv : getM l k = none) (kk : HL c ops Q rest ((d, z) :: fr) hp L) : HL c ops Q (⟨some d, .lookup t x y false, ty, pos, af, none⟩ :: rest) fr hp L :=
  E0 _ rfl rfl hd (fun a w ha hw => by
    have := (dU (k := k) K ht (hm w hw) false).2 z (hz w) hv; simp only [Bool.false_eq_true, if_false] at this
    simp only [execOp, ha.ev hx, ha.ev hy, Sem.run_bind, this, Result.andThen_ok, Sem.run_pure]) kk
theorem tU {t : TypeId} {x y : Operand} {g : Nat} {l : List (Ment κ)} {clk : Nat} {k : κ} {v : Value} (K : KeyC c.P kt enc) (hd : Nat.blt d c.n = true) (ht : c.P.underlying t = some (.map kt e)) (hx : ev fr x = some (.map (some g))) (hy : ev fr y = some (enc k)) (hm : MapAt c.b hp L g (mapO enc l clk))
    (hv : getM l k = some v) (kk : HL c ops Q rest ((d, .tuple #[v, .bool true]) :: fr) hp L) : HL c ops Q (⟨some d, .lookup t x y true, ty, pos, af, none⟩ :: rest) fr hp L :=
  E0 _ rfl rfl hd (fun a w ha hw => by
    have := (dU (k := k) K ht (hm w hw) true).1 (by simp [hv]); simp only [hv, Option.getD_some, if_true] at this
    simp only [execOp, ha.ev hx, ha.ev hy, Sem.run_bind, this, Result.andThen_ok, Sem.run_pure]) kk
theorem mj1 {t : TypeId} {x y : Operand} {g : Nat} {l : List (Ment κ)} {clk : Nat} {k : κ} {z : Value} (K : KeyC c.P kt enc) (hd : Nat.blt d c.n = true) (ht : c.P.underlying t = some (.map kt e)) (hx : ev fr x = some (.map (some g))) (hy : ev fr y = some (enc k)) (hm : MapAt c.b hp L g (mapO enc l clk))
    (hz : ∀ w, (zeroValue e).run c.P w = .ok z w) (hv : getM l k = none) (kk : HL c ops Q rest ((d, .tuple #[z, .bool false]) :: fr) hp L) : HL c ops Q (⟨some d, .lookup t x y true, ty, pos, af, none⟩ :: rest) fr hp L :=
  E0 _ rfl rfl hd (fun a w ha hw => by
    have := (dU (k := k) K ht (hm w hw) true).2 z (hz w) hv; simp only [if_true] at this
    simp only [execOp, ha.ev hx, ha.ev hy, Sem.run_bind, this, Result.andThen_ok, Sem.run_pure]) kk
theorem jq2 {k : κ} : ∀ (l : List (Ment κ)) (i j : Nat) (v : Value), findM k l i = some (j, v) → ∃ m p, j = i + m ∧ l[m]? = some p ∧ p.1 = k ∧ p.2.1 = v
  | [], i, j, v, h => by simp [findM] at h
  | p :: l, i, j, v, h => by
    rw [findM] at h
    split at h
    · rename_i e
      simp only [Option.some.injEq, Prod.mk.injEq] at h; exact ⟨0, p, by omega, rfl, e, h.2⟩
    obtain ⟨m, q, h1, h2, h3⟩ := jq2 l (i + 1) j v h; exact ⟨m + 1, q, by omega, by simpa using h2, h3⟩
omit [DecidableEq κ] in
theorem dj5 {l : List (Ment κ)} {i : Nat} {k : κ} {v : Value} {p : Ment κ} (hp : l[i]? = some p) :
    ((l.map (entOf enc)).toArray.modify i fun x => { x with key := enc k, val := v }) = ((l.modify i fun p => (k, v, p.2.2)).map (entOf enc)).toArray := by
  apply Array.ext'
  simp only [Array.toList_modify]
  apply List.ext_getElem?
  intro n; simp only [List.getElem?_modify, List.getElem?_map]
  split
  · cases hl : l[n]? <;> simp [entOf]
  simp
theorem tV {t : TypeId} {x y z : Operand} {g : Nat} {l : List (Ment κ)} {clk : Nat} {k : κ} {v : Value} {hp' : Hp} {o : Op} (K : KeyC c.P kt enc) (ho : o = .mapUpdate t x y z ∨ o = .insert t x y z) (ht : c.P.underlying t = some (.map kt e)) (hx : ev fr x = some (.map (some g))) (hy : ev fr y = some (enc k)) (hz : ev fr z = some v)
    (hpp : hp.Perm ((g, mapO enc l clk) :: hp')) (kk : HL c ops Q rest fr ((g, mapO enc (putM l k v clk) (clkM l k clk)) :: hp') L) : HL c ops Q (⟨none, o, ty, pos, af, none⟩ :: rest) fr hp L :=
  hx8 rfl rfl fun a w ha hw => by
    have hw' := hw.perm hpp; have hg := hw'.own (g, mapO enc l clk) (by simp); have hg' : w.heap[g]? = some (.map (l.map (entOf enc)).toArray clk) := hg; have hf := K.find k l w
    have hrun : (Instr.mapUpdate t (.map (some g)) (enc k) v).run c.P w = .ok () { w with heap := w.heap.setIfInBounds g (mapO enc (putM l k v clk) (clkM l k clk)) } := by
      unfold putM clkM
      cases hr : findM k l 0 with
      | none =>
        rw [hr] at hf; simp only [Instr.mapUpdate, Sem.run_bind, run_underlying ht, Result.andThen_ok, MapKept.run_getObj_map hg', K.chk, hf, MapKept.run_setObj_map _ hg']
        have : ((l.map (entOf enc)).toArray.push { key := enc k, val := v, born := clk }) = ((l ++ [(k, v, clk)]).map (entOf enc)).toArray := by
          apply Array.ext'; simp [entOf]
        rw [this]
        rfl
      | some p =>
        obtain ⟨i, u⟩ := p; rw [hr] at hf; obtain ⟨m, q, h1, h2, h3, h4⟩ := jq2 l 0 i u hr; have e1 : i = m := by omega
        subst e1
        have e2 : (((l.map (entOf enc)).toArray[i]?).map (·.key)).getD (enc k) = enc k := by
          simp [h2, entOf, h3]
        simp only [Instr.mapUpdate, Sem.run_bind, run_underlying ht, Result.andThen_ok, MapKept.run_getObj_map hg', K.chk, hf, e2, K.stays, MapKept.run_setObj_map _ hg', dj5 h2]
        rfl
    refine ⟨{ w with heap := w.heap.setIfInBounds g (mapO enc (putM l k v clk) (clkM l k clk)) }, _, L, ?_, hw'.write (o' := mapO enc (putM l k v clk) (clkM l k clk)) ⟨rfl, rfl, rfl, by simp, fun j hj hn => by simp only [List.mem_singleton] at hn; simp [Array.getElem?_setIfInBounds_ne (Ne.symm hn)], Nat.le_refl _⟩ ?_, kk⟩
    · rcases ho with rfl | rfl <;> simp only [execOp, ha.ev hx, ha.ev hy, ha.ev hz, Sem.run_bind, hrun, Result.andThen_ok, Sem.run_pure]
    have := lt_of_own hg; simp only at this
    simp [this]
omit [DecidableEq κ] in
theorem cz8 (enc : κ → Value) {t : TypeId} (hd : Nat.blt d c.n = true) (k : ∀ g, HL c ops Q rest ((d, .map (some g)) :: fr) ((g, mapO enc [] 0) :: hp) L) : HL c ops Q (⟨some d, .makeMap t none, ty, pos, af, none⟩ :: rest) fr hp L :=
  mj0 hd k
theorem xU {k : κ} : ∀ (l : List (Ment κ)) (i : Nat), findM k l (i + 1) = (findM k l i).map fun p => (p.1 + 1, p.2)
  | [], i => rfl
  | p :: l, i => by
    simp only [findM]
    split
    · rfl
    exact xU l (i + 1)
theorem aQ (p : Ment κ) (l : List (Ment κ)) (k : κ) : getM (p :: l) k = if p.1 = k then some p.2.1 else getM l k := by
  unfold getM; simp only [findM]
  split
  · rfl
  rw [xU]; cases findM k l 0 <;> rfl
theorem pq8 (l : List (Ment κ)) (k k' : κ) (v : Value) (clk : Nat) : getM (putM l k v clk) k' = if k = k' then some v else getM l k' := by
  induction l with
  | nil => simp [putM, findM, aQ, getM]
  | cons p l ih =>
    by_cases h : p.1 = k
    · have : putM (p :: l) k v clk = (k, v, p.2.2) :: l := by simp [putM, findM, h]
      rw [this, aQ, aQ]; simp only [h]
      split <;> rfl
    have : putM (p :: l) k v clk = p :: putM l k v clk := by
      simp only [putM, findM, h, if_false]; rw [xU]
      cases hf : findM k l 0 with
      | none => simp
      | some q => simp
    rw [this, aQ, ih, aQ]
    split
    · rename_i e
      rw [if_neg (fun e' => h (e.trans e'.symm))]
    rfl
end
end Go.W
end
section
namespace Go.W
open Go Go.RowKit
section
variable {c : Cx} {fr : Fr} {hp : Hp} {L : List Fact}
theorem uV {β : Type} {k : Con β} {fn : Func} {w0 : World} (x : β) {t : Tmp} {ty e : TypeId} {g n : Nat} {cs : Array Value} {fz : Nat × Nat} (hres : fn.results = #[.cell t ty]) (hv : lk fr t = some (.pointer (d9 g))) (ht : IsR c.P ty) (hz : Sz c.P ty n) (hn : cs.size = n)
    (hm : (g, Obj.cells cs e fz) ∈ hp) (hk : k.val x = .agg cs) (hb : c.b = k.entry w0) (hi : k.inv x) (h2 : (k.hpO x).Sublist hp) (h3 : LSub L (k.LO x)) (hD : c.D = [] := by rfl) : HQ c (bodyPost c.P fn (k.post w0)) .ret fr hp L :=
  A9 x (fun a w ha hw => by
    obtain ⟨dd, ht, hr⟩ := ht; have h1 := hw.own _ hm; simp only at h1
    have hl : (loadVar ty ⟨g, 0, none⟩).run c.P w = .ok (.agg cs) w := by
      have hagg : (isAgg ty).run c.P w = .ok true w := by
        unfold isAgg; rw [Sem.run_bind, run_underlying ht w]
        cases dd <;> simp_all [TypeDesc.isRow]
      have hc := run_loadCells_list (P := c.P) w ⟨g, 0, none⟩ cs.toList (fun j u hu => by rw [add_mk, Nat.zero_add]; simp at hu; simp [World.cell?, h1, hu]); have hs := dT hz w; simp only [loadVar, Sem.run_bind, hagg, Result.andThen_ok, if_true, hs, ← hn]; have e : cs.size = cs.toList.length := by simp
      rw [e, hc]
      simp
    have hv' := ha.at_ _ _ hv; rw [hk]; unfold results; rw [hres]; have hv2 : a.tmps[t]?.getD undef = .pointer (d9 g) := by simpa using hv'
    simp [hv2, asAddr, hl]) hb hi h2 h3 hD
end
section
variable {c : Cx} {Q : Exit → Act → World → Prop} {fr : Fr} {hp : Hp} {L : List Fact} {ops : Array Oper} {rest : List Oper}
variable {d : Tmp} {ty : TypeId} {pos : String} {af : Array Edge}
theorem I3 {t e : TypeId} {x : Operand} {g : Nat} {cs : Array Value} {fz : Nat × Nat} {n : Nat} (hd : Nat.blt d c.n = true) (ht' : IsR c.P t) (hz' : Sz c.P t n) (hx : ev fr x = some (.pointer (d9 g))) (h : Blk g (Obj.cells cs e fz) ∈ L) (hn : cs.size = n)
    (k : HL c ops Q rest ((d, .agg cs) :: fr) hp L) : HL c ops Q (⟨some d, .load t x, ty, pos, af, none⟩ :: rest) fr hp L :=
  z8 (cs := cs.toList) hd ht' hz' hx (by simpa using hn) (R3 h (fun i u hu => by simpa using hu)) k
end
section
variable {κ : Type} [DecidableEq κ] {enc : κ → Value} {kt e : TypeId}
variable {c : Cx} {Q : Exit → Act → World → Prop} {fr : Fr} {hp : Hp} {L : List Fact} {ops : Array Oper} {rest : List Oper}
variable {d : Tmp} {ty : TypeId} {pos : String} {af : Array Edge}
end
theorem gz9 {α : Type} {l' : List α} : ∀ {l : List α}, (∀ p : α → Bool, l'.countP p ≤ l.countP p) → ∃ r, l.Perm (l' ++ r) := by
  classical
  induction l' with
  | nil => intro l _; exact ⟨l, .refl _⟩
  | cons a t ih =>
    intro l h; have h1 := h (fun x => decide (x = a)); rw [List.countP_cons_of_pos (by simp)] at h1
    have ha : a ∈ l := by
      have : 0 < l.countP (fun x => decide (x = a)) := by omega
      obtain ⟨x, hx, e⟩ := List.countP_pos_iff.1 this
      simp at e
      exact e ▸ hx
    have hp := List.perm_cons_erase ha
    obtain ⟨r, hr⟩ := ih (l := l.erase a) (fun p => by
      have h2 := h p; have h3 := hp.countP_eq p; rw [List.countP_cons] at h2 h3
      omega)
    exact ⟨r, hp.trans (hr.cons a)⟩
theorem WI.count {b : Bx} {w : World} {hp hp' : Hp} {L L' : List Fact} (h : WI b w hp L) (hc : ∀ p : Nat × Obj → Bool, hp'.countP p ≤ hp.countP p) (h2 : ∀ F ∈ L', F ∈ L) : WI b w hp' L' := by
  obtain ⟨r, hr⟩ := gz9 hc; exact (h.perm hr).weak (List.sublist_append_left _ _) h2
section
variable {c : Cx} {Q : Exit → Act → World → Prop} {fr : Fr} {hp : Hp} {L : List Fact} {ops : Array Oper} {rest : List Oper}
theorem pq5 {x : Code} (hp' : Hp) (h : ∀ p : Nat × Obj → Bool, hp'.countP p ≤ hp.countP p) (k : HC c x Q fr hp' L) : HC c x Q fr hp L := fun a w ha hw => k a w ha (hw.count h fun _ h => h)
end
section
variable {c : Cx} {Q : Exit → Act → World → Prop} {fr : Fr} {hp : Hp} {L : List Fact} {ops : Array Oper} {rest : List Oper}
theorem gj1 {b : Bx} {w : World} {g : Nat} {o : Obj} (h : WI b w ((g, o) :: hp) L) : WI b w hp (Blk g o :: L) := h.letgo (h.own (g, o) (by simp)) (fun k hk => hk)
theorem C3 {g : Nat} {o : Obj} {x : Code} (k : HC c x Q fr hp (Blk g o :: L)) : HC c x Q fr ((g, o) :: hp) L := fun a w ha hw => k a w ha (gj1 hw)
end
def Facts (Fs : List Fact) : Fact where
  P w := ∀ F ∈ Fs, F.P w
  fp k := ∃ F ∈ Fs, F.fp k
  st w w' h hP F hF := F.st w w' (fun k hk => h k ⟨F, hF, hk⟩) (hP F hF)
  lt w hP k hk := by obtain ⟨F, hF, hk⟩ := hk; exact F.lt w (hP F hF) k hk
section
variable {c : Cx} {Q : Exit → Act → World → Prop} {fr : Fr} {hp : Hp} {L : List Fact} {ops : Array Oper} {rest : List Oper}
theorem wi_pick {b : Bx} {w : World} {Fs : List Fact} {F : Fact} (h : Facts Fs ∈ L) (hF : F ∈ Fs) (hw : WI b w hp L) : WI b w hp (F :: L) := Y2 hw (hw.fs _ h F hF) (fun k hk => ⟨_, h, F, hF, hk⟩)
theorem cx6 {Fs : List Fact} {F : Fact} {x : Code} (h : Facts Fs ∈ L) (hF : F ∈ Fs) (k : HC c x Q fr hp (F :: L)) : HC c x Q fr hp L := fun a w ha hw => k a w ha (wi_pick h hF hw)
theorem cz0 {b : Bx} {w : World} {Fs : List Fact} (h : ∀ F ∈ Fs, F ∈ L ∨ ∃ Gs, Facts Gs ∈ L ∧ F ∈ Gs) (hw : WI b w hp L) : WI b w hp (Facts Fs :: L) :=
  Y2 hw (fun F hF => by
    rcases h F hF with h1 | ⟨Gs, h1, h2⟩
    · exact hw.fs _ h1
    · exact hw.fs _ h1 F h2) (fun k hk => by
    obtain ⟨F, hF, hk⟩ := hk
    rcases h F hF with h1 | ⟨Gs, h1, h2⟩
    · exact ⟨F, h1, hk⟩
    exact ⟨_, h1, F, h2, hk⟩)
theorem jN {Fs : List Fact} (h : ∀ F ∈ Fs, F ∈ L ∨ ∃ Gs, Facts Gs ∈ L ∧ F ∈ Gs) (k : HL c ops Q rest fr hp (Facts Fs :: L)) : HL c ops Q rest fr hp L := fun a w ha hw => k a w ha (cz0 h hw)
theorem dY {Fs : List Fact} {x : Code} (h : ∀ F ∈ Fs, F ∈ L ∨ ∃ Gs, Facts Gs ∈ L ∧ F ∈ Gs) (k : HC c x Q fr hp (Facts Fs :: L)) : HC c x Q fr hp L := fun a w ha hw => k a w ha (cz0 h hw)
theorem G1 {Fs : List Fact} {x : Exit} (h : ∀ F ∈ Fs, F ∈ L ∨ ∃ Gs, Facts Gs ∈ L ∧ F ∈ Gs) (k : HQ c Q x fr hp (Facts Fs :: L)) : HQ c Q x fr hp L := fun a w ha hw => k a w ha (cz0 h hw)
end
section
variable {c : Cx} {Q : Exit → Act → World → Prop} {fr : Fr} {hp : Hp} {L : List Fact} {ops : Array Oper} {rest : List Oper}
theorem n5 {e : Exit} {α : Type} [El α] (k : HQ c Q e fr hp (Row none (rows ([] : List α)) :: L)) : HQ c Q e fr hp L := hq_more (F := Row none (rows ([] : List α))) (fun w _ => Row.nil _ w) (fun k hk => by obtain ⟨_, e, _⟩ := hk; cases e) k
theorem mq5 {α : Type} [El α] (k : HL c ops Q rest fr hp (Row none (rows ([] : List α)) :: L)) : HL c ops Q rest fr hp L := hl_more (F := Row none (rows ([] : List α))) (fun w _ => Row.nil _ w) (fun k hk => by obtain ⟨_, e, _⟩ := hk; cases e) k
end
end Go.W
end
section
namespace Go.Proofs.YtdgmfagfpbdbhaaGreatDoor
open Go Go.W Tryz T F
set_option maxRecDepth 20000
attribute [local irreducible] HL HC HQ HB Row Rows2 Blk Facts
theorem D6 {α : Type} [Inhabited α] (l : List α) (k : Nat) (h : k < l.length) : l.take (k + 1) = l.take k ++ [l.getD k default] := by
  rw [List.take_succ_eq_append_getElem h]
  simp [List.getD_eq_getElem?_getD, h]
theorem nP {α : Type} {a b : List α} {k : Nat} (h : a.take k = b.take k) (ha : a.length ≤ k) (hb : b.length ≤ k) : a = b := by
  rwa [List.take_of_length_le ha, List.take_of_length_le hb] at h
theorem nx9 {α : Type} [Inhabited α] {a b : List α} {k : Nat} (h : ¬ a.getD k default = b.getD k default) : ¬ a = b := fun e => h (by rw [e])
theorem iN {A B : Option Addr} {ca cb : Nat} (a b : List Int) (ha : a.length ≤ 9223372036854775806) :
    Meets prog jG [.slice A a.length ca, .slice B b.length cb] { LI := [Row A (rows a), Row B (rows b)], val := fun _ : Unit => .bool (decide (a = b)) } := by
 refine j3 cq5 rfl v8 fun w0 => ?_; refine i4 (c5 rfl (c8 (d6 (i4 (b6 rfl ?_))))); refine k6 rfl A8 rfl (b6 rfl (k6 rfl A8 rfl ?_)); refine M8 rfl rfl rfl (c8 ?_)
 first | refine k9 rfl (fun hb1 => ?_) (fun hb1 => ?_) | refine j0 rfl (fun hb1 => ?_) (fun hb1 => ?_)
 ·have hb1' := hb1; try simp at hb1'
  have hb1 : ¬ a = b := fun e => by subst e; exact hb1 rfl
  refine i4 (c5 rfl (c8 (E9 ?_))); exact ret1 () rfl (by rw [decide_eq_false hb1]; rfl) rfl tK (.refl _) tK
 have hb1' := hb1; try simp at hb1'
 have hb1 : a.length = b.length := by omega
 refine i8 (i1 (d6 (i4 (c5 rfl (c8 (j5 ?_)))))); refine u6 (β := Nat) ⟨fun k => k ≤ a.length ∧ a.take k = b.take k, fun k => [(0, .slice A a.length ca), (1, .slice B b.length cb), (5, int k)], fun _ => [], fun _ => [Row A (rows a), Row B (rows b)]⟩ (fun k => a.length - k) 0 ⟨Nat.zero_le _, rfl⟩ mC (.refl _) ⟨m0, m1, tK⟩ fun k hk => ?_; obtain ⟨hk, ht⟩ := hk; refine d6 (i4 (b6 rfl (b6 rfl ?_))); refine k6 rfl A8 rfl ?_; refine B5 rfl rfl rfl (c8 ?_)
 first | refine k9 rfl (fun hb2 => ?_) (fun hb2 => ?_) | refine j0 rfl (fun hb2 => ?_) (fun hb2 => ?_)
 ·have hb2' := hb2; try simp at hb2'
  have hb2 : k < a.length := by omega
  refine i8 (i1 (d6 (j5 (d6 ?_)))); refine C0 8 mixed (by decide) (by decide) rfl rfl (r7 rfl (r7 rfl (k8 (fun w1 => m7 (α := Int) _ _ rfl A8 E1 rfl rfl rfl mB rfl (by omega) (by decide) (q_z rfl)) (k8 (fun w1 => a7 rfl a8 rfl (b7 mB (b4 (by omega) rfl)) (q_z rfl)) (r7 rfl (r7 rfl (k8 (fun w1 => m7 (α := Int) _ _ rfl A8 E1 rfl rfl rfl mB rfl (by omega) (by decide) (q_z rfl)) (k8 (fun w1 => a7 rfl a8 rfl (b7 mB (b4 (by omega) rfl)) (q_z rfl)) ?_)))))))); refine v7 ⟨rfl, ?_⟩; refine M8 rfl rfl rfl (c8 ?_)
  first | refine k9 rfl (fun hb3 => ?_) (fun hb3 => ?_) | refine j0 rfl (fun hb3 => ?_) (fun hb3 => ?_)
  ·have hb3' := hb3; try simp at hb3'
   have hb3 : ¬ a = b := nx9 (a := a) (b := b) (k := k) hb3; refine i4 (c5 rfl (c8 (l4 (B7 (u5 (B7 ?_)))))); exact ret1 () rfl (by rw [decide_eq_false hb3]; rfl) rfl tK (.refl _) tK
  have hb3' := hb3; try simp at hb3'
  have hb3 : a.getD k default = b.getD k default := Classical.not_not.1 hb3; refine i8 (w6 (i1 (c9 (b6 rfl ?_)))); refine t5 _ rfl rfl rfl rfl q6 ?_; refine c5 rfl (b5 ?_); exact again _ (k + 1) ⟨by omega, by rw [D6 a k hb2, D6 b k (by omega), ht, hb3]⟩ (by first | omega | (simp only; omega)) mC (.refl _) ⟨m0, m1, tK⟩
 have hb2' := hb2; try simp at hb2'
 have hb2 : k = a.length := by omega
 refine t7 (C7 (t8 (i1 (i4 (c5 rfl (c8 (l4 ?_))))))); exact ret1 () rfl (by rw [decide_eq_true (nP ht (by omega) (by omega))]; rfl) rfl tK (.refl _) tK
abbrev OutC := Option Addr × Nat
def outSl {α : Type} [El α] (l : List α) : Con OutC := { inv := fun x => l.length ≤ x.2, val := fun x => .slice x.1 l.length x.2, LO := fun x => [Row x.1 (rows l)] }
end Go.Proofs.YtdgmfagfpbdbhaaGreatDoor
end
section
namespace Go.W
open Go Go.RowKit
/-! ### The first of a list of slices -/
theorem mz1 {α : Type} [El α] {b : Bx} {hp : Hp} {L : List Fact} {w : World} {A : Option Addr} {ps : List (Sl α)} (h : Row A (rows ps) ∈ L) (h2 : ∀ p ∈ ps, Row p.a (rows p.l) ∈ L) (hw : WI b w hp L) : WI b w hp (Rows2 A ps :: L) :=
  Y2 hw ⟨hw.fs _ h, fun p hp => hw.fs _ (h2 p hp)⟩ (fun k hk => by
    rcases hk with hk | ⟨p, hp, hk⟩
    · exact ⟨_, h, hk⟩
    exact ⟨_, h2 p hp, hk⟩)
section
variable {α : Type} [El α] {c : Cx} {Q : Exit → Act → World → Prop} {fr : Fr} {hp : Hp} {L : List Fact} {ops : Array Oper} {rest : List Oper} {A : Option Addr} {ps : List (Sl α)}
theorem pZ {e : Exit} (h : Row A (rows ps) ∈ L) (h2 : Facts (ps.map fun p => Row p.a (rows p.l)) ∈ L) (k : HQ c Q e fr hp (Rows2 A ps :: L)) : HQ c Q e fr hp L := fun a w ha hw =>
  k a w ha (Y2 hw ⟨hw.fs _ h, fun p hp => hw.fs _ h2 _ (List.mem_map.2 ⟨p, hp, rfl⟩)⟩ (fun k hk => by
    rcases hk with hk | ⟨p, hp, hk⟩
    · exact ⟨_, h, hk⟩
    exact ⟨_, h2, _, List.mem_map.2 ⟨p, hp, rfl⟩, hk⟩))
theorem pj7 (h : Row A (rows ps) ∈ L) (h2 : ∀ p ∈ ps, Row p.a (rows p.l) ∈ L) (k : HL c ops Q rest fr hp (Rows2 A ps :: L)) : HL c ops Q rest fr hp L := fun a w ha hw => k a w ha (mz1 h h2 hw)
end
/-! ### Facts that follow from the world; nil -/
section
variable {c : Cx} {Q : Exit → Act → World → Prop} {fr : Fr} {hp : Hp} {L : List Fact} {ops : Array Oper} {rest : List Oper}
theorem hc_pure {φ : Prop} {x : Code} (h : ∀ w, WI c.b w hp L → φ) (k : φ → HC c x Q fr hp L) : HC c x Q fr hp L := fun a w ha hw => k (h w hw) a w ha hw
theorem az0 {g : Nat} {o : Obj} {e : Exit} (k : HQ c Q e fr hp (Blk g o :: L)) : HQ c Q e fr ((g, o) :: hp) L := fun a w ha hw => k a w ha (gj1 hw)
theorem nj4 {α : Type} [El α] {l : List α} {w : World} (h0 : 0 < El.sz α) (h : (Row none (rows l)).P w) : l = [] := by
  cases l with
  | nil => rfl
  | cons a l =>
    have hl : 0 < (rows (a :: l)).length := by rw [R6]; exact Nat.mul_pos (by simp) h0
    obtain ⟨ad, e, _⟩ := h 0 _ (List.getElem?_eq_getElem hl)
    cases e
variable {d : Tmp} {ty : TypeId} {pos : String} {af : Array Edge}
theorem nx0 {t e yt : TypeId} {x y : Operand} {A : Option Addr} {n cp : Nat} (hd : Nat.blt d c.n = true) (ht : c.P.underlying t = some (.slice e)) (hx : ev fr x = some (.slice A n cp)) (hy : ev fr y = some (.slice none 0 0)) (k : HL c ops Q rest ((d, .bool A.isNone) :: fr) hp L) :
    HL c ops Q (⟨some d, .binOp .eql t x y yt, ty, pos, af, none⟩ :: rest) fr hp L :=
  R7 _ hd hx hy (fun _ => rfl) (fun w => by
    show ((do pure (Value.bool (← Op.equal t (.slice A n cp) (.slice none 0 0)))) : Sem Value).run c.P w = _
    simp only [Sem.run_bind, run_equal_slice_nil w t e A n cp ht, Result.andThen_ok, Sem.run_pure]) k
end
/-! ### A store into a slice of the call's own -/
theorem Grow.open_ {e : TypeId} {sz n cap : Nat} {A : Option Addr} {xs : List Value} {og : Hp} (h : Grow e sz A n cap xs og) (hn : 0 < n) : ∃ g cur, A = some ⟨g, 0, none⟩ ∧ og = [(g, Obj.cells cur e (0, 0))] ∧ n ≤ cap ∧ cap ≤ maxLen ∧ cur.size = cap * sz ∧ cur.toList.take (n * sz) = xs ∧ xs.length = n * sz := by
  rcases h with ⟨hl, ⟨_, h, _⟩ | ⟨g, cur, h1, h2, h3, h4, h5, h6⟩⟩
  · omega
  exact ⟨g, cur, h1, h2, h3, h4, h5, h6, hl⟩
theorem uT {α : Type} [El α] (h1 : El.sz α = 1) (v : Value) (a : α) (hv : El.cells a = [v]) : ∀ (l : List α) (k : Nat), (rows l).set k v = rows (l.set k a)
  | [], k => by simp [tT]
  | b :: l, 0 => by
    have hb : ∃ u, El.cells b = [u] := by
      have := El.len b; rw [h1] at this; exact List.length_eq_one_iff.1 this
    obtain ⟨u, hu⟩ := hb; rw [List.set_cons_zero, X6, X6, hu, hv]
    rfl
  | b :: l, k + 1 => by
    have hb : ∃ u, El.cells b = [u] := by
      have := El.len b; rw [h1] at this; exact List.length_eq_one_iff.1 this
    obtain ⟨u, hu⟩ := hb; rw [List.set_cons_succ, X6, X6, hu, ← uT h1 v a hv l k]
    rfl
theorem Grow.set {α : Type} [El α] {e : TypeId} {cap g k : Nat} {cur : Array Value} {l : List α} {v : Value} {a : α} (h1 : El.sz α = 1) (hv : El.cells a = [v]) (h3 : l.length ≤ cap) (h4 : cap ≤ maxLen) (h5 : cur.size = cap * 1) (h6 : cur.toList.take (l.length * 1) = rows l) :
    Grow e 1 (d9 g) l.length cap (rows (l.set k a)) [(g, Obj.cells (cur.setIfInBounds k v) e (0, 0))] := by
  refine ⟨by rw [R6, h1, List.length_set], .inr ⟨g, _, rfl, rfl, h3, h4, by simpa using h5, ?_⟩⟩; rw [← uT h1 v a hv, ← h6, Array.toList_setIfInBounds, List.take_set]
/-! ### make -/
theorem nj3 {α : Type} [El α] (h1 : El.sz α = 1) (l : List α) (k : Nat) (v : Value) (a : α) (hv : El.cells a = [v]) : (rows l).toArray.setIfInBounds k v = (rows (l.set k a)).toArray := by
  rw [← uT h1 v a hv]; simp
theorem rows_at {α : Type} [El α] (h1 : El.sz α = 1) {l : List α} {k : Nat} {v : Value} (hk : k < l.length) (hv : El.cells (l.getD k default) = [v]) : (rows l).toArray[k]? = some v := by
  have := rows_get (l := l) (i := k) (j := 0) (v := v) hk (by rw [hv]; rfl); rw [h1] at this
  simpa using this
/-! ### Scopes and labels -/
section
variable {Q : Exit → Act → World → Prop} {fr : Fr} {hp : Hp} {L : List Fact}
theorem pq2 {P : Program} {n : Nat} {b : Bx} {D : List Deferred} {x : Code} (h : HC ⟨P, n, b, D, none⟩ x (Exit.noGoto Q) fr hp L) : HC ⟨P, n, b, D, none⟩ (.scope x) Q fr hp L :=
  fun a w ha hw => wpIn_wide.2 (wp_scope_straight (wpIn_wide.1 (h a w ha hw)))
theorem nx8 {c : Cx} (h : HQ c Q .ret fr hp L) : HQ c (Exit.noGoto Q) .ret fr hp L := fun a w ha hw => h a w ha hw
theorem pq4 {c : Cx} {l : Nat} (h : HQ c Q .normal fr hp L) : HC c (.label l) Q fr hp L := fun a w ha hw => wpIn_label (h a w ha hw)
end
/-! ### A loop's yield -/
def recL (fn : FuncId) (tmps : Array Value) (ps : Array Tmp) (assign body : Code) (d : Nat) (j : Option Code) : Loop := { state := if j.isNone then .ready else .done, pending := j, fn, tmps, params := ps, assign, body, defers := d }
def recB (fn : FuncId) (tmps : Array Value) (ps : Array Tmp) (assign body : Code) (d : Nat) : Loop := { state := .busy, pending := none, fn, tmps, params := ps, assign, body, defers := d }
def yieldV (l : Nat) : Value := .func (.yield l) #[] #[]
def MeetsY (P : Program) (l : Nat) (args : List Value) {β : Type} (k : Con β) : Prop :=
  ∀ w, WI (k.entry w) w k.hpI k.LI → ∃ f tmps assign body, (Instr.yield l args.toArray).run P w = .ok (.round l f tmps assign body) w ∧ RoundIn Fence.wide 0 P l f tmps assign body w (k.post w)
theorem evals {n : Cx} {a : Act} {fr : Fr} (ha : Ok n a fr) : ∀ (xs : List Operand) (vs : List Value), xs.mapM (ev fr) = some vs → xs.map a.eval = vs := by
  intro xs
  induction xs with
  | nil => intro vs h; simpa using h
  | cons x xs ih =>
    intro vs h; simp only [List.mapM_cons, Option.bind_eq_bind, Option.bind_eq_some_iff, Option.pure_def, Option.some.injEq] at h; obtain ⟨v, hv, us, hus, rfl⟩ := h; rw [List.map_cons, ha.ev hv, ih us hus]
section
variable {c : Cx} {Q : Exit → Act → World → Prop} {fr : Fr} {hp : Hp} {L : List Fact} {ops : Array Oper} {rest : List Oper}
variable {d : Tmp} {ty : TypeId} {pos : String} {af : Array Edge}
theorem pj6 {l : Nat} {x : Operand} {aS9 : Array Operand} {ats : Array TypeId} {vs : List Value} {β : Type} {k : Con β} {hpR : Hp} (hd : Nat.blt d c.n = true) (hf : ev fr x = some (yieldV l)) (hx : aS9.toList.mapM (ev fr) = some vs)
    (hm : MeetsY c.P l vs k) (h1 : hp.Perm (k.hpI ++ hpR)) (h2 : LSub L k.LI) (kk : ∀ x, k.inv x → HL c ops Q rest ((d, k.val x) :: fr) (k.hpO x ++ hpR) (k.LO x ++ L)) :
    HL c ops Q (⟨some d, .call ⟨.value x, aS9, ats⟩, ty, pos, af, none⟩ :: rest) fr hp L := by
  intro a w ha hw; refine jx2 rfl (.inr ⟨rfl, ?_⟩); have e1 : aS9.map a.eval = vs.toArray := by apply Array.ext'; simpa using evals ha _ _ hx
  obtain ⟨f, tmps, assign, body, h3, h4⟩ := hm w (hw.entry h1 h2.mem); refine ⟨l, f, tmps, assign, body, ?_, h4.mono fun e w' hp => ?_⟩
  · show ((do let dd ← resolve a.eval ⟨.value x, aS9, ats⟩ ty; invoke dd.target dd.args) : Sem Next).run c.P w = _
    simp only [resolve, ha.ev hf, yieldV, e1, Deferred.ofValue, Sem.run_bind, Sem.run_pure, Result.andThen_ok, invoke]
    simpa using h3
  obtain ⟨x, rfl, hi, hwi⟩ := hp; exact ⟨_, rfl, kk x hi _ _ (ha.put (by simpa using hd) _) (hw.back h1 h2.mem hwi)⟩
end
def setAll (ps : List (Tmp × Value)) (fr : Fr) : Fr := ps.foldl (fun fr p => p :: fr) fr
theorem gj8 : ∀ (ps : List (Tmp × Value)) (tmps : Array Value) (fr : Fr), (∀ p ∈ ps, p.1 < tmps.size) → (∀ t v, lk fr t = some v → tmps.getD t undef = v) →
    (ps.foldl (fun tmps p => tmps.setIfInBounds p.1 p.2) tmps).size = tmps.size ∧ ∀ t v, lk (setAll ps fr) t = some v → (ps.foldl (fun tmps p => tmps.setIfInBounds p.1 p.2) tmps).getD t undef = v
  | [], tmps, fr, _, h => ⟨rfl, h⟩
  | (p, u) :: ps, tmps, fr, hlt, h => by
    have h1 := gj8 ps (tmps.setIfInBounds p u) ((p, u) :: fr) (fun q hq => by simpa using hlt q (by simp [hq])) (fun t v hv => by
      rw [J6] at hv; have hp : p < tmps.size := hlt (p, u) (by simp)
      by_cases e : p = t
      · subst e
        simp at hv
        subst hv
        simp [hp]
      rw [if_neg e] at hv; have := h t v hv
      simpa [Array.getElem?_setIfInBounds_ne e] using this)
    exact ⟨by simpa using h1.1, h1.2⟩
def BeginQ (c : Cx) (l : Nat) (body : Code) (Q : Exit → Act → World → Prop) (a : Act) (w : World) : Prop :=
  ∃ w2, (Instr.beginRound l).run c.P w = .ok () w2 ∧ body.wpIn (FF c.rd) 0 c.P Q a w2
theorem WI.putObj {b : Bx} {w : World} {hp : Hp} {L : List Fact} {g : Nat} {o : Obj} (o' : Obj) (h : WI b w ((g, o) :: hp) L) : WI b (w.putObj g o') ((g, o') :: hp) L :=
  h.write ⟨rfl, rfl, rfl, by simp, fun k _ hn => World.putObj_heap_other (by simpa using hn), Nat.le_refl _⟩ (World.putObj_heap_same (lt_of_own (h.own (g, o) (by simp))))
section
variable {c : Cx} {fr : Fr} {hp : Hp} {L : List Fact} {fn : FuncId} {tmps : Array Value} {ps : Array Tmp} {assign body : Code} {d l : Nat} {β : Type} {k : Con β} {w0 : World}
theorem jx8 {Q : Exit → Act → World → Prop} {hp' : Hp} (hpp : hp.Perm ((l, .loop (recL fn tmps ps assign body d none)) :: hp')) (h : HC c body Q fr ((l, .loop (recB fn tmps ps assign body d)) :: hp') L) : HQ c (Exit.then (BeginQ c l body Q) (fun _ _ _ => False)) .normal fr hp L := by
  intro a w ha hw; have hw' := hw.perm hpp; have hl := hw'.own (l, .loop (recL fn tmps ps assign body d none)) (by simp); exact ⟨_, run_beginRound hl rfl, h a _ ha (hw'.putObj _)⟩
theorem nj2 {hp' : Hp} (x : β) (j : Option Code) (hpp : hp.Perm ((l, .loop (recB fn tmps ps assign body d)) :: hp')) (hb : c.b = k.entry w0) (hv : k.val x = .bool j.isNone) (hi : k.inv x) (h2 : (k.hpO x).Sublist ((l, .loop (recL fn tmps ps assign body d j)) :: hp')) (h3 : LSub L (k.LO x)) {a : Act} {w : World} (hw : WI c.b w hp L) :
    ∃ v w', (Instr.endRound l j).run c.P w = .ok v w' ∧ (k.post w0) (.returned v) w' := by
  have hw' := hw.perm hpp; have hl := hw'.own (l, .loop (recB fn tmps ps assign body d)) (by simp); exact ⟨_, _, run_endRound j hl, x, by rw [hv], hi, hb ▸ (hw'.putObj _).weak h2 h3.mem⟩
theorem rp_n {hp' : Hp} (x : β) (hpp : hp.Perm ((l, .loop (recB fn tmps ps assign body d)) :: hp')) (hb : c.b = k.entry w0) (hv : k.val x = .bool true) (hi : k.inv x) (h2 : (k.hpO x).Sublist ((l, .loop (recL fn tmps ps assign body d none)) :: hp')) (h3 : LSub L (k.LO x)) : HQ c (roundPost c.P l (k.post w0)) .normal fr hp L :=
  fun a w _ hw => nj2 (a := a) x none hpp hb hv hi h2 h3 hw
theorem rp_exit {hp' : Hp} {id : Nat} (x : β) (hpp : hp.Perm ((l, .loop (recB fn tmps ps assign body d)) :: hp')) (hb : c.b = k.entry w0) (hv : k.val x = .bool false) (hi : k.inv x) (h2 : (k.hpO x).Sublist ((l, .loop (recL fn tmps ps assign body d (some (.exit id)))) :: hp')) (h3 : LSub L (k.LO x)) : HQ c (roundPost c.P l (k.post w0)) (.exit id) fr hp L :=
  fun a w _ hw => nj2 (a := a) x (some (.exit id)) hpp hb hv hi h2 h3 hw
end
theorem hx4 {β : Type} {P : Program} {l n d : Nat} {args : List Value} {k : Con β} {fn : FuncId} {tmps : Array Value} {ps : Array Tmp} {assign body : Code} {fr : Fr} (hI : (l, Obj.loop (recL fn tmps ps assign body d none)) ∈ k.hpI)
    (hsz : tmps.size = n) (hfr : ∀ t v, lk fr t = some v → tmps.getD t undef = v) (hlen : args.length = ps.size) (hps : ∀ t ∈ ps, t < n)
    (h : ∀ w, HC ⟨P, n, k.entry w, [], some l⟩ assign (Exit.then (BeginQ ⟨P, n, k.entry w, [], some l⟩ l body (roundPost P l (k.post w))) (fun _ _ _ => False)) (setAll (ps.toList.zip args) fr) k.hpI k.LI) : MeetsY P l args k := by
  intro w hw; have hl := hw.own _ hI; refine ⟨_, _, _, _, run_yield hl (by simpa [recL] using hlen), ?_⟩
  have h1 := gj8 (ps.toList.zip args) tmps fr (fun p hp => by
    have := List.of_mem_zip hp; rw [hsz]
    exact hps _ (by simpa using this.1)) hfr
  have e : ((ps.zip args.toArray).foldl (fun tmps (x : Tmp × Value) => tmps.setIfInBounds x.1 x.2) tmps) = (ps.toList.zip args).foldl (fun tmps p => tmps.setIfInBounds p.1 p.2) tmps := by
    rw [← Array.foldl_toList]
    simp
  refine roundIn_of_wpIn tK ?_; refine h w _ w ⟨rfl, ?_, fun t v hv => ?_⟩ hw
  · exact (congrArg Array.size e).trans (h1.1.trans hsz)
  have := h1.2 t v hv; rw [← e] at this; exact this
/-! ### The statement -/
def markOf (d : Nat) : Deferred := { target := .collected d, args := #[] }
theorem hx9 {P : Program} {n : Nat} {b : Bx} {D : List Deferred} {Q : Exit → Act → World → Prop} {fr : Fr} {hp hpR : Hp} {L : List Fact} {g : Operand} {ps : Array Tmp} {assign body : Code} {f : Nat} {cap : List Value} {β : Type}
    (R : Hp) (LI : List Fact) (inv : β → Prop) (val : β → Value) (pend : β → Option Code) (RO : β → Hp) (LO : β → List Fact)
    (hg : ev fr g = some (.func (.func f) #[] cap.toArray)) (hcb : Callable P f) (hpp : hp.Perm (R ++ hpR)) (hL : LSub L LI)
    (hm : ∀ l d fn tmps, tmps.size = n → (∀ t v, lk fr t = some v → tmps.getD t undef = v) →
      Meets P f (yieldV l :: cap) ({ hpI := (l, .loop (recL fn tmps ps assign body d none)) :: R, LI := LI, inv := inv, val := val, hpO := fun x => (l, .loop (recL fn tmps ps assign body d (pend x))) :: RO x, LO := LO } : Con β))
    (k1 : ∀ x d, inv x → pend x = none → HQ ⟨P, n, b, markOf d :: D, none⟩ Q .normal fr ((d, .deferred (some [])) :: (RO x ++ hpR)) (LO x ++ L))
    (k2 : ∀ x d j, inv x → pend x = some j → HC ⟨P, n, b, markOf d :: D, none⟩ j Q fr ((d, .deferred (some [])) :: (RO x ++ hpR)) (LO x ++ L)) :
    HC ⟨P, n, b, D, none⟩ (.rangeFunc g ps assign body) Q fr hp L := by
  intro a w ha hw; have hsz : a.tmps.size = n := ha.sz; have hwa := (hw.perm hpp).alloc (.deferred (some [])); refine wpIn_rangeFunc fun fn _ => ?_; have hwb := hwa.alloc (.loop (recL fn a.tmps ps assign body w.heap.size none)); have hs1 : (w.alloc (.deferred (some []))).heap.size = w.heap.size + 1 := by simp
  rw [hs1] at hwb; have hno : (FF none).depth.isSome = true → 1 ≤ 0 := fun h => by cases h
  let W2 := (w.alloc (.deferred (some []))).alloc (.loop (recL fn a.tmps ps assign body w.heap.size none))
  refine ⟨w.heap.size + 1, [markOf w.heap.size], W2, ⟨.fn (.func f) cap.toArray, #[] ++ #[yieldV (w.heap.size + 1)]⟩, W2, f, #[yieldV (w.heap.size + 1)] ++ cap.toArray, W2, run_enterLoop_outer fn a.tmps ps assign body, ?_, fun _ _ => trivial, ?_, hno, ?_⟩
  · have e1 := ha.ev hg
    have e2 : a.eval (.const (.func (.yield (w.heap.size + 1)) #[] #[])) = yieldV (w.heap.size + 1) := rfl; simp only [rangeCall, resolve, e1, e2, Deferred.ofValue, List.map_toArray, List.map_cons, List.map_nil, Sem.run_pure]
  · have e3 : (#[] ++ #[yieldV (w.heap.size + 1)] ++ cap.toArray : Array Value) = #[yieldV (w.heap.size + 1)] ++ cap.toArray := by simp
    simp only [invoke, e3]; exact hcb.run _ _
  have hmm := hm (w.heap.size + 1) w.heap.size fn a.tmps hsz ha.at_
  let kk : Con β := { hpI := (w.heap.size + 1, .loop (recL fn a.tmps ps assign body w.heap.size none)) :: R, LI := LI, inv := inv, val := val, hpO := fun x => (w.heap.size + 1, .loop (recL fn a.tmps ps assign body w.heap.size (pend x))) :: RO x, LO := LO }
  have hperm : ((w.heap.size + 1, Obj.loop (recL fn a.tmps ps assign body w.heap.size none)) :: (w.heap.size, Obj.deferred (some [])) :: (R ++ hpR)).Perm (kk.hpI ++ ((w.heap.size, Obj.deferred (some [])) :: hpR)) := by
    refine B1 fun p => ?_; simp only [kk, List.cons_append, List.countP_cons, List.countP_append]
    omega
  have hc := hmm _ (WI.entry (k := kk) hwb hperm hL.mem); have e4 : (#[yieldV (w.heap.size + 1)] ++ cap.toArray : Array Value) = (yieldV (w.heap.size + 1) :: cap).toArray := by simp
  rw [e4]; refine jq4 (hc.mono fun e w3 hpo => ?_); obtain ⟨x, rfl, hi, hwi⟩ := hpo; have hwi2 := WI.back (k := kk) (x := x) hwb hperm hL.mem hwi; have hl := hwi2.own (w.heap.size + 1, .loop (recL fn a.tmps ps assign body w.heap.size (pend x))) (by simp [kk])
  have hwi3 : WI b (w3.putObj (w.heap.size + 1) (.loop { recL fn a.tmps ps assign body w.heap.size (pend x) with state := .exhausted })) ((w.heap.size, .deferred (some [])) :: (RO x ++ hpR)) (LO x ++ L) := by
    have h5 := WI.putObj (.loop { recL fn a.tmps ps assign body w.heap.size (pend x) with state := .exhausted }) (by simpa [kk] using hwi2); refine (h5.weak (List.sublist_cons_self _ _) (fun _ h => h)).perm (B1 fun p => ?_); simp only [List.countP_cons, List.countP_append]
    omega
  have hend : (Instr.endLoop (w.heap.size + 1)).run P w3 = .ok (pend x) _ := run_endLoop hl (by show (if (pend x).isNone = true then LoopState.ready else LoopState.done) ≠ .busy; split <;> simp); refine ⟨pend x, _, hend, ?_⟩; have hok : Ok ⟨P, n, b, markOf w.heap.size :: D, none⟩ { a with defers := [markOf w.heap.size] ++ a.defers } fr := ⟨by show markOf w.heap.size :: a.defers = _; rw [ha.d], ha.sz, ha.at_⟩
  cases hpx : pend x with
  | none =>
    rw [hpx] at hwi3; exact k1 x w.heap.size hi hpx _ _ hok hwi3
  | some j =>
    rw [hpx] at hwi3; exact k2 x w.heap.size j hi hpx _ _ hok hwi3
/-! ### Functions that leave with marks -/
theorem hx5 {β : Type} {P : Program} {f : Nat} {args : List Value} {k : Con β} {fn : Func} {code : Code} (hf : P.funcs[f]? = some fn) (hb : fn.body = some code) (hn : args.length ≤ fn.ntmps)
    (h : ∀ w, HC ⟨P, fn.ntmps, k.entry w, [], none⟩ code (bodyPostM Fence.wide 0 P fn (k.post w)) (argFr 0 args) k.hpI k.LI) : Meets P f args k := by
  intro w hw; refine callsIn_wide.1 (callsIn_of_wp_marks (n := 0) hf hb tK (h w _ w ⟨rfl, by simp; omega, fun t v hv => ?_⟩ hw)); obtain ⟨_, h2⟩ := dj6 args 0 t v hv; simp only [Nat.sub_zero] at h2
  have hlt : t < args.length := by
    rcases Nat.lt_or_ge t args.length with h' | h'
    · exact h'
    rw [List.getElem?_eq_none h'] at h2; cases h2
  rw [List.getElem?_eq_getElem hlt] at h2
  injection h2 with h2
  simp [Array.getElem?_append, hlt, h2]
def shutM (ds : List Nat) : Hp := ds.map fun d => (d, Obj.deferred (some []))
theorem zB {c : Cx} {β : Type} {k : Con β} {fn : Func} {w0 : World} {tmps : Array Value} {hp' : Hp} {L : List Fact} (x : β)
    (hr : ∀ w, WI c.b w hp' L → (results fn tmps).run c.P w = .ok (k.val x) w) (hb : c.b = k.entry w0) (hi : k.inv x) (h2 : (k.hpO x).Sublist hp') (h3 : LSub L (k.LO x)) :
    ∀ (ds : List Nat) (w : World), WI c.b w (shutM ds ++ hp') L → LeavesInM Fence.wide 0 c.P fn tmps (k.post w0) (ds.map markOf) .returning w
  | [], w, hw => ⟨k.val x, hr w hw, x, rfl, hi, hb ▸ hw.weak h2 h3.mem⟩
  | d :: ds, w, hw => by
    have hw' : WI c.b w ((d, Obj.deferred (some [])) :: (shutM ds ++ hp')) L := hw; have ho := hw'.own (d, Obj.deferred (some [])) (by simp); refine ⟨by simp, .inl ⟨d, _, rfl, run_takeDeferred ho, ?_⟩⟩; exact zB x hr hb hi h2 h3 ds _ ((hw'.putObj _).weak (List.sublist_cons_self _ _) fun _ h => h)
theorem gq2 {c : Cx} {fr : Fr} {hp hp' : Hp} {L : List Fact} {β : Type} {k : Con β} {fn : Func} {w0 : World} (ds : List Nat) (x : β) (hD : c.D = ds.map markOf) (hpp : hp.Perm (shutM ds ++ hp'))
    (hr : ∀ (a : Act) w, a.tmps.size = c.n → (∀ t v, lk fr t = some v → a.tmps.getD t undef = v) → WI c.b w hp' L → (results fn a.tmps).run c.P w = .ok (k.val x) w) (hb : c.b = k.entry w0) (hi : k.inv x) (h2 : (k.hpO x).Sublist hp') (h3 : LSub L (k.LO x)) :
    HQ c (bodyPostM Fence.wide 0 c.P fn (k.post w0)) .ret fr hp L := fun a w ha hw => by
  show LeavesInM Fence.wide 0 c.P fn a.tmps (k.post w0) a.defers .returning w; rw [ha.d, hD]; exact zB x (fun w hw => hr a w ha.sz ha.at_ hw) hb hi h2 h3 ds w (hw.perm hpp)
end Go.W
end
section
namespace Go.W
open Go Go.RowKit
theorem ptr_inj {a b : Nat} (h : Value.pointer (d9 a) = Value.pointer (d9 b)) : a = b := by cases h; rfl
section
variable {c : Cx} {Q : Exit → Act → World → Prop} {fr : Fr} {hp : Hp} {L : List Fact} {ops : Array Oper} {rest : List Oper}
variable {α : Type} [El α]
abbrev innerF (ps : List (Sl α)) : Fact := Facts (ps.map fun p => Row p.a (rows p.l))
end
end Go.W
end
section
namespace Go.W
open Go Go.RowKit
def notI (dd : TypeDesc) : Bool := match dd with | .interface _ => false | _ => true
def NoI (P : Program) (t : TypeId) : Prop := ∃ dd, P.underlying t = some dd ∧ notI dd = true
section
variable {c : Cx} {Q : Exit → Act → World → Prop} {fr : Fr} {hp : Hp} {L : List Fact} {ops : Array Oper} {rest : List Oper}
variable {d : Tmp} {ty : TypeId} {pos : String} {af : Array Edge}
/-! ### Interfaces -/
theorem lK {t : TypeId} {x : Operand} {v : Value} (hd : Nat.blt d c.n = true) (ht : NoI c.P t) (hx : ev fr x = some v) (k : HL c ops Q rest ((d, .iface t v) :: fr) hp L) : HL c ops Q (⟨some d, .makeInterface t x, ty, pos, af, none⟩ :: rest) fr hp L :=
  E0 _ rfl rfl hd (fun a w ha _ => by
    obtain ⟨dd, h1, h2⟩ := ht; simp only [execOp, ha.ev hx, Instr.makeInterface, Sem.run_bind, run_underlying h1, Result.andThen_ok]
    cases dd <;> first | rfl | cases h2) k
theorem gq7 {t xt : TypeId} {x : Operand} {v : Value} (hd : Nat.blt d c.n = true) (ht : NoI c.P t) (hx : ev fr x = some (.iface t v)) (k : HL c ops Q rest ((d, .tuple #[v, .bool true]) :: fr) hp L) : HL c ops Q (⟨some d, .typeAssert x xt t true, ty, pos, af, none⟩ :: rest) fr hp L :=
  E0 _ rfl rfl hd (fun a w ha _ => by
    obtain ⟨dd, h1, h2⟩ := ht; simp only [execOp, ha.ev hx, Instr.typeAssert, Sem.run_bind, run_underlying h1, Result.andThen_ok]
    cases dd <;> first | (cases h2; done) | simp) k
theorem uW {t t' xt : TypeId} {x : Operand} {v z : Value} (hd : Nat.blt d c.n = true) (ht : NoI c.P t) (hx : ev fr x = some (.iface t' v)) (hne : Nat.beq t' t = false) (hz : ∀ w, (zeroValue t).run c.P w = .ok z w) (k : HL c ops Q rest ((d, .tuple #[z, .bool false]) :: fr) hp L) : HL c ops Q (⟨some d, .typeAssert x xt t true, ty, pos, af, none⟩ :: rest) fr hp L :=
  E0 _ rfl rfl hd (fun a w ha _ => by
    obtain ⟨dd, h1, h2⟩ := ht; have hn : ¬ t' = t := fun e => by subst e; simp [Nat.beq_refl] at hne
    simp only [execOp, ha.ev hx, Instr.typeAssert, Sem.run_bind, run_underlying h1, Result.andThen_ok]
    cases dd <;> first | (cases h2; done) | simp [hn, hz]) k
/-! ### Three results -/
theorem results3 {fn : Func} {t u v : Tmp} (h : fn.results = #[.tmp t, .tmp u, .tmp v]) (tmps : Array Value) (P : Program) (w : World) : (results fn tmps).run P w = .ok (.tuple #[tmps.getD t undef, tmps.getD u undef, tmps.getD v undef]) w := by
  simp [results, h]
theorem ret3 {β : Type} {k : Con β} {fn : Func} {w0 : World} (x : β) {t u v : Tmp} {v1 v2 v3 : Value} (hres : fn.results = #[.tmp t, .tmp u, .tmp v]) (hv1 : lk fr t = some v1) (hv2 : lk fr u = some v2) (hv3 : lk fr v = some v3) (hk : k.val x = .tuple #[v1, v2, v3]) (hb : c.b = k.entry w0) (hi : k.inv x) (h2 : (k.hpO x).Sublist hp) (h3 : LSub L (k.LO x)) (hD : c.D = [] := by exact rfl) :
    HQ c (bodyPost c.P fn (k.post w0)) .ret fr hp L :=
  A9 x (fun a w ha _ => by rw [results3 hres, ha.at_ _ _ hv1, ha.at_ _ _ hv2, ha.at_ _ _ hv3, hk]) hb hi h2 h3 hD
/-! ### Strings that are ranged over -/
abbrev iter (s : Str) (p : Nat) : Obj := .stringIter ⟨s.toArray⟩ p
theorem ix7 {t : TypeId} {x : Operand} {s : Str} (hd : Nat.blt d c.n = true) (ht : c.P.underlying t = some .string) (hx : ev fr x = some (str s)) (k : ∀ g, HL c ops Q rest ((d, .pointer (d9 g)) :: fr) ((g, iter s 0) :: hp) L) : HL c ops Q (⟨some d, .range t x, ty, pos, af, none⟩ :: rest) fr hp L :=
  wV (iter s 0) (fun g => .pointer (d9 g)) rfl rfl hd (fun a w ha _ => by
    simp only [execOp, ha.ev hx, Instr.range, Sem.run_bind, run_underlying ht, Result.andThen_ok, str]
    simp [run_newObj_alloc]) k
theorem gj9 {P : Program} {w : World} {g : Nat} {s : ByteArray} {p : Nat} (h : w.heap[g]? = some (.stringIter s p)) : (getObj g).run P w = .ok (.stringIter s p) w := by simp [getObj, Sem.run, h]
theorem lz7 {P : Program} {w : World} {g : Nat} {s : ByteArray} {p : Nat} (h : w.heap[g]? = some (.stringIter s p)) (o : Obj) : (setObj g o).run P w = .ok () { w with heap := w.heap.setIfInBounds g o } := by
  have hlt : g < w.heap.size := lt_of_own h
  simp [setObj, Sem.run, h]
theorem iq9 (s : Str) : (ByteArray.mk s.toArray).size = s.length := rfl
theorem jz6 {x : Operand} {s : Str} {g p : Nat} (hd : Nat.blt d c.n = true) (hx : ev fr x = some (.pointer (d9 g))) (hm : (g, iter s p) ∈ hp) (hp1 : s.length ≤ p) (k : HL c ops Q rest ((d, .tuple #[.bool false]) :: fr) hp L) : HL c ops Q (⟨some d, .next x true, ty, pos, af, none⟩ :: rest) fr hp L :=
  E0 _ rfl rfl hd (fun a w ha hw => by
    have h := hw.own _ hm; simp only at h; simp only [execOp, ha.ev hx, Instr.next, Sem.run_bind, gj9 h, Result.andThen_ok, iq9]; rw [if_neg (by omega)]
    rfl) k
def nextV (s : Str) (p : Nat) : Value := if p < s.length then .tuple #[.bool true, int p, .int .i32 ((Utf8.decode ⟨s.toArray⟩ p).1 : Nat)] else .tuple #[.bool false]
def nextP (s : Str) (p : Nat) : Nat := if p < s.length then p + (Utf8.decode ⟨s.toArray⟩ p).2 else p
theorem jz7 {x : Operand} {s : Str} {g p : Nat} {hp' : Hp} {r wd : Nat} (hd : Nat.blt d c.n = true) (hx : ev fr x = some (.pointer (d9 g))) (hpp : hp.Perm ((g, iter s p) :: hp')) (hp1 : p < s.length) (hdec : Utf8.decode ⟨s.toArray⟩ p = (r, wd)) (k : HL c ops Q rest ((d, .tuple #[.bool true, int p, .int .i32 r]) :: fr) ((g, iter s (p + wd)) :: hp') L) : HL c ops Q (⟨some d, .next x true, ty, pos, af, none⟩ :: rest) fr hp L :=
  wW rfl rfl hd fun a w ha hw => by
    have hw' := hw.perm hpp; have h := hw'.own (g, iter s p) (by simp); simp only at h; refine ⟨_, _, _, L, ?_, hw'.write (o' := iter s (p + wd)) (w' := { w with heap := w.heap.setIfInBounds g (iter s (p + wd)) }) ⟨rfl, rfl, rfl, by simp, fun q _ hn => ?_, Nat.le_refl _⟩ ?_, k⟩
    · simp only [execOp, ha.ev hx, Instr.next, Sem.run_bind, gj9 h, Result.andThen_ok, iq9]
      rw [if_pos hp1]
      simp [hdec, lz7 h, goInt]
    · simp only [List.mem_singleton] at hn
      simp [Array.getElem?_setIfInBounds_ne (fun e => hn e.symm)]
    have hlt := lt_of_own h
    simp [Array.getElem?_setIfInBounds, hlt]
theorem kz3 {x : Operand} {s : Str} {g p : Nat} {hp' : Hp} (hd : Nat.blt d c.n = true) (hx : ev fr x = some (.pointer (d9 g))) (hpp : hp.Perm ((g, iter s p) :: hp')) (k : HL c ops Q rest ((d, nextV s p) :: fr) ((g, iter s (nextP s p)) :: hp') L) : HL c ops Q (⟨some d, .next x true, ty, pos, af, none⟩ :: rest) fr hp L := by
  by_cases h : p < s.length
  · simp only [nextV, nextP, if_pos h] at k
    exact jz7 hd hx hpp h rfl k
  simp only [nextV, nextP, if_neg h] at k; refine jz6 hd hx (hpp.mem_iff.2 m0) (by omega) fun a w ha hw => k a w ha (hw.perm hpp)
theorem nq9 {x : Operand} {s : Str} {p : Nat} (hd : Nat.blt d c.n = true) (hx : ev fr x = some (nextV s p)) (k : HL c ops Q rest ((d, .bool (decide (p < s.length))) :: fr) hp L) : HL c ops Q (⟨some d, .extract x 0, ty, pos, af, none⟩ :: rest) fr hp L := by
  by_cases h : p < s.length
  · simp only [nextV, if_pos h] at hx
    rw [decide_eq_true h] at k; exact l3 hd hx rfl k
  simp only [nextV, if_neg h] at hx; rw [decide_eq_false h] at k; exact l3 hd hx rfl k
theorem r_ext1 {x : Operand} {s : Str} {p : Nat} (hd : Nat.blt d c.n = true) (hx : ev fr x = some (nextV s p)) (h : p < s.length) (k : HL c ops Q rest ((d, int p) :: fr) hp L) : HL c ops Q (⟨some d, .extract x 1, ty, pos, af, none⟩ :: rest) fr hp L := by
  simp only [nextV, if_pos h] at hx; exact l3 hd hx rfl k
theorem r_ext2 {x : Operand} {s : Str} {p : Nat} (hd : Nat.blt d c.n = true) (hx : ev fr x = some (nextV s p)) (h : p < s.length) (k : HL c ops Q rest ((d, .int .i32 ((Utf8.decode ⟨s.toArray⟩ p).1 : Nat)) :: fr) hp L) : HL c ops Q (⟨some d, .extract x 2, ty, pos, af, none⟩ :: rest) fr hp L := by
  simp only [nextV, if_pos h] at hx; exact l3 hd hx rfl k
end
theorem d7 {b : Bx} {hp : Hp} {L : List Fact} {g o : Nat} {cs : List Value} {v : Value} (h : Row (d9 g) cs ∈ L) (hv : cs[o]? = some v) : Cell b hp L ⟨g, o, none⟩ v := fun w hw => by
  have := Row.cell (hw.fs _ h) hv
  simpa [adr, add_mk] using this
theorem bx1 {s : Str} {p : Nat} {b : UInt8} (h : s[p]? = some b) (hb : b.toNat < 128) : Utf8.decode ⟨s.toArray⟩ p = (b.toNat, 1) := by
  have hlt : p < s.length := (List.getElem?_eq_some_iff.1 h).1
  have hg : (ByteArray.mk s.toArray).get! (p + 0) = b := by
    rw [Nat.add_zero]; show s.toArray[p]! = b; rw [List.getElem?_eq_getElem hlt] at h
    injection h with h
    simp [h, hlt]
  unfold Utf8.decode; simp only [hg]; rw [if_pos hb]
theorem dec_big {s : Str} {p : Nat} {b : UInt8} (h : s[p]? = some b) (hb : 128 ≤ b.toNat) : 128 ≤ (Utf8.decode ⟨s.toArray⟩ p).1 := by
  have hlt : p < s.length := (List.getElem?_eq_some_iff.1 h).1
  have hg : (ByteArray.mk s.toArray).get! (p + 0) = b := by
    rw [Nat.add_zero]; show s.toArray[p]! = b; rw [List.getElem?_eq_getElem hlt] at h
    injection h with h
    simp [h, hlt]
  unfold Utf8.decode; simp only [hg]; rw [if_neg (by omega)]; unfold Utf8.runeError
  repeat' split
  all_goals first | (simp only; omega) | (rename_i h1; simp only [Bool.and_eq_true, decide_eq_true_eq, ge_iff_le] at h1; simp only; omega)
theorem dec_in {s : Str} {p : Nat} (hp : p < s.length) {lo hi : Nat} (h2 : hi < 128) (h : lo ≤ (Utf8.decode ⟨s.toArray⟩ p).1 ∧ (Utf8.decode ⟨s.toArray⟩ p).1 ≤ hi) : lo ≤ s[p].toNat ∧ s[p].toNat ≤ hi ∧ nextP s p = p + 1 := by
  have hs : s[p]? = some s[p] := List.getElem?_eq_getElem hp
  rcases Nat.lt_or_ge s[p].toNat 128 with hb | hb
  · have := bx1 hs hb
    rw [nextP, if_pos hp]; rw [this] at h ⊢; exact ⟨h.1, h.2, rfl⟩
  have := dec_big hs hb; omega
theorem lq6 {s : Str} {p : Nat} (hp : p < s.length) {lo hi : Nat} (h2 : hi < 128) (h : (Utf8.decode ⟨s.toArray⟩ p).1 < lo ∨ hi < (Utf8.decode ⟨s.toArray⟩ p).1) : s[p].toNat < lo ∨ hi < s[p].toNat := by
  have hs : s[p]? = some s[p] := List.getElem?_eq_getElem hp
  rcases Nat.lt_or_ge s[p].toNat 128 with hb | hb
  · have := bx1 hs hb
    rw [this] at h; exact h
  right; omega
theorem vD {c : Cx} {Q : Exit → Act → World → Prop} {fr : Fr} {hp : Hp} {L : List Fact} {ops : Array Oper} {rest : List Oper} {d : Tmp} {ty : TypeId} {pos : String} {af : Array Edge} {f : Nat} {xs0 : Array Operand} {ats : Array TypeId} {vs : List Value} {v : Value} (hd : Nat.blt d c.n = true) (hx : xs0.toList.mapM (ev fr) = some vs) (hrun : ∀ w, (callFunc f vs.toArray).run c.P w = .ok (.value v) w) (kk : HL c ops Q rest ((d, v) :: fr) hp L) :
    HL c ops Q (⟨some d, .call ⟨.value (.func f), xs0, ats⟩, ty, pos, af, none⟩ :: rest) fr hp L := by
  intro a w ha hw; refine iF rfl fun K hK => ?_
  have key : ∀ (xs : List Operand) (vs : List Value), xs.mapM (ev fr) = some vs → xs.map a.eval = vs := by
    intro xs
    induction xs with
    | nil => intro vs h; simpa using h
    | cons x xs ih =>
      intro vs h; simp only [List.mapM_cons, Option.bind_eq_bind, Option.bind_eq_some_iff, Option.pure_def, Option.some.injEq] at h; obtain ⟨v, hv, us, hus, rfl⟩ := h; rw [List.map_cons, ha.ev hv, ih us hus]
  have e1 : (#[] ++ xs0.map a.eval ++ #[]) = vs.toArray := by simp; apply Array.ext'; simpa using key _ _ hx
  unfold Oper.wp; rw [execOp_call_go, e1, hrun, Oper.upon_value]; exact hK _ _ (kk _ _ (ha.put (by simpa using hd) _) hw)
/-! ### Small sets of bits -/
def u8 (m : Nat) : Value := .int .u8 (m : Int)
theorem wrap8 {m : Nat} (h : m < 256) : IntKind.u8.wrap (m : Int) = (m : Int) := by
  have h1 : 0 ≤ (m : Int) := by omega
  have h2 : (m : Int) < 256 := by omega
  simp only [IntKind.wrap, IntKind.bits, IntKind.signed]
  simp
  omega
theorem bv8 {m : Nat} (h : m < 256) : (BitVec.ofInt 8 (m : Int)).toNat = m := by
  simp [BitVec.toNat_ofInt]
  omega
section
variable {c : Cx} {Q : Exit → Act → World → Prop} {fr : Fr} {hp : Hp} {L : List Fact} {ops : Array Oper} {rest : List Oper}
variable {d : Tmp} {ty : TypeId} {pos : String} {af : Array Edge}
theorem kz2 {t yt : TypeId} {x y : Operand} {a b : Nat} (hd : Nat.blt d c.n = true) (hx : ev fr x = some (u8 a)) (hy : ev fr y = some (u8 b)) (ha : a < 256) (hb : b < 256) (k : HL c ops Q rest ((d, u8 (a ||| b)) :: fr) hp L) :
    HL c ops Q (⟨some d, .binOp .or t x y yt, ty, pos, af, none⟩ :: rest) fr hp L :=
  R7 _ hd hx hy (fun _ => rfl) (fun w => by
    show (Op.intBits .or .u8 (a : Int) (b : Int)).run c.P w = _; have h : (BitVec.ofInt 8 (a : Int) ||| BitVec.ofInt 8 (b : Int)).toNat = a ||| b := by rw [BitVec.toNat_or, bv8 ha, bv8 hb]
    have hl : a ||| b < 256 := Nat.or_lt_two_pow (n := 8) ha hb
    show Result.ok (Value.int .u8 (IntKind.u8.wrap ((BitVec.ofInt 8 (a : Int) ||| BitVec.ofInt 8 (b : Int)).toNat : Nat))) w = _; rw [h, wrap8 hl]
    rfl) k
theorem jz9 {t yt : TypeId} {x y : Operand} {a b : Nat} (hd : Nat.blt d c.n = true) (hx : ev fr x = some (u8 a)) (hy : ev fr y = some (u8 b)) (ha : a < 256) (hb : b < 256) (k : HL c ops Q rest ((d, u8 (a &&& b)) :: fr) hp L) :
    HL c ops Q (⟨some d, .binOp .and t x y yt, ty, pos, af, none⟩ :: rest) fr hp L :=
  R7 _ hd hx hy (fun _ => rfl) (fun w => by
    show (Op.intBits .and .u8 (a : Int) (b : Int)).run c.P w = _; have h : (BitVec.ofInt 8 (a : Int) &&& BitVec.ofInt 8 (b : Int)).toNat = a &&& b := by rw [BitVec.toNat_and, bv8 ha, bv8 hb]
    have hl : a &&& b < 256 := Nat.lt_of_le_of_lt Nat.and_le_left ha; show Result.ok (Value.int .u8 (IntKind.u8.wrap ((BitVec.ofInt 8 (a : Int) &&& BitVec.ofInt 8 (b : Int)).toNat : Nat))) w = _; rw [h, wrap8 hl]
    rfl) k
def diff8 (a b : Nat) : Nat := a &&& (255 - b)
theorem gq8 {t yt : TypeId} {x y : Operand} {a b : Nat} (hd : Nat.blt d c.n = true) (hx : ev fr x = some (u8 a)) (hy : ev fr y = some (u8 b)) (ha : a < 256) (hb : b < 256) (k : HL c ops Q rest ((d, u8 (diff8 a b)) :: fr) hp L) :
    HL c ops Q (⟨some d, .binOp .andNot t x y yt, ty, pos, af, none⟩ :: rest) fr hp L :=
  R7 _ hd hx hy (fun _ => rfl) (fun w => by
    show (Op.intBits .andNot .u8 (a : Int) (b : Int)).run c.P w = _; have h : (BitVec.ofInt 8 (a : Int) &&& ~~~BitVec.ofInt 8 (b : Int)).toNat = diff8 a b := by rw [BitVec.toNat_and, BitVec.toNat_not, bv8 ha, bv8 hb]; rfl
    have hl : diff8 a b < 256 := Nat.lt_of_le_of_lt Nat.and_le_left ha; show Result.ok (Value.int .u8 (IntKind.u8.wrap ((BitVec.ofInt 8 (a : Int) &&& ~~~BitVec.ofInt 8 (b : Int)).toNat : Nat))) w = _; rw [h, wrap8 hl]
    rfl) k
theorem nq4 {t yt : TypeId} {x y : Operand} {ky : IntKind} {z : Int} (n : Nat) (hd : Nat.blt d c.n = true) (hx : ev fr x = some (.int .u8 1)) (hy : ev fr y = some (.int ky z)) (hz : z = (n : Int)) (hn : n < 8) (k : HL c ops Q rest ((d, u8 (2 ^ n)) :: fr) hp L) :
    HL c ops Q (⟨some d, .binOp .shl t x y yt, ty, pos, af, none⟩ :: rest) fr hp L :=
  R7 _ hd hx hy (fun _ => rfl) (fun w => by
    subst hz; show (Op.shift .shl .u8 1 ky (n : Int)).run c.P w = _; have hl : 2 ^ n < 256 := Nat.pow_lt_pow_right (by omega) hn; have hm : min ((n : Int).toNat) (IntKind.u8.bits) = n := by show min ((n : Int).toNat) 8 = n; omega
    simp only [Op.shift]; rw [if_neg (by omega), hm, Int.one_mul, show ((2 : Int) ^ n) = ((2 ^ n : Nat) : Int) by simp, wrap8 hl]
    rfl) k
theorem nq3 {t yt : TypeId} {x y : Operand} {ky : IntKind} {z : Int} {a : Nat} (n : Nat) (hd : Nat.blt d c.n = true) (hx : ev fr x = some (u8 a)) (hy : ev fr y = some (.int ky z)) (hz : z = (n : Int)) (hn : n < 8) (k : HL c ops Q rest ((d, u8 (a / 2 ^ n)) :: fr) hp L) :
    HL c ops Q (⟨some d, .binOp .shr t x y yt, ty, pos, af, none⟩ :: rest) fr hp L :=
  R7 _ hd hx hy (fun _ => rfl) (fun w => by
    subst hz; show (Op.shift .shr .u8 (a : Int) ky (n : Int)).run c.P w = _; have hm : min ((n : Int).toNat) (IntKind.u8.bits) = n := by show min ((n : Int).toNat) 8 = n; omega
    simp only [Op.shift]; rw [if_neg (by omega), hm, Int.fdiv_eq_ediv_of_nonneg _ (by exact_mod_cast Nat.zero_le (2 ^ n))]
    rfl) k
end
theorem pz0 (a n : Nat) : (decide (((a / 2 ^ n &&& 1 : Nat) : Int) = 1)) = a.testBit n := by
  rw [Nat.and_one_is_mod, Nat.testBit_eq_decide_div_mod_eq]; exact decide_eq_decide.2 (by omega)
/-! ### Rows whose elements have facts of their own -/
def RowsF {α : Type} [El α] (A : Option Addr) (ps : List α) (f : α → Fact) : Fact where
  P w := (Row A (rows ps)).P w ∧ ∀ p ∈ ps, (f p).P w
  fp k := (Row A (rows ps)).fp k ∨ ∃ p ∈ ps, (f p).fp k
  st w w' h hP := ⟨(Row A (rows ps)).st w w' (fun k hk => h k (.inl hk)) hP.1, fun p hp => (f p).st w w' (fun k hk => h k (.inr ⟨p, hp, hk⟩)) (hP.2 p hp)⟩
  lt w hP k hk := by
    rcases hk with hk | ⟨p, hp, hk⟩
    · exact (Row A (rows ps)).lt w hP.1 k hk
    exact (f p).lt w (hP.2 p hp) k hk
section
variable {c : Cx} {Q : Exit → Act → World → Prop} {fr : Fr} {hp : Hp} {L : List Fact} {ops : Array Oper} {rest : List Oper}
variable {α : Type} [El α] {A : Option Addr} {ps : List α} {f : α → Fact}
theorem lx8 {b : Bx} {w : World} (h : RowsF A ps f ∈ L) (hw : WI b w hp L) : WI b w hp (Row A (rows ps) :: L) := Y2 hw (hw.fs _ h).1 (fun k hk => ⟨_, h, .inl hk⟩)
theorem gj2 {b : Bx} {w : World} {p : α} (h : RowsF A ps f ∈ L) (hp' : p ∈ ps) (hw : WI b w hp L) : WI b w hp (f p :: L) := Y2 hw ((hw.fs _ h).2 p hp') (fun k hk => ⟨_, h, .inr ⟨p, hp', hk⟩⟩)
theorem S7 {x : Code} (h : RowsF A ps f ∈ L) (k : HC c x Q fr hp (Row A (rows ps) :: L)) : HC c x Q fr hp L := fun a w ha hw => k a w ha (lx8 h hw)
theorem gx2 {p : α} (h : RowsF A ps f ∈ L) (hp' : p ∈ ps) (k : HL c ops Q rest fr hp (f p :: L)) : HL c ops Q rest fr hp L := fun a w ha hw => k a w ha (gj2 h hp' hw)
theorem iO {p : α} {x : Code} (h : RowsF A ps f ∈ L) (hp' : p ∈ ps) (k : HC c x Q fr hp (f p :: L)) : HC c x Q fr hp L := fun a w ha hw => k a w ha (gj2 h hp' hw)
abbrev innersF (ps : List α) (f : α → Fact) : Fact := Facts (ps.map f)
theorem iq3 {b : Bx} {w : World} (h : Row A (rows ps) ∈ L) (h2 : innersF ps f ∈ L) (hw : WI b w hp L) : WI b w hp (RowsF A ps f :: L) := by
  have : ∀ p ∈ ps, (f p).P w := fun p hp => hw.fs _ h2 _ (List.mem_map.2 ⟨p, hp, rfl⟩); refine Y2 hw ⟨hw.fs _ h, this⟩ (fun k hk => ?_)
  rcases hk with hk | ⟨p, hp, hk⟩
  · exact ⟨_, h, hk⟩
  exact ⟨_, h2, _, List.mem_map.2 ⟨p, hp, rfl⟩, hk⟩
theorem dq0 {x : Code} (h : Row A (rows ps) ∈ L) (h2 : innersF ps f ∈ L) (k : HC c x Q fr hp (RowsF A ps f :: L)) : HC c x Q fr hp L := fun a w ha hw => k a w ha (iq3 h h2 hw)
theorem J7 {e : Exit} (h : Row A (rows ps) ∈ L) (h2 : innersF ps f ∈ L) (k : HQ c Q e fr hp (RowsF A ps f :: L)) : HQ c Q e fr hp L := fun a w ha hw => k a w ha (iq3 h h2 hw)
end
theorem jx4 {α : Type} [El α] {A : Option Addr} {ps : List α} {hp : Hp} {L : List Fact} {b : Bx} {w : World} (n : Nat) (h : Row A (rows ps) ∈ L) (hw : WI b w hp L) : WI b w hp (Row A (rows (ps.take n)) :: L) := by
  have h0 := hw.fs _ h; obtain ⟨r, hr⟩ : ∃ r, rows ps = rows (ps.take n) ++ r := ⟨rows (ps.drop n), by rw [← A1, List.take_append_drop]⟩; refine Y2 hw (fun j u hj => h0 j u ?_) (fun k hk => ⟨_, h, ?_⟩)
  · rw [hr, List.getElem?_append, if_pos (List.getElem?_eq_some_iff.1 hj).1]; exact hj
  obtain ⟨ad, e, h1, h2⟩ := hk; exact ⟨ad, e, h1, fun h3 => h2 (by rw [h3] at hr; exact (List.append_eq_nil_iff.1 hr.symm).1)⟩
theorem dj9 {α : Type} [El α] {A : Option Addr} {ps : List α} {hp : Hp} {L : List Fact} {c : Cx} {Q : Exit → Act → World → Prop} {fr : Fr} {ops : Array Oper} {rest : List Oper} (n : Nat) (h : Row A (rows ps) ∈ L) (k : HL c ops Q rest fr hp (Row A (rows (ps.take n)) :: L)) : HL c ops Q rest fr hp L := fun a w ha hw => k a w ha (jx4 n h hw)
theorem V8 {α : Type} {ps : List α} {f : α → Fact} {L : List Fact} {p : α} (h : innersF ps f ∈ L) (h2 : f p ∈ L) : ∀ F ∈ (ps ++ [p]).map f, F ∈ L ∨ ∃ Gs, Facts Gs ∈ L ∧ F ∈ Gs := by
  intro F hF; rw [List.map_append] at hF
  rcases List.mem_append.1 hF with hF | hF
  · exact .inr ⟨_, h, hF⟩
  simp at hF; subst hF; exact .inl h2
end Go.W
end
section
open Go Go.W
set_option maxRecDepth 20000
attribute [local irreducible] HL HC HQ HB Row Rows2 Blk Facts
namespace Go.W
abbrev Cl := Str × Int
abbrev PH := Str × Int × Int × List Int
structure Tr where
  cs : List Cl
  hs : List PH
deriving DecidableEq
def wd (s : String) : Str := s.toUTF8.toList
def azB (c : UInt8) : Bool := decide (97 ≤ c.toNat) && decide (c.toNat ≤ 122)
def wClass : Str := [99, 108, 97, 115, 115]
def wFinis : Str := [102, 105, 110, 105, 115]
def wordB (s : Str) : Bool := decide (0 < s.length) && (decide (s.length ≤ 12) && (decide (¬ s = wClass) && (decide (¬ s = wFinis) && s.all azB)))
def clsErr (cs : List Cl) (i : Nat) : Int :=
  if wordB (cs.getD i default).1 = false then 2
  else if (cs.getD i default).1 ∈ (cs.take i).map (·.1) then 4
  else if (cs.getD i default).2 < -1 ∨ (cs.length : Int) ≤ (cs.getD i default).2 then 3
  else if (i : Int) ≤ (cs.getD i default).2 then 5 else 0
def alsoErr (n i : Nat) (l : List Int) (k : Nat) : Int :=
  if l.getD k default < 0 ∨ (n : Int) ≤ l.getD k default then 3
  else if l.getD k default = (i : Int) then 9
  else if 0 < k ∧ l.getD k default ≤ l.getD (k - 1) default then 5 else 0
def firstE (f : Nat → Int) : Nat → Int
  | 0 => 0
  | n + 1 => if firstE f n = 0 then f n else firstE f n
def kindBad (h : PH) : Bool := (decide (¬ h.2.2.1 = -1) && (decide (¬ h.2.1 = -1) || decide (0 < h.2.2.2.length))) || (decide (h.2.2.1 = -1) && (decide (h.2.1 = -1) && decide (h.2.2.2.length = 0)))
def headErr (t : Tr) (i : Nat) : Int :=
  if wordB (t.hs.getD i default).1 = false then 2
  else if (t.hs.getD i default).1 ∈ (t.hs.take i).map (·.1) then 4
  else if 0 < i ∧ (t.hs.getD i default).1 < (t.hs.getD (i - 1) default).1 then 5
  else if (t.hs.getD i default).2.1 < -1 ∨ (t.cs.length : Int) ≤ (t.hs.getD i default).2.1 ∨ (t.hs.getD i default).2.2.1 < -1 ∨ (t.hs.length : Int) ≤ (t.hs.getD i default).2.2.1 then 3
  else if (t.hs.getD i default).2.2.1 = (i : Int) then 9
  else if ¬ firstE (alsoErr t.hs.length i (t.hs.getD i default).2.2.2) (t.hs.getD i default).2.2.2.length = 0 then firstE (alsoErr t.hs.length i (t.hs.getD i default).2.2.2) (t.hs.getD i default).2.2.2.length
  else if kindBad (t.hs.getD i default) = true then 8 else 0
def checkT (t : Tr) : Int :=
  if 6 < t.cs.length ∨ 6 < t.hs.length then 6
  else if ¬ firstE (clsErr t.cs) t.cs.length = 0 then firstE (clsErr t.cs) t.cs.length
  else firstE (headErr t) t.hs.length
def pathL (cs : List Cl) : Nat → Int → List Int
  | 0, _ => []
  | d + 1, c => if c < 0 then [] else pathL cs d (cs.getD c.toNat default).2 ++ [c]
def pathT (cs : List Cl) (c : Int) : List Int := pathL cs (c.toNat + 1) c
def leastN (p q : List Int) : Nat → Int
  | 0 => -1
  | k + 1 => if (k : Int) ∈ p ∧ (k : Int) ∈ q then (k : Int) else leastN p q k
def leastT (t : Tr) (a b : Int) : Int := leastN (pathT t.cs a) (pathT t.cs b) t.cs.length
def underT (t : Tr) (c : Int) : List Int := ((List.range t.hs.length).filter fun i => decide (¬ (t.hs.getD i default).2.1 = -1) && decide (c ∈ pathT t.cs (t.hs.getD i default).2.1)).map fun i : Nat => (i : Int)
def followN (hs : List PH) : Nat → Int → Int → Option (Int × Int)
  | 0, _, _ => none
  | d + 1, h, n => if (hs.getD h.toNat default).2.2.1 = -1 then some (h, n) else followN hs d (hs.getD h.toNat default).2.2.1 (n + 1)
def followT (t : Tr) (h : Int) : Option (Int × Int) := followN t.hs (t.hs.length + 1) h 0
def isTrB (t : Tr) (h : Int) : Bool := decide ((t.hs.getD h.toNat default).2.2.1 = -1) && decide (¬ (t.hs.getD h.toNat default).2.1 = -1)
def leadsB (t : Tr) (b : Str) (h i : Nat) : Bool := decide (b <+: (t.hs.getD h default).1) && (match followT t h with | some (e, _) => decide (e = (i : Int)) && isTrB t e | none => false)
def mayT (t : Tr) (b : Str) : List Int := ((List.range t.hs.length).filter fun i => (List.range t.hs.length).any fun h => leadsB t b h i).map fun i : Nat => (i : Int)
def shortN (t : Tr) (w : Str) : Nat → Nat → Option Str
  | 0, n => none
  | d + 1, n => if (mayT t (w.take n)).length = 1 then some (w.take n) else shortN t w d (n + 1)
def shortT (t : Tr) (h : Int) : Option Str := shortN t (t.hs.getD h.toNat default).1 ((t.hs.getD h.toNat default).1.length + 1) 0
theorem nO {f : Nat → Int} : ∀ {n : Nat}, firstE f n = 0 → ∀ i, i < n → f i = 0
  | 0, _, i, h => by omega
  | n + 1, h, i, hi => by
    rw [firstE] at h
    by_cases h1 : firstE f n = 0
    · rw [if_pos h1] at h
      by_cases h2 : i = n
      · rw [h2]; exact h
      exact nO h1 i (by omega)
    rw [if_neg h1] at h; exact absurd h h1
theorem dG {f : Nat → Int} {n : Nat} (h : firstE f n = 0) : firstE f (n + 1) = f n := by rw [firstE, if_pos h]
theorem M9 {f : Nat → Int} {k : Nat} (h0 : firstE f k = 0) (h1 : ¬ f k = 0) : ∀ n, k < n → firstE f n = f k
  | 0, h => by omega
  | n + 1, h => by
    rw [firstE]
    by_cases hk : k = n
    · subst hk; rw [if_pos h0]
    rw [M9 h0 h1 n (by omega), if_neg h1]
structure ClsOK (cs : List Cl) (i : Nat) : Prop where
  w : wordB (cs.getD i default).1 = true
  n : (cs.getD i default).1 ∉ (cs.take i).map (·.1)
  lo : -1 ≤ (cs.getD i default).2
  hi : (cs.getD i default).2 < (i : Int)
structure HeadOK (t : Tr) (i : Nat) : Prop where
  w : wordB (t.hs.getD i default).1 = true
  n : (t.hs.getD i default).1 ∉ (t.hs.take i).map (·.1)
  o : ¬ (0 < i ∧ (t.hs.getD i default).1 < (t.hs.getD (i - 1) default).1)
  c : -1 ≤ (t.hs.getD i default).2.1 ∧ (t.hs.getD i default).2.1 < (t.cs.length : Int)
  s : -1 ≤ (t.hs.getD i default).2.2.1 ∧ (t.hs.getD i default).2.2.1 < (t.hs.length : Int) ∧ ¬ (t.hs.getD i default).2.2.1 = (i : Int)
  a : ∀ k, k < (t.hs.getD i default).2.2.2.length → alsoErr t.hs.length i (t.hs.getD i default).2.2.2 k = 0
  k : kindBad (t.hs.getD i default) = false
structure TrOK (t : Tr) : Prop where
  c6 : t.cs.length ≤ 6
  h6 : t.hs.length ≤ 6
  c : ∀ i, i < t.cs.length → ClsOK t.cs i
  h : ∀ i, i < t.hs.length → HeadOK t i
theorem cls_ok {cs : List Cl} {i : Nat} (h : clsErr cs i = 0) : ClsOK cs i := by
  unfold clsErr at h
  split at h
  · omega
  rename_i h1
  split at h
  · omega
  rename_i h2
  split at h
  · omega
  rename_i h3
  split at h
  · omega
  rename_i h4
  exact ⟨by simpa using h1, h2, by omega, by omega⟩
theorem head_ok {t : Tr} {i : Nat} (h : headErr t i = 0) : HeadOK t i := by
  unfold headErr at h
  split at h
  · omega
  rename_i h1
  split at h
  · omega
  rename_i h2
  split at h
  · omega
  rename_i h3
  split at h
  · omega
  rename_i h4
  split at h
  · omega
  rename_i h5
  split at h
  · rename_i h6; exact absurd h h6
  rename_i h6
  split at h
  · omega
  rename_i h7
  exact ⟨by simpa using h1, h2, h3, by omega, by omega, nO (Classical.not_not.1 h6), by simpa using h7⟩
theorem mW {t : Tr} (h : checkT t = 0) : TrOK t := by
  unfold checkT at h
  split at h
  · omega
  rename_i h1
  split at h
  · rename_i h2; exact absurd h h2
  rename_i h2
  exact ⟨by omega, by omega, fun i hi => cls_ok (nO (Classical.not_not.1 h2) i hi), fun i hi => head_ok (nO h i hi)⟩
theorem gU {n i : Nat} {l : List Int} {k : Nat} (h : alsoErr n i l k = 0) : 0 ≤ l.getD k default ∧ l.getD k default < (n : Int) ∧ ¬ l.getD k default = (i : Int) ∧ (0 < k → l.getD (k - 1) default < l.getD k default) := by
  unfold alsoErr at h
  split at h
  · omega
  split at h
  · omega
  split at h
  · omega
  exact ⟨by omega, by omega, by omega, by omega⟩
theorem HeadOK.kinds {t : Tr} {i : Nat} (h : HeadOK t i) : (0 ≤ (t.hs.getD i default).2.2.1 ∧ (t.hs.getD i default).2.1 = -1 ∧ (t.hs.getD i default).2.2.2 = []) ∨ ((t.hs.getD i default).2.2.1 = -1 ∧ 0 ≤ (t.hs.getD i default).2.1) ∨ ((t.hs.getD i default).2.2.1 = -1 ∧ (t.hs.getD i default).2.1 = -1 ∧ (t.hs.getD i default).2.2.2 ≠ []) := by
  have hk := h.k; have hs := h.s; have hc := h.c; unfold kindBad at hk; generalize t.hs.getD i default = x at *; simp only [Bool.or_eq_false_iff, Bool.and_eq_false_iff, decide_eq_false_iff_not] at hk; have hl : x.2.2.2.length = 0 ↔ x.2.2.2 = [] := List.length_eq_zero_iff
  by_cases h1 : x.2.2.1 = -1
  · by_cases h2 : x.2.1 = -1
    · right; right
      refine ⟨h1, h2, fun e => ?_⟩
      rcases hk.2 with h3 | h3 | h3
      · exact h3 h1
      · exact h3 h2
      exact h3 (hl.2 e)
    right; left
    exact ⟨h1, by omega⟩
  left
  rcases hk.1 with h3 | ⟨h3, h4⟩
  · exact absurd h1 h3
  exact ⟨by omega, Classical.not_not.1 h3, hl.1 (by omega)⟩
theorem gx0 (cs : List Cl) (d : Nat) {u : Int} (h : u < 0) : pathL cs d u = [] := by
  cases d with
  | zero => rfl
  | succ d => rw [pathL, if_pos h]
theorem ax4 (cs : List Cl) (hc : ∀ i, i < cs.length → ClsOK cs i) : ∀ (d : Nat) (c : Int), c < (cs.length : Int) → c.toNat + 1 ≤ d → pathL cs d c = pathT cs c
  | 0, c, _, h => by omega
  | d + 1, c, hl, h => by
    unfold pathT; rw [pathL, pathL]
    by_cases h0 : c < 0
    · rw [if_pos h0, if_pos h0]
    rw [if_neg h0, if_neg h0]; have hcl := hc c.toNat (by omega); have h1 := hcl.lo; have h2 := hcl.hi
    congr 1
    generalize (cs.getD c.toNat default).2 = u at *
    by_cases hu : u < 0
    · rw [gx0 cs d hu, gx0 cs c.toNat hu]
    rw [ax4 cs hc d u (by omega) (by omega), ax4 cs hc c.toNat u (by omega) (by omega)]
theorem yU (cs : List Cl) {c : Int} (h : c < 0) : pathT cs c = [] := by unfold pathT; rw [pathL, if_pos h]
theorem gq9 (cs : List Cl) (hc : ∀ i, i < cs.length → ClsOK cs i) {c : Int} (h0 : 0 ≤ c) (hl : c < (cs.length : Int)) : pathT cs c = pathT cs (cs.getD c.toNat default).2 ++ [c] := by
  have hcl := hc c.toNat (by omega); have h1 := hcl.lo; have h2 := hcl.hi
  conv => lhs; unfold pathT
  rw [pathL, if_neg (by omega)]
  congr 1
  by_cases hu : (cs.getD c.toNat default).2 < 0
  · rw [yU cs hu]
    cases hn : c.toNat with
    | zero => rfl
    | succ m => rw [pathL, if_pos (by rw [← hn]; exact hu)]
  exact ax4 cs hc c.toNat _ (by omega) (by omega)
theorem yV (cs : List Cl) (hc : ∀ i, i < cs.length → ClsOK cs i) : ∀ (n : Nat) (c : Int), c.toNat ≤ n → c < (cs.length : Int) → (pathT cs c).Pairwise (· < ·) ∧ ∀ x ∈ pathT cs c, 0 ≤ x ∧ x ≤ c
  | n, c, hn, hl => by
    by_cases h0 : c < 0
    · rw [yU cs h0]; simp
    have hcl := hc c.toNat (by omega); have h1 := hcl.lo; have h2 := hcl.hi; rw [gq9 cs hc (by omega) hl]; generalize (cs.getD c.toNat default).2 = u at *
    have ih : (pathT cs u).Pairwise (· < ·) ∧ ∀ x ∈ pathT cs u, 0 ≤ x ∧ x ≤ u := by
      by_cases hu : u < 0
      · rw [yU cs hu]; simp
      cases n with
      | zero => omega
      | succ n => exact yV cs hc n u (by omega) (by omega)
    refine ⟨List.pairwise_append.2 ⟨ih.1, by simp, fun a ha b hb => ?_⟩, fun x hx => ?_⟩
    · rw [List.mem_singleton] at hb; have := (ih.2 a ha).2; omega
    rcases List.mem_append.1 hx with hx | hx
    · have := ih.2 x hx; omega
    rw [List.mem_singleton] at hx; omega
end Go.W
namespace Go.W
structure LeastOK (p q : List Int) (n : Nat) (m : Int) : Prop where
  lo : -1 ≤ m
  hi : m < n
  mem : 0 ≤ m → m ∈ p ∧ m ∈ q
  no : ∀ c : Int, m < c → c < n → c ∈ p → c ∈ q → False
/-! ### Following -/
theorem gx4 {t : Tr} (h : TrOK t) : ∀ (d : Nat) (x n e m : Int), 0 ≤ x → x < (t.hs.length : Int) → followN t.hs d x n = some (e, m) → 0 ≤ e ∧ e < (t.hs.length : Int)
  | 0, x, n, e, m, _, _, hf => by cases hf
  | d + 1, x, n, e, m, h0, hl, hf => by
    rw [followN] at hf
    split at hf
    · cases hf; exact ⟨h0, hl⟩
    rename_i h1
    have hh := (h.h x.toNat (by omega)).s; exact gx4 h d _ _ e m (by omega) (by omega) hf
/-! ### What a beginning means -/
end Go.W
namespace Go.W
/-! ### A heading dropped -/
def fallsB (t : Tr) (g : List Bool) (i : Nat) : Bool :=
  if ¬ (t.hs.getD i default).2.2.1 = -1 then g.getD (t.hs.getD i default).2.2.1.toNat default
  else if ¬ (t.hs.getD i default).2.1 = -1 then false
  else (t.hs.getD i default).2.2.2.all fun n => g.getD n.toNat default
def fallStep (t : Tr) (g : List Bool) (i : Nat) : List Bool := g.set i (g.getD i default || fallsB t g i)
def fallRound (t : Tr) (g : List Bool) : List Bool := (List.range t.hs.length).foldl (fallStep t) g
def goneL (t : Tr) (h : Int) : List Bool := (List.range t.hs.length).foldl (fun g _ => fallRound t g) ((List.replicate t.hs.length false).set h.toNat true)
def numB (g : List Bool) (i : Nat) : Int := (((List.range i).filter fun k => !g.getD k default).length : Nat)
def dropH (g : List Bool) (x : PH) : PH := (x.1, x.2.1, (if 0 ≤ x.2.2.1 then numB g x.2.2.1.toNat else x.2.2.1), (x.2.2.2.filter fun a => !g.getD a.toNat default).map fun a => numB g a.toNat)
def dropT (t : Tr) (h : Int) : Tr := ⟨t.cs, ((List.range t.hs.length).filter fun i => !(goneL t h).getD i default).map fun i => dropH (goneL t h) (t.hs.getD i default)⟩
/-! ### Editions compared -/
def insU (s : Str) : List Str → List Str
  | [] => [s]
  | x :: l => if s < x then s :: x :: l else if s = x then x :: l else x :: insU s l
def sortU (ws : List Str) : List Str := ws.foldr insU []
def wordsT (t : Tr) : List Str := t.hs.map (·.1)
def namesN (t : Tr) (s : Str) : Option (List Str) := (t.hs.find? fun h => decide (h.1 = s) && decide (¬ h.2.1 = -1)).map fun h => (pathT t.cs h.2.1).map fun c => (t.cs.getD c.toNat default).1
def moveN (a b : Tr) (s : Str) : Option (Str × Int) :=
  match namesN a s, namesN b s with
  | some _, none => some (s, 1)
  | none, some _ => some (s, 2)
  | some p, some q => if p = q then none else some (s, 3)
  | none, none => none
def compareT (a b : Tr) : List (Str × Int) := (sortU (wordsT a ++ wordsT b)).filterMap (moveN a b)
/-! ### The fewest references -/
def nextB (t : Tr) (h k : Nat) : Bool := decide ((t.hs.getD h default).2.2.1 = (k : Int)) || decide ((k : Int) ∈ (t.hs.getD h default).2.2.2)
abbrev Edges := Nat → Nat → Bool
def reachB (n : Nat) (e : Edges) (h : Nat) : Nat → Nat → Bool
  | 0, i => decide (i = h)
  | s + 1, i => reachB n e h s i || (List.range n).any fun k => reachB n e h s k && e k i
def freeT (t : Tr) : List (Int × Int) := (List.range t.hs.length).flatMap fun i => if (t.hs.getD i default).2.2.1 = -1 then ((List.range t.hs.length).filter fun k => decide (¬ k = i) && !nextB t i k).map fun k : Nat => ((i : Int), (k : Int)) else []
def withE (t : Tr) (r : List (Int × Int)) : Edges := fun h k => nextB t h k || decide (((h : Int), (k : Int)) ∈ r)
def fineB (t : Tr) (h : Int) (s : Int) (r : List (Int × Int)) : Bool := (List.range t.hs.length).all fun i => !isTrB t i || reachB t.hs.length (withE t r) h.toNat s.toNat i
def combos {α : Type} : Nat → List α → List (List α)
  | 0, _ => [[]]
  | k + 1, [] => []
  | k + 1, x :: l => (combos k l).map (x :: ·) ++ combos (k + 1) l
def joinT (t : Tr) (h s : Int) : Option (List (Int × Int)) :=
  if fineB t h s (freeT t) = false then none else ((List.range ((freeT t).length + 1)).flatMap fun m => combos m (freeT t)).find? (fineB t h s)
end Go.W
open Go.W
def shopsT : Tr := ⟨[(wd "food", -1), (wd "bread", 0), (wd "cloth", -1), (wd "hats", 2)], [(wd "baker", 1, -1, []), (wd "bonnets", -1, 3, []), (wd "confectioner", 0, -1, [0]), (wd "hatter", 3, -1, []), (wd "mercer", 2, -1, [3]), (wd "milliner", -1, 1, [])]⟩
def laterT : Tr := ⟨shopsT.cs, [(wd "baker", 1, -1, []), (wd "bonnets", -1, 2, []), (wd "hatter", 2, -1, []), (wd "ironmonger", 0, -1, []), (wd "mercer", 2, -1, [2]), (wd "milliner", -1, 1, [])]⟩
namespace Go.W
theorem cz6 {n : Nat} {e : Edges} {h s i : Nat} : reachB n e h (s + 1) i = true ↔ reachB n e h s i = true ∨ ∃ k, k < n ∧ reachB n e h s k = true ∧ e k i = true := by
  rw [reachB, Bool.or_eq_true, List.any_eq_true]
  constructor
  · rintro (h1 | ⟨k, h1, h2⟩)
    · exact .inl h1
    rw [Bool.and_eq_true] at h2; exact .inr ⟨k, List.mem_range.1 h1, h2⟩
  rintro (h1 | ⟨k, h1, h2⟩)
  · exact .inl h1
  exact .inr ⟨k, List.mem_range.2 h1, by rw [Bool.and_eq_true]; exact h2⟩
def distB (n : Nat) (e : Edges) (h i : Nat) : Option Nat := (List.range (n + 1)).find? fun s => reachB n e h s i
def distI (n : Nat) (e : Edges) (h i : Nat) : Int := match distB n e h i with | some s => (s : Int) | none => -1
def stepsT (t : Tr) (h : Int) : List Int := (List.range t.hs.length).map fun i => distI t.hs.length (nextB t) h.toNat i
end Go.W
namespace Go.W
theorem uS (a : Str) : ¬ a < a := List.lt_irrefl a
theorem hj6 {a b : Str} (h1 : ¬ a < b) (h2 : ¬ b < a) : a = b := List.le_antisymm (List.not_lt.1 h2) (List.not_lt.1 h1)
theorem dj7 {s x : Str} : ∀ {l : List Str}, x ∈ insU s l ↔ x = s ∨ x ∈ l
  | [] => by simp [insU]
  | y :: l => by
    rw [insU]
    split
    · simp
    split
    · rename_i h; subst h; simp
    rw [List.mem_cons, dj7 (l := l), List.mem_cons]
    constructor
    · rintro (h | h | h)
      · exact .inr (.inl h)
      · exact .inl h
      exact .inr (.inr h)
    rintro (h | h | h)
    · exact .inr (.inl h)
    · exact .inl h
    exact .inr (.inr h)
theorem bz3 {s : Str} : ∀ {l : List Str}, l.Pairwise (· < ·) → (insU s l).Pairwise (· < ·)
  | [], _ => by simp [insU]
  | y :: l, h => by
    rw [insU]; have h1 := List.pairwise_cons.1 h
    split
    · rename_i hs
      exact List.pairwise_cons.2 ⟨fun z hz => by
        rcases List.mem_cons.1 hz with rfl | hz
        · exact hs
        exact List.lt_trans hs (h1.1 z hz), h⟩
    rename_i hs
    split
    · exact h
    rename_i hne
    refine List.pairwise_cons.2 ⟨fun z hz => ?_, bz3 h1.2⟩
    rcases dj7.1 hz with rfl | hz
    · apply Classical.byContradiction
      intro hn; exact hne (hj6 hs hn)
    exact h1.1 z hz
theorem gj4 {x : Str} : ∀ {ws : List Str}, x ∈ sortU ws ↔ x ∈ ws
  | [] => by simp [sortU]
  | w :: ws => by
    show x ∈ insU w (sortU ws) ↔ _; rw [dj7, gj4, List.mem_cons]
theorem yR : ∀ ws : List Str, (sortU ws).Pairwise (· < ·)
  | [] => by simp [sortU]
  | w :: ws => bz3 (yR ws)
theorem jq6 : ∀ {l l' : List Str}, l.Pairwise (· < ·) → l'.Pairwise (· < ·) → (∀ x, x ∈ l ↔ x ∈ l') → l = l'
  | [], [], _, _, _ => rfl
  | [], y :: l', _, _, h => by have := (h y).2 (by simp); simp at this
  | x :: l, [], _, _, h => by have := (h x).1 (by simp); simp at this
  | x :: l, y :: l', h1, h2, h => by
    have p1 := List.pairwise_cons.1 h1; have p2 := List.pairwise_cons.1 h2
    have e : x = y := by
      rcases List.mem_cons.1 ((h x).1 (by simp)) with e | e
      · exact e
      rcases List.mem_cons.1 ((h y).2 (by simp)) with e2 | e2
      · exact e2.symm
      exact absurd (List.lt_trans (p2.1 x e) (p1.1 y e2)) (uS y)
    subst e
    congr 1
    refine jq6 p1.2 p2.2 fun z => ?_; have hz := h z; rw [List.mem_cons, List.mem_cons] at hz
    constructor
    · intro hm
      rcases hz.1 (.inr hm) with e | e
      · subst e; exact absurd (p1.1 z hm) (uS z)
      exact e
    intro hm
    rcases hz.2 (.inr hm) with e | e
    · subst e; exact absurd (p2.1 z hm) (uS z)
    exact e
def flipK (m : Str × Int) : Str × Int := (m.1, if m.2 = 1 then 2 else if m.2 = 2 then 1 else m.2)
structure MoveOK (a b : Tr) (m : Str × Int) : Prop where
  k1 : m.2 = 1 → (namesN a m.1).isSome = true ∧ (namesN b m.1).isSome = false
  k2 : m.2 = 2 → (namesN a m.1).isSome = false ∧ (namesN b m.1).isSome = true
  k3 : m.2 = 3 → (namesN a m.1).isSome = true ∧ (namesN b m.1).isSome = true
  k : m.2 = 1 ∨ m.2 = 2 ∨ m.2 = 3
end Go.W
end
