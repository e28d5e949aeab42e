/- Texts. -/
import Derived.MapKept
import Derived.Laws.Rows
import Derived.Deep.AppendSrc
import Derived.Deep.Upon
import Derived.Laws.Cover3
import Derived.Lib.SliceRun
import Derived.Laws.AppendOwn
import Derived.Laws.MakeOwn
import Derived.Conc.LoneCalls
import Derived.Laws.CopyRow
import Derived.Laws.Tables
import Derived.Conc.EventLaws2
import Derived.Test.YtpfbbggmcbhboaaBAe
import Derived.Test.YtpfbbggmcbhboaaBAb
set_option linter.unusedVariables false
set_option linter.unusedSimpArgs false
section
namespace Go.W
open Go Go.RowKit
abbrev Ment (κ : Type) := κ × Value × Nat
def entOf {κ : Type} (enc : κ → Value) (p : Ment κ) : MapEntry := ⟨enc p.1, p.2.1, p.2.2⟩
def mapO {κ : Type} (enc : κ → Value) (l : List (Ment κ)) (clk : Nat) : Obj := .map (l.map (entOf enc)).toArray clk
def findM {κ : Type} [DecidableEq κ] (k : κ) : List (Ment κ) → Nat → Option (Nat × Value)
  | [], _ => none
  | p :: l, i => if p.1 = k then some (i, p.2.1) else findM k l (i + 1)
def getM {κ : Type} [DecidableEq κ] (l : List (Ment κ)) (k : κ) : Option Value := (findM k l 0).map (·.2)
def putM {κ : Type} [DecidableEq κ] (l : List (Ment κ)) (k : κ) (v : Value) (clk : Nat) : List (Ment κ) :=
  match findM k l 0 with
  | some (i, _) => l.modify i fun p => (k, v, p.2.2)
  | none => l ++ [(k, v, clk)]
def clkM {κ : Type} [DecidableEq κ] (l : List (Ment κ)) (k : κ) (clk : Nat) : Nat := if (findM k l 0).isSome then clk else clk + 1
structure KeyC (P : Program) (kt : TypeId) {κ : Type} [DecidableEq κ] (enc : κ → Value) : Prop where
  chk : ∀ b k w, (Instr.checkKey b 10000 kt (enc k)).run P w = .ok () w
  find : ∀ k l w, (Instr.findKey kt (enc k) (l.map (entOf enc))).run P w = .ok (findM k l 0) w
  stays : ∀ k w, (Instr.keyThatStays (enc k) (enc k)).run P w = .ok (enc k) w
theorem findNow_int (k : Int) : ∀ (l : List (Ment Int)) (i : Nat), Instr.findNow (.int .i64) (int k) (l.map (entOf int)) i = some (findM k l i)
  | [], i => rfl
  | p :: l, i => by
    rw [List.map_cons, Instr.findNow]; simp only [Instr.sameNow, entOf, findM]
    by_cases h : p.1 = k
    · simp [h]
    · have h' : ¬ k = p.1 := fun e => h e.symm
      simp only [if_true, h, if_false, beq_eq_false_iff_ne.2 h']; exact findNow_int k l (i + 1)
theorem findNow_str (k : Str) : ∀ (l : List (Ment Str)) (i : Nat), Instr.findNow .string (str k) (l.map (entOf str)) i = some (findM k l i)
  | [], i => rfl
  | p :: l, i => by
    rw [List.map_cons, Instr.findNow]; simp only [str, Instr.sameNow, entOf, findM]
    have hb : ((ByteArray.mk k.toArray) == ByteArray.mk p.1.toArray) = decide (p.1 = k) := by
      rw [Bool.eq_iff_iff, MapKept.bytes_beq, decide_eq_true_iff]
      constructor
      · intro e
        injection e with e
        have := congrArg Array.toList e
        simpa using this.symm
      · intro e; rw [e]
    rw [hb]
    by_cases h : p.1 = k
    · simp [h]
    · simp only [h, decide_false, if_false]
      exact findNow_str k l (i + 1)
theorem KeyC.int {P : Program} {kt : TypeId} (h : P.underlying kt = some (.int .i64)) : KeyC P kt W.int where
  chk b k w := MapKept.run_checkKey h (by simp [MapKept.IsKey]) b 9999
  find k l w := MapKept.run_findKey h (findNow_int k l 0)
  stays k w := MapKept.run_keyThatStays (d := .int .i64) (by simp [MapKept.IsKey])
theorem KeyC.str {P : Program} {kt : TypeId} (h : P.underlying kt = some .string) : KeyC P kt W.str where
  chk b k w := MapKept.run_checkKey h (by simp [MapKept.IsKey, W.str]) b 9999
  find k l w := MapKept.run_findKey h (findNow_str k l 0)
  stays k w := MapKept.run_keyThatStays (d := .string) (by simp [MapKept.IsKey, W.str])
def pair (p : Int × Int) : Value := .agg #[W.int p.1, W.int p.2]
theorem part_int {P : Program} {e : TypeId} (he : P.underlying e = some (.int .i64)) (cs : Array Value) (i : Nat) (v : Value) (hv : cs[i]? = some v) (w : World) : (part e cs i).run P w = .ok v w := by
  have hagg : (isAgg e).run P w = .ok false w := by
    unfold isAgg; rw [Sem.run_bind, run_underlying he w]
    rfl
  simp [part, Sem.run_bind, hagg, hv]
theorem eq_int {P : Program} {e : TypeId} (he : P.underlying e = some (.int .i64)) (d : Nat) (a b : Int) (w : World) : (Op.equalIn (d + 1) e (W.int a) (W.int b)).run P w = .ok (a == b) w := by
  simp [Op.equalIn, run_underlying he]
theorem eq_pair {P : Program} {kt e : TypeId} (h : P.underlying kt = some (.array 2 e)) (he : P.underlying e = some (.int .i64)) (hz : Sz P e 1) (p q : Int × Int) (w : World) : (Op.equal kt (pair p) (pair q)).run P w = .ok (decide (p = q)) w := by
  have hs := size_of hz w
  have key : ∀ d, (Op.equalIn (d + 2) kt (pair p) (pair q)).run P w = .ok (decide (p = q)) w := by
    intro d; obtain ⟨a, b⟩ := p; obtain ⟨a', b'⟩ := q; have p0 := part_int he #[W.int a, W.int b] 0 (W.int a) rfl w; have p1 := part_int he #[W.int a, W.int b] 1 (W.int b) rfl w; have q0 := part_int he #[W.int a', W.int b'] 0 (W.int a') rfl w; have q1 := part_int he #[W.int a', W.int b'] 1 (W.int b') rfl w; unfold Op.equalIn; simp only [Sem.run_bind, run_underlying h, pair, hs, Result.andThen_ok, Std.Legacy.Range.forIn_eq_forIn_range', Std.Legacy.Range.size, Nat.sub_zero, Nat.reduceAdd, Nat.reduceSub, Nat.reduceDiv, List.range', List.forIn_cons, List.forIn_nil, Nat.zero_mul, Nat.mul_one, Nat.zero_add, p0, p1, q0, q1, eq_int he d]
    by_cases h1 : a = a'
    · subst h1
      by_cases h2 : b = b'
      · subst h2; simp [p1, eq_int he d]
      · simp [h2, p1, q1, eq_int he d]
    · simp [h1]
  exact key 9998
theorem findA_pair {P : Program} {kt e : TypeId} (h : P.underlying kt = some (.array 2 e)) (he : P.underlying e = some (.int .i64)) (hz : Sz P e 1) (k : Int × Int) (w : World) : ∀ (l : List (Ment (Int × Int))) (i : Nat), (Instr.findAsking kt (pair k) (l.map (entOf pair)) i).run P w = .ok (findM k l i) w
  | [], i => rfl
  | p :: l, i => by
    rw [List.map_cons, Instr.findAsking]; simp only [Sem.run_bind, entOf, eq_pair h he hz, Result.andThen_ok, findM]
    by_cases hk : p.1 = k
    · simp [hk]
    · have h' : ¬ k = p.1 := fun e => hk e.symm
      simp only [hk, h', decide_false, Bool.false_eq_true, if_false]; exact findA_pair h he hz k w l (i + 1)
theorem KeyC.pair {P : Program} {kt e : TypeId} (h : P.underlying kt = some (.array 2 e)) (he : P.underlying e = some (.int .i64)) (hz : Sz P e 1) : KeyC P kt W.pair where
  chk b k w := by
    have hs := size_of hz w; have p0 := part_int he #[W.int k.1, W.int k.2] 0 (W.int k.1) rfl w; have p1 := part_int he #[W.int k.1, W.int k.2] 1 (W.int k.2) rfl w; have c : ∀ (n : Int), (Instr.checkKey b 9999 e (W.int n)).run P w = .ok () w := fun n => MapKept.run_checkKey he (by simp [MapKept.IsKey]) b 9998; unfold Instr.checkKey
    simp [run_underlying h, W.pair, hs, Std.Legacy.Range.forIn_eq_forIn_range', List.range', p0, p1, c]
  find k l w := by
    unfold Instr.findKey; simp only [Sem.run_bind, run_underlying h, Result.andThen_ok]
    have : Instr.findNow (.array 2 e) (W.pair k) (l.map (entOf W.pair)) 0 = none ∨ (l = [] ∧ Instr.findNow (.array 2 e) (W.pair k) (l.map (entOf W.pair)) 0 = some none) := by
      cases l with
      | nil => exact .inr ⟨rfl, rfl⟩
      | cons p l => exact .inl rfl
    rcases this with h1 | ⟨rfl, h1⟩
    · rw [h1]
      exact findA_pair h he hz k w l 0
    · rw [h1]; rfl
  stays k w := by
    obtain ⟨a, b⟩ := k
    have : Instr.sameBits 10000 (W.pair (a, b)) (W.pair (a, b)) = true := by
      simp [Instr.sameBits, W.pair]
    unfold Instr.keyThatStays; rw [if_pos this]
    rfl
/-! ### Cuts aS9 facts; perms -/
theorem perm_of {α : Type} {l l' : List α} (h : ∀ p : α → Bool, l.countP p = l'.countP p) : l.Perm l' := by
  classical
  refine List.perm_iff_count.2 fun a => ?_
  simpa [List.count] using h (· == a)
theorem pm1 {α : Type} (l : List α) (a b c : α) : (a :: b :: (l ++ [c])).Perm (l ++ [a, b, c]) := perm_of fun p => by simp only [List.countP_append, List.countP_cons, List.countP_nil]; omega
theorem pm2 {α : Type} (l : List α) (a b c : α) : (l ++ [a, b, c]).Perm (b :: (l ++ [a, c])) := perm_of fun p => by simp only [List.countP_append, List.countP_cons, List.countP_nil]; omega
theorem pm3 {α : Type} (l : List α) (a b c : α) : (a :: (l ++ [b, c])).Perm (l ++ [a, b, c]) := perm_of fun p => by simp only [List.countP_append, List.countP_cons, List.countP_nil]; omega
theorem pm4 {α : Type} (l : List α) (a b c : α) : (l ++ [a, b, c]).Perm (a :: (l ++ [b, c])) := (pm3 l a b c).symm
theorem pm5 {α : Type} (l : List α) (a b c : α) : (a :: (l ++ [b, c])).Perm (b :: c :: a :: l) := perm_of fun p => by simp only [List.countP_append, List.countP_cons, List.countP_nil]; omega
theorem pm6 {α : Type} (l : List α) (a b c : α) : (b :: c :: a :: l).Perm ((a :: l) ++ [b, c]) := perm_of fun p => by simp only [List.countP_append, List.countP_cons, List.countP_nil]; omega
theorem pm7 {α : Type} (l : List α) (a b : α) : (a :: (l ++ [b])).Perm (l ++ [a, b]) := perm_of fun p => by simp only [List.countP_append, List.countP_cons, List.countP_nil]; omega
theorem cut_rows {α : Type} [El α] {A : Option Addr} {p : List α} {ca lo hi : Nat} {w : World} (h : (Row A (rows p)).P w) (hc : p.length ≤ ca) : (Row (cutA A ca lo (El.sz α)) (rows ((p.take hi).drop lo))).P w := by
  refine cut_row h (fun j u hj => ?_) (fun hne => ?_)
  · rw [← rows_drop, ← rows_take, List.getElem?_drop, List.getElem?_take] at hj
    split at hj
    · exact hj
    · cases hj
  · rcases Nat.lt_or_ge lo p.length with h | h
    · omega
    · have : (p.take hi).drop lo = [] := List.drop_eq_nil_of_le (by rw [List.length_take]; omega)
      rw [this] at hne; exact absurd rfl hne
theorem wi_cut {α : Type} [El α] {b : Bx} {hp : Hp} {L : List Fact} {A : Option Addr} {p : List α} {ca : Nat} {w : World} (lo hi : Nat) (h : Row A (rows p) ∈ L) (hc : p.length ≤ ca) (hw : WI b w hp L) : WI b w hp (Row (cutA A ca lo (El.sz α)) (rows ((p.take hi).drop lo)) :: L) :=
  wi_more hw (cut_rows (hw.fs _ h) hc) (fun k hk => ⟨_, h, by
    obtain ⟨ad, e, hb⟩ := cut_fp hk; refine ⟨ad, e, hb, ?_⟩; obtain ⟨_, _, _, hne⟩ := hk; rintro h0
    apply hne
    rw [← rows_drop, ← rows_take, h0]
    simp⟩)
section
variable {c : Cx} {Q : Exit → Act → World → Prop} {fr : Fr} {hp : Hp} {L : List Fact} {ops : Array Oper} {rest : List Oper}
theorem hq_grown0 {e : TypeId} {sz n cap : Nat} {A : Option Addr} {xs : List Value} {og : Hp} {x : Exit} (hG : Grow e sz A n cap xs og) (k : HQ c Q x fr [] (Row A xs :: L)) : HQ c Q x fr og L := fun a w ha hw => k a w ha (wi_grown hG (by simpa using hw))
theorem hl_cut {α : Type} [El α] {A : Option Addr} {p : List α} {ca : Nat} (lo hi : Nat) (h : Row A (rows p) ∈ L) (hc : p.length ≤ ca) (k : HL c ops Q rest fr hp (Row (cutA A ca lo (El.sz α)) (rows ((p.take hi).drop lo)) :: L)) : HL c ops Q rest fr hp L :=
  fun a w ha hw => k a w ha (wi_cut lo hi h hc hw)
end
/-! ### The rules -/
def MapAt (b : Bx) (hp : Hp) (L : List Fact) (g : Nat) (o : Obj) : Prop := ∀ w, WI b w hp L → w.heap[g]? = some o
section
variable {κ : Type} [DecidableEq κ] {enc : κ → Value} {kt e : TypeId}
theorem map_own {b : Bx} {hp : Hp} {L : List Fact} {g : Nat} {o : Obj} (h : (g, o) ∈ hp) : MapAt b hp L g o := fun w hw => hw.own _ h
theorem map_blk {b : Bx} {hp : Hp} {L : List Fact} {g : Nat} {o : Obj} (h : Blk g o ∈ L) : MapAt b hp L g o := fun w hw => hw.fs _ h
variable {c : Cx} {Q : Exit → Act → World → Prop} {fr : Fr} {hp : Hp} {L : List Fact} {ops : Array Oper} {rest : List Oper}
variable {d : Tmp} {ty : TypeId} {pos : String} {af : Array Edge}
theorem run_lookup_map {P : Program} {t : TypeId} (K : KeyC P kt enc) (ht : P.underlying t = some (.map kt e)) {g : Nat} {l : List (Ment κ)} {clk : Nat} {k : κ} {w : World} (hb : w.heap[g]? = some (mapO enc l clk)) (ok : Bool) :
    ((getM l k).isSome = true → (Instr.lookup t (.map (some g)) (enc k) ok).run P w = .ok (if ok then .tuple #[(getM l k).getD undef, .bool true] else (getM l k).getD undef) w) ∧
    ∀ z, (zeroValue e).run P w = .ok z w → getM l k = none → (Instr.lookup t (.map (some g)) (enc k) ok).run P w = .ok (if ok then .tuple #[z, .bool false] else z) w := by
  have hf := K.find k l w; have hc := fun b => K.chk b k w; unfold getM
  cases hr : findM k l 0 with
  | none =>
    rw [hr] at hf; refine ⟨fun h => by simp at h, fun z hz _ => ?_⟩
    simp [Instr.lookup, run_underlying ht, MapKept.run_getObj_map (show w.heap[g]? = some (.map _ _) from hb), hc, hf, hz]
  | some p =>
    obtain ⟨i, v⟩ := p; rw [hr] at hf; refine ⟨fun _ => ?_, fun z hz h => by simp at h⟩
    simp [Instr.lookup, run_underlying ht, MapKept.run_getObj_map (show w.heap[g]? = some (.map _ _) from hb), hc, hf]
theorem r_look {t : TypeId} {x y : Operand} {g : Nat} {l : List (Ment κ)} {clk : Nat} {k : κ} {v : Value} (K : KeyC c.P kt enc) (hd : Nat.blt d c.n = true) (ht : c.P.underlying t = some (.map kt e)) (hx : ev fr x = some (.map (some g))) (hy : ev fr y = some (enc k)) (hm : MapAt c.b hp L g (mapO enc l clk))
    (hv : getM l k = some v) (kk : HL c ops Q rest ((d, v) :: fr) hp L) : HL c ops Q (⟨some d, .lookup t x y false, ty, pos, af, none⟩ :: rest) fr hp L :=
  hl_val _ rfl rfl hd (fun a w ha hw => by
    have := (run_lookup_map (k := k) K ht (hm w hw) false).1 (by simp [hv]); simp only [hv, Option.getD_some, Bool.false_eq_true, if_false] at this
    simp only [execOp, ha.ev hx, ha.ev hy, Sem.run_bind, this, Result.andThen_ok, Sem.run_pure]) kk
theorem r_look0 {t : TypeId} {x y : Operand} {g : Nat} {l : List (Ment κ)} {clk : Nat} {k : κ} {z : Value} (K : KeyC c.P kt enc) (hd : Nat.blt d c.n = true) (ht : c.P.underlying t = some (.map kt e)) (hx : ev fr x = some (.map (some g))) (hy : ev fr y = some (enc k)) (hm : MapAt c.b hp L g (mapO enc l clk))
    (hz : ∀ w, (zeroValue e).run c.P w = .ok z w) (hv : getM l k = none) (kk : HL c ops Q rest ((d, z) :: fr) hp L) : HL c ops Q (⟨some d, .lookup t x y false, ty, pos, af, none⟩ :: rest) fr hp L :=
  hl_val _ rfl rfl hd (fun a w ha hw => by
    have := (run_lookup_map (k := k) K ht (hm w hw) false).2 z (hz w) hv; simp only [Bool.false_eq_true, if_false] at this
    simp only [execOp, ha.ev hx, ha.ev hy, Sem.run_bind, this, Result.andThen_ok, Sem.run_pure]) kk
theorem r_lookOk {t : TypeId} {x y : Operand} {g : Nat} {l : List (Ment κ)} {clk : Nat} {k : κ} {v : Value} (K : KeyC c.P kt enc) (hd : Nat.blt d c.n = true) (ht : c.P.underlying t = some (.map kt e)) (hx : ev fr x = some (.map (some g))) (hy : ev fr y = some (enc k)) (hm : MapAt c.b hp L g (mapO enc l clk))
    (hv : getM l k = some v) (kk : HL c ops Q rest ((d, .tuple #[v, .bool true]) :: fr) hp L) : HL c ops Q (⟨some d, .lookup t x y true, ty, pos, af, none⟩ :: rest) fr hp L :=
  hl_val _ rfl rfl hd (fun a w ha hw => by
    have := (run_lookup_map (k := k) K ht (hm w hw) true).1 (by simp [hv]); simp only [hv, Option.getD_some, if_true] at this
    simp only [execOp, ha.ev hx, ha.ev hy, Sem.run_bind, this, Result.andThen_ok, Sem.run_pure]) kk
theorem r_look0Ok {t : TypeId} {x y : Operand} {g : Nat} {l : List (Ment κ)} {clk : Nat} {k : κ} {z : Value} (K : KeyC c.P kt enc) (hd : Nat.blt d c.n = true) (ht : c.P.underlying t = some (.map kt e)) (hx : ev fr x = some (.map (some g))) (hy : ev fr y = some (enc k)) (hm : MapAt c.b hp L g (mapO enc l clk))
    (hz : ∀ w, (zeroValue e).run c.P w = .ok z w) (hv : getM l k = none) (kk : HL c ops Q rest ((d, .tuple #[z, .bool false]) :: fr) hp L) : HL c ops Q (⟨some d, .lookup t x y true, ty, pos, af, none⟩ :: rest) fr hp L :=
  hl_val _ rfl rfl hd (fun a w ha hw => by
    have := (run_lookup_map (k := k) K ht (hm w hw) true).2 z (hz w) hv; simp only [if_true] at this
    simp only [execOp, ha.ev hx, ha.ev hy, Sem.run_bind, this, Result.andThen_ok, Sem.run_pure]) kk
theorem findM_at {k : κ} : ∀ (l : List (Ment κ)) (i j : Nat) (v : Value), findM k l i = some (j, v) → ∃ m p, j = i + m ∧ l[m]? = some p ∧ p.1 = k ∧ p.2.1 = v
  | [], i, j, v, h => by simp [findM] at h
  | p :: l, i, j, v, h => by
    rw [findM] at h
    split at h
    · rename_i e
      simp only [Option.some.injEq, Prod.mk.injEq] at h; exact ⟨0, p, by omega, rfl, e, h.2⟩
    · obtain ⟨m, q, h1, h2, h3⟩ := findM_at l (i + 1) j v h
      exact ⟨m + 1, q, by omega, by simpa using h2, h3⟩
omit [DecidableEq κ] in
theorem map_modify_ent {l : List (Ment κ)} {i : Nat} {k : κ} {v : Value} {p : Ment κ} (hp : l[i]? = some p) :
    ((l.map (entOf enc)).toArray.modify i fun x => { x with key := enc k, val := v }) = ((l.modify i fun p => (k, v, p.2.2)).map (entOf enc)).toArray := by
  apply Array.ext'
  simp only [Array.toList_modify]
  apply List.ext_getElem?
  intro n; simp only [List.getElem?_modify, List.getElem?_map]
  split
  · cases hl : l[n]? <;> simp [entOf]
  · simp
theorem r_insert {t : TypeId} {x y z : Operand} {g : Nat} {l : List (Ment κ)} {clk : Nat} {k : κ} {v : Value} {hp' : Hp} {o : Op} (K : KeyC c.P kt enc) (ho : o = .mapUpdate t x y z ∨ o = .insert t x y z) (ht : c.P.underlying t = some (.map kt e)) (hx : ev fr x = some (.map (some g))) (hy : ev fr y = some (enc k)) (hz : ev fr z = some v)
    (hpp : hp.Perm ((g, mapO enc l clk) :: hp')) (kk : HL c ops Q rest fr ((g, mapO enc (putM l k v clk) (clkM l k clk)) :: hp') L) : HL c ops Q (⟨none, o, ty, pos, af, none⟩ :: rest) fr hp L :=
  hl_unit (hok := by rcases ho with rfl | rfl <;> rfl) rfl rfl fun a w ha hw => by
    have hw' := hw.perm hpp; have hg := hw'.own (g, mapO enc l clk) (by simp); have hg' : w.heap[g]? = some (.map (l.map (entOf enc)).toArray clk) := hg; have hf := K.find k l w
    have hrun : (Instr.mapUpdate t (.map (some g)) (enc k) v).run c.P w = .ok () { w with heap := w.heap.setIfInBounds g (mapO enc (putM l k v clk) (clkM l k clk)) } := by
      unfold putM clkM
      cases hr : findM k l 0 with
      | none =>
        rw [hr] at hf; simp only [Instr.mapUpdate, Sem.run_bind, run_underlying ht, Result.andThen_ok, MapKept.run_getObj_map hg', K.chk, hf, MapKept.run_setObj_map _ hg']
        have : ((l.map (entOf enc)).toArray.push { key := enc k, val := v, born := clk }) = ((l ++ [(k, v, clk)]).map (entOf enc)).toArray := by
          apply Array.ext'; simp [entOf]
        rw [this]
        rfl
      | some p =>
        obtain ⟨i, u⟩ := p; rw [hr] at hf; obtain ⟨m, q, h1, h2, h3, h4⟩ := findM_at l 0 i u hr; have e1 : i = m := by omega
        subst e1
        have e2 : (((l.map (entOf enc)).toArray[i]?).map (·.key)).getD (enc k) = enc k := by
          simp [h2, entOf, h3]
        simp only [Instr.mapUpdate, Sem.run_bind, run_underlying ht, Result.andThen_ok, MapKept.run_getObj_map hg', K.chk, hf, e2, K.stays, MapKept.run_setObj_map _ hg', map_modify_ent h2]
        rfl
    refine ⟨{ w with heap := w.heap.setIfInBounds g (mapO enc (putM l k v clk) (clkM l k clk)) }, _, L, ?_, hw'.write (o' := mapO enc (putM l k v clk) (clkM l k clk)) ⟨rfl, rfl, rfl, by simp, fun j hj hn => by simp only [List.mem_singleton] at hn; simp [Array.getElem?_setIfInBounds_ne (Ne.symm hn)], Nat.le_refl _⟩ ?_, kk⟩
    · rcases ho with rfl | rfl <;> simp only [execOp, ha.ev hx, ha.ev hy, ha.ev hz, Sem.run_bind, hrun, Result.andThen_ok, Sem.run_pure]
    · have := lt_of_own hg
      simp only at this
      simp [this]
omit [DecidableEq κ] in
theorem r_makeMapM (enc : κ → Value) {t : TypeId} (hd : Nat.blt d c.n = true) (k : ∀ g, HL c ops Q rest ((d, .map (some g)) :: fr) ((g, mapO enc [] 0) :: hp) L) : HL c ops Q (⟨some d, .makeMap t none, ty, pos, af, none⟩ :: rest) fr hp L :=
  r_makeMap hd k
theorem findM_succ {k : κ} : ∀ (l : List (Ment κ)) (i : Nat), findM k l (i + 1) = (findM k l i).map fun p => (p.1 + 1, p.2)
  | [], i => rfl
  | p :: l, i => by
    simp only [findM]
    split
    · rfl
    · exact findM_succ l (i + 1)
theorem getM_cons (p : Ment κ) (l : List (Ment κ)) (k : κ) : getM (p :: l) k = if p.1 = k then some p.2.1 else getM l k := by
  unfold getM; simp only [findM]
  split
  · rfl
  · rw [findM_succ]; cases findM k l 0 <;> rfl
theorem getM_put (l : List (Ment κ)) (k k' : κ) (v : Value) (clk : Nat) : getM (putM l k v clk) k' = if k = k' then some v else getM l k' := by
  induction l with
  | nil => simp [putM, findM, getM_cons, getM]
  | cons p l ih =>
    by_cases h : p.1 = k
    · have : putM (p :: l) k v clk = (k, v, p.2.2) :: l := by simp [putM, findM, h]
      rw [this, getM_cons, getM_cons]; simp only [h]
      split <;> rfl
    · have : putM (p :: l) k v clk = p :: putM l k v clk := by
        simp only [putM, findM, h, if_false]; rw [findM_succ]
        cases hf : findM k l 0 with
        | none => simp
        | some q => simp
      rw [this, getM_cons, ih, getM_cons]
      split
      · rename_i e
        rw [if_neg (fun e' => h (e.trans e'.symm))]
      · rfl
end
end Go.W
end
section
namespace Go.W
open Go Go.RowKit
section
variable {c : Cx} {fr : Fr} {hp : Hp} {L : List Fact}
theorem ret_row {β : Type} {k : Con β} {fn : Func} {w0 : World} (x : β) {t : Tmp} {ty e : TypeId} {g n : Nat} {cs : Array Value} {fz : Nat × Nat} (hres : fn.results = #[.cell t ty]) (hv : lk fr t = some (.pointer (some ⟨g, 0, none⟩))) (ht : IsR c.P ty) (hz : Sz c.P ty n) (hn : cs.size = n)
    (hm : (g, Obj.cells cs e fz) ∈ hp) (hk : k.val x = .agg cs) (hb : c.b = k.entry w0) (hi : k.inv x) (h2 : (k.hpO x).Sublist hp) (h3 : LSub L (k.LO x)) (hD : c.D = [] := by rfl) : HQ c (postB c.P fn (k.post w0)) .ret fr hp L :=
  ret_run x (fun a w ha hw => by
    obtain ⟨dd, ht, hr⟩ := ht; have h1 := hw.own _ hm; simp only at h1
    have hl : (loadVar ty ⟨g, 0, none⟩).run c.P w = .ok (.agg cs) w := by
      have hagg : (isAgg ty).run c.P w = .ok true w := by
        unfold isAgg; rw [Sem.run_bind, run_underlying ht w]
        cases dd <;> simp_all [TypeDesc.isRow]
      have hc := run_loadCells_list (P := c.P) w ⟨g, 0, none⟩ cs.toList (fun j u hu => by rw [add_mk, Nat.zero_add]; simp at hu; simp [World.cell?, h1, hu]); have hs := size_of hz w; simp only [loadVar, Sem.run_bind, hagg, Result.andThen_ok, if_true, hs, ← hn]; have e : cs.size = cs.toList.length := by simp
      rw [e, hc]
      simp
    have hv' := ha.at_ _ _ hv; rw [hk]; unfold results; rw [hres]; have hv2 : a.tmps[t]?.getD undef = .pointer (some ⟨g, 0, none⟩) := by simpa using hv'
    simp [hv2, asAddr, hl]) hb hi h2 h3 hD
theorem ret_row_tmp {β : Type} {k : Con β} {fn : Func} {w0 : World} (x : β) {t u : Tmp} {ty e : TypeId} {g n : Nat} {cs : Array Value} {fz : Nat × Nat} {v2 : Value} (hres : fn.results = #[.cell t ty, .tmp u]) (hv : lk fr t = some (.pointer (some ⟨g, 0, none⟩))) (hv2 : lk fr u = some v2) (ht : IsR c.P ty) (hz : Sz c.P ty n) (hn : cs.size = n)
    (hm : (g, Obj.cells cs e fz) ∈ hp) (hk : k.val x = .tuple #[.agg cs, v2]) (hb : c.b = k.entry w0) (hi : k.inv x) (h2 : (k.hpO x).Sublist hp) (h3 : LSub L (k.LO x)) (hD : c.D = [] := by rfl) : HQ c (postB c.P fn (k.post w0)) .ret fr hp L :=
  ret_run x (fun a w ha hw => by
    obtain ⟨dd, ht, hr⟩ := ht; have h1 := hw.own _ hm; simp only at h1
    have hl : (loadVar ty ⟨g, 0, none⟩).run c.P w = .ok (.agg cs) w := by
      have hagg : (isAgg ty).run c.P w = .ok true w := by
        unfold isAgg; rw [Sem.run_bind, run_underlying ht w]
        cases dd <;> simp_all [TypeDesc.isRow]
      have hc := run_loadCells_list (P := c.P) w ⟨g, 0, none⟩ cs.toList (fun j u hu => by rw [add_mk, Nat.zero_add]; simp at hu; simp [World.cell?, h1, hu]); have hs := size_of hz w; simp only [loadVar, Sem.run_bind, hagg, Result.andThen_ok, if_true, hs, ← hn]; have e : cs.size = cs.toList.length := by simp
      rw [e, hc]
      simp
    have hv' := ha.at_ _ _ hv; have hv2' := ha.at_ _ _ hv2; rw [hk]; unfold results; rw [hres]; have h5 : a.tmps[t]?.getD undef = .pointer (some ⟨g, 0, none⟩) := by simpa using hv'
    have h6 : a.tmps[u]?.getD undef = v2 := by simpa using hv2'
    simp [h5, h6, asAddr, hl]) hb hi h2 h3 hD
end
section
variable {c : Cx} {Q : Exit → Act → World → Prop} {fr : Fr} {hp : Hp} {L : List Fact} {ops : Array Oper} {rest : List Oper}
variable {d : Tmp} {ty : TypeId} {pos : String} {af : Array Edge}
theorem r_loadB {t e : TypeId} {x : Operand} {g : Nat} {cs : Array Value} {fz : Nat × Nat} {n : Nat} (hd : Nat.blt d c.n = true) (ht' : IsR c.P t) (hz' : Sz c.P t n) (hx : ev fr x = some (.pointer (some ⟨g, 0, none⟩))) (h : Blk g (Obj.cells cs e fz) ∈ L) (hn : cs.size = n)
    (k : HL c ops Q rest ((d, .agg cs) :: fr) hp L) : HL c ops Q (⟨some d, .load t x, ty, pos, af, none⟩ :: rest) fr hp L :=
  r_loadS (cs := cs.toList) hd ht' hz' hx (by simpa using hn) (cells_blk h (fun i u hu => by simpa using hu)) k
theorem r_append_full {t e : TypeId} {x y : Operand} {sz bytes n m cp : Nat} {A B : Option Addr} {olds news : List Value} (n' : Nat) (xs' : List Value) (el : ElT c.P t e sz bytes) (hd : Nat.blt d c.n = true)
    (hx : ev fr x = some (.slice A n n)) (hy : ev fr y = some (.slice B m cp)) (hA : Row A olds ∈ L) (hlo : olds.length = n * sz) (hs : Src c.b hp L B m sz news) (hn' : n + m = n') (hxs : olds ++ news = xs') (hn : n' ≤ maxLen) (hby : n' * bytes ≤ 140737488355328)
    (k : ∀ A' cap', n' ≤ cap' → HL c ops Q rest ((d, .slice A' n' cap') :: fr) hp (Row A' xs' :: L)) :
    HL c ops Q (⟨some d, .call ⟨.builtin .append, #[x, y], #[t, t]⟩, ty, pos, af, none⟩ :: rest) fr hp L :=
  hl_gen rfl rfl hd fun a w ha hw => by
    subst hn'; subst hxs; obtain ⟨i, z, hi, hz, hsz, hb, hzs⟩ := el.i; have hrow := hw.fs _ hA
    have hgs : Go.Src c.P i.size t (.slice B m cp) m news w := by
      rcases hs.2.2 with ⟨rfl, rfl⟩ | h
      · have : news = [] := List.eq_nil_of_length_eq_zero (by simpa using hs.1)
        subst this; exact Go.Src.ofNil w el.u cp
      · obtain ⟨ad, rfl, hc⟩ := h w hw
        exact Go.Src.ofSlice w el.u ad m cp news (by rw [hsz]; exact hs.1) hc hs.2.1
    by_cases hm : m = 0
    · subst hm
      have : news = [] := List.eq_nil_of_length_eq_zero (by simpa using hs.1); subst this; refine ⟨.slice A n n, w, hp, Row A (olds ++ []) :: L, ?_, hw.weak (.refl _) ?_ |>.add (by simpa using hrow) (fun p hp => by simpa using hw.ap _ hA p hp) (fun k hk => hw.al _ hA k (by simpa using hk)), k A n (Nat.le_refl _)⟩
      · have := run_append_nothing w t t ty e i el.u hi A n n (Nat.le_refl _) (.slice B 0 cp) hgs
        simp only [execOp, resolve, invoke, builtin, Sem.run_bind, Sem.run_pure, Result.andThen_ok, List.map_toArray, List.map_cons, List.map_nil, ha.ev hx, ha.ev hy, this]
      · exact fun _ h => h
    · have hold : (Builtin.firstCells i.size n (.slice A n n)).run c.P w.drew = .ok olds.toArray w.drew := by
        cases A with
        | none =>
          have : olds = [] := by
            cases olds with
            | nil => rfl
            | cons u r => obtain ⟨ad, e, _⟩ := hrow 0 u rfl; cases e
          subst this
          have hn0 : n = 0 := by
            have := el.pos; simp only [List.length_nil] at hlo
            rcases Nat.eq_zero_or_pos n with h | h
            · exact h
            · have := Nat.mul_pos h this; omega
          subst hn0; exact run_firstCells_none _ _ _ _ _
        | some ad => exact run_firstCells_some _ _ _ _ _ _ olds (by rw [hsz]; exact hlo) (fun j u hu => by
            obtain ⟨ad', e, hc⟩ := hrow j u hu
            cases e
            simpa using hc)
      have hrun := run_append_grow_src w t t ty e i z el.u hi hz A n n olds hold (.slice B m cp) m news hgs (by omega) (by unfold maxLen at hn; omega) (growslice_fits (by omega) (by rw [hb]; exact hby)); have h2 := (hw.quiet (ext_drew w)).alloc (.cells ((olds ++ news).toArray ++ Builtin.zeroCells z.cells (grownCap w (n + m) n e - (n + m))) e (0, 0)); refine ⟨_, w.drew.alloc (.cells ((olds ++ news).toArray ++ Builtin.zeroCells z.cells (grownCap w (n + m) n e - (n + m))) e), hp, Row (some ⟨w.heap.size, 0, none⟩) (olds ++ news) :: L, ?_, wi_letgo h2 ?_, k (some ⟨w.heap.size, 0, none⟩) (grownCap w (n + m) n e) (grownCap_ge w (n + m) n e)⟩
      · simp only [execOp, resolve, invoke, builtin, Sem.run_bind, Sem.run_pure, Result.andThen_ok, List.map_toArray, List.map_cons, List.map_nil, ha.ev hx, ha.ev hy, hrun]
      · exact ⟨(Builtin.zeroCells z.cells (grownCap w (n + m) n e - (n + m))).toList, by simp⟩
end
section
variable {κ : Type} [DecidableEq κ] {enc : κ → Value} {kt e : TypeId}
variable {c : Cx} {Q : Exit → Act → World → Prop} {fr : Fr} {hp : Hp} {L : List Fact} {ops : Array Oper} {rest : List Oper}
variable {d : Tmp} {ty : TypeId} {pos : String} {af : Array Edge}
theorem r_lookOkG {t : TypeId} {x y : Operand} {g : Nat} {l : List (Ment κ)} {clk : Nat} {k : κ} (z v : Value) (b : Bool) (K : KeyC c.P kt enc) (hd : Nat.blt d c.n = true) (ht : c.P.underlying t = some (.map kt e)) (hx : ev fr x = some (.map (some g))) (hy : ev fr y = some (enc k)) (hm : MapAt c.b hp L g (mapO enc l clk))
    (hz : ∀ w, (zeroValue e).run c.P w = .ok z w) (hv : (getM l k).getD z = v) (hb : (getM l k).isSome = b) (kk : HL c ops Q rest ((d, .tuple #[v, .bool b]) :: fr) hp L) : HL c ops Q (⟨some d, .lookup t x y true, ty, pos, af, none⟩ :: rest) fr hp L := by
  subst hv; subst hb
  cases hg : getM l k with
  | none => rw [hg] at kk; exact r_look0Ok K hd ht hx hy hm hz hg kk
  | some u => rw [hg] at kk; exact r_lookOk K hd ht hx hy hm hg kk
theorem putM_mem {l : List (Ment κ)} {k : κ} {v : Value} {clk : Nat} {p : Ment κ} (h : p ∈ putM l k v clk) : (p.1 = k ∧ p.2.1 = v) ∨ p ∈ l := by
  unfold putM at h
  cases hf : findM k l 0 with
  | none =>
    rw [hf] at h
    rcases List.mem_append.1 h with h | h
    · exact .inr h
    · simp at h; subst h; exact .inl ⟨rfl, rfl⟩
  | some q =>
    obtain ⟨i, u⟩ := q; rw [hf] at h; simp only at h; obtain ⟨n, hn⟩ := List.getElem?_of_mem h; rw [List.getElem?_modify] at hn
    cases hl : l[n]? with
    | none => rw [hl] at hn; cases hn
    | some r =>
      rw [hl] at hn; simp only [Option.map_eq_map, Option.map_some, Option.some.injEq] at hn
      split at hn
      · subst hn; exact .inl ⟨rfl, rfl⟩
      · subst hn; exact .inr (List.mem_of_getElem? hl)
theorem getM_mem {l : List (Ment κ)} {k : κ} {v : Value} (h : getM l k = some v) : ∃ p ∈ l, p.1 = k ∧ p.2.1 = v := by
  unfold getM at h
  cases hf : findM k l 0 with
  | none => rw [hf] at h; cases h
  | some q =>
    obtain ⟨i, u⟩ := q; rw [hf] at h; simp only [Option.map_some, Option.some.injEq] at h; subst h; obtain ⟨m, p, _, h2, h3, h4⟩ := findM_at l 0 i u hf; exact ⟨p, List.mem_of_getElem? h2, h3, h4⟩
end
theorem sub_of_count {α : Type} {l' : List α} : ∀ {l : List α}, (∀ p : α → Bool, l'.countP p ≤ l.countP p) → ∃ r, l.Perm (l' ++ r) := by
  classical
  induction l' with
  | nil => intro l _; exact ⟨l, .refl _⟩
  | cons a t ih =>
    intro l h; have h1 := h (fun x => decide (x = a)); rw [List.countP_cons_of_pos (by simp)] at h1
    have ha : a ∈ l := by
      have : 0 < l.countP (fun x => decide (x = a)) := by omega
      obtain ⟨x, hx, e⟩ := List.countP_pos_iff.1 this
      simp at e
      exact e ▸ hx
    have hp := List.perm_cons_erase ha
    obtain ⟨r, hr⟩ := ih (l := l.erase a) (fun p => by
      have h2 := h p; have h3 := hp.countP_eq p; rw [List.countP_cons] at h2 h3
      omega)
    exact ⟨r, hp.trans (hr.cons a)⟩
theorem WI.count {b : Bx} {w : World} {hp hp' : Hp} {L L' : List Fact} (h : WI b w hp L) (hc : ∀ p : Nat × Obj → Bool, hp'.countP p ≤ hp.countP p) (h2 : ∀ F ∈ L', F ∈ L) : WI b w hp' L' := by
  obtain ⟨r, hr⟩ := sub_of_count hc; exact (h.perm hr).weak (List.sublist_append_left _ _) h2
section
variable {c : Cx} {Q : Exit → Act → World → Prop} {fr : Fr} {hp : Hp} {L : List Fact} {ops : Array Oper} {rest : List Oper}
theorem cut_c {β : Type} (s : Sta β) (z : β) (hz : s.inv z) (h1 : FrSub fr (s.fr z)) (h2 : ∀ p : Nat × Obj → Bool, (s.hp z).countP p ≤ hp.countP p) (h3 : LSub L (s.L z)) : HQ c (Exit.then (s.holds c) Q) .normal fr hp L :=
  fun _ _ ha hw => ⟨z, hz, ha.sub h1, hw.count h2 h3.mem⟩
end
section
variable {c : Cx} {Q : Exit → Act → World → Prop} {fr : Fr} {hp : Hp} {L : List Fact} {ops : Array Oper} {rest : List Oper}
theorem wi_letgoB {b : Bx} {w : World} {g : Nat} {o : Obj} (h : WI b w ((g, o) :: hp) L) : WI b w hp (Blk g o :: L) := h.letgo (h.own (g, o) (by simp)) (fun k hk => hk)
theorem hc_letgoB {g : Nat} {o : Obj} {x : Code} (k : HC c x Q fr hp (Blk g o :: L)) : HC c x Q fr ((g, o) :: hp) L := fun a w ha hw => k a w ha (wi_letgoB hw)
end
def Facts (Fs : List Fact) : Fact where
  P w := ∀ F ∈ Fs, F.P w
  fp k := ∃ F ∈ Fs, F.fp k
  st w w' h hP F hF := F.st w w' (fun k hk => h k ⟨F, hF, hk⟩) (hP F hF)
  lt w hP k hk := by obtain ⟨F, hF, hk⟩ := hk; exact F.lt w (hP F hF) k hk
section
variable {c : Cx} {Q : Exit → Act → World → Prop} {fr : Fr} {hp : Hp} {L : List Fact} {ops : Array Oper} {rest : List Oper}
theorem wi_pick {b : Bx} {w : World} {Fs : List Fact} {F : Fact} (h : Facts Fs ∈ L) (hF : F ∈ Fs) (hw : WI b w hp L) : WI b w hp (F :: L) := wi_more hw (hw.fs _ h F hF) (fun k hk => ⟨_, h, F, hF, hk⟩)
theorem hl_pick {Fs : List Fact} {F : Fact} (h : Facts Fs ∈ L) (hF : F ∈ Fs) (k : HL c ops Q rest fr hp (F :: L)) : HL c ops Q rest fr hp L := fun a w ha hw => k a w ha (wi_pick h hF hw)
theorem hq_pick {Fs : List Fact} {F : Fact} {x : Exit} (h : Facts Fs ∈ L) (hF : F ∈ Fs) (k : HQ c Q x fr hp (F :: L)) : HQ c Q x fr hp L := fun a w ha hw => k a w ha (wi_pick h hF hw)
theorem wi_facts {b : Bx} {w : World} {Fs : List Fact} (h : ∀ F ∈ Fs, F ∈ L ∨ ∃ Gs, Facts Gs ∈ L ∧ F ∈ Gs) (hw : WI b w hp L) : WI b w hp (Facts Fs :: L) :=
  wi_more hw (fun F hF => by
    rcases h F hF with h1 | ⟨Gs, h1, h2⟩
    · exact hw.fs _ h1
    · exact hw.fs _ h1 F h2) (fun k hk => by
    obtain ⟨F, hF, hk⟩ := hk
    rcases h F hF with h1 | ⟨Gs, h1, h2⟩
    · exact ⟨F, h1, hk⟩
    · exact ⟨_, h1, F, h2, hk⟩)
theorem hl_facts {Fs : List Fact} (h : ∀ F ∈ Fs, F ∈ L ∨ ∃ Gs, Facts Gs ∈ L ∧ F ∈ Gs) (k : HL c ops Q rest fr hp (Facts Fs :: L)) : HL c ops Q rest fr hp L := fun a w ha hw => k a w ha (wi_facts h hw)
theorem hc_facts {Fs : List Fact} {x : Code} (h : ∀ F ∈ Fs, F ∈ L ∨ ∃ Gs, Facts Gs ∈ L ∧ F ∈ Gs) (k : HC c x Q fr hp (Facts Fs :: L)) : HC c x Q fr hp L := fun a w ha hw => k a w ha (wi_facts h hw)
theorem hq_facts {Fs : List Fact} {x : Exit} (h : ∀ F ∈ Fs, F ∈ L ∨ ∃ Gs, Facts Gs ∈ L ∧ F ∈ Gs) (k : HQ c Q x fr hp (Facts Fs :: L)) : HQ c Q x fr hp L := fun a w ha hw => k a w ha (wi_facts h hw)
end
section
variable {c : Cx} {Q : Exit → Act → World → Prop} {fr : Fr} {hp : Hp} {L : List Fact} {ops : Array Oper} {rest : List Oper}
theorem hq_nilrow {e : Exit} {α : Type} [El α] (k : HQ c Q e fr hp (Row none (rows ([] : List α)) :: L)) : HQ c Q e fr hp L := hq_more (F := Row none (rows ([] : List α))) (fun w _ => Row.nil _ w) (fun k hk => by obtain ⟨_, e, _⟩ := hk; cases e) k
theorem hl_nilrow {α : Type} [El α] (k : HL c ops Q rest fr hp (Row none (rows ([] : List α)) :: L)) : HL c ops Q rest fr hp L := hl_more (F := Row none (rows ([] : List α))) (fun w _ => Row.nil _ w) (fun k hk => by obtain ⟨_, e, _⟩ := hk; cases e) k
theorem hq_nil0 {e : Exit} (k : HQ c Q e fr hp (Row none [] :: L)) : HQ c Q e fr hp L := hq_more (F := Row none []) (fun w _ => Row.nil _ w) (fun k hk => by obtain ⟨_, e, _⟩ := hk; cases e) k
end
end Go.W
end
section
namespace Go.W
open Go Go.RowKit
/-! ### The first of a list of slices -/
theorem rows2_take {α : Type} [El α] {b : Bx} {hp : Hp} {L : List Fact} {w : World} {A : Option Addr} {ps : List (Sl α)} (n : Nat) (h : Rows2 A ps ∈ L) (hw : WI b w hp L) : WI b w hp (Rows2 A (ps.take n) :: L) := by
  have h1 := hw.fs _ h; refine wi_more hw ⟨fun j u hu => ?_, fun p hp => h1.2 p (List.mem_of_mem_take hp)⟩ (fun k hk => ⟨_, h, ?_⟩)
  · refine h1.1 j u ?_
    rw [← rows_take] at hu; rw [List.getElem?_take] at hu
    split at hu
    · exact hu
    · cases hu
  · rcases hk with ⟨ad, e, hb, hne⟩ | ⟨p, hp, hk⟩
    · exact .inl ⟨ad, e, hb, fun e => hne (by rw [← rows_take, e]; simp)⟩
    · exact .inr ⟨p, List.mem_of_mem_take hp, hk⟩
theorem hl_take2 {α : Type} [El α] {c : Cx} {Q : Exit → Act → World → Prop} {fr : Fr} {hp : Hp} {L : List Fact} {ops : Array Oper} {rest : List Oper} {A : Option Addr} {ps : List (Sl α)} (n : Nat) (h : Rows2 A ps ∈ L) (k : HL c ops Q rest fr hp (Rows2 A (ps.take n) :: L)) : HL c ops Q rest fr hp L := fun a w ha hw => k a w ha (rows2_take n h hw)
theorem wi_rows2 {α : Type} [El α] {b : Bx} {hp : Hp} {L : List Fact} {w : World} {A : Option Addr} {ps : List (Sl α)} (h : Row A (rows ps) ∈ L) (h2 : ∀ p ∈ ps, Row p.a (rows p.l) ∈ L) (hw : WI b w hp L) : WI b w hp (Rows2 A ps :: L) :=
  wi_more hw ⟨hw.fs _ h, fun p hp => hw.fs _ (h2 p hp)⟩ (fun k hk => by
    rcases hk with hk | ⟨p, hp, hk⟩
    · exact ⟨_, h, hk⟩
    · exact ⟨_, h2 p hp, hk⟩)
section
variable {α : Type} [El α] {c : Cx} {Q : Exit → Act → World → Prop} {fr : Fr} {hp : Hp} {L : List Fact} {ops : Array Oper} {rest : List Oper} {A : Option Addr} {ps : List (Sl α)}
theorem hq_rows2 {e : Exit} (h : Row A (rows ps) ∈ L) (h2 : ∀ p ∈ ps, Row p.a (rows p.l) ∈ L) (k : HQ c Q e fr hp (Rows2 A ps :: L)) : HQ c Q e fr hp L := fun a w ha hw => k a w ha (wi_rows2 h h2 hw)
end
/-! ### Facts that follow from the world; nil -/
section
variable {c : Cx} {Q : Exit → Act → World → Prop} {fr : Fr} {hp : Hp} {L : List Fact} {ops : Array Oper} {rest : List Oper}
theorem hc_pure {φ : Prop} {x : Code} (h : ∀ w, WI c.b w hp L → φ) (k : φ → HC c x Q fr hp L) : HC c x Q fr hp L := fun a w ha hw => k (h w hw) a w ha hw
theorem hq_letgoB {g : Nat} {o : Obj} {e : Exit} (k : HQ c Q e fr hp (Blk g o :: L)) : HQ c Q e fr ((g, o) :: hp) L := fun a w ha hw => k a w ha (wi_letgoB hw)
theorem row_none {α : Type} [El α] {l : List α} {w : World} (h0 : 0 < El.sz α) (h : (Row none (rows l)).P w) : l = [] := by
  cases l with
  | nil => rfl
  | cons a l =>
    have hl : 0 < (rows (a :: l)).length := by rw [rows_len]; exact Nat.mul_pos (by simp) h0
    obtain ⟨ad, e, _⟩ := h 0 _ (List.getElem?_eq_getElem hl)
    cases e
variable {d : Tmp} {ty : TypeId} {pos : String} {af : Array Edge}
theorem r_eqlnil {t e yt : TypeId} {x y : Operand} {A : Option Addr} {n cp : Nat} (hd : Nat.blt d c.n = true) (ht : c.P.underlying t = some (.slice e)) (hx : ev fr x = some (.slice A n cp)) (hy : ev fr y = some (.slice none 0 0)) (k : HL c ops Q rest ((d, .bool A.isNone) :: fr) hp L) :
    HL c ops Q (⟨some d, .binOp .eql t x y yt, ty, pos, af, none⟩ :: rest) fr hp L :=
  r_bin _ hd hx hy (fun _ => rfl) (fun w => by
    show ((do pure (Value.bool (← Op.equal t (.slice A n cp) (.slice none 0 0)))) : Sem Value).run c.P w = _
    simp only [Sem.run_bind, run_equal_slice_nil w t e A n cp ht, Result.andThen_ok, Sem.run_pure]) k
end
/-! ### A store into a slice of the call's own -/
theorem rows_set1 {α : Type} [El α] (h1 : El.sz α = 1) (v : Value) (a : α) (hv : El.cells a = [v]) : ∀ (l : List α) (k : Nat), (rows l).set k v = rows (l.set k a)
  | [], k => by simp [rows_nil]
  | b :: l, 0 => by
    have hb : ∃ u, El.cells b = [u] := by
      have := El.len b; rw [h1] at this; exact List.length_eq_one_iff.1 this
    obtain ⟨u, hu⟩ := hb; rw [List.set_cons_zero, rows_cons, rows_cons, hu, hv]
    rfl
  | b :: l, k + 1 => by
    have hb : ∃ u, El.cells b = [u] := by
      have := El.len b; rw [h1] at this; exact List.length_eq_one_iff.1 this
    obtain ⟨u, hu⟩ := hb; rw [List.set_cons_succ, rows_cons, rows_cons, hu, ← rows_set1 h1 v a hv l k]
    rfl
theorem Grow.set {α : Type} [El α] {e : TypeId} {cap g k : Nat} {cur : Array Value} {l : List α} {v : Value} {a : α} (h1 : El.sz α = 1) (hv : El.cells a = [v]) (h3 : l.length ≤ cap) (h4 : cap ≤ maxLen) (h5 : cur.size = cap * 1) (h6 : cur.toList.take (l.length * 1) = rows l) :
    Grow e 1 (some ⟨g, 0, none⟩) l.length cap (rows (l.set k a)) [(g, Obj.cells (cur.setIfInBounds k v) e (0, 0))] := by
  refine ⟨by rw [rows_len, h1, List.length_set], .inr ⟨g, _, rfl, rfl, h3, h4, by simpa using h5, ?_⟩⟩; rw [← rows_set1 h1 v a hv, ← h6, Array.toList_setIfInBounds, List.take_set]
/-! ### make -/
/-! ### Scopes and labels -/
section
variable {Q : Exit → Act → World → Prop} {fr : Fr} {hp : Hp} {L : List Fact}
def noGoto (Q : Exit → Act → World → Prop) : Exit → Act → World → Prop
  | .goto _, _, _ => False
  | e, a, w => Q e a w
theorem hc_scope {P : Program} {n : Nat} {b : Bx} {D : List Deferred} {x : Code} (h : HC ⟨P, n, b, D, none⟩ x (noGoto Q) fr hp L) : HC ⟨P, n, b, D, none⟩ (.scope x) Q fr hp L :=
  fun a w ha hw => cwp_scope0 (cwp_mono (h a w ha hw) fun e a w hq => by cases e <;> first | exact ⟨fun _ h => (by cases h), hq⟩ | exact hq.elim)
theorem ng_ret {c : Cx} (h : HQ c Q .ret fr hp L) : HQ c (noGoto Q) .ret fr hp L := fun a w ha hw => h a w ha hw
theorem hc_label {c : Cx} {l : Nat} (h : HQ c Q .normal fr hp L) : HC c (.label l) Q fr hp L := fun a w ha hw => cwp_label (h a w ha hw)
end
theorem evals {n : Cx} {a : Act} {fr : Fr} (ha : Ok n a fr) : ∀ (xs : List Operand) (vs : List Value), xs.mapM (ev fr) = some vs → xs.map a.eval = vs := by
  intro xs
  induction xs with
  | nil => intro vs h; simpa using h
  | cons x xs ih =>
    intro vs h; simp only [List.mapM_cons, Option.bind_eq_bind, Option.bind_eq_some_iff, Option.pure_def, Option.some.injEq] at h; obtain ⟨v, hv, us, hus, rfl⟩ := h; rw [List.map_cons, ha.ev hv, ih us hus]
def markOf (d : Nat) : Deferred := { target := .collected d, args := #[] }
def shutM (ds : List Nat) : Hp := ds.map fun d => (d, Obj.deferred (some []))
theorem res_cells2 {c : Cx} {fr : Fr} {hp : Hp} {L : List Fact} {fn : Func} {t u : Tmp} {ty tz : TypeId} {p q : Addr} {v1 v2 : Value} (hres : fn.results = #[.cell t ty, .cell u tz]) (hv : lk fr t = some (.pointer (some p))) (hv2 : lk fr u = some (.pointer (some q))) (ht : NoR c.P ty) (hz : NoR c.P tz)
    (h1 : Cell c.b hp L p v1) (h2 : Cell c.b hp L q v2) (a : Act) (w : World) (hsz : a.tmps.size = c.n) (hfr : ∀ t v, lk fr t = some v → a.tmps.getD t undef = v) (hw : WI c.b w hp L) : (results fn a.tmps).run c.P w = .ok (.tuple #[v1, v2]) w := by
  have hload : ∀ {ty : TypeId} {p : Addr} {v : Value}, NoR c.P ty → Cell c.b hp L p v → (loadVar ty p).run c.P w = .ok v w := by
    intro ty p v ht hc; obtain ⟨dd, ht, hr⟩ := ht
    have hagg : (isAgg ty).run c.P w = .ok false w := by
      unfold isAgg; rw [Sem.run_bind, run_underlying ht w]
      cases dd <;> simp_all [TypeDesc.isRow]
    simp only [loadVar, Sem.run_bind, hagg, Result.andThen_ok, Bool.false_eq_true, if_false, run_load, hc w hw]
  have h5 : a.tmps[t]?.getD undef = .pointer (some p) := by simpa using hfr _ _ hv
  have h6 : a.tmps[u]?.getD undef = .pointer (some q) := by simpa using hfr _ _ hv2
  unfold results; rw [hres]
  simp [h5, h6, asAddr, hload ht h1, hload hz h2]
/-! ### Rounds of a range over a function -/
instance (l : Nat) : QC (Instr.getLoop l) := ⟨by unfold Instr.getLoop; exact q_auto⟩
instance (l : Nat) (args : Array Value) : QC (Instr.yield l args) := ⟨by unfold Instr.yield; exact q_auto⟩
instance (l : Nat) : QC (Instr.beginRound l) := ⟨by unfold Instr.beginRound; exact q_auto⟩
instance (l : Nat) (j : Option Code) : QC (Instr.endRound l j) := ⟨by unfold Instr.endRound; exact q_auto⟩
instance (l : Nat) : QC (Instr.endLoop l) := ⟨by unfold Instr.endLoop; exact q_auto⟩
instance (l : Nat) : QC (Instr.takeDeferred l) := ⟨by unfold Instr.takeDeferred; exact q_auto⟩
instance (fn : FuncId) (tmps : Array Value) (ps : Array Tmp) (x y : Code) (o : Option Nat) : QC (Instr.enterLoop fn tmps ps x y o) := ⟨by unfold Instr.enterLoop; exact q_auto⟩
section
open Go.Conc
variable {P : Program} {main : Bool} {b : Frame} {a : Act} {k : List Item} {cs : List Frame} {w w' : World} {l : Nat} {v : Value} {c : Frame}
theorem sR_beginRound (hb : b.roundOf = some l) (hk : b.kind ≠ .early) (hr : (Instr.beginRound l).run P w = .ok () w') :
    stepG P main (G (b.atR a (.beginRound :: k)) cs) w = .go (G (b.atR a k) cs) w' (seen P b.fn ((Instr.beginRound l).events P w #[])) := by
  have hk' : (b.kind == CallKind.early) = false := by simpa using hk
  simp [G, stepG, stepG.exec, Frame.atR, stepG.apply, hb, hr, hk', Frame.finish, GStep.after]
theorem sR_round_end (hb : b.roundOf = some l) (hk : b.kind = .normal) (hr : (Instr.endRound l none).run P w = .ok v w') :
    stepG P main (G (b.atR a []) (c :: cs)) w = .go (G (c.finish v) cs) w' (seen P b.fn ((Instr.endRound l none).events P w #[])) := by
  simp [G, stepG, stepG.exec, Frame.atR, hb, hr, hk, doReturn, GStep.after]
theorem sR_round_ret (hb : b.roundOf = some l) (hk : b.kind = .normal) (hr : (Instr.endRound l (some .ret)).run P w = .ok v w') :
    stepG P main (G (b.atR a (.code .ret :: k)) (c :: cs)) w = .go (G (c.finish v) cs) w' (seen P b.fn ((Instr.endRound l (some .ret)).events P w #[])) := by
  simp [G, stepG, stepG.exec, Frame.atR, hb, hr, hk, doReturn, GStep.after]
theorem sR_round_exit {id : Nat} (hb : b.roundOf = some l) (hk : b.kind = .normal) (hx : exitTo id k = none) (hr : (Instr.endRound l (some (.exit id))).run P w = .ok v w') :
    stepG P main (G (b.atR a (.code (.exit id) :: k)) (c :: cs)) w = .go (G (c.finish v) cs) w' (seen P b.fn ((Instr.endRound l (some (.exit id))).events P w #[])) := by
  simp [G, stepG, stepG.exec, Frame.atR, hb, hr, hk, hx, doReturn, GStep.after]
def roundPost (P : Program) (l : Nat) (R : Value → World → Prop) : Exit → Act → World → Prop
  | .normal, _, w => ∃ v w', (∀ d, (Instr.endRound l none).run P (w.at d) = .ok v (w'.at d)) ∧ R v w'
  | .ret, _, w => ∃ v w', (∀ d, (Instr.endRound l (some .ret)).run P (w.at d) = .ok v (w'.at d)) ∧ R v w'
  | .exit id, _, w => ∃ v w', (∀ d, (Instr.endRound l (some (.exit id))).run P (w.at d) = .ok v (w'.at d)) ∧ R v w'
  | _, _, _ => False
def BeginQ (c : Cx) (l : Nat) (body : Code) (Q : Exit → Act → World → Prop) (a : Act) (w : World) : Prop :=
  nd body = true ∧ ∃ w2, (∀ d, (Instr.beginRound l).run c.P (w.at d) = .ok () (w2.at d)) ∧ cwp c.rd c.P body Q a w2
theorem roundB_of {f : FuncId} {tmps : Array Value} {assign body : Code} {R : Value → World → Prop} {n : Nat} {bx : Bx} (n1 : nd assign = true)
    (h : cwp (some l) P assign (Exit.then (BeginQ ⟨P, n, bx, [], some l⟩ l body (roundPost P l R)) (fun _ _ _ => False)) { tmps := tmps, defers := [] } w) : RoundB P l f tmps assign body w R := by
  intro c cs Goal hk
  let b : Frame := { (default : Frame) with fn := f, kind := .normal, roundOf := some l }
  have hb0 : Frame.round l f tmps assign body .normal = b.atR { tmps := tmps, defers := [] } [.code assign, .beginRound, .code body] := by simp [Frame.round, Frame.atR, b]
  rw [hb0]; refine h b [.beginRound, .code body] (c :: cs) Goal (by simp [b]) ⟨rfl, .inr n1⟩ fun e a' w' hq => ?_
  cases e with
  | normal =>
    obtain ⟨n2, w2, hbr, hbody⟩ := hq; show Co P (G (b.atR a' [.beginRound, .code body]) (c :: cs)) w' Goal; refine co_step rfl fun d => ⟨_, _, _, sR_beginRound rfl (by simp [b]) (hbr d), calm_seen (quiet_events QC.out _), co_at ?_ d⟩; refine hbody b [] (c :: cs) Goal (by simp [b]) ⟨rfl, .inr n2⟩ fun e a3 w3 hq => ?_
    cases e with
    | normal =>
      obtain ⟨v, w4, hend, hR⟩ := hq; exact co_step rfl fun d => ⟨_, _, _, sR_round_end rfl rfl (hend d), calm_seen (quiet_events QC.out _), co_at (hk v w4 hR) d⟩
    | ret =>
      obtain ⟨v, w4, hend, hR⟩ := hq; exact fun k₁ => co_step rfl fun d => ⟨_, _, _, sR_round_ret rfl rfl (hend d), calm_seen (quiet_events QC.out _), co_at (hk v w4 hR) d⟩
    | exit id =>
      obtain ⟨v, w4, hend, hR⟩ := hq; exact fun k₁ h1 => co_step rfl fun d => ⟨_, _, _, sR_round_exit rfl rfl (h1.trans rfl) (hend d), calm_seen (quiet_events QC.out _), co_at (hk v w4 hR) d⟩
    | goto t => exact hq.elim
    | panic ch => exact hq.elim
    | outgrown => trivial
  | ret => exact hq.elim
  | exit id => exact hq.elim
  | goto t => exact hq.elim
  | panic ch => exact hq.elim
  | outgrown => trivial
end
def recL (fn : FuncId) (tmps : Array Value) (ps : Array Tmp) (assign body : Code) (d : Nat) (j : Option Code) : Loop := { state := if j.isNone then .ready else .done, pending := j, fn, tmps, params := ps, assign, body, defers := d }
def recB (fn : FuncId) (tmps : Array Value) (ps : Array Tmp) (assign body : Code) (d : Nat) : Loop := { state := .busy, pending := none, fn, tmps, params := ps, assign, body, defers := d }
def yieldV (l : Nat) : Value := .func (.yield l) #[] #[]
def MeetsY (P : Program) (l : Nat) (args : List Value) {β : Type} (k : Con β) : Prop :=
  ∀ w, WI (k.entry w) w k.hpI k.LI → ∃ f tmps assign body, (∀ d, (Instr.yield l args.toArray).run P (w.at d) = .ok (.round l f tmps assign body) (w.at d)) ∧ RoundB P l f tmps assign body w (k.post w)
section
variable {c : Cx} {Q : Exit → Act → World → Prop} {fr : Fr} {hp : Hp} {L : List Fact} {ops : Array Oper} {rest : List Oper}
variable {d : Tmp} {ty : TypeId} {pos : String} {af : Array Edge}
theorem hl_yield {l : Nat} {x : Operand} {aS9 : Array Operand} {ats : Array TypeId} {vs : List Value} {β : Type} {k : Con β} {hpR : Hp} (hd : Nat.blt d c.n = true) (hf : ev fr x = some (yieldV l)) (hx : aS9.toList.mapM (ev fr) = some vs)
    (hm : MeetsY c.P l vs k) (h1 : hp.Perm (k.hpI ++ hpR)) (h2 : LSub L k.LI) (kk : ∀ x, k.inv x → HL c ops Q rest ((d, k.val x) :: fr) (k.hpO x ++ hpR) (k.LO x ++ L)) :
    HL c ops Q (⟨some d, .call ⟨.value x, aS9, ats⟩, ty, pos, af, none⟩ :: rest) fr hp L := by
  intro a w ha hw; refine wpL_plain rfl fun K hK => ?_; have e1 : aS9.map a.eval = vs.toArray := by apply Array.ext'; simpa using evals ha _ _ hx
  have e2 : execOp a.eval (⟨some d, .call ⟨.value x, aS9, ats⟩, ty, pos, af, none⟩ : Oper) = Instr.yield l vs.toArray := by
    show ((do let dd ← resolve a.eval ⟨.value x, aS9, ats⟩ ty; invoke dd.target dd.args) : Sem Next) = _; have e3 : (#[] ++ vs.toArray ++ #[] : Array Value) = vs.toArray := by simp
    simp only [resolve, ha.ev hf, yieldV, e1, Deferred.ofValue]; show Instr.yield l (#[] ++ vs.toArray ++ #[]) = _; rw [e3]
  obtain ⟨f, tmps, assign, body, h3, h4⟩ := hm w (hw.entry h1 h2.mem); refine fun d0 => ⟨by rw [e2]; exact quiet_events QC.out _, ?_⟩; rw [e2, h3 d0]; refine RoundB.mono (R := (k.post w)) (fun c cs Goal hk => co_at (h4 c cs Goal hk) d0) fun v w' hp => ?_; obtain ⟨x, rfl, hi, hwi⟩ := hp; exact hK _ _ (kk x hi _ _ (ha.put (by simpa using hd) _) (hw.back h1 h2.mem hwi))
end
def setAll (ps : List (Tmp × Value)) (fr : Fr) : Fr := ps.foldl (fun fr p => p :: fr) fr
theorem setAll_ok : ∀ (ps : List (Tmp × Value)) (tmps : Array Value) (fr : Fr), (∀ p ∈ ps, p.1 < tmps.size) → (∀ t v, lk fr t = some v → tmps.getD t undef = v) →
    (ps.foldl (fun tmps p => tmps.setIfInBounds p.1 p.2) tmps).size = tmps.size ∧ ∀ t v, lk (setAll ps fr) t = some v → (ps.foldl (fun tmps p => tmps.setIfInBounds p.1 p.2) tmps).getD t undef = v
  | [], tmps, fr, _, h => ⟨rfl, h⟩
  | (p, u) :: ps, tmps, fr, hlt, h => by
    have h1 := setAll_ok ps (tmps.setIfInBounds p u) ((p, u) :: fr) (fun q hq => by simpa using hlt q (by simp [hq])) (fun t v hv => by
      rw [lk_cons] at hv; have hp : p < tmps.size := hlt (p, u) (by simp)
      by_cases e : p = t
      · subst e
        simp at hv
        subst hv
        simp [hp]
      · rw [if_neg e] at hv
        have := h t v hv
        simpa [Array.getElem?_setIfInBounds_ne e] using this)
    exact ⟨by simpa using h1.1, h1.2⟩
theorem WI.putObj {b : Bx} {w : World} {hp : Hp} {L : List Fact} {g : Nat} {o : Obj} (o' : Obj) (h : WI b w ((g, o) :: hp) L) : WI b (w.putObj g o') ((g, o') :: hp) L :=
  h.write ⟨rfl, rfl, rfl, by simp, fun k _ hn => World.putObj_heap_other (by simpa using hn), Nat.le_refl _⟩ (World.putObj_heap_same (lt_of_own (h.own (g, o) (by simp))))
section
variable {c : Cx} {fr : Fr} {hp : Hp} {L : List Fact} {fn : FuncId} {tmps : Array Value} {ps : Array Tmp} {assign body : Code} {d l : Nat} {β : Type} {k : Con β} {w0 : World}
theorem then_begin {Q : Exit → Act → World → Prop} {hp' : Hp} (hpp : hp.Perm ((l, .loop (recL fn tmps ps assign body d none)) :: hp')) (h : HC c body Q fr ((l, .loop (recB fn tmps ps assign body d)) :: hp') L) (n2 : nd body = true := by kernel_rfl) : HQ c (Exit.then (BeginQ c l body Q) (fun _ _ _ => False)) .normal fr hp L := by
  intro a w ha hw; have hw' := hw.perm hpp; have hl := hw'.own (l, .loop (recL fn tmps ps assign body d none)) (by simp); exact ⟨n2, _, fun d0 => run_beginRound (w := w.at d0) hl rfl, h a _ ha (hw'.putObj _)⟩
theorem rp_end {hp' : Hp} (x : β) (j : Option Code) (hpp : hp.Perm ((l, .loop (recB fn tmps ps assign body d)) :: hp')) (hb : c.b = k.entry w0) (hv : k.val x = .bool j.isNone) (hi : k.inv x) (h2 : (k.hpO x).Sublist ((l, .loop (recL fn tmps ps assign body d j)) :: hp')) (h3 : LSub L (k.LO x)) {a : Act} {w : World} (hw : WI c.b w hp L) :
    ∃ v w', (∀ d, (Instr.endRound l j).run c.P (w.at d) = .ok v (w'.at d)) ∧ (k.post w0) v w' := by
  have hw' := hw.perm hpp; have hl := hw'.own (l, .loop (recB fn tmps ps assign body d)) (by simp); exact ⟨_, _, fun d0 => run_endRound (w := w.at d0) j hl, x, by rw [hv], hi, hb ▸ (hw'.putObj _).weak h2 h3.mem⟩
theorem rp_n {hp' : Hp} (x : β) (hpp : hp.Perm ((l, .loop (recB fn tmps ps assign body d)) :: hp')) (hb : c.b = k.entry w0) (hv : k.val x = .bool true) (hi : k.inv x) (h2 : (k.hpO x).Sublist ((l, .loop (recL fn tmps ps assign body d none)) :: hp')) (h3 : LSub L (k.LO x)) : HQ c (roundPost c.P l (k.post w0)) .normal fr hp L :=
  fun a w _ hw => rp_end (a := a) x none hpp hb hv hi h2 h3 hw
theorem rp_ret {hp' : Hp} (x : β) (hpp : hp.Perm ((l, .loop (recB fn tmps ps assign body d)) :: hp')) (hb : c.b = k.entry w0) (hv : k.val x = .bool false) (hi : k.inv x) (h2 : (k.hpO x).Sublist ((l, .loop (recL fn tmps ps assign body d (some .ret))) :: hp')) (h3 : LSub L (k.LO x)) : HQ c (roundPost c.P l (k.post w0)) .ret fr hp L :=
  fun a w _ hw => rp_end (a := a) x (some .ret) hpp hb hv hi h2 h3 hw
end
theorem meetsY_intro {β : Type} {P : Program} {l n d : Nat} {args : List Value} {k : Con β} {fn : FuncId} {tmps : Array Value} {ps : Array Tmp} {assign body : Code} {fr : Fr} (hI : (l, Obj.loop (recL fn tmps ps assign body d none)) ∈ k.hpI)
    (hsz : tmps.size = n) (hfr : ∀ t v, lk fr t = some v → tmps.getD t undef = v) (hlen : args.length = ps.size) (hps : ∀ t ∈ ps, t < n)
    (h : ∀ w, HC ⟨P, n, k.entry w, [], some l⟩ assign (Exit.then (BeginQ ⟨P, n, k.entry w, [], some l⟩ l body (roundPost P l (k.post w))) (fun _ _ _ => False)) (setAll (ps.toList.zip args) fr) k.hpI k.LI) (n1 : nd assign = true := by kernel_rfl) : MeetsY P l args k := by
  intro w hw; have hl := hw.own _ hI; refine ⟨_, _, _, _, fun d0 => run_yield (w := w.at d0) hl (by simpa [recL] using hlen), ?_⟩
  have h1 := setAll_ok (ps.toList.zip args) tmps fr (fun p hp => by
    have := List.of_mem_zip hp; rw [hsz]
    exact hps _ (by simpa using this.1)) hfr
  have e : ((ps.zip args.toArray).foldl (fun tmps (x : Tmp × Value) => tmps.setIfInBounds x.1 x.2) tmps) = (ps.toList.zip args).foldl (fun tmps p => tmps.setIfInBounds p.1 p.2) tmps := by
    rw [← Array.foldl_toList]
    simp
  refine roundB_of (n := n) (bx := k.entry w) n1 ?_; refine h w _ w ⟨rfl, ?_, fun t v hv => ?_⟩ hw
  · exact (congrArg Array.size e).trans (h1.1.trans hsz)
  · have := h1.2 t v hv
    rw [← e] at this; exact this
/-! ### The statement -/
section
open Go.Conc
variable {P : Program} {main : Bool} {b : Frame} {a : Act} {k : List Item} {cs : List Frame} {w w' : World} {l : Nat} {v : Value} {c : Frame}
abbrev rangeCallB (g : Operand) (l : Nat) : Call := { callee := .value g, args := #[.const (.func (.yield l) #[] #[])], argTypes := #[] }
theorem sR_rangeFunc {g : Operand} {ps : Array Tmp} {assign body : Code} {mark : List Deferred} {w₁ : World} {f : FuncId} {args : Array Value} (hk : b.kind ≠ .early)
    (he : (Instr.enterLoop b.fn a.tmps ps assign body b.roundOf).run P w = .ok (l, mark) w₁)
    (hcall : ∀ ρ : Operand → Value, ρ = ({ a with defers := mark ++ a.defers } : Act).eval → (do let d ← resolve ρ (rangeCallB g l) 0; invoke d.target d.args : Sem Next) = callFunc f args) (hcb : Callable P f) :
    ∃ es, stepG P main (G (b.atR a (.code (.rangeFunc g ps assign body) :: k)) cs) w = .go (G (Frame.enter P f args .normal) (b.atR { a with defers := mark ++ a.defers } (.inRangeFunc l :: k) :: cs)) w₁ es ∧ ∀ e ∈ es, Calm e := by
  have hk' : (b.kind == CallKind.early) = false := by simpa using hk
  have hev := Frame.eval_atR b { a with defers := mark ++ a.defers } (.inRangeFunc l :: k); have hc := hcall _ hev; simp only [Frame.atR] at hc; refine ⟨seen P b.fn ((Instr.enterLoop b.fn a.tmps ps assign body b.roundOf).events P w #[]) ++ seen P b.fn ((callFunc f args).events P w₁ #[]), ?_, fun e hm => ?_⟩
  · simp [G, stepG, stepG.exec, Frame.atR, he, GStep.after, stepG.apply, hc, hcb.run, hk']
  · rcases Array.mem_append.1 hm with hm | hm
    · exact calm_seen (quiet_events QC.out _) e hm
    · rw [hcb.events, seen_none] at hm; simp at hm
theorem sR_endRangeFunc {jump : Option Code} (h : (Instr.endLoop l).run P w = .ok jump w') :
    stepG P main (G (b.atR a (.endRangeFunc l :: k)) cs) w = .go (G (b.atR a ((jump.map Item.code).toList ++ k)) cs) w' (seen P b.fn ((Instr.endLoop l).events P w #[])) := by
  simp [G, stepG, stepG.exec, Frame.atR, h, GStep.after]
theorem finR_inRangeFunc : (b.atR a (.inRangeFunc l :: k)).finish v = b.atR a (.endRangeFunc l :: k) := by simp [Frame.finish, Frame.atR]
theorem sG_collected {fr : Frame} {r : Nat} {ds : List Deferred} (hm : fr.mode = .returning) (hd : fr.defers = markOf r :: ds) (hr : (Instr.takeDeferred r).run P w = .ok [] w') :
    stepG P main (G fr cs) w = .go (G { fr with defers := ds } cs) w' (seen P fr.fn ((Instr.takeDeferred r).events P w #[])) := by
  simp [G, stepG, unwind, hm, hd, markOf, hr, GStep.after]
end
theorem hc_rangeFunc {P : Program} {n : Nat} {b : Bx} {D : List Deferred} {Q : Exit → Act → World → Prop} {fr : Fr} {hp hpR : Hp} {L : List Fact} {g : Operand} {ps : Array Tmp} {assign body : Code} {f : Nat} {cap : List Value} {β : Type}
    (R : Hp) (LI : List Fact) (inv : β → Prop) (val : β → Value) (pend : β → Option Code) (RO : β → Hp) (LO : β → List Fact)
    (hg : ev fr g = some (.func (.func f) #[] cap.toArray)) (hcb : Callable P f) (hpp : hp.Perm (R ++ hpR)) (hL : LSub L LI)
    (hm : ∀ l d fn tmps, tmps.size = n → (∀ t v, lk fr t = some v → tmps.getD t undef = v) →
      Meets P f (yieldV l :: cap) ({ hpI := (l, .loop (recL fn tmps ps assign body d none)) :: R, LI := LI, inv := inv, val := val, hpO := fun x => (l, .loop (recL fn tmps ps assign body d (pend x))) :: RO x, LO := LO } : Con β))
    (k1 : ∀ x d, inv x → pend x = none → HQ ⟨P, n, b, markOf d :: D, none⟩ Q .normal fr ((d, .deferred (some [])) :: (RO x ++ hpR)) (LO x ++ L))
    (k2 : ∀ x d j, inv x → pend x = some j → HC ⟨P, n, b, markOf d :: D, none⟩ j Q fr ((d, .deferred (some [])) :: (RO x ++ hpR)) (LO x ++ L)) :
    HC ⟨P, n, b, D, none⟩ (.rangeFunc g ps assign body) Q fr hp L := by
  intro a w ha hw b0 k cs Goal hk ho hc; have hro : b0.roundOf = none := ho.1; have hsz : a.tmps.size = n := ha.sz; have hwa := (hw.perm hpp).alloc (.deferred (some [])); have hwb := hwa.alloc (.loop (recL b0.fn a.tmps ps assign body w.heap.size none)); have hs1 : (w.alloc (.deferred (some []))).heap.size = w.heap.size + 1 := by simp
  rw [hs1] at hwb
  let W2 := (w.alloc (.deferred (some []))).alloc (.loop (recL b0.fn a.tmps ps assign body w.heap.size none))
  have hcall : ∀ ρ : Operand → Value, ρ = ({ a with defers := [markOf w.heap.size] ++ a.defers } : Act).eval → (do let d ← resolve ρ (rangeCallB g (w.heap.size + 1)) 0; invoke d.target d.args : Sem Next) = callFunc f (yieldV (w.heap.size + 1) :: cap).toArray := by
    rintro ρ rfl; have e1 : ({ a with defers := [markOf w.heap.size] ++ a.defers } : Act).eval g = .func (.func f) #[] cap.toArray := (show _ = a.eval g by cases g <;> rfl).trans (ha.ev hg); have e2 : ({ a with defers := [markOf w.heap.size] ++ a.defers } : Act).eval (.const (.func (.yield (w.heap.size + 1)) #[] #[])) = yieldV (w.heap.size + 1) := rfl; have e3 : (#[] ++ #[yieldV (w.heap.size + 1)] ++ cap.toArray : Array Value) = (yieldV (w.heap.size + 1) :: cap).toArray := by simp
    simp only [rangeCallB, resolve, e1, e2, Deferred.ofValue, List.map_toArray, List.map_cons, List.map_nil]; show callFunc f (#[] ++ #[yieldV (w.heap.size + 1)] ++ cap.toArray) = _; rw [e3]
  have hmm := hm (w.heap.size + 1) w.heap.size b0.fn a.tmps hsz ha.at_
  let kk : Con β := { hpI := (w.heap.size + 1, .loop (recL b0.fn a.tmps ps assign body w.heap.size none)) :: R, LI := LI, inv := inv, val := val, hpO := fun x => (w.heap.size + 1, .loop (recL b0.fn a.tmps ps assign body w.heap.size (pend x))) :: RO x, LO := LO }
  have hperm : ((w.heap.size + 1, Obj.loop (recL b0.fn a.tmps ps assign body w.heap.size none)) :: (w.heap.size, Obj.deferred (some [])) :: (R ++ hpR)).Perm (kk.hpI ++ ((w.heap.size, Obj.deferred (some [])) :: hpR)) := by
    refine perm_of fun p => ?_; simp only [kk, List.cons_append, List.countP_cons, List.countP_append]
    omega
  have hcb2 := hmm _ (WI.entry (k := kk) hwb hperm hL.mem)
  have goal2 : Co P (Go.Conc.G (Frame.enter P f (yieldV (w.heap.size + 1) :: cap).toArray .normal) (b0.atR { a with defers := [markOf w.heap.size] ++ a.defers } (.inRangeFunc (w.heap.size + 1) :: k) :: cs)) W2 Goal := by
    refine hcb2 _ _ fun fr' v w3 hfn hpo hl => ?_; refine co_leave hl ?_; rw [finR_inRangeFunc]; obtain ⟨x, rfl, hi, hwi⟩ := hpo; have hwi2 := WI.back (k := kk) (x := x) hwb hperm hL.mem hwi; have hlo := hwi2.own (w.heap.size + 1, .loop (recL b0.fn a.tmps ps assign body w.heap.size (pend x))) (by simp [kk])
    have hwi3 : WI b (w3.putObj (w.heap.size + 1) (.loop { recL b0.fn a.tmps ps assign body w.heap.size (pend x) with state := .exhausted })) ((w.heap.size, .deferred (some [])) :: (RO x ++ hpR)) (LO x ++ L) := by
      have h5 := WI.putObj (.loop { recL b0.fn a.tmps ps assign body w.heap.size (pend x) with state := .exhausted }) (by simpa [kk] using hwi2); refine (h5.weak (List.sublist_cons_self _ _) (fun _ h => h)).perm (perm_of fun p => ?_); simp only [List.countP_cons, List.countP_append]
      omega
    have hend : ∀ d0, (Instr.endLoop (w.heap.size + 1)).run P (w3.at d0) = .ok (pend x) _ := fun d0 => run_endLoop (w := w3.at d0) hlo (by show (if (pend x).isNone = true then LoopState.ready else LoopState.done) ≠ .busy; split <;> simp); refine co_step rfl fun d0 => ⟨_, (w3.putObj (w.heap.size + 1) (.loop { recL b0.fn a.tmps ps assign body w.heap.size (pend x) with state := .exhausted })).at d0, _, sR_endRangeFunc (hend d0), calm_seen (quiet_events QC.out _), co_at ?_ d0⟩; have hok : Ok ⟨P, n, b, markOf w.heap.size :: D, none⟩ { a with defers := [markOf w.heap.size] ++ a.defers } fr := ⟨by show markOf w.heap.size :: a.defers = _; rw [ha.d], ha.sz, ha.at_⟩
    cases hpx : pend x with
    | none =>
      rw [hpx] at hwi3; exact hc .normal _ _ (k1 x w.heap.size hi hpx _ _ hok hwi3)
    | some j =>
      rw [hpx] at hwi3; exact k2 x w.heap.size j hi hpx _ _ hok hwi3 b0 k cs Goal hk ⟨hro, .inl rfl⟩ hc
  refine co_step rfl fun d0 => ?_
  have he : (Instr.enterLoop b0.fn a.tmps ps assign body b0.roundOf).run P (w.at d0) = .ok (w.heap.size + 1, [markOf w.heap.size]) (W2.at d0) := by
    rw [hro]; exact run_enterLoop_outer (w := w.at d0) b0.fn a.tmps ps assign body
  obtain ⟨es, h1, h2⟩ := sR_rangeFunc (main := true) (b := b0) (a := a) (k := k) (cs := cs) hk he hcall hcb; exact ⟨_, _, es, h1, h2, co_at goal2 d0⟩
/-! ### Functions that leave with marks -/
def ShutR (P : Program) (fn : Func) (tmps : Array Value) (R : Value → World → Prop) : List Nat → World → Prop
  | [], w => ∃ v, (∀ d, (results fn tmps).run P (w.at d) = .ok v (w.at d)) ∧ R v w
  | r :: ds, w => ∃ w', (∀ d, (Instr.takeDeferred r).run P (w.at d) = .ok [] (w'.at d)) ∧ ShutR P fn tmps R ds w'
def postM (P : Program) (fn : Func) (R : Value → World → Prop) : Exit → Act → World → Prop
  | .normal, a, w | .ret, a, w => ∃ ds : List Nat, a.defers = ds.map markOf ∧ ShutR P fn a.tmps R ds w
  | _, _, _ => False
theorem shut_co {P : Program} {f : FuncId} {fn : Func} {R : Value → World → Prop} (hf : P.funcs[f]? = some fn) {cs : List Frame} {Goal : Goroutine → World → Prop} (hk : ∀ fr v w', fr.fn = f → R v w' → Lv P fr w' v → Co P (Go.Conc.G fr cs) w' Goal) :
    ∀ (ds : List Nat) (fr : Frame) (w : World), fr.fn = f → fr.mode = .returning → fr.kind = .normal → fr.defers = ds.map markOf → ShutR P fn fr.tmps R ds w → Co P (Go.Conc.G fr cs) w Goal
  | [], fr, w, h0, h1, h2, h3, ⟨v, hv, hR⟩ => hk fr v w h0 hR ⟨h1, h3, h2, fn, by rw [h0]; exact hf, hv⟩
  | r :: ds, fr, w, h0, h1, h2, h3, ⟨w', hr, hs⟩ =>
    co_step rfl fun d => ⟨_, _, _, sG_collected h1 h3 (hr d), calm_seen (quiet_events QC.out _), co_at (shut_co hf hk ds { fr with defers := ds.map markOf } w' h0 h1 h2 rfl hs) d⟩
theorem okArgsW {P : Program} {fn : Func} {bx : Bx} {args : List Value} (hn : args.length ≤ fn.ntmps) : Ok ⟨P, fn.ntmps, bx, [], none⟩ { tmps := args.toArray ++ Array.replicate (fn.ntmps - args.toArray.size) undef, defers := [] } (argFr 0 args) := by
  refine ⟨rfl, by simp; omega, fun t v hv => ?_⟩; obtain ⟨_, h2⟩ := lk_argFr args 0 t v hv; simp only [Nat.sub_zero] at h2
  have hlt : t < args.length := by
    rcases Nat.lt_or_ge t args.length with h' | h'
    · exact h'
    · rw [List.getElem?_eq_none h'] at h2; cases h2
  rw [List.getElem?_eq_getElem hlt] at h2
  injection h2 with h2
  simp [Array.getElem?_append, hlt, h2]
theorem meetsM_intro {β : Type} {P : Program} {f : Nat} {args : List Value} {k : Con β} {fn : Func} {code : Code} (hf : P.funcs[f]? = some fn) (hb : fn.body = some code) (hn : args.length ≤ fn.ntmps)
    (h : ∀ w, HC ⟨P, fn.ntmps, k.entry w, [], none⟩ code (postM P fn (k.post w)) (argFr 0 args) k.hpI k.LI) : Meets P f args k := by
  intro w hw cs Goal hk; rw [Go.Conc.enter_at args.toArray hf hb, ← Frame.atR_of_none (b := Go.Conc.base f) rfl]; refine h w _ w (okArgsW hn) hw (Go.Conc.base f) [] cs Goal (by simp [Go.Conc.base]) ⟨rfl, .inl rfl⟩ fun e a' w' hq => ?_
  cases e with
  | normal =>
    obtain ⟨ds, hd, hs⟩ := hq; exact co_ctl rfl (fun _ => Go.Conc.stepG_end) (shut_co hf hk ds _ w' rfl rfl rfl hd hs)
  | ret =>
    obtain ⟨ds, hd, hs⟩ := hq; exact fun k₁ => co_ctl rfl (fun _ => Go.Conc.stepG_ret') (shut_co hf hk ds _ w' rfl rfl rfl hd hs)
  | exit id => exact hq.elim
  | goto l => exact hq.elim
  | panic ch => exact hq.elim
  | outgrown => trivial
theorem leaves_marks {c : Cx} {β : Type} {k : Con β} {fn : Func} {w0 : World} {tmps : Array Value} {hp' : Hp} {L : List Fact} (x : β)
    (hr : ∀ w, WI c.b w hp' L → (results fn tmps).run c.P w = .ok (k.val x) w) (hb : c.b = k.entry w0) (hi : k.inv x) (h2 : (k.hpO x).Sublist hp') (h3 : LSub L (k.LO x)) :
    ∀ (ds : List Nat) (w : World), WI c.b w (shutM ds ++ hp') L → ShutR c.P fn tmps (k.post w0) ds w
  | [], w, hw => ⟨k.val x, fun d => hr _ (hw.at d), x, rfl, hi, hb ▸ hw.weak h2 h3.mem⟩
  | d :: ds, w, hw => by
    have hw' : WI c.b w ((d, Obj.deferred (some [])) :: (shutM ds ++ hp')) L := hw; have ho := hw'.own (d, Obj.deferred (some [])) (by simp); exact ⟨_, fun d0 => run_takeDeferred (w := w.at d0) ho, leaves_marks x hr hb hi h2 h3 ds _ ((hw'.putObj _).weak (List.sublist_cons_self _ _) fun _ h => h)⟩
theorem ret_marks {c : Cx} {fr : Fr} {hp hp' : Hp} {L : List Fact} {β : Type} {k : Con β} {fn : Func} {w0 : World} (ds : List Nat) (x : β) (hD : c.D = ds.map markOf) (hpp : hp.Perm (shutM ds ++ hp'))
    (hr : ∀ (a : Act) w, a.tmps.size = c.n → (∀ t v, lk fr t = some v → a.tmps.getD t undef = v) → WI c.b w hp' L → (results fn a.tmps).run c.P w = .ok (k.val x) w) (hb : c.b = k.entry w0) (hi : k.inv x) (h2 : (k.hpO x).Sublist hp') (h3 : LSub L (k.LO x)) :
    HQ c (postM c.P fn (k.post w0)) .ret fr hp L := fun a w ha hw =>
  ⟨ds, by rw [ha.d, hD], leaves_marks x (fun w hw => hr a w ha.sz ha.at_ hw) hb hi h2 h3 ds w (hw.perm hpp)⟩
end Go.W
end
section
namespace Go.W
open Go Go.RowKit
section
variable {c : Cx} {Q : Exit → Act → World → Prop} {fr : Fr} {hp : Hp} {L : List Fact} {ops : Array Oper} {rest : List Oper}
variable {α : Type} [El α]
abbrev innerF (ps : List (Sl α)) : Fact := Facts (ps.map fun p => Row p.a (rows p.l))
end
end Go.W
end
section
namespace Go.W
open Go Go.RowKit
def notI (dd : TypeDesc) : Bool := match dd with | .interface _ => false | _ => true
def NoI (P : Program) (t : TypeId) : Prop := ∃ dd, P.underlying t = some dd ∧ notI dd = true
section
variable {c : Cx} {Q : Exit → Act → World → Prop} {fr : Fr} {hp : Hp} {L : List Fact} {ops : Array Oper} {rest : List Oper}
variable {d : Tmp} {ty : TypeId} {pos : String} {af : Array Edge}
/-! ### Interfaces -/
/-! ### Three results -/
/-! ### Strings that are ranged over -/
abbrev iter (s : Str) (p : Nat) : Obj := .stringIter ⟨s.toArray⟩ p
def nextV (s : Str) (p : Nat) : Value := if p < s.length then .tuple #[.bool true, int p, .int .i32 ((Utf8.decode ⟨s.toArray⟩ p).1 : Nat)] else .tuple #[.bool false]
def nextP (s : Str) (p : Nat) : Nat := if p < s.length then p + (Utf8.decode ⟨s.toArray⟩ p).2 else p
end
/-! ### Small sets of bits -/
def u8 (m : Nat) : Value := .int .u8 (m : Int)
section
variable {c : Cx} {Q : Exit → Act → World → Prop} {fr : Fr} {hp : Hp} {L : List Fact} {ops : Array Oper} {rest : List Oper}
variable {d : Tmp} {ty : TypeId} {pos : String} {af : Array Edge}
def diff8 (a b : Nat) : Nat := a &&& (255 - b)
end
/-! ### Rows whose elements have facts of their own -/
def RowsF {α : Type} [El α] (A : Option Addr) (ps : List α) (f : α → Fact) : Fact where
  P w := (Row A (rows ps)).P w ∧ ∀ p ∈ ps, (f p).P w
  fp k := (Row A (rows ps)).fp k ∨ ∃ p ∈ ps, (f p).fp k
  st w w' h hP := ⟨(Row A (rows ps)).st w w' (fun k hk => h k (.inl hk)) hP.1, fun p hp => (f p).st w w' (fun k hk => h k (.inr ⟨p, hp, hk⟩)) (hP.2 p hp)⟩
  lt w hP k hk := by
    rcases hk with hk | ⟨p, hp, hk⟩
    · exact (Row A (rows ps)).lt w hP.1 k hk
    · exact (f p).lt w (hP.2 p hp) k hk
section
variable {c : Cx} {Q : Exit → Act → World → Prop} {fr : Fr} {hp : Hp} {L : List Fact} {ops : Array Oper} {rest : List Oper}
variable {α : Type} [El α] {A : Option Addr} {ps : List α} {f : α → Fact}
abbrev innersF (ps : List α) (f : α → Fact) : Fact := Facts (ps.map f)
end
end Go.W
end
section
namespace Go.W
open Go Go.RowKit
section
variable {c : Cx} {Q : Exit → Act → World → Prop} {fr : Fr} {hp : Hp} {L : List Fact} {ops : Array Oper} {rest : List Oper}
variable {d : Tmp} {ty : TypeId} {pos : String} {af : Array Edge}
theorem r_indexArr {t e : TypeId} {x i : Operand} {g o n sz : Nat} {kd : IntKind} {z : Int} (j q : Nat) (hd : Nat.blt d c.n = true) (ht : c.P.underlying t = some (.array n e)) (hz : Sz c.P e sz)
    (hx : ev fr x = some (.pointer (some ⟨g, o, none⟩))) (hi : ev fr i = some (.int kd z)) (hjz : z = (j : Int)) (hj : j < n) (hq : o + j * sz = q)
    (k : HL c ops Q rest ((d, .pointer (some ⟨g, q, none⟩)) :: fr) hp L) : HL c ops Q (⟨some d, .indexAddr t x i, ty, pos, af, none⟩ :: rest) fr hp L :=
  hl_val _ rfl rfl hd (fun a w ha hw => by
    subst hjz
    have hr : (Instr.indexAt t (.pointer (some ⟨g, o, none⟩)) (.int kd (j : Int))).run c.P w = .ok (.pointer (some ⟨g, q, none⟩)) w := by
      subst hq
      simp [Instr.indexAt, asIntOf, run_underlying ht, size_of hz, hj, Instr.sureAddr, add_mk]
    simp only [execOp, ha.ev hx, ha.ev hi, Sem.run_bind, hr, Result.andThen_ok, Sem.run_pure]) k
/-! ### Loops that leave marks -/
def AgainM {β : Type} (s : Sta β) (ds : β → List Nat) (μ : β → Nat) (m : Nat) (P : Program) (n : Nat) (b : Bx) (a : Act) (w : World) : Prop := ∃ y, s.inv y ∧ μ y < m ∧ Ok ⟨P, n, b, (ds y).map markOf, none⟩ a (s.fr y) ∧ WI b w (shutM (ds y) ++ s.hp y) (s.L y)
end
end Go.W
end
section
namespace Go.W
open Go Go.RowKit Go.Conc
section
/-! ### The words of a walk that communicates: the same aS9 of any other -/
def kw (c : Cx) (x : Code) (Q : Exit → Act → World → Prop) : Act → World → Prop := cw c x Q
def KC (c : Cx) (x : Code) (Q : Exit → Act → World → Prop) (fr : Fr) (hp : Hp) (L : List Fact) : Prop := HC c x Q fr hp L
def KL (c : Cx) (ops : Array Oper) (Q : Exit → Act → World → Prop) (l : List Nat) (fr : Fr) (hp : Hp) (L : List Fact) : Prop := ∀ a w, Ok c a fr → WI c.b w hp L → wpI c.P ops Q l a w
variable {c : Cx} {Q : Exit → Act → World → Prop} {fr : Fr} {hp : Hp} {L : List Fact} {ops : Array Oper}
variable {i : Nat} {rest : List Nat} {d : Tmp} {ty : TypeId} {pos : String} {af : Array Edge}
abbrev chanO (cap : Nat) (buf : List Value) (s r : Nat) : Obj := .chan cap buf.toArray false s r false
end
section
variable {c : Cx} {Q : Exit → Act → World → Prop} {fr : Fr} {hp : Hp} {L : List Fact} {ops : Array Oper} {rest : List Oper}
variable {d : Tmp} {ty : TypeId} {pos : String} {af : Array Edge}
end
/-! ### Slices that grow from nothing, whose cells are written -/
section
def GrowE (e : TypeId) (sz : Nat) (A : Option Addr) (n cap : Nat) (xs : List Value) (og : Hp) : Prop := Grow e sz A n cap xs og ∨ (n = 0 ∧ cap = 0 ∧ xs = [] ∧ og = [])
theorem GrowE.grow {e : TypeId} {sz n cap : Nat} {A : Option Addr} {xs : List Value} {og : Hp} (h : GrowE e sz A n cap xs og) (hn : 0 < n) : Grow e sz A n cap xs og := by
  rcases h with h | ⟨h, _⟩
  · exact h
  · omega
theorem GrowE.le {e : TypeId} {sz n cap : Nat} {A : Option Addr} {xs : List Value} {og : Hp} (h : GrowE e sz A n cap xs og) : n ≤ cap := by
  rcases h with h | ⟨h, h2, _⟩
  · exact h.le
  · omega
theorem GrowE.blk {e : TypeId} {sz n cap : Nat} {A : Option Addr} {xs : List Value} {og : Hp} (h : GrowE e sz A n cap xs og) (hn : 0 < n) : ∃ g cur, A = some ⟨g, 0, none⟩ ∧ og = [(g, .cells cur e (0, 0))] ∧ n ≤ cap ∧ cap ≤ maxLen ∧ cur.size = cap * sz ∧ cur.toList.take (n * sz) = xs := by
  rcases (h.grow hn).2 with ⟨_, h1, _⟩ | h1
  · omega
  · exact h1
variable {c : Cx} {Q : Exit → Act → World → Prop} {fr : Fr} {hp : Hp} {L : List Fact} {ops : Array Oper} {rest : List Oper}
variable {d : Tmp} {ty : TypeId} {pos : String} {af : Array Edge}
/-! ### Cells of rows that are written -/
end
section
variable {c : Cx} {Q : Exit → Act → World → Prop} {fr : Fr} {hp : Hp} {L : List Fact} {ops : Array Oper} {rest : List Oper} {ty : TypeId} {pos : String} {af : Array Edge}
end
end Go.W
end
section
namespace Go.W
open Go Go.Conc
set_option maxRecDepth 4000
def Dry {α : Type} : Sem α → Prop
  | .pure _ => True
  | .load _ _ _ => False
  | .store _ _ _ _ => False
  | .new _ k => ∀ r, Dry (k r)
  | .shape _ k => ∀ s, Dry (k s)
  | .freeze _ _ k => Dry k
  | .frozen _ k => ∀ b, Dry (k b)
  | .getObj _ _ => False
  | .setObj _ _ _ => False
  | .choose _ k => ∀ n, Dry (k n)
  | .sys _ _ => False
  | .program k => ∀ p, Dry (k p)
  | .mark _ _ => False
  | .halt _ => True
theorem dry_runT {α : Type} {P : Program} (s : Sem α) : Dry s → ∀ (w : World) (es : Array Event), (s.runT P w es).2 = es := by
  induction s with
  | pure a => intro _ w es; rfl
  | load m a k ih => intro h; exact h.elim
  | store m a v k ih => intro h; exact h.elim
  | new o k ih => intro hq w es; exact ih _ (hq _) _ _
  | shape r k ih => intro hq w es; exact ih _ (hq _) _ _
  | freeze a n k ih => intro hq w es; exact ih hq _ _
  | frozen a k ih => intro hq w es; exact ih _ (hq _) _ _
  | getObj r k ih => intro h; exact h.elim
  | setObj r o k ih => intro h; exact h.elim
  | choose q k ih =>
    intro hq w es; simp only [Sem.runT]
    split
    · exact ih _ (hq _) _ _
    · exact ih _ (hq _) _ _
  | sys c k ih => intro h; exact h.elim
  | program k ih => intro hq w es; exact ih _ (hq _) _ _
  | mark m k ih => intro h; exact h.elim
  | halt h => intro _ w es; rfl
theorem dry_events {α : Type} {P : Program} {s : Sem α} (h : Dry s) (w : World) (es : Array Event) : s.events P w es = es := dry_runT s h w es
theorem dry_bind {α β : Type} {s : Sem α} {f : α → Sem β} (hs : Dry s) (hf : ∀ a, Dry (f a)) : Dry (s >>= f) := by
  show Dry (s.bind f)
  induction s with
  | pure a => exact hf a
  | load m a k ih => exact hs.elim
  | store m a v k ih => exact hs.elim
  | new o k ih => exact fun v => ih v (hs v)
  | shape r k ih => exact fun v => ih v (hs v)
  | freeze a n k ih => exact ih hs
  | frozen a k ih => exact fun v => ih v (hs v)
  | getObj r k ih => exact hs.elim
  | setObj r o k ih => exact hs.elim
  | choose q k ih => exact fun v => ih v (hs v)
  | sys c k ih => exact hs.elim
  | program k ih => exact fun v => ih v (hs v)
  | mark m k ih => exact hs.elim
  | halt h => trivial
theorem dry_map {α β : Type} {f : α → β} {s : Sem α} (h : Dry s) : Dry (f <$> s) := dry_bind h fun _ => trivial
theorem dry_ite {α : Type} {c : Prop} [Decidable c] {s t : Sem α} (hs : Dry s) (ht : Dry t) : Dry (if c then s else t) := by
  split
  · exact hs
  · exact ht
theorem dry_forL {α β : Type} {f : α → β → Sem (ForInStep β)} (hf : ∀ a b, Dry (f a b)) : ∀ (l : List α) (b : β), Dry (forIn l b f)
  | [], b => by rw [List.forIn_nil]; trivial
  | a :: l, b => by
    rw [List.forIn_cons]; refine dry_bind (hf a b) fun r => ?_
    cases r with
    | done b => trivial
    | yield b => exact dry_forL hf l b
theorem dry_forA {α β : Type} {f : α → β → Sem (ForInStep β)} (hf : ∀ a b, Dry (f a b)) (l : Array α) (b : β) : Dry (forIn l b f) := by
  rw [← Array.forIn_toList]; exact dry_forL hf _ _
class DC {α : Type} (s : Sem α) : Prop where
  out : Dry s
theorem d_auto {α : Type} {s : Sem α} (h : Dry s := by repeat' (first | exact trivial | assumption | exact fun _ => trivial | exact DC.out | refine dry_ite ?_ ?_ | refine dry_bind ?_ fun _ => ?_ | refine dry_map ?_ | refine dry_forL (fun _ _ => ?_) _ _ | refine dry_forA (fun _ _ => ?_) _ _ | (intro _; done) | split | (show Dry _; dsimp only))) : Dry s := h
instance {α : Type} (s : String) : DC (stuck s : Sem α) := ⟨trivial⟩
instance {α : Type} (s : Unsupported) : DC (unsupported s : Sem α) := ⟨trivial⟩
instance {α : Type} (v : Value) : DC (goPanic v : Sem α) := ⟨trivial⟩
instance : DC program := ⟨fun _ => trivial⟩
instance (o : Obj) : DC (newObj o) := ⟨fun _ => trivial⟩
instance (t : TypeId) : DC (typeInfo t) := ⟨by unfold typeInfo; exact d_auto⟩
instance (t : TypeId) : DC (underlying t) := ⟨by unfold underlying; exact d_auto⟩
instance (t : TypeId) : DC (sizeOf t) := ⟨by unfold sizeOf; exact d_auto⟩
instance (t : TypeId) : DC (isAgg t) := ⟨by unfold isAgg; exact d_auto⟩
instance (t : TypeId) : DC (zeroValue t) := ⟨by unfold zeroValue; exact d_auto⟩
instance (r : Nat) : DC (shape r) := ⟨fun _ => trivial⟩
instance (e : TypeId) (cs : Array Value) : DC (newRow e cs) := ⟨by unfold newRow; exact d_auto⟩
instance (e : TypeId) (v : Value) : DC (newVar e v) := ⟨by unfold newVar; exact d_auto⟩
instance (t : TypeId) : DC (elemOf t) := ⟨by unfold elemOf; exact d_auto⟩
instance (q : Question) : DC (choose q) := ⟨fun _ => trivial⟩
instance {α : Type} (e : RuntimeError) : DC (runtimePanic e : Sem α) := ⟨by
  unfold runtimePanic; refine dry_bind (fun _ => trivial) fun p => ?_
  cases e <;> exact d_auto⟩
instance (v : Value) : DC (asIntOf v) := ⟨by unfold asIntOf; exact d_auto⟩
instance (v : Value) : DC (asBool v) := ⟨by unfold asBool; exact d_auto⟩
instance (v : Value) : DC (asAddr v) := ⟨by unfold asAddr; exact d_auto⟩
instance {α : Type} (k : IntKind) (x y : Int) (c : BoundsCode) : DC (boundsPanic k x y c : Sem α) := ⟨by unfold boundsPanic; exact d_auto⟩
instance (v : Value) : DC (Instr.sureAddr v) := ⟨by unfold Instr.sureAddr; exact d_auto⟩
instance (t : TypeId) (v x : Value) : DC (Instr.indexAt t v x) := ⟨by unfold Instr.indexAt; exact d_auto⟩
instance (f : Fn) (x y : Array Value) : DC (Instr.makeFunc f x y) := ⟨by unfold Instr.makeFunc; exact d_auto⟩
/-! ### What may stand for one of them, or for goroutine 0 -/
structure TX where
  p : Dh
  ro : Hq
  main : Bool
  T : Nat → Frame → List Frame → Hq → Prop
  lift : ∀ B fr cs hp, (∀ w, Sur p w → Held hp w → Held ro w → ∃ fr' cs' w' es hp', stepG p.P main (G fr cs) w = .go (G fr' cs') w' es ∧ (∀ e ∈ es, EvIn p ro hp e) ∧ Trn w w' hp hp' ∧ T B fr' cs' hp') → T (B + 1) fr cs hp
  mono : ∀ B fr cs hp, T B fr cs hp → T (B + 1) fr cs hp
theorem quitsD_mono {P : Program} : ∀ {n d : Nat} {g : Goroutine}, QuitsD P n d g → QuitsD P (n + 1) d g
  | 0, d, g, h => .inl h
  | n + 1, d, g, h => h.elim .inl fun ⟨h1, g', es, h2, h3, h4⟩ => .inr ⟨h1, g', es, h2, h3, quitsD_mono h4⟩
theorem quitsD_more {P : Program} {n m d : Nat} {g : Goroutine} (h : QuitsD P n d g) (hm : n ≤ m) : QuitsD P m d g := by
  induction hm with
  | refl => exact h
  | step _ ih => exact quitsD_mono ih
theorem folS_mono {p : Dh} {j c : Nat} {ro : Hq} : ∀ {B i : Nat} {fr : Frame} {cs : List Frame} {hp : Hq}, FolS p j c ro B i fr cs hp → FolS p j c ro (B + 1) i fr cs hp
  | 0, _, _, _, _, h => h.elim
  | B + 1, i, fr, cs, hp, h => fun w he hh hr0 => by
    rcases h w he hh hr0 with ⟨fr', cs', w', es, hp', h1, h2, h3, h4⟩ | ⟨h0, zz, h1, h2⟩ | ⟨h0, h00, fr', cs', h1, h2⟩
    · exact .inl ⟨fr', cs', w', es, hp', h1, h2, h3, folS_mono h4⟩
    · exact .inr (.inl ⟨h0, zz, h1, folS_mono h2⟩)
    · exact .inr (.inr ⟨h0, h00, fr', cs', h1, quitsD_mono h2⟩)
theorem folM_mono {p : Dh} {Goal : Goroutine → World → Prop} : ∀ {B : Nat} {ms : Ms} {ro : Hq} {fr : Frame} {cs : List Frame} {hp : Hq}, FolM p Goal B ms ro fr cs hp → FolM p Goal (B + 1) ms ro fr cs hp
  | 0, _, _, _, _, _, h => h.elim
  | B + 1, ms, ro, fr, cs, hp, h => fun w he hh hr0 => by
    rcases h w he hh hr0 with ⟨fr', cs', w', es, hp', h1, h2, h3, h4⟩ | hc
    · exact .inl ⟨fr', cs', w', es, hp', h1, h2, h3, folM_mono h4⟩
    · refine .inr ?_
      cases ms with
      | s0 =>
        obtain ⟨fr', cs', fc, c, tm, r1, h2, a0, a1, a2, a3, a4, a5, a6, a7, a8⟩ := hc; exact ⟨fr', cs', fc, c, tm, r1, h2, a0, a1, a2, a3, a4, a5, a6, a7, folM_mono a8⟩
      | s1 c0 =>
        obtain ⟨fr', cs', fc, c, tm, r1, h2, a0, a1, a2, a3, a4, a5, a6, a7, a8⟩ := hc; exact ⟨fr', cs', fc, c, tm, r1, h2, a0, a1, a2, a3, a4, a5, a6, a7, folM_mono a8⟩
      | ga c d i j a b =>
        obtain ⟨h1, h2, h3, h4, h5, h6, h7⟩ := hc; exact ⟨h1, fun x y => folM_mono (h2 x y), fun x y => folM_mono (h3 x y), fun x y z => folM_mono (h4 x y z), fun x y z => folM_mono (h5 x y z), h6, h7⟩
def TX.folS (p : Dh) (j c : Nat) (ro : Hq) (i : Nat) : TX := ⟨p, ro, false, fun B fr cs hp => FolS p j c ro B i fr cs hp, fun _ _ _ _ h w he hh hr0 => .inl (h w he hh hr0), fun _ _ _ _ => folS_mono⟩
def TX.folM (p : Dh) (Goal : Goroutine → World → Prop) (ms : Ms) (ro : Hq) : TX := ⟨p, ro, true, fun B fr cs hp => FolM p Goal B ms ro fr cs hp, fun _ _ _ _ h w he hh hr0 => .inl (h w he hh hr0), fun _ _ _ _ => folM_mono⟩
def TC (X : TX) (c : Cx) (b : Frame) (cs : List Frame) (n : Nat) (ks : List Item) (fr : Fr) (hp : Hq) : Prop := ∀ a, Ok c a fr → X.T n (b.at a ks) cs hp
section
variable {X : TX} {c : Cx} {b : Frame} {cs : List Frame} {n : Nat} {k : List Item} {fr : Fr} {hp : Hq} {ops : Array Oper} {i : Nat} {rest : List Nat}
variable {d : Tmp} {ty : TypeId} {pos : String} {af : Array Edge}
theorem TX.more (X : TX) {B B' : Nat} {fr : Frame} {cs : List Frame} {hp : Hq} (h : X.T B fr cs hp) (hB : B ≤ B') : X.T B' fr cs hp := by
  induction hB with
  | refl => exact h
  | step _ ih => exact X.mono _ _ _ _ ih
theorem tc_more {m : Nat} (hm : m ≤ n) (h : TC X c b cs m k fr hp) : TC X c b cs n k fr hp := fun a ha => X.more (h a ha) hm
theorem tc_sub {fr' : Fr} (hs : FrSub fr fr') (h : TC X c b cs n k fr' hp) : TC X c b cs n k fr hp := fun a ha => h a (ha.sub hs)
theorem trn_refl {w : World} (h : Held hp w) : Trn w w hp hp := ⟨rfl, rfl, rfl, Nat.le_refl _, fun _ _ _ => rfl, h, fun q hq => .inl ⟨q, hq, rfl⟩⟩
theorem trn_less {w : World} {hp' : Hq} (h : Held hp w) (hs : ∀ q ∈ hp', q ∈ hp) : Trn w w hp hp' := ⟨rfl, rfl, rfl, Nat.le_refl _, fun _ _ _ => rfl, fun q hq => h q (hs q hq), fun q hq => .inl ⟨q, hs q hq, rfl⟩⟩
theorem t_ctl {B : Nat} {f f' : Frame} {cs' : List Frame} (h : ∀ w, stepG X.p.P X.main (G f cs) w = .go (G f' cs') w) (k : X.T B f' cs' hp) : X.T (B + 1) f cs hp :=
  X.lift _ _ _ _ fun w he hh hr0 => ⟨f', cs', w, #[], hp, h w, by simp, trn_refl hh, k⟩
theorem tc_ctl {k' : List Item} (h : ∀ a w, stepG X.p.P X.main (G (b.at a k) cs) w = .go (G (b.at a k') cs) w) (kk : TC X c b cs n k' fr hp) : TC X c b cs (n + 1) k fr hp := fun a ha => t_ctl (fun w => h a w) (kk a ha)
theorem tc_seq {x y : Code} (kk : TC X c b cs n (.code x :: .code y :: k) fr hp) : TC X c b cs (n + 1) (.code (.seq x y) :: k) fr hp := tc_ctl (fun _ _ => stepG_seq) kk
theorem tc_skip (kk : TC X c b cs n k fr hp) : TC X c b cs (n + 1) (.code .skip :: k) fr hp := tc_ctl (fun _ _ => stepG_skip) kk
theorem tc_block {id : Nat} {x : Code} (kk : TC X c b cs n (.code x :: .inBlock id :: k) fr hp) : TC X c b cs (n + 1) (.code (.block id x) :: k) fr hp := tc_ctl (fun _ _ => stepG_block) kk
theorem tc_inBlock {id : Nat} (kk : TC X c b cs n k fr hp) : TC X c b cs (n + 1) (.inBlock id :: k) fr hp := tc_ctl (fun _ _ => stepG_inBlock) kk
theorem tc_loop {x : Code} (kk : TC X c b cs n (.code x :: .inLoop x :: k) fr hp) : TC X c b cs (n + 1) (.code (.loop x) :: k) fr hp := tc_ctl (fun _ _ => stepG_loop) kk
theorem tc_inLoop {x : Code} (kk : TC X c b cs n (.code x :: .inLoop x :: k) fr hp) : TC X c b cs (n + 1) (.inLoop x :: k) fr hp := tc_ctl (fun _ _ => stepG_inLoop) kk
theorem tc_exit {id : Nat} (k' : List Item) (h : exitTo id k = some k') (kk : TC X c b cs n k' fr hp) : TC X c b cs (n + 1) (.code (.exit id) :: k) fr hp := tc_ctl (fun _ _ => stepG_exit h) kk
theorem tc_cond {x : Operand} {y z : Code} (t : Bool) (hx : ev fr x = some (.bool t)) (kk : TC X c b cs n (.code (if t then y else z) :: k) fr hp) : TC X c b cs (n + 1) (.code (.cond x y z) :: k) fr hp :=
  fun a ha => t_ctl (fun _ => stepG_cond (ha.ev hx)) (kk a ha)
theorem tc_region {id : Nat} {l : List Oper} (kk : TC X c b cs n (.inRegion l.toArray (List.range l.length) :: k) fr hp) : TC X c b cs (n + 1) (.code (.region id l.toArray false) :: k) fr hp := tc_ctl (fun _ _ => stepG_region) (by simpa using kk)
theorem tc_nil (kk : TC X c b cs n k fr hp) : TC X c b cs (n + 1) (.inRegion ops [] :: k) fr hp := tc_ctl (fun _ _ => stepG_region_end) kk
/-! ### Operations -/
theorem mem_listed {P : Program} {fn : FuncId} {a : Act} {o : Oper} {w : World} {e : Event} (h : e ∈ listed P fn a o w) : e ∈ (execOp a.eval o).events P w #[] := by
  unfold listed at h; rw [seen_def] at h
  rcases seen_fold_sub _ _ _ _ _ h with h1 | h1
  · simp at h1
  · simpa using h1
def EvsIn (X : TX) (hp : Hq) (a : Act) (o : Oper) (w : World) : Prop := ∀ e ∈ (execOp a.eval o).events X.p.P w #[], EvIn X.p X.ro hp e
theorem evsIn_none {a : Act} {o : Oper} {w : World} (h : (execOp a.eval o).events X.p.P w #[] = #[]) : EvsIn X hp a o w := fun e he => by rw [h] at he; simp at he
theorem tc_op {o : Oper} (ho : ops[i]? = some o) (hg : o.guard = none) (hk : b.kind ≠ .early)
    (h : ∀ a, Ok c a fr → ∀ w, Sur X.p w → Held hp w → Held X.ro w → ∃ v w' hp', (execOp a.eval o).run X.p.P w = .ok (.value v) w' ∧ EvsIn X hp a o w ∧ Trn w w' hp hp' ∧ X.T n (b.at (a.put o.dst v) (.inRegion ops rest :: k)) cs hp') :
    TC X c b cs (n + 1) (.inRegion ops (i :: rest) :: k) fr hp := fun a ha => X.lift _ _ _ _ fun w he hh hr0 => by
  obtain ⟨v, w', hp', h1, h2, h3, h4⟩ := h a ha w he hh hr0; exact ⟨_, _, w', _, hp', stepG_value ho (by simp [Region.wanted, hg]) hk h1, fun e he' => h2 e (mem_listed he'), h3, h4⟩
theorem tc_opU {o : Oper} (ho : ops[i]? = some o) (hg : o.guard = none) (hd : o.dst = none) (hk : b.kind ≠ .early)
    (h : ∀ a, Ok c a fr → ∀ w, Sur X.p w → Held hp w → Held X.ro w → ∃ w' hp', (execOp a.eval o).run X.p.P w = .ok .skip w' ∧ EvsIn X hp a o w ∧ Trn w w' hp hp' ∧ X.T n (b.at a (.inRegion ops rest :: k)) cs hp') :
    TC X c b cs (n + 1) (.inRegion ops (i :: rest) :: k) fr hp := fun a ha => X.lift _ _ _ _ fun w he hh hr0 => by
  obtain ⟨w', hp', h1, h2, h3, h4⟩ := h a ha w he hh hr0; refine ⟨_, _, w', _, hp', stepG_none ho (by simp [Region.wanted, hg]) hk h1, fun e he' => h2 e (mem_listed he'), h3, ?_⟩; rw [hd]; exact h4
theorem tc_val {o : Oper} (v : Value) (ho : ops[i]? = some o) (hdst : o.dst = some d) (hg : o.guard = none) (hd : Nat.blt d c.n = true) (hk : b.kind ≠ .early)
    (hrun : ∀ a w, Ok c a fr → Sur X.p w → Held hp w → Held X.ro w → (execOp a.eval o).run X.p.P w = .ok (.value v) w ∧ EvsIn X hp a o w)
    (kk : TC X c b cs n (.inRegion ops rest :: k) ((d, v) :: fr) hp) : TC X c b cs (n + 1) (.inRegion ops (i :: rest) :: k) fr hp :=
  tc_op ho hg hk fun a ha w he hh hr0 => ⟨v, w, hp, (hrun a w ha he hh hr0).1, (hrun a w ha he hh hr0).2, trn_refl hh, by rw [hdst]; exact kk _ (ha.put (by simpa using hd) v)⟩
theorem tr_move {x : Operand} {v : Value} (ho : ops[i]? = some ⟨some d, .move x, ty, pos, af, none⟩) (hd : Nat.blt d c.n = true) (hk : b.kind ≠ .early) (hx : ev fr x = some v)
    (kk : TC X c b cs n (.inRegion ops rest :: k) ((d, v) :: fr) hp) : TC X c b cs (n + 1) (.inRegion ops (i :: rest) :: k) fr hp :=
  tc_val v ho rfl rfl hd hk (fun a w ha _ _ _ => ⟨by simp only [execOp, ha.ev hx]; rfl, evsIn_none rfl⟩) kk
theorem tr_assign {x : Operand} {v : Value} (ho : ops[i]? = some ⟨some d, .assign x, ty, pos, af, none⟩) (hd : Nat.blt d c.n = true) (hk : b.kind ≠ .early) (hx : ev fr x = some v)
    (kk : TC X c b cs n (.inRegion ops rest :: k) ((d, v) :: fr) hp) : TC X c b cs (n + 1) (.inRegion ops (i :: rest) :: k) fr hp :=
  tc_val v ho rfl rfl hd hk (fun a w ha _ _ _ => ⟨by simp only [execOp, ha.ev hx]; rfl, evsIn_none rfl⟩) kk
theorem tr_extract {x : Operand} {vs : Array Value} {j : Nat} {v : Value} (ho : ops[i]? = some ⟨some d, .extract x j, ty, pos, af, none⟩) (hd : Nat.blt d c.n = true) (hk : b.kind ≠ .early) (hx : ev fr x = some (.tuple vs)) (hv : vs[j]? = some v)
    (kk : TC X c b cs n (.inRegion ops rest :: k) ((d, v) :: fr) hp) : TC X c b cs (n + 1) (.inRegion ops (i :: rest) :: k) fr hp :=
  tc_val v ho rfl rfl hd hk (fun a w ha _ _ _ => ⟨by simp [execOp, ha.ev hx, Instr.extract, hv], evsIn_none (by simp [execOp, ha.ev hx, Instr.extract, hv])⟩) kk
theorem tr_fieldAddr {s : TypeId} {f : Nat} {x : Operand} {ad : Addr} {off : Nat} (q : Addr) (ho : ops[i]? = some ⟨some d, .fieldAddr s x f, ty, pos, af, none⟩) (hd : Nat.blt d c.n = true) (hk : b.kind ≠ .early) (hx : ev fr x = some (.pointer (some ad)))
    (hrun : ∀ p w, (Instr.fieldAt s (.pointer (some p)) f).run X.p.P w = .ok (.pointer (some (p.add off))) w) (hev : ∀ p w es, (Instr.fieldAt s (.pointer (some p)) f).events X.p.P w es = es) (hq : ad.add off = q)
    (kk : TC X c b cs n (.inRegion ops rest :: k) ((d, .pointer (some q)) :: fr) hp) : TC X c b cs (n + 1) (.inRegion ops (i :: rest) :: k) fr hp :=
  tc_val _ ho rfl rfl hd hk (fun a w ha _ _ _ => ⟨by simp only [execOp, ha.ev hx, Sem.run_bind, hrun, Result.andThen_ok, Sem.run_pure, hq], evsIn_none (by simp [execOp, ha.ev hx, hrun, hev])⟩) kk
theorem tr_build {t : TypeId} {parts : Array (Nat × Operand)} {v : Value} (vs : List (Nat × Value)) (ho : ops[i]? = some ⟨some d, .build t parts, ty, pos, af, none⟩) (hd : Nat.blt d c.n = true) (hk : b.kind ≠ .early) (hx : parts.toList.mapM (fun p => (ev fr p.2).map (p.1, ·)) = some vs)
    (hrun : ∀ w, (Instr.build t vs.toArray).run X.p.P w = .ok v w) (hev : ∀ w es, (Instr.build t vs.toArray).events X.p.P w es = es)
    (kk : TC X c b cs n (.inRegion ops rest :: k) ((d, v) :: fr) hp) : TC X c b cs (n + 1) (.inRegion ops (i :: rest) :: k) fr hp := by
  have key : ∀ (a : Act), Ok c a fr → (parts.map fun (i, x) => (i, a.eval x)) = vs.toArray := by
    intro a ha
    have key : ∀ (xs : List (Nat × Operand)) (vs : List (Nat × Value)), xs.mapM (fun p => (ev fr p.2).map (p.1, ·)) = some vs → xs.map (fun p => (p.1, a.eval p.2)) = vs := by
      intro xs
      induction xs with
      | nil => intro vs h; simpa using h
      | cons x xs ih =>
        intro vs h; simp only [List.mapM_cons, Option.bind_eq_bind, Option.bind_eq_some_iff, Option.pure_def, Option.some.injEq, Option.map_eq_some_iff] at h; obtain ⟨v, ⟨u, hu, rfl⟩, us, hus, rfl⟩ := h; rw [List.map_cons, ha.ev hu, ih us hus]
    apply Array.ext'; simpa using key _ _ hx
  exact tc_val v ho rfl rfl hd hk (fun a w ha _ _ _ => ⟨by simp only [execOp, key a ha, Sem.run_bind, hrun, Result.andThen_ok, Sem.run_pure], evsIn_none (by simp only [execOp, key a ha]; simp [hrun, hev])⟩) kk
theorem tr_makeFunc {fn : Fn} {first cap : Array Operand} {v1 v2 : List Value} (ho : ops[i]? = some ⟨some d, .makeFunc fn first cap, ty, pos, af, none⟩) (hd : Nat.blt d c.n = true) (hk : b.kind ≠ .early)
    (h1 : first.toList.mapM (ev fr) = some v1) (h2 : cap.toList.mapM (ev fr) = some v2)
    (kk : TC X c b cs n (.inRegion ops rest :: k) ((d, .func fn v1.toArray v2.toArray) :: fr) hp) : TC X c b cs (n + 1) (.inRegion ops (i :: rest) :: k) fr hp := by
  have key : ∀ (a : Act), Ok c a fr → ∀ (xs : List Operand) (vs : List Value), xs.mapM (ev fr) = some vs → xs.map a.eval = vs := by
    intro a ha xs
    induction xs with
    | nil => intro vs h; simpa using h
    | cons x xs ih =>
      intro vs h; simp only [List.mapM_cons, Option.bind_eq_bind, Option.bind_eq_some_iff, Option.pure_def, Option.some.injEq] at h; obtain ⟨v, hv, us, hus, rfl⟩ := h; rw [List.map_cons, ha.ev hv, ih us hus]
  have e1 : ∀ (a : Act), Ok c a fr → first.map a.eval = v1.toArray := fun a ha => by apply Array.ext'; simpa using key a ha _ _ h1
  have e2 : ∀ (a : Act), Ok c a fr → cap.map a.eval = v2.toArray := fun a ha => by apply Array.ext'; simpa using key a ha _ _ h2
  exact tc_val _ ho rfl rfl hd hk (fun a w ha _ _ _ => ⟨by simp only [execOp, e1 a ha, e2 a ha]; rfl, evsIn_none (by simp only [execOp, e1 a ha, e2 a ha]; rfl)⟩) kk
theorem tr_bin {op : BinOp} {t yt : TypeId} {x y : Operand} {u v : Value} (r : Value) (ho : ops[i]? = some ⟨some d, .binOp op t x y yt, ty, pos, af, none⟩) (hd : Nat.blt d c.n = true) (hk : b.kind ≠ .early) (hx : ev fr x = some u) (hy : ev fr y = some v)
    (hg : ∀ w, (eqGuard op t x y u v).run X.p.P w = .ok () w) (hge : ∀ w, (eqGuard op t x y u v).events X.p.P w #[] = #[]) (hr : ∀ w, (binOp op t u v).run X.p.P w = .ok r w) (hre : ∀ w, (binOp op t u v).events X.p.P w #[] = #[])
    (kk : TC X c b cs n (.inRegion ops rest :: k) ((d, r) :: fr) hp) : TC X c b cs (n + 1) (.inRegion ops (i :: rest) :: k) fr hp :=
  tc_val r ho rfl rfl hd hk (fun a w ha _ _ _ => ⟨by simp only [execOp, ha.ev hx, ha.ev hy, Sem.run_bind, hg, hr, Result.andThen_ok, Sem.run_pure], evsIn_none (by simp [execOp, ha.ev hx, ha.ev hy, hg, hge, hr, hre])⟩) kk
theorem tr_add {t yt : TypeId} {x y : Operand} {a b' : Int} (z : Int) (ho : ops[i]? = some ⟨some d, .binOp .add t x y yt, ty, pos, af, none⟩) (hd : Nat.blt d c.n = true) (hk : b.kind ≠ .early) (hx : ev fr x = some (int a)) (hy : ev fr y = some (int b')) (hz : a + b' = z) (hr : I64 z)
    (kk : TC X c b cs n (.inRegion ops rest :: k) ((d, int z) :: fr) hp) : TC X c b cs (n + 1) (.inRegion ops (i :: rest) :: k) fr hp :=
  tr_bin _ ho hd hk hx hy (fun _ => rfl) (fun _ => by simp [eqGuard, go_sem]) (fun w => by
    show Result.ok (Value.int .i64 (IntKind.i64.wrap (a + b'))) w = _
    rw [IntWalk.i64_in _ (hz ▸ hr), hz]) (fun _ => by simp [binOp, int, go_sem]) kk
theorem tr_lss {t yt : TypeId} {x y : Operand} {kd : IntKind} {a b' : Int} (ho : ops[i]? = some ⟨some d, .binOp .lss t x y yt, ty, pos, af, none⟩) (hd : Nat.blt d c.n = true) (hk : b.kind ≠ .early) (hx : ev fr x = some (.int kd a)) (hy : ev fr y = some (.int kd b'))
    (kk : TC X c b cs n (.inRegion ops rest :: k) ((d, .bool (decide (a < b'))) :: fr) hp) : TC X c b cs (n + 1) (.inRegion ops (i :: rest) :: k) fr hp :=
  tr_bin _ ho hd hk hx hy (fun _ => rfl) (fun _ => by simp [eqGuard, go_sem]) (fun w => by cases kd <;> rfl) (fun _ => by cases kd <;> simp [binOp, go_sem]) kk
theorem tr_len {t : TypeId} {x : Operand} {A : Option Addr} {m cp : Nat} {e : TypeId} (ho : ops[i]? = some ⟨some d, .call ⟨.builtin .len, #[x], #[t]⟩, ty, pos, af, none⟩) (hd : Nat.blt d c.n = true) (hk : b.kind ≠ .early) (ht : X.p.P.underlying t = some (.slice e)) (hx : ev fr x = some (.slice A m cp))
    (kk : TC X c b cs n (.inRegion ops rest :: k) ((d, int m) :: fr) hp) : TC X c b cs (n + 1) (.inRegion ops (i :: rest) :: k) fr hp := by
  have he : X.p.P.underlying t = some (.slice (X.p.P.elem t)) := by rw [ht]; simp [Program.elem, ht]
  refine tc_val _ ho rfl rfl hd hk (fun a w ha _ _ _ => ⟨?_, evsIn_none ?_⟩) kk
  · simp [execOp, resolve, invoke, builtin, Builtin.len_, ha.ev hx, run_underlying ht, goInt]
  · simp [execOp, resolve, invoke, builtin, Builtin.len_, ha.ev hx, run_underlying ht, goInt]
end
end Go.W
end
