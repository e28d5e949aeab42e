/- Texts. -/
import Derived.MapKept
import Derived.Laws.Rows
import Derived.Deep.AppendSrc
import Derived.Deep.Upon
import Derived.Laws.Cover3
import Derived.Sort.Walk0
import Derived.Test.YtcdopfjiadifhaaGreatDoorBAe
set_option linter.unusedVariables false
set_option linter.unusedSimpArgs false
section
namespace Go.W
open Go Go.RowKit
abbrev Ment (κ : Type) := κ × Value × Nat
def entOf {κ : Type} (enc : κ → Value) (p : Ment κ) : MapEntry := ⟨enc p.1, p.2.1, p.2.2⟩
def mapO {κ : Type} (enc : κ → Value) (l : List (Ment κ)) (clk : Nat) : Obj := .map (l.map (entOf enc)).toArray clk
def findM {κ : Type} [DecidableEq κ] (k : κ) : List (Ment κ) → Nat → Option (Nat × Value)
  | [], _ => none
  | p :: l, i => if p.1 = k then some (i, p.2.1) else findM k l (i + 1)
def getM {κ : Type} [DecidableEq κ] (l : List (Ment κ)) (k : κ) : Option Value := (findM k l 0).map (·.2)
def putM {κ : Type} [DecidableEq κ] (l : List (Ment κ)) (k : κ) (v : Value) (clk : Nat) : List (Ment κ) :=
  match findM k l 0 with
  | some (i, _) => l.modify i fun p => (k, v, p.2.2)
  | none => l ++ [(k, v, clk)]
def clkM {κ : Type} [DecidableEq κ] (l : List (Ment κ)) (k : κ) (clk : Nat) : Nat := if (findM k l 0).isSome then clk else clk + 1
structure KeyC (P : Program) (kt : TypeId) {κ : Type} [DecidableEq κ] (enc : κ → Value) : Prop where
  chk : ∀ b k w, (Instr.checkKey b 10000 kt (enc k)).run P w = .ok () w
  find : ∀ k l w, (Instr.findKey kt (enc k) (l.map (entOf enc))).run P w = .ok (findM k l 0) w
  stays : ∀ k w, (Instr.keyThatStays (enc k) (enc k)).run P w = .ok (enc k) w
theorem iz6 (k : Int) : ∀ (l : List (Ment Int)) (i : Nat), Instr.findNow (.int .i64) (int k) (l.map (entOf int)) i = some (findM k l i)
  | [], i => rfl
  | p :: l, i => by
    rw [List.map_cons, Instr.findNow]; simp only [Instr.sameNow, entOf, findM]
    by_cases h : p.1 = k
    · simp [h]
    have h' : ¬ k = p.1 := fun e => h e.symm; simp only [if_true, h, if_false, beq_eq_false_iff_ne.2 h']; exact iz6 k l (i + 1)
theorem iz5 (k : Str) : ∀ (l : List (Ment Str)) (i : Nat), Instr.findNow .string (str k) (l.map (entOf str)) i = some (findM k l i)
  | [], i => rfl
  | p :: l, i => by
    rw [List.map_cons, Instr.findNow]; simp only [str, Instr.sameNow, entOf, findM]
    have hb : ((ByteArray.mk k.toArray) == ByteArray.mk p.1.toArray) = decide (p.1 = k) := by
      rw [Bool.eq_iff_iff, MapKept.bytes_beq, decide_eq_true_iff]
      constructor
      · intro e
        injection e with e
        have := congrArg Array.toList e
        simpa using this.symm
      intro e; rw [e]
    rw [hb]
    by_cases h : p.1 = k
    · simp [h]
    simp only [h, decide_false, if_false]; exact iz5 k l (i + 1)
theorem KeyC.int {P : Program} {kt : TypeId} (h : P.underlying kt = some (.int .i64)) : KeyC P kt W.int where
  chk b k w := MapKept.run_checkKey h (by simp [MapKept.IsKey]) b 9999
  find k l w := MapKept.run_findKey h (iz6 k l 0)
  stays k w := MapKept.run_keyThatStays (d := .int .i64) (by simp [MapKept.IsKey])
theorem KeyC.str {P : Program} {kt : TypeId} (h : P.underlying kt = some .string) : KeyC P kt W.str where
  chk b k w := MapKept.run_checkKey h (by simp [MapKept.IsKey, W.str]) b 9999
  find k l w := MapKept.run_findKey h (iz5 k l 0)
  stays k w := MapKept.run_keyThatStays (d := .string) (by simp [MapKept.IsKey, W.str])
def pair (p : Int × Int) : Value := .agg #[W.int p.1, W.int p.2]
theorem sN {P : Program} {e : TypeId} (he : P.underlying e = some (.int .i64)) (cs : Array Value) (i : Nat) (v : Value) (hv : cs[i]? = some v) (w : World) : (part e cs i).run P w = .ok v w := by
  have hagg : (isAgg e).run P w = .ok false w := by
    unfold isAgg; rw [Sem.run_bind, run_underlying he w]
    rfl
  simp [part, Sem.run_bind, hagg, hv]
theorem rz6 {P : Program} {e : TypeId} (he : P.underlying e = some (.int .i64)) (d : Nat) (a b : Int) (w : World) : (Op.equalIn (d + 1) e (W.int a) (W.int b)).run P w = .ok (a == b) w := by
  simp [Op.equalIn, run_underlying he]
theorem eq_pair {P : Program} {kt e : TypeId} (h : P.underlying kt = some (.array 2 e)) (he : P.underlying e = some (.int .i64)) (hz : Sz P e 1) (p q : Int × Int) (w : World) : (Op.equal kt (pair p) (pair q)).run P w = .ok (decide (p = q)) w := by
  have hs := U4 hz w
  have key : ∀ d, (Op.equalIn (d + 2) kt (pair p) (pair q)).run P w = .ok (decide (p = q)) w := by
    intro d; obtain ⟨a, b⟩ := p; obtain ⟨a', b'⟩ := q; have p0 := sN he #[W.int a, W.int b] 0 (W.int a) rfl w; have p1 := sN he #[W.int a, W.int b] 1 (W.int b) rfl w; have q0 := sN he #[W.int a', W.int b'] 0 (W.int a') rfl w; have q1 := sN he #[W.int a', W.int b'] 1 (W.int b') rfl w; unfold Op.equalIn; simp only [Sem.run_bind, run_underlying h, pair, hs, Result.andThen_ok, Std.Legacy.Range.forIn_eq_forIn_range', Std.Legacy.Range.size, Nat.sub_zero, Nat.reduceAdd, Nat.reduceSub, Nat.reduceDiv, List.range', List.forIn_cons, List.forIn_nil, Nat.zero_mul, Nat.mul_one, Nat.zero_add, p0, p1, q0, q1, rz6 he d]
    by_cases h1 : a = a'
    · subst h1
      by_cases h2 : b = b'
      · subst h2; simp [p1, rz6 he d]
      simp [h2, p1, q1, rz6 he d]
    simp [h1]
  exact key 9998
theorem lq1 {P : Program} {kt e : TypeId} (h : P.underlying kt = some (.array 2 e)) (he : P.underlying e = some (.int .i64)) (hz : Sz P e 1) (k : Int × Int) (w : World) : ∀ (l : List (Ment (Int × Int))) (i : Nat), (Instr.findAsking kt (pair k) (l.map (entOf pair)) i).run P w = .ok (findM k l i) w
  | [], i => rfl
  | p :: l, i => by
    rw [List.map_cons, Instr.findAsking]; simp only [Sem.run_bind, entOf, eq_pair h he hz, Result.andThen_ok, findM]
    by_cases hk : p.1 = k
    · simp [hk]
    have h' : ¬ k = p.1 := fun e => hk e.symm; simp only [hk, h', decide_false, Bool.false_eq_true, if_false]; exact lq1 h he hz k w l (i + 1)
theorem KeyC.pair {P : Program} {kt e : TypeId} (h : P.underlying kt = some (.array 2 e)) (he : P.underlying e = some (.int .i64)) (hz : Sz P e 1) : KeyC P kt W.pair where
  chk b k w := by
    have hs := U4 hz w; have p0 := sN he #[W.int k.1, W.int k.2] 0 (W.int k.1) rfl w; have p1 := sN he #[W.int k.1, W.int k.2] 1 (W.int k.2) rfl w; have c : ∀ (n : Int), (Instr.checkKey b 9999 e (W.int n)).run P w = .ok () w := fun n => MapKept.run_checkKey he (by simp [MapKept.IsKey]) b 9998; unfold Instr.checkKey
    simp [run_underlying h, W.pair, hs, Std.Legacy.Range.forIn_eq_forIn_range', List.range', p0, p1, c]
  find k l w := by
    unfold Instr.findKey; simp only [Sem.run_bind, run_underlying h, Result.andThen_ok]
    have : Instr.findNow (.array 2 e) (W.pair k) (l.map (entOf W.pair)) 0 = none ∨ (l = [] ∧ Instr.findNow (.array 2 e) (W.pair k) (l.map (entOf W.pair)) 0 = some none) := by
      cases l with
      | nil => exact .inr ⟨rfl, rfl⟩
      | cons p l => exact .inl rfl
    rcases this with h1 | ⟨rfl, h1⟩
    · rw [h1]
      exact lq1 h he hz k w l 0
    rw [h1]; rfl
  stays k w := by
    obtain ⟨a, b⟩ := k
    have : Instr.sameBits 10000 (W.pair (a, b)) (W.pair (a, b)) = true := by
      simp [Instr.sameBits, W.pair]
    unfold Instr.keyThatStays; rw [if_pos this]
    rfl
/-! ### Cuts aS9 facts; perms -/
theorem Z2 {α : Type} {l l' : List α} (h : ∀ p : α → Bool, l.countP p = l'.countP p) : l.Perm l' := by
  classical
  refine List.perm_iff_count.2 fun a => ?_
  simpa [List.count] using h (· == a)
theorem xj8 {α : Type} [El α] {A : Option Addr} {p : List α} {ca lo hi : Nat} {w : World} (h : (Row A (rows p)).P w) (hc : p.length ≤ ca) : (Row (cutA A ca lo (El.sz α)) (rows ((p.take hi).drop lo))).P w := by
  refine cut_row h (fun j u hj => ?_) (fun hne => ?_)
  · rw [← gx2, ← mq8, List.getElem?_drop, List.getElem?_take] at hj
    split at hj
    · exact hj
    cases hj
  rcases Nat.lt_or_ge lo p.length with h | h
  · omega
  have : (p.take hi).drop lo = [] := List.drop_eq_nil_of_le (by rw [List.length_take]; omega); rw [this] at hne; exact absurd rfl hne
theorem wi_cut {α : Type} [El α] {b : Bx} {hp : Hp} {L : List Fact} {A : Option Addr} {p : List α} {ca : Nat} {w : World} (lo hi : Nat) (h : Row A (rows p) ∈ L) (hc : p.length ≤ ca) (hw : WI b w hp L) : WI b w hp (Row (cutA A ca lo (El.sz α)) (rows ((p.take hi).drop lo)) :: L) :=
  jL hw (xj8 (hw.fs _ h) hc) (fun k hk => ⟨_, h, by
    obtain ⟨ad, e, hb⟩ := cut_fp hk; refine ⟨ad, e, hb, ?_⟩; obtain ⟨_, _, _, hne⟩ := hk; rintro h0
    apply hne
    rw [← gx2, ← mq8, h0]
    simp⟩)
section
variable {c : Cx} {Q : Exit → Act → World → Prop} {fr : Fr} {hp : Hp} {L : List Fact} {ops : Array Oper} {rest : List Oper}
theorem gz4 {e : TypeId} {sz n cap : Nat} {A : Option Addr} {xs : List Value} {og : Hp} {x : Exit} (hG : Grow e sz A n cap xs og) (k : HQ c Q x fr [] (Row A xs :: L)) : HQ c Q x fr og L := fun a w ha hw => k a w ha (bz1 hG (by simpa using hw))
theorem wx6 {α : Type} [El α] {A : Option Addr} {p : List α} {ca : Nat} (lo hi : Nat) (h : Row A (rows p) ∈ L) (hc : p.length ≤ ca) (k : HL c ops Q rest fr hp (Row (cutA A ca lo (El.sz α)) (rows ((p.take hi).drop lo)) :: L)) : HL c ops Q rest fr hp L :=
  fun a w ha hw => k a w ha (wi_cut lo hi h hc hw)
end
/-! ### The rules -/
def MapAt (b : Bx) (hp : Hp) (L : List Fact) (g : Nat) (o : Obj) : Prop := ∀ w, WI b w hp L → w.heap[g]? = some o
section
variable {κ : Type} [DecidableEq κ] {enc : κ → Value} {kt e : TypeId}
theorem sx6 {b : Bx} {hp : Hp} {L : List Fact} {g : Nat} {o : Obj} (h : (g, o) ∈ hp) : MapAt b hp L g o := fun w hw => hw.own _ h
variable {c : Cx} {Q : Exit → Act → World → Prop} {fr : Fr} {hp : Hp} {L : List Fact} {ops : Array Oper} {rest : List Oper}
variable {d : Tmp} {ty : TypeId} {pos : String} {af : Array Edge}
theorem lq0 {k : κ} : ∀ (l : List (Ment κ)) (i j : Nat) (v : Value), findM k l i = some (j, v) → ∃ m p, j = i + m ∧ l[m]? = some p ∧ p.1 = k ∧ p.2.1 = v
  | [], i, j, v, h => by simp [findM] at h
  | p :: l, i, j, v, h => by
    rw [findM] at h
    split at h
    · rename_i e
      simp only [Option.some.injEq, Prod.mk.injEq] at h; exact ⟨0, p, by omega, rfl, e, h.2⟩
    obtain ⟨m, q, h1, h2, h3⟩ := lq0 l (i + 1) j v h; exact ⟨m + 1, q, by omega, by simpa using h2, h3⟩
omit [DecidableEq κ] in
theorem kx9 {l : List (Ment κ)} {i : Nat} {k : κ} {v : Value} {p : Ment κ} (hp : l[i]? = some p) :
    ((l.map (entOf enc)).toArray.modify i fun x => { x with key := enc k, val := v }) = ((l.modify i fun p => (k, v, p.2.2)).map (entOf enc)).toArray := by
  apply Array.ext'
  simp only [Array.toList_modify]
  apply List.ext_getElem?
  intro n; simp only [List.getElem?_modify, List.getElem?_map]
  split
  · cases hl : l[n]? <;> simp [entOf]
  simp
theorem vz5 {t : TypeId} {x y z : Operand} {g : Nat} {l : List (Ment κ)} {clk : Nat} {k : κ} {v : Value} {hp' : Hp} {o : Op} (K : KeyC c.P kt enc) (ho : o = .mapUpdate t x y z ∨ o = .insert t x y z) (ht : c.P.underlying t = some (.map kt e)) (hx : ev fr x = some (.map (some g))) (hy : ev fr y = some (enc k)) (hz : ev fr z = some v)
    (hpp : hp.Perm ((g, mapO enc l clk) :: hp')) (kk : HL c ops Q rest fr ((g, mapO enc (putM l k v clk) (clkM l k clk)) :: hp') L) : HL c ops Q (⟨none, o, ty, pos, af, none⟩ :: rest) fr hp L :=
  kj4 (hok := by rcases ho with rfl | rfl <;> rfl) rfl rfl fun a w ha hw => by
    have hw' := hw.perm hpp; have hg := hw'.own (g, mapO enc l clk) (by simp); have hg' : w.heap[g]? = some (.map (l.map (entOf enc)).toArray clk) := hg; have hf := K.find k l w
    have hrun : (Instr.mapUpdate t (.map (some g)) (enc k) v).run c.P w = .ok () { w with heap := w.heap.setIfInBounds g (mapO enc (putM l k v clk) (clkM l k clk)) } := by
      unfold putM clkM
      cases hr : findM k l 0 with
      | none =>
        rw [hr] at hf; simp only [Instr.mapUpdate, Sem.run_bind, run_underlying ht, Result.andThen_ok, MapKept.run_getObj_map hg', K.chk, hf, MapKept.run_setObj_map _ hg']
        have : ((l.map (entOf enc)).toArray.push { key := enc k, val := v, born := clk }) = ((l ++ [(k, v, clk)]).map (entOf enc)).toArray := by
          apply Array.ext'; simp [entOf]
        rw [this]
        rfl
      | some p =>
        obtain ⟨i, u⟩ := p; rw [hr] at hf; obtain ⟨m, q, h1, h2, h3, h4⟩ := lq0 l 0 i u hr; have e1 : i = m := by omega
        subst e1
        have e2 : (((l.map (entOf enc)).toArray[i]?).map (·.key)).getD (enc k) = enc k := by
          simp [h2, entOf, h3]
        simp only [Instr.mapUpdate, Sem.run_bind, run_underlying ht, Result.andThen_ok, MapKept.run_getObj_map hg', K.chk, hf, e2, K.stays, MapKept.run_setObj_map _ hg', kx9 h2]
        rfl
    refine ⟨{ w with heap := w.heap.setIfInBounds g (mapO enc (putM l k v clk) (clkM l k clk)) }, _, L, ?_, hw'.write (o' := mapO enc (putM l k v clk) (clkM l k clk)) ⟨rfl, rfl, rfl, by simp, fun j hj hn => by simp only [List.mem_singleton] at hn; simp [Array.getElem?_setIfInBounds_ne (Ne.symm hn)], Nat.le_refl _⟩ ?_, kk⟩
    · rcases ho with rfl | rfl <;> simp only [execOp, ha.ev hx, ha.ev hy, ha.ev hz, Sem.run_bind, hrun, Result.andThen_ok, Sem.run_pure]
    have := I4 hg; simp only at this
    simp [this]
omit [DecidableEq κ] in
theorem rx0 (enc : κ → Value) {t : TypeId} (hd : Nat.blt d c.n = true) (k : ∀ g, HL c ops Q rest ((d, .map (some g)) :: fr) ((g, mapO enc [] 0) :: hp) L) : HL c ops Q (⟨some d, .makeMap t none, ty, pos, af, none⟩ :: rest) fr hp L :=
  tz0 hd k
theorem bx2 {k : κ} : ∀ (l : List (Ment κ)) (i : Nat), findM k l (i + 1) = (findM k l i).map fun p => (p.1 + 1, p.2)
  | [], i => rfl
  | p :: l, i => by
    simp only [findM]
    split
    · rfl
    exact bx2 l (i + 1)
theorem uq3 (p : Ment κ) (l : List (Ment κ)) (k : κ) : getM (p :: l) k = if p.1 = k then some p.2.1 else getM l k := by
  unfold getM; simp only [findM]
  split
  · rfl
  rw [bx2]; cases findM k l 0 <;> rfl
end
end Go.W
end
section
namespace Go.W
open Go Go.RowKit
section
variable {c : Cx} {fr : Fr} {hp : Hp} {L : List Fact}
theorem yU {β : Type} {k : Con β} {fn : Func} {w0 : World} (x : β) {t : Tmp} {ty e : TypeId} {g n : Nat} {cs : Array Value} {fz : Nat × Nat} (hres : fn.results = #[.cell t ty]) (hv : lk fr t = some (.pointer (d6 g))) (ht : IsR c.P ty) (hz : Sz c.P ty n) (hn : cs.size = n)
    (hm : (g, Obj.cells cs e fz) ∈ hp) (hk : k.val x = .agg cs) (hb : c.b = k.entry w0) (hi : k.inv x) (h2 : (k.hpO x).Sublist hp) (h3 : LSub L (k.LO x)) (hD : c.D = [] := by rfl) : HQ c (postB c.P fn (k.post w0)) .ret fr hp L :=
  u9 x (fun a w ha hw => by
    obtain ⟨dd, ht, hr⟩ := ht; have h1 := hw.own _ hm; simp only at h1
    have hl : (loadVar ty ⟨g, 0, none⟩).run c.P w = .ok (.agg cs) w := by
      have hagg : (isAgg ty).run c.P w = .ok true w := by
        unfold isAgg; rw [Sem.run_bind, run_underlying ht w]
        cases dd <;> simp_all [TypeDesc.isRow]
      have hc := run_loadCells_list (P := c.P) w ⟨g, 0, none⟩ cs.toList (fun j u hu => by rw [bI, Nat.zero_add]; simp at hu; simp [World.cell?, h1, hu]); have hs := U4 hz w; simp only [loadVar, Sem.run_bind, hagg, Result.andThen_ok, if_true, hs, ← hn]; have e : cs.size = cs.toList.length := by simp
      rw [e, hc]
      simp
    have hv' := ha.at_ _ _ hv; rw [hk]; unfold results; rw [hres]; have hv2 : a.tmps[t]?.getD undef = .pointer (d6 g) := by simpa using hv'
    simp [hv2, asAddr, hl]) hb hi h2 h3 hD
theorem qj0 {β : Type} {k : Con β} {fn : Func} {w0 : World} (x : β) {t u : Tmp} {ty e : TypeId} {g n : Nat} {cs : Array Value} {fz : Nat × Nat} {v2 : Value} (hres : fn.results = #[.cell t ty, .tmp u]) (hv : lk fr t = some (.pointer (d6 g))) (hv2 : lk fr u = some v2) (ht : IsR c.P ty) (hz : Sz c.P ty n) (hn : cs.size = n)
    (hm : (g, Obj.cells cs e fz) ∈ hp) (hk : k.val x = .tuple #[.agg cs, v2]) (hb : c.b = k.entry w0) (hi : k.inv x) (h2 : (k.hpO x).Sublist hp) (h3 : LSub L (k.LO x)) (hD : c.D = [] := by rfl) : HQ c (postB c.P fn (k.post w0)) .ret fr hp L :=
  u9 x (fun a w ha hw => by
    obtain ⟨dd, ht, hr⟩ := ht; have h1 := hw.own _ hm; simp only at h1
    have hl : (loadVar ty ⟨g, 0, none⟩).run c.P w = .ok (.agg cs) w := by
      have hagg : (isAgg ty).run c.P w = .ok true w := by
        unfold isAgg; rw [Sem.run_bind, run_underlying ht w]
        cases dd <;> simp_all [TypeDesc.isRow]
      have hc := run_loadCells_list (P := c.P) w ⟨g, 0, none⟩ cs.toList (fun j u hu => by rw [bI, Nat.zero_add]; simp at hu; simp [World.cell?, h1, hu]); have hs := U4 hz w; simp only [loadVar, Sem.run_bind, hagg, Result.andThen_ok, if_true, hs, ← hn]; have e : cs.size = cs.toList.length := by simp
      rw [e, hc]
      simp
    have hv' := ha.at_ _ _ hv; have hv2' := ha.at_ _ _ hv2; rw [hk]; unfold results; rw [hres]; have h5 : a.tmps[t]?.getD undef = .pointer (d6 g) := by simpa using hv'
    have h6 : a.tmps[u]?.getD undef = v2 := by simpa using hv2'
    simp [h5, h6, asAddr, hl]) hb hi h2 h3 hD
end
section
variable {c : Cx} {Q : Exit → Act → World → Prop} {fr : Fr} {hp : Hp} {L : List Fact} {ops : Array Oper} {rest : List Oper}
variable {d : Tmp} {ty : TypeId} {pos : String} {af : Array Edge}
theorem R9 {t e : TypeId} {x : Operand} {g : Nat} {cs : Array Value} {fz : Nat × Nat} {n : Nat} (hd : Nat.blt d c.n = true) (ht' : IsR c.P t) (hz' : Sz c.P t n) (hx : ev fr x = some (.pointer (d6 g))) (h : Blk g (Obj.cells cs e fz) ∈ L) (hn : cs.size = n)
    (k : HL c ops Q rest ((d, .agg cs) :: fr) hp L) : HL c ops Q (⟨some d, .load t x, ty, pos, af, none⟩ :: rest) fr hp L :=
  I0 (cs := cs.toList) hd ht' hz' hx (by simpa using hn) (lZ h (fun i u hu => by simpa using hu)) k
theorem lz3 {t e : TypeId} {x y : Operand} {sz bytes n m cp : Nat} {A B : Option Addr} {olds news : List Value} (n' : Nat) (xs' : List Value) (el : ElT c.P t e sz bytes) (hd : Nat.blt d c.n = true)
    (hx : ev fr x = some (.slice A n n)) (hy : ev fr y = some (.slice B m cp)) (hA : Row A olds ∈ L) (hlo : olds.length = n * sz) (hs : Src c.b hp L B m sz news) (hn' : n + m = n') (hxs : olds ++ news = xs') (hn : n' ≤ maxLen) (hby : n' * bytes ≤ 140737488355328)
    (k : ∀ A' cap', n' ≤ cap' → HL c ops Q rest ((d, .slice A' n' cap') :: fr) hp (Row A' xs' :: L)) :
    HL c ops Q (⟨some d, .call ⟨.builtin .append, #[x, y], #[t, t]⟩, ty, pos, af, none⟩ :: rest) fr hp L :=
  uI rfl rfl hd fun a w ha hw => by
    subst hn'; subst hxs; obtain ⟨i, z, hi, hz, hsz, hb, hzs⟩ := el.i; have hrow := hw.fs _ hA
    have hgs : Go.Src c.P i.size t (.slice B m cp) m news w := by
      rcases hs.2.2 with ⟨rfl, rfl⟩ | h
      · have : news = [] := List.eq_nil_of_length_eq_zero (by simpa using hs.1)
        subst this; exact Go.Src.ofNil w el.u cp
      obtain ⟨ad, rfl, hc⟩ := h w hw; exact Go.Src.ofSlice w el.u ad m cp news (by rw [hsz]; exact hs.1) hc hs.2.1
    by_cases hm : m = 0
    · subst hm
      have : news = [] := List.eq_nil_of_length_eq_zero (by simpa using hs.1); subst this; refine ⟨.slice A n n, w, hp, Row A (olds ++ []) :: L, ?_, hw.weak (.refl _) ?_ |>.add (by simpa using hrow) (fun p hp => by simpa using hw.ap _ hA p hp) (fun k hk => hw.al _ hA k (by simpa using hk)), k A n (Nat.le_refl _)⟩
      · have := run_append_nothing w t t ty e i el.u hi A n n (Nat.le_refl _) (.slice B 0 cp) hgs
        simp only [execOp, resolve, invoke, builtin, Sem.run_bind, Sem.run_pure, Result.andThen_ok, List.map_toArray, List.map_cons, List.map_nil, ha.ev hx, ha.ev hy, this]
      exact fun _ h => h
    have hold : (Builtin.firstCells i.size n (.slice A n n)).run c.P w.drew = .ok olds.toArray w.drew := by
      cases A with
      | none =>
        have : olds = [] := by
          cases olds with
          | nil => rfl
          | cons u r => obtain ⟨ad, e, _⟩ := hrow 0 u rfl; cases e
        subst this
        have hn0 : n = 0 := by
          have := el.pos; simp only [List.length_nil] at hlo
          rcases Nat.eq_zero_or_pos n with h | h
          · exact h
          have := Nat.mul_pos h this; omega
        subst hn0; exact run_firstCells_none _ _ _ _ _
      | some ad => exact run_firstCells_some _ _ _ _ _ _ olds (by rw [hsz]; exact hlo) (fun j u hu => by
          obtain ⟨ad', e, hc⟩ := hrow j u hu
          cases e
          simpa using hc)
    have hrun := run_append_grow_src w t t ty e i z el.u hi hz A n n olds hold (.slice B m cp) m news hgs (by omega) (by unfold maxLen at hn; omega) (growslice_fits (by omega) (by rw [hb]; exact hby)); have h2 := (hw.quiet (lq2 w)).alloc (.cells ((olds ++ news).toArray ++ Builtin.zeroCells z.cells (grownCap w (n + m) n e - (n + m))) e (0, 0)); refine ⟨_, w.drew.alloc (.cells ((olds ++ news).toArray ++ Builtin.zeroCells z.cells (grownCap w (n + m) n e - (n + m))) e), hp, Row (some ⟨w.heap.size, 0, none⟩) (olds ++ news) :: L, ?_, wT h2 ?_, k (some ⟨w.heap.size, 0, none⟩) (grownCap w (n + m) n e) (grownCap_ge w (n + m) n e)⟩
    · simp only [execOp, resolve, invoke, builtin, Sem.run_bind, Sem.run_pure, Result.andThen_ok, List.map_toArray, List.map_cons, List.map_nil, ha.ev hx, ha.ev hy, hrun]
    exact ⟨(Builtin.zeroCells z.cells (grownCap w (n + m) n e - (n + m))).toList, by simp⟩
end
section
variable {κ : Type} [DecidableEq κ] {enc : κ → Value} {kt e : TypeId}
variable {c : Cx} {Q : Exit → Act → World → Prop} {fr : Fr} {hp : Hp} {L : List Fact} {ops : Array Oper} {rest : List Oper}
variable {d : Tmp} {ty : TypeId} {pos : String} {af : Array Edge}
theorem wz3 {l : List (Ment κ)} {k : κ} {v : Value} (h : getM l k = some v) : ∃ p ∈ l, p.1 = k ∧ p.2.1 = v := by
  unfold getM at h
  cases hf : findM k l 0 with
  | none => rw [hf] at h; cases h
  | some q =>
    obtain ⟨i, u⟩ := q; rw [hf] at h; simp only [Option.map_some, Option.some.injEq] at h; subst h; obtain ⟨m, p, _, h2, h3, h4⟩ := lq0 l 0 i u hf; exact ⟨p, List.mem_of_getElem? h2, h3, h4⟩
end
theorem nx0 {α : Type} {l' : List α} : ∀ {l : List α}, (∀ p : α → Bool, l'.countP p ≤ l.countP p) → ∃ r, l.Perm (l' ++ r) := by
  classical
  induction l' with
  | nil => intro l _; exact ⟨l, .refl _⟩
  | cons a t ih =>
    intro l h; have h1 := h (fun x => decide (x = a)); rw [List.countP_cons_of_pos (by simp)] at h1
    have ha : a ∈ l := by
      have : 0 < l.countP (fun x => decide (x = a)) := by omega
      obtain ⟨x, hx, e⟩ := List.countP_pos_iff.1 this
      simp at e
      exact e ▸ hx
    have hp := List.perm_cons_erase ha
    obtain ⟨r, hr⟩ := ih (l := l.erase a) (fun p => by
      have h2 := h p; have h3 := hp.countP_eq p; rw [List.countP_cons] at h2 h3
      omega)
    exact ⟨r, hp.trans (hr.cons a)⟩
theorem WI.count {b : Bx} {w : World} {hp hp' : Hp} {L L' : List Fact} (h : WI b w hp L) (hc : ∀ p : Nat × Obj → Bool, hp'.countP p ≤ hp.countP p) (h2 : ∀ F ∈ L', F ∈ L) : WI b w hp' L' := by
  obtain ⟨r, hr⟩ := nx0 hc; exact (h.perm hr).weak (List.sublist_append_left _ _) h2
section
variable {c : Cx} {Q : Exit → Act → World → Prop} {fr : Fr} {hp : Hp} {L : List Fact} {ops : Array Oper} {rest : List Oper}
theorem qq9 {x : Code} (hp' : Hp) (h : ∀ p : Nat × Obj → Bool, hp'.countP p ≤ hp.countP p) (k : HC c x Q fr hp' L) : HC c x Q fr hp L := fun a w ha hw => k a w ha (hw.count h fun _ h => h)
end
section
variable {c : Cx} {Q : Exit → Act → World → Prop} {fr : Fr} {hp : Hp} {L : List Fact} {ops : Array Oper} {rest : List Oper}
theorem gq2 {b : Bx} {w : World} {g : Nat} {o : Obj} (h : WI b w ((g, o) :: hp) L) : WI b w hp (Blk g o :: L) := h.letgo (h.own (g, o) (by simp)) (fun k hk => hk)
theorem Y3 {g : Nat} {o : Obj} {x : Code} (k : HC c x Q fr hp (Blk g o :: L)) : HC c x Q fr ((g, o) :: hp) L := fun a w ha hw => k a w ha (gq2 hw)
theorem mx6 {g : Nat} {o : Obj} (k : HL c ops Q rest fr hp (Blk g o :: L)) : HL c ops Q rest fr ((g, o) :: hp) L := fun a w ha hw => k a w ha (gq2 hw)
end
def Facts (Fs : List Fact) : Fact where
  P w := ∀ F ∈ Fs, F.P w
  fp k := ∃ F ∈ Fs, F.fp k
  st w w' h hP F hF := F.st w w' (fun k hk => h k ⟨F, hF, hk⟩) (hP F hF)
  lt w hP k hk := by obtain ⟨F, hF, hk⟩ := hk; exact F.lt w (hP F hF) k hk
section
variable {c : Cx} {Q : Exit → Act → World → Prop} {fr : Fr} {hp : Hp} {L : List Fact} {ops : Array Oper} {rest : List Oper}
theorem sq0 {b : Bx} {w : World} {Fs : List Fact} {F : Fact} (h : Facts Fs ∈ L) (hF : F ∈ Fs) (hw : WI b w hp L) : WI b w hp (F :: L) := jL hw (hw.fs _ h F hF) (fun k hk => ⟨_, h, F, hF, hk⟩)
theorem sz4 {Fs : List Fact} {F : Fact} (h : Facts Fs ∈ L) (hF : F ∈ Fs) (k : HL c ops Q rest fr hp (F :: L)) : HL c ops Q rest fr hp L := fun a w ha hw => k a w ha (sq0 h hF hw)
theorem sz5 {Fs : List Fact} {F : Fact} {x : Code} (h : Facts Fs ∈ L) (hF : F ∈ Fs) (k : HC c x Q fr hp (F :: L)) : HC c x Q fr hp L := fun a w ha hw => k a w ha (sq0 h hF hw)
theorem px6 {b : Bx} {w : World} {Fs : List Fact} (h : ∀ F ∈ Fs, F ∈ L ∨ ∃ Gs, Facts Gs ∈ L ∧ F ∈ Gs) (hw : WI b w hp L) : WI b w hp (Facts Fs :: L) :=
  jL hw (fun F hF => by
    rcases h F hF with h1 | ⟨Gs, h1, h2⟩
    · exact hw.fs _ h1
    · exact hw.fs _ h1 F h2) (fun k hk => by
    obtain ⟨F, hF, hk⟩ := hk
    rcases h F hF with h1 | ⟨Gs, h1, h2⟩
    · exact ⟨F, h1, hk⟩
    exact ⟨_, h1, F, h2, hk⟩)
theorem yB {Fs : List Fact} {x : Code} (h : ∀ F ∈ Fs, F ∈ L ∨ ∃ Gs, Facts Gs ∈ L ∧ F ∈ Gs) (k : HC c x Q fr hp (Facts Fs :: L)) : HC c x Q fr hp L := fun a w ha hw => k a w ha (px6 h hw)
theorem kz1 {Fs : List Fact} {x : Exit} (h : ∀ F ∈ Fs, F ∈ L ∨ ∃ Gs, Facts Gs ∈ L ∧ F ∈ Gs) (k : HQ c Q x fr hp (Facts Fs :: L)) : HQ c Q x fr hp L := fun a w ha hw => k a w ha (px6 h hw)
end
section
variable {c : Cx} {Q : Exit → Act → World → Prop} {fr : Fr} {hp : Hp} {L : List Fact} {ops : Array Oper} {rest : List Oper}
theorem B5 {e : Exit} {α : Type} [El α] (k : HQ c Q e fr hp (Row none (rows ([] : List α)) :: L)) : HQ c Q e fr hp L := hq_more (F := Row none (rows ([] : List α))) (fun w _ => Row.nil _ w) (fun k hk => by obtain ⟨_, e, _⟩ := hk; cases e) k
theorem gz5 {α : Type} [El α] (k : HL c ops Q rest fr hp (Row none (rows ([] : List α)) :: L)) : HL c ops Q rest fr hp L := hl_more (F := Row none (rows ([] : List α))) (fun w _ => Row.nil _ w) (fun k hk => by obtain ⟨_, e, _⟩ := hk; cases e) k
end
end Go.W
end
section
namespace Go.Proofs.YtcdopfjiadifhaaGreatDoor
open Go Go.W Tryz T F
set_option maxRecDepth 20000
attribute [local irreducible] HL HC HQ HB Row Rows2 Blk Facts
theorem P8 {α : Type} [Inhabited α] (l : List α) (k : Nat) (h : k < l.length) : l.take (k + 1) = l.take k ++ [l.getD k default] := by
  rw [List.take_succ_eq_append_getElem h]
  simp [List.getD_eq_getElem?_getD, h]
theorem qx9 {α : Type} {a b : List α} {k : Nat} (h : a.take k = b.take k) (ha : a.length ≤ k) (hb : b.length ≤ k) : a = b := by
  rwa [List.take_of_length_le ha, List.take_of_length_le hb] at h
theorem ne_at {α : Type} [Inhabited α] {a b : List α} {k : Nat} (h : ¬ a.getD k default = b.getD k default) : ¬ a = b := fun e => h (by rw [e])
theorem iS {A B : Option Addr} {ca cb : Nat} (a b : List Int) (ha : a.length ≤ 9223372036854775806) :
    Meets prog cM [.slice A a.length ca, .slice B b.length cb] { LI := [Row A (rows a), Row B (rows b)], val := fun _ : Unit => .bool (decide (a = b)) } := by
 refine j3 jq7 rfl t8 fun w0 => ?_; refine d9 (c7 rfl (d8 (i7 (d9 (b8 rfl ?_))))); refine l7 rfl l8 rfl (b8 rfl (l7 rfl l8 rfl ?_)); refine P9 rfl rfl rfl (d8 ?_); refine m6 rfl (fun hb1 => ?_) (fun hb1 => ?_)
 ·have hb1 : ¬ a = b := fun e => by subst e; exact hb1 rfl
  refine d9 (c7 rfl (d8 (J4 ?_))); exact ret1 () rfl (by rw [decide_eq_false hb1]; rfl) rfl tK (.refl _) tK
 have hb1 : a.length = b.length := by omega
 refine j6 (i8 (i7 (d9 (c7 rfl (d8 (j8 ?_)))))); refine y8 (β := Nat) ⟨fun k => k ≤ a.length ∧ a.take k = b.take k, fun k => [(0, .slice A a.length ca), (1, .slice B b.length cb), (5, int k)], fun _ => [], fun _ => [Row A (rows a), Row B (rows b)]⟩ (fun k => a.length - k) 0 ⟨Nat.zero_le _, rfl⟩ mC (.refl _) ⟨m0, m1, tK⟩ fun k hk => ?_; obtain ⟨hk, ht⟩ := hk; refine i7 (d9 (b8 rfl (b8 rfl ?_))); refine l7 rfl l8 rfl ?_; refine C4 rfl rfl rfl (d8 ?_); refine m6 rfl (fun hb2 => ?_) (fun hb2 => ?_)
 ·have hb2 : k < a.length := by omega
  refine j6 (i8 (i7 (j8 (i7 ?_)))); refine J0 8 mixed (by decide) (by decide) rfl rfl (u4 rfl (u4 rfl (k7 (fun w1 => r8 (α := Int) _ _ rfl l8 m9 rfl rfl rfl mB rfl (by omega) (by decide) (q_z rfl)) (k7 (fun w1 => c8 rfl b9 rfl (k9 mB (j9 (by omega) rfl)) (q_z rfl)) (u4 rfl (u4 rfl (k7 (fun w1 => r8 (α := Int) _ _ rfl l8 m9 rfl rfl rfl mB rfl (by omega) (by decide) (q_z rfl)) (k7 (fun w1 => c8 rfl b9 rfl (k9 mB (j9 (by omega) rfl)) (q_z rfl)) ?_)))))))); refine E1 ⟨rfl, ?_⟩; refine P9 rfl rfl rfl (d8 ?_); refine m6 rfl (fun hb3 => ?_) (fun hb3 => ?_)
  ·have hb3 : ¬ a = b := ne_at (a := a) (b := b) (k := k) hb3; refine d9 (c7 rfl (d8 (k5 (G6 (C5 (G6 ?_)))))); exact ret1 () rfl (by rw [decide_eq_false hb3]; rfl) rfl tK (.refl _) tK
  have hb3 : a.getD k default = b.getD k default := Classical.not_not.1 hb3; refine j6 (w9 (i8 (j0 (b8 rfl ?_)))); refine v8 _ rfl rfl rfl rfl r6 ?_; refine c7 rfl (j4 ?_); exact again _ (k + 1) ⟨by omega, by rw [P8 a k hb2, P8 b k (by omega), ht, hb3]⟩ (by first | omega | (simp only; omega)) mC (.refl _) ⟨m0, m1, tK⟩
 have hb2 : k = a.length := by omega
 refine w8 (E4 (w6 (i8 (d9 (c7 rfl (d8 (k5 ?_))))))); exact ret1 () rfl (by rw [decide_eq_true (qx9 ht (by omega) (by omega))]; rfl) rfl tK (.refl _) tK
abbrev OutC := Option Addr × Nat
def outSl {α : Type} [El α] (l : List α) : Con OutC := { inv := fun x => l.length ≤ x.2, val := fun x => .slice x.1 l.length x.2, LO := fun x => [Row x.1 (rows l)] }
end Go.Proofs.YtcdopfjiadifhaaGreatDoor
end
section
namespace Go.W
open Go Go.RowKit
/-! ### The first of a list of slices -/
section
variable {α : Type} [El α] {c : Cx} {Q : Exit → Act → World → Prop} {fr : Fr} {hp : Hp} {L : List Fact} {ops : Array Oper} {rest : List Oper} {A : Option Addr} {ps : List (Sl α)}
end
/-! ### Facts that follow from the world; nil -/
section
variable {c : Cx} {Q : Exit → Act → World → Prop} {fr : Fr} {hp : Hp} {L : List Fact} {ops : Array Oper} {rest : List Oper}
theorem uj4 {g : Nat} {o : Obj} {e : Exit} (k : HQ c Q e fr hp (Blk g o :: L)) : HQ c Q e fr ((g, o) :: hp) L := fun a w ha hw => k a w ha (gq2 hw)
variable {d : Tmp} {ty : TypeId} {pos : String} {af : Array Edge}
end
/-! ### A store into a slice of the call's own -/
theorem Grow.open_ {e : TypeId} {sz n cap : Nat} {A : Option Addr} {xs : List Value} {og : Hp} (h : Grow e sz A n cap xs og) (hn : 0 < n) : ∃ g cur, A = some ⟨g, 0, none⟩ ∧ og = [(g, Obj.cells cur e (0, 0))] ∧ n ≤ cap ∧ cap ≤ maxLen ∧ cur.size = cap * sz ∧ cur.toList.take (n * sz) = xs ∧ xs.length = n * sz := by
  rcases h with ⟨hl, ⟨_, h, _⟩ | ⟨g, cur, h1, h2, h3, h4, h5, h6⟩⟩
  · omega
  exact ⟨g, cur, h1, h2, h3, h4, h5, h6, hl⟩
theorem gx1 {α : Type} [El α] (h1 : El.sz α = 1) (v : Value) (a : α) (hv : El.cells a = [v]) : ∀ (l : List α) (k : Nat), (rows l).set k v = rows (l.set k a)
  | [], k => by simp [xR]
  | b :: l, 0 => by
    have hb : ∃ u, El.cells b = [u] := by
      have := El.len b; rw [h1] at this; exact List.length_eq_one_iff.1 this
    obtain ⟨u, hu⟩ := hb; rw [List.set_cons_zero, V0, V0, hu, hv]
    rfl
  | b :: l, k + 1 => by
    have hb : ∃ u, El.cells b = [u] := by
      have := El.len b; rw [h1] at this; exact List.length_eq_one_iff.1 this
    obtain ⟨u, hu⟩ := hb; rw [List.set_cons_succ, V0, V0, hu, ← gx1 h1 v a hv l k]
    rfl
theorem Grow.set {α : Type} [El α] {e : TypeId} {cap g k : Nat} {cur : Array Value} {l : List α} {v : Value} {a : α} (h1 : El.sz α = 1) (hv : El.cells a = [v]) (h3 : l.length ≤ cap) (h4 : cap ≤ maxLen) (h5 : cur.size = cap * 1) (h6 : cur.toList.take (l.length * 1) = rows l) :
    Grow e 1 (d6 g) l.length cap (rows (l.set k a)) [(g, Obj.cells (cur.setIfInBounds k v) e (0, 0))] := by
  refine ⟨by rw [Z7, h1, List.length_set], .inr ⟨g, _, rfl, rfl, h3, h4, by simpa using h5, ?_⟩⟩; rw [← gx1 h1 v a hv, ← h6, Array.toList_setIfInBounds, List.take_set]
/-! ### make -/
theorem made1 (z : Value) (n : Nat) : madeCells #[z] n = (List.replicate n z).toArray := by
  apply Array.ext
  · simp [madeCells]
  intro i h1 h2
  simp [madeCells, Nat.mod_one]
theorem nx8 {c : Cx} {Q : Exit → Act → World → Prop} {fr : Fr} {hp : Hp} {L : List Fact} {ops : Array Oper} {rest : List Oper} {d : Tmp} {ty : TypeId} {pos : String} {af : Array Edge}
    {t e : TypeId} {x y : Operand} {n bytes : Nat} {z : Value} {m : Int} (hd : Nat.blt d c.n = true) (ht : c.P.underlying t = some (.slice e)) (hi : (c.P.info? e).map (fun i => (i.zero, i.size, i.bytes)) = some (some z, 1, bytes)) (hz : z.cells = #[z])
    (hx : ev fr x = some (int m)) (hy : ev fr y = some (int m)) (hm : m = (n : Int)) (hb : bytes * n ≤ 140737488355328) (hn : n ≤ 140737488355328)
    (k : ∀ g, HL c ops Q rest ((d, .slice (d6 g) n n) :: fr) ((g, .cells (List.replicate n z).toArray e (0, 0)) :: hp) L) : HL c ops Q (⟨some d, .makeSlice t x y, ty, pos, af, none⟩ :: rest) fr hp L :=
  uH (.cells (List.replicate n z).toArray e (0, 0)) (fun g => .slice (d6 g) n n) rfl rfl hd (fun a w ha _ => by
    subst hm; obtain ⟨i, h1, h2, h3, h4⟩ := info_parts hi
    have hb' : (i.bytes : Int) * (n : Int) ≤ 281474976710656 := by
      have h : ((i.bytes * n : Nat) : Int) ≤ 281474976710656 := by rw [h4]; omega
      rwa [Int.natCast_mul] at h
    have hr := run_make (P := c.P) w t e i z ht h1 h2 .i64 .i64 n n (by omega) (Int.le_refl _) hb' (by omega); simp only [Int.toNat_natCast, h3, Nat.mul_one, hz, made1] at hr
    simp only [execOp, ha.ev hx, ha.ev hy, Sem.run_bind, hr, Result.andThen_ok, Sem.run_pure]) k
/-! ### Scopes and labels -/
section
variable {Q : Exit → Act → World → Prop} {fr : Fr} {hp : Hp} {L : List Fact}
def noGoto (Q : Exit → Act → World → Prop) : Exit → Act → World → Prop
  | .goto _, _, _ => False
  | e, a, w => Q e a w
theorem wx8 {P : Program} {n : Nat} {b : Bx} {D : List Deferred} {x : Code} (h : HC ⟨P, n, b, D, none⟩ x (noGoto Q) fr hp L) : HC ⟨P, n, b, D, none⟩ (.scope x) Q fr hp L :=
  fun a w ha hw => rz9 (lq5 (h a w ha hw) fun e a w hq => by cases e <;> first | exact ⟨fun _ h => (by cases h), hq⟩ | exact hq.elim)
theorem xY {c : Cx} (h : HQ c Q .ret fr hp L) : HQ c (noGoto Q) .ret fr hp L := fun a w ha hw => h a w ha hw
theorem wz0 {c : Cx} {l : Nat} (h : HQ c Q .normal fr hp L) : HC c (.label l) Q fr hp L := fun a w ha hw => uq9 (h a w ha hw)
end
def markOf (d : Nat) : Deferred := { target := .collected d, args := #[] }
def shutM (ds : List Nat) : Hp := ds.map fun d => (d, Obj.deferred (some []))
end Go.W
end
section
namespace Go.W
open Go Go.RowKit
section
variable {c : Cx} {Q : Exit → Act → World → Prop} {fr : Fr} {hp : Hp} {L : List Fact} {ops : Array Oper} {rest : List Oper}
variable {α : Type} [El α]
abbrev innerF (ps : List (Sl α)) : Fact := Facts (ps.map fun p => Row p.a (rows p.l))
end
end Go.W
end
section
namespace Go.W
open Go Go.RowKit
def notI (dd : TypeDesc) : Bool := match dd with | .interface _ => false | _ => true
def NoI (P : Program) (t : TypeId) : Prop := ∃ dd, P.underlying t = some dd ∧ notI dd = true
section
variable {c : Cx} {Q : Exit → Act → World → Prop} {fr : Fr} {hp : Hp} {L : List Fact} {ops : Array Oper} {rest : List Oper}
variable {d : Tmp} {ty : TypeId} {pos : String} {af : Array Edge}
/-! ### Interfaces -/
theorem jR {t : TypeId} {x : Operand} {v : Value} (hd : Nat.blt d c.n = true) (ht : NoI c.P t) (hx : ev fr x = some v) (k : HL c ops Q rest ((d, .iface t v) :: fr) hp L) : HL c ops Q (⟨some d, .makeInterface t x, ty, pos, af, none⟩ :: rest) fr hp L :=
  G3 _ rfl rfl hd (fun a w ha _ => by
    obtain ⟨dd, h1, h2⟩ := ht; simp only [execOp, ha.ev hx, Instr.makeInterface, Sem.run_bind, run_underlying h1, Result.andThen_ok]
    cases dd <;> first | rfl | cases h2) k
theorem yW {t xt : TypeId} {x : Operand} {v : Value} (hd : Nat.blt d c.n = true) (ht : NoI c.P t) (hx : ev fr x = some (.iface t v)) (k : HL c ops Q rest ((d, .tuple #[v, .bool true]) :: fr) hp L) : HL c ops Q (⟨some d, .typeAssert x xt t true, ty, pos, af, none⟩ :: rest) fr hp L :=
  G3 _ rfl rfl hd (fun a w ha _ => by
    obtain ⟨dd, h1, h2⟩ := ht; simp only [execOp, ha.ev hx, Instr.typeAssert, Sem.run_bind, run_underlying h1, Result.andThen_ok]
    cases dd <;> first | (cases h2; done) | simp) k
theorem gx5 {t t' xt : TypeId} {x : Operand} {v z : Value} (hd : Nat.blt d c.n = true) (ht : NoI c.P t) (hx : ev fr x = some (.iface t' v)) (hne : Nat.beq t' t = false) (hz : ∀ w, (zeroValue t).run c.P w = .ok z w) (k : HL c ops Q rest ((d, .tuple #[z, .bool false]) :: fr) hp L) : HL c ops Q (⟨some d, .typeAssert x xt t true, ty, pos, af, none⟩ :: rest) fr hp L :=
  G3 _ rfl rfl hd (fun a w ha _ => by
    obtain ⟨dd, h1, h2⟩ := ht; have hn : ¬ t' = t := fun e => by subst e; simp [Nat.beq_refl] at hne
    simp only [execOp, ha.ev hx, Instr.typeAssert, Sem.run_bind, run_underlying h1, Result.andThen_ok]
    cases dd <;> first | (cases h2; done) | simp [hn, hz]) k
/-! ### Three results -/
theorem results3 {fn : Func} {t u v : Tmp} (h : fn.results = #[.tmp t, .tmp u, .tmp v]) (tmps : Array Value) (P : Program) (w : World) : (results fn tmps).run P w = .ok (.tuple #[tmps.getD t undef, tmps.getD u undef, tmps.getD v undef]) w := by
  simp [results, h]
theorem ret3 {β : Type} {k : Con β} {fn : Func} {w0 : World} (x : β) {t u v : Tmp} {v1 v2 v3 : Value} (hres : fn.results = #[.tmp t, .tmp u, .tmp v]) (hv1 : lk fr t = some v1) (hv2 : lk fr u = some v2) (hv3 : lk fr v = some v3) (hk : k.val x = .tuple #[v1, v2, v3]) (hb : c.b = k.entry w0) (hi : k.inv x) (h2 : (k.hpO x).Sublist hp) (h3 : LSub L (k.LO x)) (hD : c.D = [] := by exact rfl) :
    HQ c (postB c.P fn (k.post w0)) .ret fr hp L :=
  u9 x (fun a w ha _ => by rw [results3 hres, ha.at_ _ _ hv1, ha.at_ _ _ hv2, ha.at_ _ _ hv3, hk]) hb hi h2 h3 hD
/-! ### Strings that are ranged over -/
abbrev iter (s : Str) (p : Nat) : Obj := .stringIter ⟨s.toArray⟩ p
theorem vz0 {t : TypeId} {x : Operand} {s : Str} (hd : Nat.blt d c.n = true) (ht : c.P.underlying t = some .string) (hx : ev fr x = some (str s)) (k : ∀ g, HL c ops Q rest ((d, .pointer (d6 g)) :: fr) ((g, iter s 0) :: hp) L) : HL c ops Q (⟨some d, .range t x, ty, pos, af, none⟩ :: rest) fr hp L :=
  uH (iter s 0) (fun g => .pointer (d6 g)) rfl rfl hd (fun a w ha _ => by
    simp only [execOp, ha.ev hx, Instr.range, Sem.run_bind, run_underlying ht, Result.andThen_ok, str]
    simp [run_newObj_alloc]) k
theorem mq5 {P : Program} {w : World} {g : Nat} {s : ByteArray} {p : Nat} (h : w.heap[g]? = some (.stringIter s p)) : (getObj g).run P w = .ok (.stringIter s p) w := by simp [getObj, Sem.run, h]
theorem tx5 {P : Program} {w : World} {g : Nat} {s : ByteArray} {p : Nat} (h : w.heap[g]? = some (.stringIter s p)) (o : Obj) : (setObj g o).run P w = .ok () { w with heap := w.heap.setIfInBounds g o } := by
  have hlt : g < w.heap.size := I4 h
  simp [setObj, Sem.run, h]
theorem pz5 (s : Str) : (ByteArray.mk s.toArray).size = s.length := rfl
theorem rq8 {x : Operand} {s : Str} {g p : Nat} (hd : Nat.blt d c.n = true) (hx : ev fr x = some (.pointer (d6 g))) (hm : (g, iter s p) ∈ hp) (hp1 : s.length ≤ p) (k : HL c ops Q rest ((d, .tuple #[.bool false]) :: fr) hp L) : HL c ops Q (⟨some d, .next x true, ty, pos, af, none⟩ :: rest) fr hp L :=
  G3 _ rfl rfl hd (fun a w ha hw => by
    have h := hw.own _ hm; simp only at h; simp only [execOp, ha.ev hx, Instr.next, Sem.run_bind, mq5 h, Result.andThen_ok, pz5]; rw [if_neg (by omega)]
    rfl) k
def nextV (s : Str) (p : Nat) : Value := if p < s.length then .tuple #[.bool true, int p, .int .i32 ((Utf8.decode ⟨s.toArray⟩ p).1 : Nat)] else .tuple #[.bool false]
def nextP (s : Str) (p : Nat) : Nat := if p < s.length then p + (Utf8.decode ⟨s.toArray⟩ p).2 else p
theorem rq9 {x : Operand} {s : Str} {g p : Nat} {hp' : Hp} {r wd : Nat} (hd : Nat.blt d c.n = true) (hx : ev fr x = some (.pointer (d6 g))) (hpp : hp.Perm ((g, iter s p) :: hp')) (hp1 : p < s.length) (hdec : Utf8.decode ⟨s.toArray⟩ p = (r, wd)) (k : HL c ops Q rest ((d, .tuple #[.bool true, int p, .int .i32 r]) :: fr) ((g, iter s (p + wd)) :: hp') L) : HL c ops Q (⟨some d, .next x true, ty, pos, af, none⟩ :: rest) fr hp L :=
  uI rfl rfl hd fun a w ha hw => by
    have hw' := hw.perm hpp; have h := hw'.own (g, iter s p) (by simp); simp only at h; refine ⟨_, _, _, L, ?_, hw'.write (o' := iter s (p + wd)) (w' := { w with heap := w.heap.setIfInBounds g (iter s (p + wd)) }) ⟨rfl, rfl, rfl, by simp, fun q _ hn => ?_, Nat.le_refl _⟩ ?_, k⟩
    · simp only [execOp, ha.ev hx, Instr.next, Sem.run_bind, mq5 h, Result.andThen_ok, pz5]
      rw [if_pos hp1]
      simp [hdec, tx5 h, goInt]
    · simp only [List.mem_singleton] at hn
      simp [Array.getElem?_setIfInBounds_ne (fun e => hn e.symm)]
    have hlt := I4 h
    simp [Array.getElem?_setIfInBounds, hlt]
theorem r_nextS {x : Operand} {s : Str} {g p : Nat} {hp' : Hp} (hd : Nat.blt d c.n = true) (hx : ev fr x = some (.pointer (d6 g))) (hpp : hp.Perm ((g, iter s p) :: hp')) (k : HL c ops Q rest ((d, nextV s p) :: fr) ((g, iter s (nextP s p)) :: hp') L) : HL c ops Q (⟨some d, .next x true, ty, pos, af, none⟩ :: rest) fr hp L := by
  by_cases h : p < s.length
  · simp only [nextV, nextP, if_pos h] at k
    exact rq9 hd hx hpp h rfl k
  simp only [nextV, nextP, if_neg h] at k; refine rq8 hd hx (hpp.mem_iff.2 m0) (by omega) fun a w ha hw => k a w ha (hw.perm hpp)
theorem r_ext0 {x : Operand} {s : Str} {p : Nat} (hd : Nat.blt d c.n = true) (hx : ev fr x = some (nextV s p)) (k : HL c ops Q rest ((d, .bool (decide (p < s.length))) :: fr) hp L) : HL c ops Q (⟨some d, .extract x 0, ty, pos, af, none⟩ :: rest) fr hp L := by
  by_cases h : p < s.length
  · simp only [nextV, if_pos h] at hx
    rw [decide_eq_true h] at k; exact m4 hd hx rfl k
  simp only [nextV, if_neg h] at hx; rw [decide_eq_false h] at k; exact m4 hd hx rfl k
theorem r_ext2 {x : Operand} {s : Str} {p : Nat} (hd : Nat.blt d c.n = true) (hx : ev fr x = some (nextV s p)) (h : p < s.length) (k : HL c ops Q rest ((d, .int .i32 ((Utf8.decode ⟨s.toArray⟩ p).1 : Nat)) :: fr) hp L) : HL c ops Q (⟨some d, .extract x 2, ty, pos, af, none⟩ :: rest) fr hp L := by
  simp only [nextV, if_pos h] at hx; exact m4 hd hx rfl k
end
theorem u7 {b : Bx} {hp : Hp} {L : List Fact} {g o : Nat} {cs : List Value} {v : Value} (h : Row (d6 g) cs ∈ L) (hv : cs[o]? = some v) : Cell b hp L ⟨g, o, none⟩ v := fun w hw => by
  have := Row.cell (hw.fs _ h) hv
  simpa [adr, bI] using this
theorem mz9 {s : Str} {p : Nat} {b : UInt8} (h : s[p]? = some b) (hb : b.toNat < 128) : Utf8.decode ⟨s.toArray⟩ p = (b.toNat, 1) := by
  have hlt : p < s.length := (List.getElem?_eq_some_iff.1 h).1
  have hg : (ByteArray.mk s.toArray).get! (p + 0) = b := by
    rw [Nat.add_zero]; show s.toArray[p]! = b; rw [List.getElem?_eq_getElem hlt] at h
    injection h with h
    simp [h, hlt]
  unfold Utf8.decode; simp only [hg]; rw [if_pos hb]
theorem dec_big {s : Str} {p : Nat} {b : UInt8} (h : s[p]? = some b) (hb : 128 ≤ b.toNat) : 128 ≤ (Utf8.decode ⟨s.toArray⟩ p).1 := by
  have hlt : p < s.length := (List.getElem?_eq_some_iff.1 h).1
  have hg : (ByteArray.mk s.toArray).get! (p + 0) = b := by
    rw [Nat.add_zero]; show s.toArray[p]! = b; rw [List.getElem?_eq_getElem hlt] at h
    injection h with h
    simp [h, hlt]
  unfold Utf8.decode; simp only [hg]; rw [if_neg (by omega)]; unfold Utf8.runeError
  repeat' split
  all_goals first | (simp only; omega) | (rename_i h1; simp only [Bool.and_eq_true, decide_eq_true_eq, ge_iff_le] at h1; simp only; omega)
theorem dec_in {s : Str} {p : Nat} (hp : p < s.length) {lo hi : Nat} (h2 : hi < 128) (h : lo ≤ (Utf8.decode ⟨s.toArray⟩ p).1 ∧ (Utf8.decode ⟨s.toArray⟩ p).1 ≤ hi) : lo ≤ s[p].toNat ∧ s[p].toNat ≤ hi ∧ nextP s p = p + 1 := by
  have hs : s[p]? = some s[p] := List.getElem?_eq_getElem hp
  rcases Nat.lt_or_ge s[p].toNat 128 with hb | hb
  · have := mz9 hs hb
    rw [nextP, if_pos hp]; rw [this] at h ⊢; exact ⟨h.1, h.2, rfl⟩
  have := dec_big hs hb; omega
theorem tj0 {s : Str} {p : Nat} (hp : p < s.length) {lo hi : Nat} (h2 : hi < 128) (h : (Utf8.decode ⟨s.toArray⟩ p).1 < lo ∨ hi < (Utf8.decode ⟨s.toArray⟩ p).1) : s[p].toNat < lo ∨ hi < s[p].toNat := by
  have hs : s[p]? = some s[p] := List.getElem?_eq_getElem hp
  rcases Nat.lt_or_ge s[p].toNat 128 with hb | hb
  · have := mz9 hs hb
    rw [this] at h; exact h
  right; omega
/-! ### Small sets of bits -/
def u8 (m : Nat) : Value := .int .u8 (m : Int)
theorem wrap8 {m : Nat} (h : m < 256) : IntKind.u8.wrap (m : Int) = (m : Int) := by
  have h1 : 0 ≤ (m : Int) := by omega
  have h2 : (m : Int) < 256 := by omega
  simp only [IntKind.wrap, IntKind.bits, IntKind.signed]
  simp
  omega
theorem bv8 {m : Nat} (h : m < 256) : (BitVec.ofInt 8 (m : Int)).toNat = m := by
  simp [BitVec.toNat_ofInt]
  omega
section
variable {c : Cx} {Q : Exit → Act → World → Prop} {fr : Fr} {hp : Hp} {L : List Fact} {ops : Array Oper} {rest : List Oper}
variable {d : Tmp} {ty : TypeId} {pos : String} {af : Array Edge}
theorem r_or8 {t yt : TypeId} {x y : Operand} {a b : Nat} (hd : Nat.blt d c.n = true) (hx : ev fr x = some (u8 a)) (hy : ev fr y = some (u8 b)) (ha : a < 256) (hb : b < 256) (k : HL c ops Q rest ((d, u8 (a ||| b)) :: fr) hp L) :
    HL c ops Q (⟨some d, .binOp .or t x y yt, ty, pos, af, none⟩ :: rest) fr hp L :=
  q8 _ hd hx hy (fun _ => rfl) (fun w => by
    show (Op.intBits .or .u8 (a : Int) (b : Int)).run c.P w = _; have h : (BitVec.ofInt 8 (a : Int) ||| BitVec.ofInt 8 (b : Int)).toNat = a ||| b := by rw [BitVec.toNat_or, bv8 ha, bv8 hb]
    have hl : a ||| b < 256 := Nat.or_lt_two_pow (n := 8) ha hb
    show Result.ok (Value.int .u8 (IntKind.u8.wrap ((BitVec.ofInt 8 (a : Int) ||| BitVec.ofInt 8 (b : Int)).toNat : Nat))) w = _; rw [h, wrap8 hl]
    rfl) k
def diff8 (a b : Nat) : Nat := a &&& (255 - b)
theorem r_shl8 {t yt : TypeId} {x y : Operand} {ky : IntKind} {z : Int} (n : Nat) (hd : Nat.blt d c.n = true) (hx : ev fr x = some (.int .u8 1)) (hy : ev fr y = some (.int ky z)) (hz : z = (n : Int)) (hn : n < 8) (k : HL c ops Q rest ((d, u8 (2 ^ n)) :: fr) hp L) :
    HL c ops Q (⟨some d, .binOp .shl t x y yt, ty, pos, af, none⟩ :: rest) fr hp L :=
  q8 _ hd hx hy (fun _ => rfl) (fun w => by
    subst hz; show (Op.shift .shl .u8 1 ky (n : Int)).run c.P w = _; have hl : 2 ^ n < 256 := Nat.pow_lt_pow_right (by omega) hn; have hm : min ((n : Int).toNat) (IntKind.u8.bits) = n := by show min ((n : Int).toNat) 8 = n; omega
    simp only [Op.shift]; rw [if_neg (by omega), hm, Int.one_mul, show ((2 : Int) ^ n) = ((2 ^ n : Nat) : Int) by simp, wrap8 hl]
    rfl) k
end
theorem xq7 (a n : Nat) : (decide (((a / 2 ^ n &&& 1 : Nat) : Int) = 1)) = a.testBit n := by
  rw [Nat.and_one_is_mod, Nat.testBit_eq_decide_div_mod_eq]; exact decide_eq_decide.2 (by omega)
/-! ### Rows whose elements have facts of their own -/
def RowsF {α : Type} [El α] (A : Option Addr) (ps : List α) (f : α → Fact) : Fact where
  P w := (Row A (rows ps)).P w ∧ ∀ p ∈ ps, (f p).P w
  fp k := (Row A (rows ps)).fp k ∨ ∃ p ∈ ps, (f p).fp k
  st w w' h hP := ⟨(Row A (rows ps)).st w w' (fun k hk => h k (.inl hk)) hP.1, fun p hp => (f p).st w w' (fun k hk => h k (.inr ⟨p, hp, hk⟩)) (hP.2 p hp)⟩
  lt w hP k hk := by
    rcases hk with hk | ⟨p, hp, hk⟩
    · exact (Row A (rows ps)).lt w hP.1 k hk
    exact (f p).lt w (hP.2 p hp) k hk
section
variable {c : Cx} {Q : Exit → Act → World → Prop} {fr : Fr} {hp : Hp} {L : List Fact} {ops : Array Oper} {rest : List Oper}
variable {α : Type} [El α] {A : Option Addr} {ps : List α} {f : α → Fact}
theorem mj2 {b : Bx} {w : World} (h : RowsF A ps f ∈ L) (hw : WI b w hp L) : WI b w hp (Row A (rows ps) :: L) := jL hw (hw.fs _ h).1 (fun k hk => ⟨_, h, .inl hk⟩)
theorem mj3 {b : Bx} {w : World} {p : α} (h : RowsF A ps f ∈ L) (hp' : p ∈ ps) (hw : WI b w hp L) : WI b w hp (f p :: L) := jL hw ((hw.fs _ h).2 p hp') (fun k hk => ⟨_, h, .inr ⟨p, hp', hk⟩⟩)
theorem uj5 (h : RowsF A ps f ∈ L) (k : HL c ops Q rest fr hp (Row A (rows ps) :: L)) : HL c ops Q rest fr hp L := fun a w ha hw => k a w ha (mj2 h hw)
theorem mx9 {x : Code} (h : RowsF A ps f ∈ L) (k : HC c x Q fr hp (Row A (rows ps) :: L)) : HC c x Q fr hp L := fun a w ha hw => k a w ha (mj2 h hw)
theorem uj6 {p : α} (h : RowsF A ps f ∈ L) (hp' : p ∈ ps) (k : HL c ops Q rest fr hp (f p :: L)) : HL c ops Q rest fr hp L := fun a w ha hw => k a w ha (mj3 h hp' hw)
theorem mz0 {p : α} {x : Code} (h : RowsF A ps f ∈ L) (hp' : p ∈ ps) (k : HC c x Q fr hp (f p :: L)) : HC c x Q fr hp L := fun a w ha hw => k a w ha (mj3 h hp' hw)
abbrev innersF (ps : List α) (f : α → Fact) : Fact := Facts (ps.map f)
theorem px5 {b : Bx} {w : World} (h : Row A (rows ps) ∈ L) (h2 : innersF ps f ∈ L) (hw : WI b w hp L) : WI b w hp (RowsF A ps f :: L) := by
  have : ∀ p ∈ ps, (f p).P w := fun p hp => hw.fs _ h2 _ (List.mem_map.2 ⟨p, hp, rfl⟩); refine jL hw ⟨hw.fs _ h, this⟩ (fun k hk => ?_)
  rcases hk with hk | ⟨p, hp, hk⟩
  · exact ⟨_, h, hk⟩
  exact ⟨_, h2, _, List.mem_map.2 ⟨p, hp, rfl⟩, hk⟩
theorem wx9 {x : Code} (h : Row A (rows ps) ∈ L) (h2 : innersF ps f ∈ L) (k : HC c x Q fr hp (RowsF A ps f :: L)) : HC c x Q fr hp L := fun a w ha hw => k a w ha (px5 h h2 hw)
theorem wx4 {e : Exit} (h : Row A (rows ps) ∈ L) (h2 : innersF ps f ∈ L) (k : HQ c Q e fr hp (RowsF A ps f :: L)) : HQ c Q e fr hp L := fun a w ha hw => k a w ha (px5 h h2 hw)
end
theorem rj1 {α : Type} [El α] {A : Option Addr} {ps : List α} {hp : Hp} {L : List Fact} {b : Bx} {w : World} (n : Nat) (h : Row A (rows ps) ∈ L) (hw : WI b w hp L) : WI b w hp (Row A (rows (ps.take n)) :: L) := by
  have h0 := hw.fs _ h; obtain ⟨r, hr⟩ : ∃ r, rows ps = rows (ps.take n) ++ r := ⟨rows (ps.drop n), by rw [← C9, List.take_append_drop]⟩; refine jL hw (fun j u hj => h0 j u ?_) (fun k hk => ⟨_, h, ?_⟩)
  · rw [hr, List.getElem?_append, if_pos (List.getElem?_eq_some_iff.1 hj).1]; exact hj
  obtain ⟨ad, e, h1, h2⟩ := hk; exact ⟨ad, e, h1, fun h3 => h2 (by rw [h3] at hr; exact (List.append_eq_nil_iff.1 hr.symm).1)⟩
theorem kz3 {α : Type} [El α] {A : Option Addr} {ps : List α} {hp : Hp} {L : List Fact} {c : Cx} {Q : Exit → Act → World → Prop} {fr : Fr} {ops : Array Oper} {rest : List Oper} (n : Nat) (h : Row A (rows ps) ∈ L) (k : HL c ops Q rest fr hp (Row A (rows (ps.take n)) :: L)) : HL c ops Q rest fr hp L := fun a w ha hw => k a w ha (rj1 n h hw)
theorem ix9 {α : Type} {ps : List α} {f : α → Fact} {L : List Fact} {p : α} (h : innersF ps f ∈ L) (h2 : f p ∈ L) : ∀ F ∈ (ps ++ [p]).map f, F ∈ L ∨ ∃ Gs, Facts Gs ∈ L ∧ F ∈ Gs := by
  intro F hF; rw [List.map_append] at hF
  rcases List.mem_append.1 hF with hF | hF
  · exact .inr ⟨_, h, hF⟩
  simp at hF; subst hF; exact .inl h2
end Go.W
end
section
open Go Go.W
set_option maxRecDepth 20000
attribute [local irreducible] HL HC HQ HB Row Rows2 Blk Facts
namespace Go.W
abbrev Cl := Str × Int
abbrev PH := Str × Int × Int × List Int
structure Tr where
  cs : List Cl
  hs : List PH
deriving DecidableEq
def wd (s : String) : Str := s.toUTF8.toList
def azB (c : UInt8) : Bool := decide (97 ≤ c.toNat) && decide (c.toNat ≤ 122)
def wClass : Str := [99, 108, 97, 115, 115]
def wFinis : Str := [102, 105, 110, 105, 115]
def wordB (s : Str) : Bool := decide (0 < s.length) && (decide (s.length ≤ 12) && (decide (¬ s = wClass) && (decide (¬ s = wFinis) && s.all azB)))
def clsErr (cs : List Cl) (i : Nat) : Int :=
  if wordB (cs.getD i default).1 = false then 2
  else if (cs.getD i default).1 ∈ (cs.take i).map (·.1) then 4
  else if (cs.getD i default).2 < -1 ∨ (cs.length : Int) ≤ (cs.getD i default).2 then 3
  else if (i : Int) ≤ (cs.getD i default).2 then 5 else 0
def alsoErr (n i : Nat) (l : List Int) (k : Nat) : Int :=
  if l.getD k default < 0 ∨ (n : Int) ≤ l.getD k default then 3
  else if l.getD k default = (i : Int) then 9
  else if 0 < k ∧ l.getD k default ≤ l.getD (k - 1) default then 5 else 0
def firstE (f : Nat → Int) : Nat → Int
  | 0 => 0
  | n + 1 => if firstE f n = 0 then f n else firstE f n
def kindBad (h : PH) : Bool := (decide (¬ h.2.2.1 = -1) && (decide (¬ h.2.1 = -1) || decide (0 < h.2.2.2.length))) || (decide (h.2.2.1 = -1) && (decide (h.2.1 = -1) && decide (h.2.2.2.length = 0)))
def headErr (t : Tr) (i : Nat) : Int :=
  if wordB (t.hs.getD i default).1 = false then 2
  else if (t.hs.getD i default).1 ∈ (t.hs.take i).map (·.1) then 4
  else if 0 < i ∧ (t.hs.getD i default).1 < (t.hs.getD (i - 1) default).1 then 5
  else if (t.hs.getD i default).2.1 < -1 ∨ (t.cs.length : Int) ≤ (t.hs.getD i default).2.1 ∨ (t.hs.getD i default).2.2.1 < -1 ∨ (t.hs.length : Int) ≤ (t.hs.getD i default).2.2.1 then 3
  else if (t.hs.getD i default).2.2.1 = (i : Int) then 9
  else if ¬ firstE (alsoErr t.hs.length i (t.hs.getD i default).2.2.2) (t.hs.getD i default).2.2.2.length = 0 then firstE (alsoErr t.hs.length i (t.hs.getD i default).2.2.2) (t.hs.getD i default).2.2.2.length
  else if kindBad (t.hs.getD i default) = true then 8 else 0
def checkT (t : Tr) : Int :=
  if 6 < t.cs.length ∨ 6 < t.hs.length then 6
  else if ¬ firstE (clsErr t.cs) t.cs.length = 0 then firstE (clsErr t.cs) t.cs.length
  else firstE (headErr t) t.hs.length
def pathL (cs : List Cl) : Nat → Int → List Int
  | 0, _ => []
  | d + 1, c => if c < 0 then [] else pathL cs d (cs.getD c.toNat default).2 ++ [c]
def pathT (cs : List Cl) (c : Int) : List Int := pathL cs (c.toNat + 1) c
def leastN (p q : List Int) : Nat → Int
  | 0 => -1
  | k + 1 => if (k : Int) ∈ p ∧ (k : Int) ∈ q then (k : Int) else leastN p q k
def leastT (t : Tr) (a b : Int) : Int := leastN (pathT t.cs a) (pathT t.cs b) t.cs.length
def underT (t : Tr) (c : Int) : List Int := ((List.range t.hs.length).filter fun i => decide (¬ (t.hs.getD i default).2.1 = -1) && decide (c ∈ pathT t.cs (t.hs.getD i default).2.1)).map fun i : Nat => (i : Int)
def followN (hs : List PH) : Nat → Int → Int → Option (Int × Int)
  | 0, _, _ => none
  | d + 1, h, n => if (hs.getD h.toNat default).2.2.1 = -1 then some (h, n) else followN hs d (hs.getD h.toNat default).2.2.1 (n + 1)
def followT (t : Tr) (h : Int) : Option (Int × Int) := followN t.hs (t.hs.length + 1) h 0
def isTrB (t : Tr) (h : Int) : Bool := decide ((t.hs.getD h.toNat default).2.2.1 = -1) && decide (¬ (t.hs.getD h.toNat default).2.1 = -1)
def leadsB (t : Tr) (b : Str) (h i : Nat) : Bool := decide (b <+: (t.hs.getD h default).1) && (match followT t h with | some (e, _) => decide (e = (i : Int)) && isTrB t e | none => false)
def mayT (t : Tr) (b : Str) : List Int := ((List.range t.hs.length).filter fun i => (List.range t.hs.length).any fun h => leadsB t b h i).map fun i : Nat => (i : Int)
def shortN (t : Tr) (w : Str) : Nat → Nat → Option Str
  | 0, n => none
  | d + 1, n => if (mayT t (w.take n)).length = 1 then some (w.take n) else shortN t w d (n + 1)
def shortT (t : Tr) (h : Int) : Option Str := shortN t (t.hs.getD h.toNat default).1 ((t.hs.getD h.toNat default).1.length + 1) 0
theorem firstE_zero {f : Nat → Int} : ∀ {n : Nat}, firstE f n = 0 → ∀ i, i < n → f i = 0
  | 0, _, i, h => by omega
  | n + 1, h, i, hi => by
    rw [firstE] at h
    by_cases h1 : firstE f n = 0
    · rw [if_pos h1] at h
      by_cases h2 : i = n
      · rw [h2]; exact h
      exact firstE_zero h1 i (by omega)
    rw [if_neg h1] at h; exact absurd h h1
theorem yO {f : Nat → Int} {n : Nat} (h : firstE f n = 0) : firstE f (n + 1) = f n := by rw [firstE, if_pos h]
theorem dU {f : Nat → Int} {k : Nat} (h0 : firstE f k = 0) (h1 : ¬ f k = 0) : ∀ n, k < n → firstE f n = f k
  | 0, h => by omega
  | n + 1, h => by
    rw [firstE]
    by_cases hk : k = n
    · subst hk; rw [if_pos h0]
    rw [dU h0 h1 n (by omega), if_neg h1]
structure ClsOK (cs : List Cl) (i : Nat) : Prop where
  w : wordB (cs.getD i default).1 = true
  n : (cs.getD i default).1 ∉ (cs.take i).map (·.1)
  lo : -1 ≤ (cs.getD i default).2
  hi : (cs.getD i default).2 < (i : Int)
structure HeadOK (t : Tr) (i : Nat) : Prop where
  w : wordB (t.hs.getD i default).1 = true
  n : (t.hs.getD i default).1 ∉ (t.hs.take i).map (·.1)
  o : ¬ (0 < i ∧ (t.hs.getD i default).1 < (t.hs.getD (i - 1) default).1)
  c : -1 ≤ (t.hs.getD i default).2.1 ∧ (t.hs.getD i default).2.1 < (t.cs.length : Int)
  s : -1 ≤ (t.hs.getD i default).2.2.1 ∧ (t.hs.getD i default).2.2.1 < (t.hs.length : Int) ∧ ¬ (t.hs.getD i default).2.2.1 = (i : Int)
  a : ∀ k, k < (t.hs.getD i default).2.2.2.length → alsoErr t.hs.length i (t.hs.getD i default).2.2.2 k = 0
  k : kindBad (t.hs.getD i default) = false
structure TrOK (t : Tr) : Prop where
  c6 : t.cs.length ≤ 6
  h6 : t.hs.length ≤ 6
  c : ∀ i, i < t.cs.length → ClsOK t.cs i
  h : ∀ i, i < t.hs.length → HeadOK t i
theorem cls_ok {cs : List Cl} {i : Nat} (h : clsErr cs i = 0) : ClsOK cs i := by
  unfold clsErr at h
  split at h
  · omega
  rename_i h1
  split at h
  · omega
  rename_i h2
  split at h
  · omega
  rename_i h3
  split at h
  · omega
  rename_i h4
  exact ⟨by simpa using h1, h2, by omega, by omega⟩
theorem head_ok {t : Tr} {i : Nat} (h : headErr t i = 0) : HeadOK t i := by
  unfold headErr at h
  split at h
  · omega
  rename_i h1
  split at h
  · omega
  rename_i h2
  split at h
  · omega
  rename_i h3
  split at h
  · omega
  rename_i h4
  split at h
  · omega
  rename_i h5
  split at h
  · rename_i h6; exact absurd h h6
  rename_i h6
  split at h
  · omega
  rename_i h7
  exact ⟨by simpa using h1, h2, h3, by omega, by omega, firstE_zero (Classical.not_not.1 h6), by simpa using h7⟩
theorem sq3 {t : Tr} (h : checkT t = 0) : TrOK t := by
  unfold checkT at h
  split at h
  · omega
  rename_i h1
  split at h
  · rename_i h2; exact absurd h h2
  rename_i h2
  exact ⟨by omega, by omega, fun i hi => cls_ok (firstE_zero (Classical.not_not.1 h2) i hi), fun i hi => head_ok (firstE_zero h i hi)⟩
theorem kj8 {n i : Nat} {l : List Int} {k : Nat} (h : alsoErr n i l k = 0) : 0 ≤ l.getD k default ∧ l.getD k default < (n : Int) ∧ ¬ l.getD k default = (i : Int) ∧ (0 < k → l.getD (k - 1) default < l.getD k default) := by
  unfold alsoErr at h
  split at h
  · omega
  split at h
  · omega
  split at h
  · omega
  exact ⟨by omega, by omega, by omega, by omega⟩
theorem HeadOK.kinds {t : Tr} {i : Nat} (h : HeadOK t i) : (0 ≤ (t.hs.getD i default).2.2.1 ∧ (t.hs.getD i default).2.1 = -1 ∧ (t.hs.getD i default).2.2.2 = []) ∨ ((t.hs.getD i default).2.2.1 = -1 ∧ 0 ≤ (t.hs.getD i default).2.1) ∨ ((t.hs.getD i default).2.2.1 = -1 ∧ (t.hs.getD i default).2.1 = -1 ∧ (t.hs.getD i default).2.2.2 ≠ []) := by
  have hk := h.k; have hs := h.s; have hc := h.c; unfold kindBad at hk; generalize t.hs.getD i default = x at *; simp only [Bool.or_eq_false_iff, Bool.and_eq_false_iff, decide_eq_false_iff_not] at hk; have hl : x.2.2.2.length = 0 ↔ x.2.2.2 = [] := List.length_eq_zero_iff
  by_cases h1 : x.2.2.1 = -1
  · by_cases h2 : x.2.1 = -1
    · right; right
      refine ⟨h1, h2, fun e => ?_⟩
      rcases hk.2 with h3 | h3 | h3
      · exact h3 h1
      · exact h3 h2
      exact h3 (hl.2 e)
    right; left
    exact ⟨h1, by omega⟩
  left
  rcases hk.1 with h3 | ⟨h3, h4⟩
  · exact absurd h1 h3
  exact ⟨by omega, Classical.not_not.1 h3, hl.1 (by omega)⟩
theorem mx3 (cs : List Cl) (d : Nat) {u : Int} (h : u < 0) : pathL cs d u = [] := by
  cases d with
  | zero => rfl
  | succ d => rw [pathL, if_pos h]
theorem gx9 (cs : List Cl) (hc : ∀ i, i < cs.length → ClsOK cs i) : ∀ (d : Nat) (c : Int), c < (cs.length : Int) → c.toNat + 1 ≤ d → pathL cs d c = pathT cs c
  | 0, c, _, h => by omega
  | d + 1, c, hl, h => by
    unfold pathT; rw [pathL, pathL]
    by_cases h0 : c < 0
    · rw [if_pos h0, if_pos h0]
    rw [if_neg h0, if_neg h0]; have hcl := hc c.toNat (by omega); have h1 := hcl.lo; have h2 := hcl.hi
    congr 1
    generalize (cs.getD c.toNat default).2 = u at *
    by_cases hu : u < 0
    · rw [mx3 cs d hu, mx3 cs c.toNat hu]
    rw [gx9 cs hc d u (by omega) (by omega), gx9 cs hc c.toNat u (by omega) (by omega)]
theorem cx8 (cs : List Cl) {c : Int} (h : c < 0) : pathT cs c = [] := by unfold pathT; rw [pathL, if_pos h]
theorem mx2 (cs : List Cl) (hc : ∀ i, i < cs.length → ClsOK cs i) {c : Int} (h0 : 0 ≤ c) (hl : c < (cs.length : Int)) : pathT cs c = pathT cs (cs.getD c.toNat default).2 ++ [c] := by
  have hcl := hc c.toNat (by omega); have h1 := hcl.lo; have h2 := hcl.hi
  conv => lhs; unfold pathT
  rw [pathL, if_neg (by omega)]
  congr 1
  by_cases hu : (cs.getD c.toNat default).2 < 0
  · rw [cx8 cs hu]
    cases hn : c.toNat with
    | zero => rfl
    | succ m => rw [pathL, if_pos (by rw [← hn]; exact hu)]
  exact gx9 cs hc c.toNat _ (by omega) (by omega)
theorem qj9 (cs : List Cl) (hc : ∀ i, i < cs.length → ClsOK cs i) : ∀ (n : Nat) (c : Int), c.toNat ≤ n → c < (cs.length : Int) → (pathT cs c).Pairwise (· < ·) ∧ ∀ x ∈ pathT cs c, 0 ≤ x ∧ x ≤ c
  | n, c, hn, hl => by
    by_cases h0 : c < 0
    · rw [cx8 cs h0]; simp
    have hcl := hc c.toNat (by omega); have h1 := hcl.lo; have h2 := hcl.hi; rw [mx2 cs hc (by omega) hl]; generalize (cs.getD c.toNat default).2 = u at *
    have ih : (pathT cs u).Pairwise (· < ·) ∧ ∀ x ∈ pathT cs u, 0 ≤ x ∧ x ≤ u := by
      by_cases hu : u < 0
      · rw [cx8 cs hu]; simp
      cases n with
      | zero => omega
      | succ n => exact qj9 cs hc n u (by omega) (by omega)
    refine ⟨List.pairwise_append.2 ⟨ih.1, by simp, fun a ha b hb => ?_⟩, fun x hx => ?_⟩
    · rw [List.mem_singleton] at hb; have := (ih.2 a ha).2; omega
    rcases List.mem_append.1 hx with hx | hx
    · have := ih.2 x hx; omega
    rw [List.mem_singleton] at hx; omega
end Go.W
namespace Go.W
structure LeastOK (p q : List Int) (n : Nat) (m : Int) : Prop where
  lo : -1 ≤ m
  hi : m < n
  mem : 0 ≤ m → m ∈ p ∧ m ∈ q
  no : ∀ c : Int, m < c → c < n → c ∈ p → c ∈ q → False
/-! ### Following -/
/-! ### What a beginning means -/
end Go.W
namespace Go.W
/-! ### A heading dropped -/
def fallsB (t : Tr) (g : List Bool) (i : Nat) : Bool :=
  if ¬ (t.hs.getD i default).2.2.1 = -1 then g.getD (t.hs.getD i default).2.2.1.toNat default
  else if ¬ (t.hs.getD i default).2.1 = -1 then false
  else (t.hs.getD i default).2.2.2.all fun n => g.getD n.toNat default
def fallStep (t : Tr) (g : List Bool) (i : Nat) : List Bool := g.set i (g.getD i default || fallsB t g i)
def fallRound (t : Tr) (g : List Bool) : List Bool := (List.range t.hs.length).foldl (fallStep t) g
def goneL (t : Tr) (h : Int) : List Bool := (List.range t.hs.length).foldl (fun g _ => fallRound t g) ((List.replicate t.hs.length false).set h.toNat true)
def numB (g : List Bool) (i : Nat) : Int := (((List.range i).filter fun k => !g.getD k default).length : Nat)
def dropH (g : List Bool) (x : PH) : PH := (x.1, x.2.1, (if 0 ≤ x.2.2.1 then numB g x.2.2.1.toNat else x.2.2.1), (x.2.2.2.filter fun a => !g.getD a.toNat default).map fun a => numB g a.toNat)
def dropT (t : Tr) (h : Int) : Tr := ⟨t.cs, ((List.range t.hs.length).filter fun i => !(goneL t h).getD i default).map fun i => dropH (goneL t h) (t.hs.getD i default)⟩
/-! ### Editions compared -/
def insU (s : Str) : List Str → List Str
  | [] => [s]
  | x :: l => if s < x then s :: x :: l else if s = x then x :: l else x :: insU s l
def sortU (ws : List Str) : List Str := ws.foldr insU []
def wordsT (t : Tr) : List Str := t.hs.map (·.1)
def namesN (t : Tr) (s : Str) : Option (List Str) := (t.hs.find? fun h => decide (h.1 = s) && decide (¬ h.2.1 = -1)).map fun h => (pathT t.cs h.2.1).map fun c => (t.cs.getD c.toNat default).1
def moveN (a b : Tr) (s : Str) : Option (Str × Int) :=
  match namesN a s, namesN b s with
  | some _, none => some (s, 1)
  | none, some _ => some (s, 2)
  | some p, some q => if p = q then none else some (s, 3)
  | none, none => none
def compareT (a b : Tr) : List (Str × Int) := (sortU (wordsT a ++ wordsT b)).filterMap (moveN a b)
/-! ### The fewest references -/
def nextB (t : Tr) (h k : Nat) : Bool := decide ((t.hs.getD h default).2.2.1 = (k : Int)) || decide ((k : Int) ∈ (t.hs.getD h default).2.2.2)
abbrev Edges := Nat → Nat → Bool
def reachB (n : Nat) (e : Edges) (h : Nat) : Nat → Nat → Bool
  | 0, i => decide (i = h)
  | s + 1, i => reachB n e h s i || (List.range n).any fun k => reachB n e h s k && e k i
def freeT (t : Tr) : List (Int × Int) := (List.range t.hs.length).flatMap fun i => if (t.hs.getD i default).2.2.1 = -1 then ((List.range t.hs.length).filter fun k => decide (¬ k = i) && !nextB t i k).map fun k : Nat => ((i : Int), (k : Int)) else []
def withE (t : Tr) (r : List (Int × Int)) : Edges := fun h k => nextB t h k || decide (((h : Int), (k : Int)) ∈ r)
def fineB (t : Tr) (h : Int) (s : Int) (r : List (Int × Int)) : Bool := (List.range t.hs.length).all fun i => !isTrB t i || reachB t.hs.length (withE t r) h.toNat s.toNat i
def combos {α : Type} : Nat → List α → List (List α)
  | 0, _ => [[]]
  | k + 1, [] => []
  | k + 1, x :: l => (combos k l).map (x :: ·) ++ combos (k + 1) l
def joinT (t : Tr) (h s : Int) : Option (List (Int × Int)) :=
  if fineB t h s (freeT t) = false then none else ((List.range ((freeT t).length + 1)).flatMap fun m => combos m (freeT t)).find? (fineB t h s)
end Go.W
open Go.W
def shopsT : Tr := ⟨[(wd "food", -1), (wd "bread", 0), (wd "cloth", -1), (wd "hats", 2)], [(wd "baker", 1, -1, []), (wd "bonnets", -1, 3, []), (wd "confectioner", 0, -1, [0]), (wd "hatter", 3, -1, []), (wd "mercer", 2, -1, [3]), (wd "milliner", -1, 1, [])]⟩
def laterT : Tr := ⟨shopsT.cs, [(wd "baker", 1, -1, []), (wd "bonnets", -1, 2, []), (wd "hatter", 2, -1, []), (wd "ironmonger", 0, -1, []), (wd "mercer", 2, -1, [2]), (wd "milliner", -1, 1, [])]⟩
namespace Go.W
theorem uA {n : Nat} {e : Edges} {h : Nat} {i : Nat} : ∀ {s t : Nat}, s ≤ t → reachB n e h s i = true → reachB n e h t i = true := by
  intro s t hst
  induction t with
  | zero => intro hr; obtain rfl : s = 0 := (by omega); exact hr
  | succ t ih =>
    intro hr
    by_cases hs : s = t + 1
    · subst hs; exact hr
    rw [reachB, ih (by omega) hr, Bool.true_or]
theorem mM {n : Nat} {e : Edges} {h s i : Nat} : reachB n e h (s + 1) i = true ↔ reachB n e h s i = true ∨ ∃ k, k < n ∧ reachB n e h s k = true ∧ e k i = true := by
  rw [reachB, Bool.or_eq_true, List.any_eq_true]
  constructor
  · rintro (h1 | ⟨k, h1, h2⟩)
    · exact .inl h1
    rw [Bool.and_eq_true] at h2; exact .inr ⟨k, List.mem_range.1 h1, h2⟩
  rintro (h1 | ⟨k, h1, h2⟩)
  · exact .inl h1
  exact .inr ⟨k, List.mem_range.2 h1, by rw [Bool.and_eq_true]; exact h2⟩
theorem xS {n : Nat} {e : Edges} {h s : Nat} (hs : ∀ i, i < n → reachB n e h (s + 1) i = true → reachB n e h s i = true) : ∀ (d i : Nat), i < n → reachB n e h (s + d) i = true → reachB n e h s i = true
  | 0, i, _, hr => hr
  | d + 1, i, hi, hr => by
    rw [show s + (d + 1) = (s + d) + 1 by omega, mM] at hr
    rcases hr with hr | ⟨k, h1, h2, h3⟩
    · exact xS hs d i hi hr
    exact hs i hi (mM.2 (.inr ⟨k, h1, xS hs d k h1 h2, h3⟩))
theorem qz1 {p q : Nat → Bool} : ∀ {n : Nat}, (∀ i, i < n → p i = true → q i = true) → (∃ i, i < n ∧ q i = true ∧ p i = false) → (List.range n).countP p < (List.range n).countP q
  | 0, _, ⟨i, h, _⟩ => by omega
  | n + 1, h, ⟨i, h1, h2, h3⟩ => by
    rw [List.range_succ, List.countP_append, List.countP_append]; have hle : (List.range n).countP p ≤ (List.range n).countP q := List.countP_mono_left fun x hx hp => h x (by have := List.mem_range.1 hx; omega) hp; simp only [List.countP_cons, List.countP_nil]
    by_cases hi : i = n
    · subst hi
      rw [h2, h3]
      simp; omega
    have := qz1 (n := n) (fun x hx hp => h x (by omega) hp) ⟨i, by omega, h2, h3⟩; have hn := h n (by omega)
    cases hp : p n
    · simp; split <;> omega
    rw [hn hp]; simp; omega
theorem mx1 {n : Nat} {e : Edges} {h : Nat} (hh : h < n) : ∀ (s : Nat), (∃ k, k ≤ s ∧ ∀ i, i < n → reachB n e h (k + 1) i = true → reachB n e h k i = true) ∨ s < (List.range n).countP (reachB n e h s)
  | 0 => by
    right
    rw [List.countP_pos_iff]; exact ⟨h, List.mem_range.2 hh, by rw [reachB]; simp⟩
  | s + 1 => by
    rcases mx1 hh s with ⟨k, h1, h2⟩ | h1
    · exact .inl ⟨k, by omega, h2⟩
    by_cases hs : ∀ i, i < n → reachB n e h (s + 1) i = true → reachB n e h s i = true
    · exact .inl ⟨s, by omega, hs⟩
    right
    simp only [Classical.not_forall] at hs; obtain ⟨i, hi, hr, hn⟩ := hs; have := qz1 (p := reachB n e h s) (q := reachB n e h (s + 1)) (n := n) (fun x _ hp => uA (by omega) hp) ⟨i, hi, hr, by simpa using hn⟩
    omega
theorem mx0 {n : Nat} {e : Edges} {h : Nat} (hh : h < n) {s i : Nat} (hi : i < n) (hr : reachB n e h s i = true) : reachB n e h n i = true := by
  by_cases hs : s ≤ n
  · exact uA hs hr
  rcases mx1 (e := e) hh n with ⟨k, h1, h2⟩ | h1
  · exact uA h1 (xS h2 (s - k) i hi (by rw [show k + (s - k) = s by omega]; exact hr))
  have : (List.range n).countP (reachB n e h n) ≤ (List.range n).length := List.countP_le_length; rw [List.length_range] at this
  omega
def distB (n : Nat) (e : Edges) (h i : Nat) : Option Nat := (List.range (n + 1)).find? fun s => reachB n e h s i
theorem lj8 {p : Nat → Bool} : ∀ {m s : Nat}, (List.range m).find? p = some s ↔ s < m ∧ p s = true ∧ ∀ k, k < s → p k = false
  | 0, s => by simp
  | m + 1, s => by
    rw [List.range_succ, List.find?_append]
    cases hf : (List.range m).find? p with
    | some r =>
      have hr := (lj8 (m := m)).1 hf; simp only [Option.some_or, Option.some.injEq]
      constructor
      · rintro rfl; exact ⟨by omega, hr.2⟩
      rintro ⟨h1, h2, h3⟩
      rcases Nat.lt_trichotomy r s with h | h | h
      · have := h3 r h; rw [hr.2.1] at this; cases this
      · exact h
      have := hr.2.2 s h; rw [h2] at this; cases this
    | none =>
      have hn : ∀ k, k < m → p k = false := by
        intro k hk; have := List.find?_eq_none.1 hf k (List.mem_range.2 hk)
        simpa using this
      simp only [Option.none_or, List.find?_singleton]
      constructor
      · intro h
        split at h
        · rename_i hp; cases h; exact ⟨by omega, hp, hn⟩
        cases h
      rintro ⟨h1, h2, h3⟩
      by_cases hs : s = m
      · subst hs; rw [if_pos h2]
      have := hn s (by omega); rw [h2] at this; cases this
theorem uq7 {n : Nat} {e : Edges} {h i s : Nat} : distB n e h i = some s ↔ s < n + 1 ∧ reachB n e h s i = true ∧ ∀ k, k < s → reachB n e h k i = false := lj8
theorem uq8 {n : Nat} {e : Edges} {h i : Nat} : distB n e h i = none ↔ ∀ s, s ≤ n → reachB n e h s i = false := by
  unfold distB; rw [List.find?_eq_none]
  constructor
  · intro h s hs; simpa using h s (List.mem_range.2 (by omega))
  intro h s hs; simp [h s (by have := List.mem_range.1 hs; omega)]
def distI (n : Nat) (e : Edges) (h i : Nat) : Int := match distB n e h i with | some s => (s : Int) | none => -1
def stepsT (t : Tr) (h : Int) : List Int := (List.range t.hs.length).map fun i => distI t.hs.length (nextB t) h.toNat i
end Go.W
namespace Go.W
theorem slt_irr (a : Str) : ¬ a < a := List.lt_irrefl a
theorem sq6 {a b : Str} (h1 : ¬ a < b) (h2 : ¬ b < a) : a = b := List.le_antisymm (List.not_lt.1 h2) (List.not_lt.1 h1)
def flipK (m : Str × Int) : Str × Int := (m.1, if m.2 = 1 then 2 else if m.2 = 2 then 1 else m.2)
structure MoveOK (a b : Tr) (m : Str × Int) : Prop where
  k1 : m.2 = 1 → (namesN a m.1).isSome = true ∧ (namesN b m.1).isSome = false
  k2 : m.2 = 2 → (namesN a m.1).isSome = false ∧ (namesN b m.1).isSome = true
  k3 : m.2 = 3 → (namesN a m.1).isSome = true ∧ (namesN b m.1).isSome = true
  k : m.2 = 1 ∨ m.2 = 2 ∨ m.2 = 3
end Go.W
end
section
namespace Go.Proofs.YtcdopfjiadifhaaGreatDoor
open Go Go.W Tryz T F
set_option maxRecDepth 20000
attribute [local irreducible] HL HC HQ HB Row Rows2 Blk Facts
instance : El Cl where
  default := ([], 0)
  cells m := [str m.1, int m.2]
  sz := 2
  len _ := rfl
  one a u h := by simp at h; rcases h with h | h <;> subst h <;> rfl
abbrev Hd := Str × Int × Int × Sl Int
instance : El Hd where
  default := ([], 0, 0, ⟨none, 0, []⟩)
  cells m := [str m.1, int m.2.1, int m.2.2.1, .slice m.2.2.2.a m.2.2.2.l.length m.2.2.2.c]
  sz := 4
  len _ := rfl
  one a u h := by simp at h; rcases h with h | h | h | h <;> subst h <;> rfl
def Hd.p (h : Hd) : PH := (h.1, h.2.1, h.2.2.1, h.2.2.2.l)
abbrev Hd.row (h : Hd) : Fact := Row h.2.2.2.a (rows h.2.2.2.l)
abbrev trOf (cs : List Cl) (hs : List Hd) : Tr := ⟨cs, hs.map Hd.p⟩
theorem rq3 (a b : Str) : Op.bytesLess a b = decide (a < b) := bytesLess_eq a b
theorem D7 {α : Type} [Inhabited α] {l : List α} {k : Nat} (hk : k < l.length) : l.getD k default = l[k] := by simp [List.getD_eq_getElem?_getD, hk]
theorem A3 {α : Type} [Inhabited α] {l : List α} {k : Nat} (hk : k < l.length) : l.getD k default ∈ l := by rw [D7 hk]; exact List.getElem_mem hk
theorem kz6 {hs : List Hd} {k : Nat} (hk : k < hs.length) : (hs.map Hd.p).getD k default = (hs.getD k default).p := by
  rw [D7 hk, D7 (by simpa using hk)]; simp
theorem Q8 (n lo hi : Int) : Meets prog iU [int n, int lo, int hi] { val := fun _ : Unit => .bool (decide (lo ≤ n ∧ n ≤ hi)) } := by
 refine j3 bj1 rfl t8 fun w0 => ?_; refine d9 (c7 rfl (k6 (b8 rfl (b8 rfl (xT rfl rfl rfl (b8 rfl ?_)))))); refine t7 rfl rfl ?_ ?_
 ·intro hg1; have hg1' := hg1; try simp at hg1'
  refine l9 hg1 (b8 rfl (l9 hg1 (b8 rfl (l9 hg1 (xT rfl rfl rfl ?_))))); refine p_t rfl rfl (bt1 hg1) rfl ?_; refine c7 rfl (d8 (k5 ?_)); exact ret1 () rfl (congrArg (fun b => some (Value.bool b)) (by simp [hg1'])) rfl tK nK tK
 intro hg1; have hg1' := hg1; try simp at hg1'
 refine q7 hg1 (q7 hg1 (q7 hg1 ?_)); refine p_f rfl rfl (bf2 hg1) rfl ?_; refine c7 rfl (d8 (k5 ?_)); exact ret1 () rfl (congrArg (fun b => some (Value.bool b)) (by simp [Int.not_le.2 hg1'])) rfl tK nK tK
theorem mj1 {s : Str} {p : Nat} (hp : p < s.length) (h : s[p].toNat < 97 ∨ 122 < s[p].toNat) : wordB s = false := by
  have : s.all azB = false := by
    rw [List.all_eq_false]; refine ⟨s[p], List.getElem_mem hp, ?_⟩; simp only [azB, Bool.and_eq_true, decide_eq_true_eq]
    omega
  simp [wordB, this]
theorem xx8 {s : Str} {k : Nat} (hk : k < s.length) (h : (s.take k).all azB = true) (h1 : 97 ≤ s[k].toNat ∧ s[k].toNat ≤ 122) : (s.take (k + 1)).all azB = true := by
  rw [List.take_succ_eq_append_getElem hk, List.all_append, h]
  simp [azB, h1]
theorem tq3 {s : Str} (h1 : ¬ s = []) (h2 : (s.length : Int) ≤ 12) (h3 : ¬ s = wClass) (h4 : ¬ s = wFinis) (h5 : s.all azB = true) : wordB s = true := by
  have h0 : 0 < s.length := List.length_pos_iff.2 h1; have h2' : s.length ≤ 12 := by omega
  simp only [wordB, h5, h3, h4, h0, h2', decide_true, Bool.and_true, not_false_eq_true]
theorem rQ (s : Str) : Meets prog qY [str s] { val := fun _ : Unit => .bool (wordB s) } := by
 refine j3 jq1 rfl t8 fun w0 => ?_; refine d9 (c7 rfl (d8 (i7 (d9 (b8 rfl ?_))))); refine C7 rfl l5 rfl ?_; refine G2 rfl rfl rfl (b8 rfl ?_); refine t7 rfl rfl ?_ ?_
 ·intro hg1; have hg1' := hg1; try simp at hg1'
  refine l9 hg1 (b8 rfl (l9 hg1 ?_)); refine C7 rfl l5 rfl ?_; refine l9 hg1 (P4 rfl rfl rfl ?_); refine p_f rfl rfl (bf1 hg1) rfl (b8 rfl ?_); refine t7 rfl rfl ?_ ?_
  ·intro hg2; have hg2' := hg2; try simp at hg2'
   refine l9 hg2 (b8 rfl (l9 hg2 (Z0 rfl rfl rfl ?_))); refine p_f rfl rfl (bf1 hg2) rfl (b8 rfl ?_); refine t7 rfl rfl ?_ ?_
   ·intro hg3; have hg3' := hg3; try simp at hg3'
    refine l9 hg3 (b8 rfl (l9 hg3 (Z0 rfl rfl rfl ?_))); refine p_f rfl rfl (bf1 hg3) rfl (d8 ?_); refine m6 rfl (fun hb1 => ?_) (fun hb1 => ?_)
    ·refine d9 (c7 rfl (d8 (J4 ?_))); exact ret1 () rfl (congrArg (fun b => some (Value.bool b)) (by rw [hb1]; decide)) rfl tK nK tK
    have hb1' := hb1; try simp at hb1'
    have h4 := hb1; refine j6 (i8 (i7 (d9 (b8 rfl ?_)))); refine vz0 rfl l5 rfl fun gI => ?_; refine d8 (j8 ?_); refine y8 (β := Nat) ⟨fun k => k ≤ s.length ∧ (s.take k).all azB = true, fun k => [(0, str s), (22, .pointer (d6 gI))], fun k => [(gI, iter s k)], fun _ => []⟩ (fun k => s.length - k) 0 ⟨Nat.zero_le _, rfl⟩ mC (.refl _) tK fun k hk => ?_; obtain ⟨hk, ht⟩ := hk; refine d9 (r_nextS rfl rfl (.refl _) ?_); refine r_ext0 rfl rfl (d8 (i7 ?_)); refine m6 rfl (fun hb2 => ?_) (fun hb2 => ?_)
    ·refine j6 (i8 (j8 (d9 (r_ext2 rfl rfl hb2 (c7 rfl (k6 (b8 rfl ?_))))))); refine C4 rfl rfl rfl (b8 rfl ?_); refine t7 rfl rfl ?_ ?_
     ·intro hg4; refine l9 hg4 (b8 rfl (l9 hg4 (P4 rfl rfl rfl ?_))); refine p_f rfl rfl (bf1 hg4) rfl (d8 ?_); refine m6 rfl (fun hb3 => ?_) (fun hb3 => ?_)
      ·refine d9 (c7 rfl (d8 (k5 (G6 (G6 ?_))))); exact ret1 () rfl (congrArg (fun b => some (Value.bool b)) (by exact (mj1 hb2 (tj0 hb2 (lo := 97) (hi := 122) (by decide) (.inr (by omega)))).symm)) rfl tK nK tK
      refine j6 (w9 ?_); have hin := dec_in (p := k) (s := s) hb2 (lo := 97) (hi := 122) (by decide) (by simp at hg4; omega); refine again _ (k + 1) ⟨by omega, xx8 hb2 ht ⟨hin.1, hin.2.1⟩⟩ (C8 (by omega)) mC ?_ tK; rw [hin.2.2]; exact (.refl _)
     intro hg4; refine q7 hg4 (q7 hg4 ?_); refine p_t rfl rfl (bt2 hg4) rfl ?_; refine d8 (c_t rfl rfl (d9 (c7 rfl (d8 (k5 (G6 (cU ?_))))))); refine C5 ?_; exact ret1 () rfl (congrArg (fun b => some (Value.bool b)) (by exact (mj1 hb2 (tj0 hb2 (lo := 97) (hi := 122) (by decide) (.inl (by simp at hg4; omega)))).symm)) rfl tK nK tK
    have hb2' := hb2; try simp at hb2'
    have hk2 : k = s.length := by omega
    subst hk2; rw [List.take_length] at ht; refine w8 (E4 (w6 (i8 (d9 (c7 rfl (d8 (k5 ?_))))))); exact ret1 () rfl (congrArg (fun b => some (Value.bool b)) (by exact (tq3 hg1' hg2' hg3' h4 ht).symm)) rfl tK nK tK
   intro hg3; refine q7 hg3 (q7 hg3 ?_); refine p_t rfl rfl (bt2 hg3) rfl ?_; refine d8 (c_t rfl rfl (d9 (c7 rfl (d8 (J4 ?_))))); exact ret1 () rfl (congrArg (fun b => some (Value.bool b)) (by simp at hg3; rw [hg3]; decide)) rfl tK nK tK
  intro hg2; refine q7 hg2 (q7 hg2 ?_); refine p_t rfl rfl (bt2 hg2) rfl ?_; refine b8 rfl (E2 rfl rfl rfl rfl rfl rfl (E2 rfl rfl rfl rfl rfl rfl (p_t rfl rfl rfl rfl (d8 (c_t rfl rfl (d9 (c7 rfl (d8 ?_)))))))); refine J4 ?_; exact ret1 () rfl (congrArg (fun b => some (Value.bool b)) (by simp at hg2; simp [wordB, Nat.not_le.2 (show 12 < s.length by omega)])) rfl tK nK tK
 intro hg1; refine q7 hg1 (q7 hg1 (q7 hg1 ?_)); refine p_t rfl rfl (bt2 hg1) rfl ?_; refine b8 rfl (E2 rfl rfl rfl rfl rfl rfl (E2 rfl rfl rfl rfl rfl rfl (p_t rfl rfl rfl rfl (b8 rfl (E2 rfl rfl rfl rfl rfl rfl (E2 rfl rfl rfl rfl rfl rfl (p_t rfl rfl rfl rfl (d8 (c_t rfl rfl (i7 ?_)))))))))); refine j0 (c7 rfl (d8 (J4 ?_))); exact ret1 () rfl (congrArg (fun b => some (Value.bool b)) (by simp at hg1; simp [wordB, hg1])) rfl tK nK tK
theorem qq7 {α : Type} [Inhabited α] (f : α → Str) {l : List α} {k : Nat} {s : Str} (hk : k < l.length) (ht : s ∉ (l.take k).map f) (h : ¬ f (l.getD k default) = s) : s ∉ (l.take (k + 1)).map f := by
  rw [P8 l k hk, List.map_append]; simp only [List.mem_append, List.map_cons, List.map_nil, List.mem_singleton, not_or]; exact ⟨ht, fun e => h e.symm⟩
theorem qK {g : Nat} (x c : Cl) : Meets prog L4 [.agg (El.cells x).toArray, .pointer (d6 g)] { LI := [Row (d6 g) (rows [c])], val := fun _ : Unit => .bool (decide (x.1 = c.1)) } := by
 refine j3 tA rfl t8 fun w0 => d9 (J5 rfl rfl fun gB => ?_); refine c7 rfl (k6 ?_); refine a9 ⟨_, 0, none⟩ rfl rfl gD rfl (c8 rfl l3 rfl (m3 mB rfl) (a9 ⟨_, 0, none⟩ rfl rfl gD rfl (c8 rfl l3 rfl (u7 mB rfl) ?_))); refine Z0 rfl rfl rfl (c7 rfl (d8 (k5 ?_))); exact ret1 () rfl rfl rfl tK nK tK
theorem tY {A : Option Addr} {cp g : Nat} (l : List Cl) (c : Cl) (hl : l.length ≤ 1000000) : Meets prog cE [.slice A l.length cp, .func (.func L4) #[] #[.pointer (d6 g)]] { LI := [Row A (rows l), Row (d6 g) (rows [c])], inv := fun z : Int => (0 ≤ z ↔ c.1 ∈ l.map (·.1)), val := fun z => int z } := by
 refine j3 wH rfl t8 fun w0 => ?_; refine d9 (c7 rfl (d8 (i7 (d9 (b8 rfl ?_))))); refine l7 rfl J1 rfl ?_; refine b8 rfl (d8 (j8 ?_)); refine y8 (β := Nat) ⟨fun k => k ≤ l.length ∧ c.1 ∉ (l.take k).map (·.1), fun k => [(0, .slice A l.length cp), (1, .func (.func L4) #[] #[.pointer (d6 g)]), (7, int l.length), (8, int k)], fun _ => [], fun _ => [Row A (rows l), Row (d6 g) (rows [c])]⟩ (fun k => l.length - k) 0 ⟨Nat.zero_le _, by simp⟩ mC (.refl _) ⟨m0, m1, tK⟩ fun k hk => ?_; obtain ⟨hk, ht⟩ := hk; refine d9 (C4 rfl rfl rfl (d8 (i7 ?_))); refine m6 rfl (fun hb1 => ?_) (fun hb1 => ?_)
 ·have hk2 : k < l.length := by omega
  refine j6 (i8 (i7 (j8 (d9 (b8 rfl (c7 rfl (k6 ?_))))))); refine b8 rfl (b8 rfl (b8 rfl ?_)); refine r8 (α := Cl) _ _ rfl J1 L6 rfl rfl rfl mB rfl (by omega) (by decide) (I0 rfl iL L6 rfl rfl (H5 mB (K2 (by omega))) (bB (vs := [.agg (El.cells (l.getD k default)).toArray]) (cap := [.pointer (d6 g)]) rB rfl rfl rfl (qK (l.getD k default) c) p6 ⟨m1, tK⟩ fun _ _ => d8 ?_)); refine m6 rfl (fun hb2 => ?_) (fun hb2 => ?_)
  ·refine d9 (b8 rfl (c7 rfl (d8 (k5 (G6 (C5 (G6 ?_))))))); exact ret1 (k : Int) rfl rfl rfl ⟨fun _ => List.mem_map.2 ⟨_, A3 hk2, hb2⟩, fun _ => by omega⟩ nK tK
  refine j6 (w9 (i8 (j0 ?_))); refine v8 _ rfl rfl rfl rfl r6 ?_; refine b8 rfl (j4 ?_); exact again _ (k + 1) ⟨by omega, qq7 (·.1) hk2 ht hb2⟩ (C8 (by omega)) mC nK ⟨m0, m1, tK⟩
 have hk2 : k = l.length := by omega
 subst hk2; rw [List.take_length] at ht; refine w8 (E4 (w6 (i8 (d9 (c7 rfl (d8 (k5 ?_))))))); exact ret1 (-1) rfl rfl rfl ⟨fun h => by omega, fun h => absurd h ht⟩ (.refl _) tK
theorem pG {A : Option Addr} {cp g : Nat} (l : List Cl) (c : Cl) (hl : l.length ≤ 1000000) : Meets prog Z4 [.slice A l.length cp, .func (.func L4) #[] #[.pointer (d6 g)]] { LI := [Row A (rows l), Row (d6 g) (rows [c])], val := fun _ : Unit => .bool (decide (c.1 ∈ l.map (·.1))) } := by
 refine j3 rE rfl t8 fun w0 => ?_; refine d9 (c7 rfl (k6 (b8 rfl (b8 rfl ?_)))); refine j5 uS rfl rfl (tY l c hl) (.refl _) ⟨m0, m1, tK⟩ fun z hz => ?_; refine aX rfl rfl rfl (c7 rfl (d8 (k5 ?_))); exact ret1 () rfl (congrArg (fun b => some (Value.bool b)) (decide_eq_decide.2 hz)) rfl tK nK tK
theorem rR {g : Nat} (x c : Hd) : Meets prog M5 [.agg (El.cells x).toArray, .pointer (d6 g)] { LI := [Row (d6 g) (rows [c])], val := fun _ : Unit => .bool (decide (x.1 = c.1)) } := by
 refine j3 uL rfl t8 fun w0 => d9 (J5 rfl rfl fun gB => ?_); refine c7 rfl (k6 ?_); refine a9 ⟨_, 0, none⟩ rfl rfl X9 rfl (c8 rfl l3 rfl (m3 mB rfl) (a9 ⟨_, 0, none⟩ rfl rfl X9 rfl (c8 rfl l3 rfl (u7 mB rfl) ?_))); refine Z0 rfl rfl rfl (c7 rfl (d8 (k5 ?_))); exact ret1 () rfl rfl rfl tK nK tK
theorem sF {A : Option Addr} {cp g : Nat} (l : List Hd) (c : Hd) (hl : l.length ≤ 1000000) : Meets prog bE [.slice A l.length cp, .func (.func M5) #[] #[.pointer (d6 g)]] { LI := [Row A (rows l), Row (d6 g) (rows [c])], inv := fun z : Int => (0 ≤ z ↔ c.1 ∈ l.map (·.1)), val := fun z => int z } := by
 refine j3 uR rfl t8 fun w0 => ?_; refine d9 (c7 rfl (d8 (i7 (d9 (b8 rfl ?_))))); refine l7 rfl B4 rfl ?_; refine b8 rfl (d8 (j8 ?_)); refine y8 (β := Nat) ⟨fun k => k ≤ l.length ∧ c.1 ∉ (l.take k).map (·.1), fun k => [(0, .slice A l.length cp), (1, .func (.func M5) #[] #[.pointer (d6 g)]), (7, int l.length), (8, int k)], fun _ => [], fun _ => [Row A (rows l), Row (d6 g) (rows [c])]⟩ (fun k => l.length - k) 0 ⟨Nat.zero_le _, by simp⟩ mC (.refl _) ⟨m0, m1, tK⟩ fun k hk => ?_; obtain ⟨hk, ht⟩ := hk; refine d9 (C4 rfl rfl rfl (d8 (i7 ?_))); refine m6 rfl (fun hb1 => ?_) (fun hb1 => ?_)
 ·have hk2 : k < l.length := by omega
  refine j6 (i8 (i7 (j8 (d9 (b8 rfl (c7 rfl (k6 ?_))))))); refine b8 rfl (b8 rfl (b8 rfl ?_)); refine r8 (α := Hd) _ _ rfl B4 J8 rfl rfl rfl mB rfl (by omega) (by decide) (I0 rfl kA J8 rfl rfl (H5 mB (K2 (by omega))) (bB (vs := [.agg (El.cells (l.getD k default)).toArray]) (cap := [.pointer (d6 g)]) sZ rfl rfl rfl (rR (l.getD k default) c) p6 ⟨m1, tK⟩ fun _ _ => d8 ?_)); refine m6 rfl (fun hb2 => ?_) (fun hb2 => ?_)
  ·refine d9 (b8 rfl (c7 rfl (d8 (k5 (G6 (C5 (G6 ?_))))))); exact ret1 (k : Int) rfl rfl rfl ⟨fun _ => List.mem_map.2 ⟨_, A3 hk2, hb2⟩, fun _ => by omega⟩ nK tK
  refine j6 (w9 (i8 (j0 ?_))); refine v8 _ rfl rfl rfl rfl r6 ?_; refine b8 rfl (j4 ?_); exact again _ (k + 1) ⟨by omega, qq7 (·.1) hk2 ht hb2⟩ (C8 (by omega)) mC nK ⟨m0, m1, tK⟩
 have hk2 : k = l.length := by omega
 subst hk2; rw [List.take_length] at ht; refine w8 (E4 (w6 (i8 (d9 (c7 rfl (d8 (k5 ?_))))))); exact ret1 (-1) rfl rfl rfl ⟨fun h => by omega, fun h => absurd h ht⟩ (.refl _) tK
theorem mL {A : Option Addr} {cp g : Nat} (l : List Hd) (c : Hd) (hl : l.length ≤ 1000000) : Meets prog Y7 [.slice A l.length cp, .func (.func M5) #[] #[.pointer (d6 g)]] { LI := [Row A (rows l), Row (d6 g) (rows [c])], val := fun _ : Unit => .bool (decide (c.1 ∈ l.map (·.1))) } := by
 refine j3 pJ rfl t8 fun w0 => ?_; refine d9 (c7 rfl (k6 (b8 rfl (b8 rfl ?_)))); refine j5 tF rfl rfl (sF l c hl) (.refl _) ⟨m0, m1, tK⟩ fun z hz => ?_; refine aX rfl rfl rfl (c7 rfl (d8 (k5 ?_))); exact ret1 () rfl (congrArg (fun b => some (Value.bool b)) (decide_eq_decide.2 hz)) rfl tK nK tK
theorem tS {A : Option Addr} {cp : Nat} (cs : List Cl) (i : Nat) (h6 : cs.length ≤ 6) (hc : cs.length ≤ cp) (hi : i < cs.length) : Meets prog cC [.slice A cs.length cp, int i] { LI := [Row A (rows cs)], val := fun _ : Unit => int (clsErr cs i) } := by
 refine j3 wF rfl t8 fun w0 => ?_; refine d9 (c7 rfl (k6 (b8 rfl (b8 rfl ?_)))); refine r8 (α := Cl) _ _ rfl J1 L6 rfl rfl rfl mB rfl (by omega) (by decide) (I0 rfl iL L6 rfl rfl (H5 mB (K2 (by omega))) (B3 rfl (fun _ => vI _) fun gA => t6 rfl rfl gP L6 (by rfl) (by rfl) ?_)); refine d8 (i7 (j8 (i7 ?_))); refine kz7 (rows [cs.getD i default]) ⟨[], List.append_nil _⟩ (j0 (a9 ⟨_, 0, none⟩ rfl rfl gD rfl (c8 rfl l3 rfl (u7 mB rfl) (j5 sW rfl rfl (rQ (cs.getD i default).1) (.refl _) tK fun _ _ => ?_)))); refine K6 rfl rfl (c7 rfl (d8 ?_)); refine D0 rfl (fun hb1 => ?_) (fun hb1 => ?_)
 ·have h1 : wordB (cs.getD i default).1 = false := by simpa using hb1
  refine d9 (c7 rfl (d8 (k5 (G6 ?_)))); exact ret1 () rfl (congrArg (fun b => some (int b)) (by rw [clsErr, if_pos h1])) rfl tK nK tK
 have h1 : ¬ wordB (cs.getD i default).1 = false := by simpa using hb1
 refine d9 (b8 rfl (b8 rfl ?_)); refine uB (cs.take i).length rfl J1 L6 rfl rfl (by simp; omega) (by simp; omega) ?_; refine kz3 i m1 (mP rfl rfl rfl ?_); refine j5 pK rfl rfl (pG (cs.take i) (cs.getD i default) (by simp; omega)) (.refl _) ⟨m0, m1, tK⟩ fun _ _ => ?_; refine c7 rfl (d8 ?_); refine m6 rfl (fun hb2 => ?_) (fun hb2 => ?_)
 ·refine d9 (c7 rfl (d8 (k5 (G6 ?_)))); exact ret1 () rfl (congrArg (fun b => some (int b)) (by rw [clsErr, if_neg h1, if_pos hb2])) rfl tK nK tK
 refine d9 (a9 ⟨_, 1, none⟩ rfl rfl aN rfl (c8 rfl b9 rfl (u7 mB rfl) (b8 rfl (l7 rfl J1 rfl (W9 _ rfl rfl rfl rfl r6 (j5 R4 rfl rfl (Q8 _ _ _) (.refl _) tK fun _ _ => ?_)))))); refine K6 rfl rfl (c7 rfl (d8 ?_)); refine D0 rfl (fun hb3 => ?_) (fun hb3 => ?_)
 ·have h3 : ¬ (-1 ≤ (cs.getD i default).2 ∧ (cs.getD i default).2 ≤ (cs.length : Int) - 1) := fun e => by rw [decide_eq_true e] at hb3; cases hb3
  refine d9 (c7 rfl (d8 (k5 (G6 ?_)))); exact ret1 () rfl (congrArg (fun b => some (int b)) (by rw [clsErr, if_neg h1, if_neg hb2, if_pos (by omega)])) rfl tK nK tK
 have h3 : -1 ≤ (cs.getD i default).2 ∧ (cs.getD i default).2 ≤ (cs.length : Int) - 1 := by simpa using hb3
 refine d9 (a9 ⟨_, 1, none⟩ rfl rfl aN rfl (c8 rfl b9 rfl (u7 mB rfl) ?_)); refine b8 rfl (aX rfl rfl rfl (c7 rfl (d8 ?_))); refine m6 rfl (fun hb4 => ?_) (fun hb4 => ?_)
 ·refine d9 (c7 rfl (d8 (k5 (G6 ?_)))); exact ret1 () rfl (congrArg (fun b => some (int b)) (by rw [clsErr, if_neg h1, if_neg hb2, if_neg (by omega), if_pos hb4])) rfl tK nK tK
 refine j6 (w9 (i8 (d9 (c7 rfl (d8 (k5 ?_)))))); exact ret1 () rfl (congrArg (fun b => some (int b)) (by rw [clsErr, if_neg h1, if_neg hb2, if_neg (by omega), if_neg hb4])) rfl tK nK tK
end Go.Proofs.YtcdopfjiadifhaaGreatDoor
end
