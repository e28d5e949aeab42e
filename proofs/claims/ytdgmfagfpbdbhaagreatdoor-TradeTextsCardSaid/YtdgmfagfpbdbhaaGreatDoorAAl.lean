/- Texts. -/
import Derived.Conc.LoneCalls
import Derived.Laws.CopyRow
import Derived.Laws.Tables
import Derived.Lib.Bytealg
import Derived.Test.YtdgmfagfpbdbhaaGreatDoorAAi
import Derived.Test.YtdgmfagfpbdbhaaGreatDoorAAk
import Derived.Test.YtdgmfagfpbdbhaaGreatDoorAAe
set_option linter.unusedVariables false
set_option linter.unusedSimpArgs false
section
namespace Go.W
open Go Go.RowKit Go.Conc
def wpk (P : Program) (x : Code) (Q : Exit → Act → World → Prop) (a : Act) (w : World) : Prop :=
  ∀ (b : Frame) (k : List Item) (cs : List Frame), b.kind = .normal → ∃ e a' w', Q e a' w' ∧ Arrives P (lone (b.at a (.code x :: k)) cs w) b k cs e a' w'
section
variable {P : Program} {Q : Exit → Act → World → Prop} {a : Act} {w : World}
/-! Regions that communicate. -/
def OpSteps (P : Program) (o : Oper) (a : Act) (w : World) (v : Value) (w' : World) : Prop :=
  ∀ (b : Frame) (k : List Item) (cs : List Frame) (ops : Array Oper) (i : Nat) (rest : List Nat), b.kind = .normal → ops[i]? = some o → o.guard = none →
    step P (lone (b.at a (.inRegion ops (i :: rest) :: k)) cs w) = .next (lone (b.at (a.put o.dst v) (.inRegion ops rest :: k)) cs w')
def opsK (P : Program) (ops : Array Oper) (Q : Exit → Act → World → Prop) : List Nat → Act → World → Prop
  | [], a, w => Q .normal a w
  | i :: rest, a, w => ∃ o v w', ops[i]? = some o ∧ o.guard = none ∧ OpSteps P o a w v w' ∧ opsK P ops Q rest (a.put o.dst v) w'
end
/-! The rules. -/
def kw (c : Cx) (x : Code) (Q : Exit → Act → World → Prop) : Act → World → Prop := wpk c.P x Q
def KC (c : Cx) (x : Code) (Q : Exit → Act → World → Prop) (fr : Fr) (hp : Hp) (L : List Fact) : Prop := ∀ a w, Ok c a fr → WI c.b w hp L → kw c x Q a w
def KL (c : Cx) (ops : Array Oper) (Q : Exit → Act → World → Prop) (l : List Nat) (fr : Fr) (hp : Hp) (L : List Fact) : Prop := ∀ a w, Ok c a fr → WI c.b w hp L → opsK c.P ops Q l a w
section
variable {c : Cx} {Q : Exit → Act → World → Prop} {fr : Fr} {hp : Hp} {L : List Fact} {ops : Array Oper}
variable {i : Nat} {rest : List Nat} {d : Tmp} {ty : TypeId} {pos : String} {af : Array Edge}
abbrev chanO (cap : Nat) (buf : List Value) (s r : Nat) : Obj := .chan cap buf.toArray false s r false
end
section
variable {c : Cx} {Q : Exit → Act → World → Prop} {fr : Fr} {hp : Hp} {L : List Fact} {ops : Array Oper} {rest : List Oper}
variable {d : Tmp} {ty : TypeId} {pos : String} {af : Array Edge}
end
/-! ### Slices that grow from nothing, whose cells are written -/
section
def GrowE (e : TypeId) (sz : Nat) (A : Option Addr) (n cap : Nat) (xs : List Value) (og : Hp) : Prop := Grow e sz A n cap xs og ∨ (n = 0 ∧ cap = 0 ∧ xs = [] ∧ og = [])
theorem GrowE.grow {e : TypeId} {sz n cap : Nat} {A : Option Addr} {xs : List Value} {og : Hp} (h : GrowE e sz A n cap xs og) (hn : 0 < n) : Grow e sz A n cap xs og := by
  rcases h with h | ⟨h, _⟩
  · exact h
  omega
theorem GrowE.le {e : TypeId} {sz n cap : Nat} {A : Option Addr} {xs : List Value} {og : Hp} (h : GrowE e sz A n cap xs og) : n ≤ cap := by
  rcases h with h | ⟨h, h2, _⟩
  · exact h.le
  omega
variable {c : Cx} {Q : Exit → Act → World → Prop} {fr : Fr} {hp : Hp} {L : List Fact} {ops : Array Oper} {rest : List Oper}
variable {d : Tmp} {ty : TypeId} {pos : String} {af : Array Edge}
/-! ### Cells of rows that are written -/
theorem gq1 {α : Type} [El α] {v : Value} {a : α} {f : Nat} (hf : f < El.sz α) : ∀ {l : List α} {k : Nat}, k < l.length → El.cells a = (El.cells (l.getD k default)).set f v → (rows l).set (k * El.sz α + f) v = rows (l.set k a)
  | [], k, hk, _ => by simp at hk
  | b :: l, 0, _, hc => by
    show (El.cells b ++ rows l).set _ v = El.cells a ++ rows l; rw [Nat.zero_mul, Nat.zero_add, List.set_append_left _ _ (by rw [El.len]; exact hf), hc]
    rfl
  | b :: l, k + 1, hk, hc => by
    have ih := gq1 hf (l := l) (k := k) (by simpa using hk) (by simpa using hc); show (El.cells b ++ rows l).set _ v = El.cells b ++ rows (l.set k a); rw [List.set_append_right _ _ (by rw [El.len, Nat.add_mul]; omega), El.len, ← ih]
    congr 2
    rw [Nat.add_mul]; omega
theorem own_f {α : Type} [El α] {cur : Array Value} {l : List α} {k f q : Nat} {v : Value} (h : cur.toList.take (l.length * El.sz α) = rows l) (hk : k < l.length) (hq : q = k * El.sz α + f) (hv : (El.cells (l.getD k default))[f]? = some v) : cur[q]? = some v := by
  subst hq; have h2 := rows_get (j := f) hk hv; rw [← h, List.getElem?_take] at h2
  split at h2
  · simpa using h2
  cases h2
end
section
variable {c : Cx} {Q : Exit → Act → World → Prop} {fr : Fr} {hp : Hp} {L : List Fact} {ops : Array Oper} {rest : List Oper} {ty : TypeId} {pos : String} {af : Array Edge}
end
end Go.W
end
section
namespace Go.Proofs.YtdgmfagfpbdbhaaGreatDoor
open Go Go.W Tryz T F
set_option maxRecDepth 20000
attribute [local irreducible] HL HC HQ HB Row Rows2 Blk Facts
abbrev OutD := (OutC × Hp) × List Hd × (OutC × Hp)
structure DupOK (cs : List Cl) (hs : List Hd) (x : OutD) : Prop where
  a : GrowE U2 2 x.1.1.1 cs.length x.1.1.2 (rows cs) x.1.2
  b : GrowE G0 4 x.2.2.1.1 x.2.1.length x.2.2.1.2 (rows x.2.1) x.2.2.2
  p : x.2.1.map Hd.p = hs.map Hd.p
theorem p_len {hs hs2 : List Hd} (hp : hs2.map Hd.p = hs.map Hd.p) : hs2.length = hs.length := by
  have := congrArg List.length hp
  simpa using this
theorem p_at {hs hs2 : List Hd} (hp : hs2.map Hd.p = hs.map Hd.p) {k : Nat} (hk : k < hs2.length) : (hs2.getD k default).p = (hs.getD k default).p := by
  have h1 := p_len hp; have h2 : (hs2.map Hd.p)[k]? = (hs.map Hd.p)[k]? := by rw [hp]
  rw [List.getElem?_map, List.getElem?_map, List.getElem?_eq_getElem hk, List.getElem?_eq_getElem (show k < hs.length by omega)] at h2; rw [B8 hk, B8 (show k < hs.length by omega)]
  simpa using h2
def cutB (b : UInt8) : Str → Str × Str × Bool
  | [] => ([], [], false)
  | x :: r => if x = b then ([], r, true) else (x :: (cutB b r).1, (cutB b r).2.1, (cutB b r).2.2)
theorem lj5 (b : UInt8) : ∀ s : Str, (Lib.indexByte s b = -1 ∧ cutB b s = (s, [], false) ∧ b ∉ s) ∨ ∃ i : Nat, Lib.indexByte s b = i ∧ i < s.length ∧ cutB b s = (s.take i, s.drop (i + 1), true) ∧ s[i]? = some b ∧ b ∉ s.take i
  | [] => .inl ⟨rfl, rfl, by simp⟩
  | x :: r => by
    by_cases h : x = b
    · subst h
      exact .inr ⟨0, by simp [Lib.indexByte], by simp, by simp [cutB], by simp, by simp⟩
    have hb : (x == b) = false := by simp [h]
    rcases lj5 b r with ⟨h1, h2, h3⟩ | ⟨i, h1, h2, h3, h4, h5⟩
    · exact .inl ⟨by simp [Lib.indexByte, hb, h1], by simp [cutB, h, h2], by simp [h3, Ne.symm h]⟩
    have hne : ¬ ((i : Int) = -1) := by omega
    exact .inr ⟨i + 1, by simp [Lib.indexByte, hb, h1, hne], by simp; omega, by simp [cutB, h, h3], by simpa using h4, by simp [h5, Ne.symm h]⟩
def trimL (p : UInt8 → Bool) (s : Str) : Str := s.dropWhile p
def trimR (p : UInt8 → Bool) (s : Str) : Str := (s.reverse.dropWhile p).reverse
def isDig (c : UInt8) : Bool := decide (48 ≤ c.toNat) && decide (c.toNat ≤ 57)
def D10 : Str := [48, 49, 50, 51, 52, 53, 54, 55, 56, 57]
def asV (l : Str) : List Value := (List.range 256).map fun i => Value.bool (l.any fun c => c.toNat == i)
section
variable {c : Cx} {Q : Exit → Act → World → Prop} {fr : Fr} {hp : Hp} {L : List Fact} {ops : Array Oper} {rest : List Oper} {d : Tmp} {ty : TypeId} {pos : String} {af : Array Edge}
theorem ix5 {t : TypeId} {x lo hi : Operand} {s : Str} {kd kd' : IntKind} {z z' : Int} (l h : Nat) (hd : Nat.blt d c.n = true) (ht : c.P.underlying t = some .string)
    (hx : ev fr x = some (str s)) (hl : ev fr lo = some (.int kd z)) (hlz : z = (l : Int)) (hh : ev fr hi = some (.int kd' z')) (hhz : z' = (h : Int)) (hle : l ≤ h) (hle' : h ≤ s.length)
    (k : HL c ops Q rest ((d, str ((s.drop l).take (h - l))) :: fr) hp L) : HL c ops Q (⟨some d, .slice t x (some lo) (some hi) none, ty, pos, af, none⟩ :: rest) fr hp L :=
  E0 _ rfl rfl hd (fun a w ha _ => by
    have e1 : (ByteArray.mk s.toArray).size = s.length := rfl; simp only [execOp, ha.ev hx, Option.map_some, Option.map_none, ha.ev hl, ha.ev hh, Sem.run_bind, Instr.sliceAt, run_underlying ht]; simp only [Result.andThen_ok]
    simp [Instr.slice, Instr.sliceBounds, run_underlying ht, str, e1, qN hlz hle, qN hhz hle', tS]) k
end
theorem idx_run (s : Str) (c : UInt8) (w : World) : (callFunc 145 [str s, Value.int .u8 (c.toNat : Int)].toArray).run prog w = .ok (.value (int (Lib.indexByte s c))) w := by
  show (callFunc 145 #[str s, Value.int .u8 (c.toNat : Int)]).run prog w = _; rw [run_callFunc_extern func145 w7 w7 w7 (e := Extern.BytealgIndexByte.indexByte) w7]; have h := Lib.run_indexByteString (P := prog) ⟨s.toArray⟩ (c.toNat : Int) w; have e : ((c.toNat : Int).toNat).toUInt8 = c := by simp
  rw [e] at h; show Result.andThen (Sem.run prog (Extern.BytealgIndexByte.indexByte #[.string ⟨s.toArray⟩, .int .u8 (c.toNat : Int)]) w) _ = _; rw [h]
  rfl
theorem aZ (s : Str) (c : UInt8) : Meets prog L6 [str s, .int .u8 c.toNat] { val := fun _ : Unit => int (Lib.indexByte s c) } := by
 refine j3 bW rfl v8 fun w0 => ?_; refine i4 (c5 rfl (t6 (b6 rfl (b6 rfl ?_)))); refine vD rfl rfl (idx_run s c) ?_; refine c5 rfl (c8 (l4 ?_)); exact ret1 () rfl rfl rfl tK (.refl _) tK
theorem dW (s : Str) (b : UInt8) : Meets prog O6 [str s, str [b]] { val := fun _ : Unit => int (Lib.indexByte s b) } := by
 refine j3 hX rfl v8 fun w0 => ?_; refine i4 (c5 rfl (t6 (b6 rfl ?_))); refine G5 rfl q8 rfl ?_; refine c5 rfl (c8 (d6 (j5 (i4 (b6 rfl (J0 rfl rfl rfl (b6 rfl ?_))))))); refine v6 rfl rfl ?_ ?_
 ·intro hg1; have hg1' := hg1; try simp at hg1'
  refine k5 hg1 (b6 rfl (k5 hg1 (b6 rfl (k5 hg1 (J3 rfl rfl rfl ?_))))); refine p_f rfl rfl (bf1 hg1) rfl ?_; refine c5 rfl (c8 ?_)
  first | refine k9 rfl (fun hb1 => ?_) (fun hb1 => ?_) | refine j0 rfl (fun hb1 => ?_) (fun hb1 => ?_)
  ·have hb1' := hb1; try simp at hb1'
   have hb2 : [b] = s := by simpa using hb1
   refine i4 (c5 rfl (c8 (l4 (B7 ?_)))); exact ret1 () rfl (by subst hb2; simp [Lib.indexByte, lk]) rfl tK (.refl _) tK
  have hb1' := hb1; try simp at hb1'
  refine i4 (b6 rfl (J0 rfl rfl rfl (c5 rfl (c8 ?_)))); refine c_t rfl px7 ?_; refine i4 (b6 rfl (b6 rfl ?_)); refine dB 0 rfl q8 rfl rfl rfl rfl (j4 bO rfl rfl (aZ s b) t4 tK fun _ _ => ?_); refine c5 rfl (c8 (l4 (B7 ?_))); exact ret1 () rfl rfl rfl tK (.refl _) tK
 intro hg1; have hg1' := hg1; try simp at hg1'
end Go.Proofs.YtdgmfagfpbdbhaaGreatDoor
end
section
namespace Go.W
open Go Go.RowKit
theorem madeR {α : Type} [El α] (a0 : α) {zc : Array Value} (hz : zc.toList = El.cells a0) (n : Nat) : madeCells zc (n * El.sz α) = (rows (List.replicate n a0)).toArray := by
  have hsz : zc.size = El.sz α := by rw [← El.len a0, ← hz, Array.length_toList]
  apply Array.ext
  · simp [madeCells, R6]
  intro i h1 h2; have hi : i < n * El.sz α := by simpa [madeCells] using h1
  have hs0 : 0 < El.sz α := Nat.pos_of_ne_zero fun h => by rw [h] at hi; omega
  have hq : i / El.sz α < n := Nat.div_lt_of_lt_mul (by rw [Nat.mul_comm]; exact hi); have hm : i % El.sz α < El.sz α := Nat.mod_lt _ hs0; have e : i = i / El.sz α * El.sz α + i % El.sz α := by rw [Nat.mul_comm]; exact (Nat.div_add_mod _ _).symm
  have h3 := rows_get' (List.replicate n a0) (i / El.sz α) (i % El.sz α) (by simpa using hq) hm; rw [← e] at h3; have h4 : (List.replicate n a0).getD (i / El.sz α) default = a0 := by simp [List.getD_eq_getElem?_getD, hq]
  rw [h4, ← hz] at h3; have h5 : i < (rows (List.replicate n a0)).length := by rw [R6, List.length_replicate]; exact hi
  rw [List.getElem?_eq_getElem h5, List.getElem?_eq_getElem (by rw [Array.length_toList, hsz]; exact hm)] at h3; have h6 := Option.some.inj h3; have h7 : (rows (List.replicate n a0)).toArray[i] = (rows (List.replicate n a0))[i] := by simp
  have hm' : i % zc.size < zc.size := by rw [hsz]; exact hm
  have h8 : (madeCells zc (n * El.sz α))[i] = zc[i % zc.size] := by
    simp only [madeCells, Array.getElem_map, Array.getElem_range]; exact getElem!_pos zc _ hm'
  rw [h7, h6, h8]
  simp [hsz]
theorem r_makeR {α : Type} [El α] (a0 : α) {c : Cx} {Q : Exit → Act → World → Prop} {fr : Fr} {hp : Hp} {L : List Fact} {ops : Array Oper} {rest : List Oper} {d : Tmp} {ty : TypeId} {pos : String} {af : Array Edge}
    {t e : TypeId} {x y : Operand} {n bytes : Nat} {z : Value} {m : Int} (hd : Nat.blt d c.n = true) (ht : c.P.underlying t = some (.slice e)) (hi : (c.P.info? e).map (fun i => (i.zero, i.size, i.bytes)) = some (some z, El.sz α, bytes)) (hz : z.cells.toList = El.cells a0)
    (hx : ev fr x = some (int m)) (hy : ev fr y = some (int m)) (hm : m = (n : Int)) (hb : bytes * n ≤ 140737488355328) (hn : n ≤ 140737488355328)
    (k : ∀ g, HL c ops Q rest ((d, .slice (d9 g) n n) :: fr) ((g, .cells (rows (List.replicate n a0)).toArray e (0, 0)) :: hp) L) : HL c ops Q (⟨some d, .makeSlice t x y, ty, pos, af, none⟩ :: rest) fr hp L :=
  wV (.cells (rows (List.replicate n a0)).toArray e (0, 0)) (fun g => .slice (d9 g) n n) rfl rfl hd (fun a w ha _ => by
    subst hm; obtain ⟨i, h1, h2, h3, h4⟩ := info_parts hi
    have hb' : (i.bytes : Int) * (n : Int) ≤ 281474976710656 := by
      have h : ((i.bytes * n : Nat) : Int) ≤ 281474976710656 := by rw [h4]; omega
      rwa [Int.natCast_mul] at h
    have hr := run_make (P := c.P) w t e i z ht h1 h2 .i64 .i64 n n (by omega) (Int.le_refl _) hb' (by omega); simp only [Int.toNat_natCast, h3, madeR a0 hz] at hr
    simp only [execOp, ha.ev hx, ha.ev hy, Sem.run_bind, hr, Result.andThen_ok, Sem.run_pure]) k
theorem ix4 {α : Type} [El α] (a : α) {c : Cx} {Q : Exit → Act → World → Prop} {fr : Fr} {hp : Hp} {L : List Fact} {ops : Array Oper} {rest : List Oper} {ty : TypeId} {pos : String} {af : Array Edge}
    {t e : TypeId} {x y : Operand} {g q k f : Nat} {l : List α} {v : Value} {hp' : Hp} (hx : ev fr x = some (.pointer (some ⟨g, q, none⟩))) (hq : q = k * El.sz α + f) (hy : ev fr y = some v) (hpp : hp.Perm ((g, .cells (rows l).toArray e (0, 0)) :: hp'))
    (hz : Sz c.P t 1) (hk : k < l.length) (hf : f < El.sz α) (hc : El.cells a = (El.cells (l.getD k default)).set f v) (h1 : v.oneCell' = true)
    (kk : HL c ops Q rest fr ((g, .cells (rows (l.set k a)).toArray e (0, 0)) :: hp') L) : HL c ops Q (⟨none, .store t x y, ty, pos, af, none⟩ :: rest) fr hp L := by
  subst hq
  have hlt : k * El.sz α + f < (rows l).length := by
    rw [R6]; have : (k + 1) * El.sz α ≤ l.length * El.sz α := Nat.mul_le_mul_right _ hk; rw [Nat.add_mul, Nat.one_mul] at this
    omega
  refine C8 (u := (rows l)[k * El.sz α + f]) hx hy hpp hz (by rw [List.getElem?_toArray, List.getElem?_eq_getElem hlt]) h1 ?_
  have e : (rows l).toArray.setIfInBounds (k * El.sz α + f) v = (rows (l.set k a)).toArray := by
    rw [← gq1 hf hk hc]
    simp
  rw [e]; exact kk
end Go.W
end
section
namespace Go.Proofs.YtdgmfagfpbdbhaaGreatDoor
open Go Go.W Tryz T F
set_option maxRecDepth 20000
attribute [local irreducible] HL HC HQ HB Row Rows2 Blk Facts
def splitB (b : UInt8) : Str → List Str
  | [] => [[]]
  | x :: r => if x = b then [] :: splitB b r else match splitB b r with
    | [] => [[x]]
    | h :: t => (x :: h) :: t
theorem P2 (b : UInt8) : ∀ s : Str, (splitB b s).length = s.count b + 1
  | [] => rfl
  | x :: r => by
    have ih := P2 b r; rw [splitB]
    by_cases h : x = b
    · rw [if_pos h, List.length_cons, ih, h, List.count_cons_self]
    rw [if_neg h, List.count_cons_of_ne h]
    cases hs : splitB b r with
    | nil => rw [hs] at ih; cases ih
    | cons a t => rw [hs] at ih; exact ih
theorem cz4 {b : UInt8} : ∀ {p : Str} (q : Str), b ∉ p → splitB b (p ++ b :: q) = p :: splitB b q
  | [], q, _ => by simp [splitB]
  | x :: p, q, h => by
    simp only [List.mem_cons, not_or] at h; rw [List.cons_append, splitB, if_neg (fun e => h.1 e.symm), cz4 q h.2]
theorem cz3 {b : UInt8} : ∀ {p : Str}, b ∉ p → splitB b p = [p]
  | [], _ => rfl
  | x :: p, h => by
    simp only [List.mem_cons, not_or] at h; rw [splitB, if_neg (fun e => h.1 e.symm), cz3 h.2]
theorem lz3 {b : UInt8} {s : Str} (h : 0 < s.count b) : ∃ j : Nat, Lib.indexByte s b = j ∧ j < s.length ∧ splitB b s = s.take j :: splitB b (s.drop (j + 1)) ∧ (s.drop (j + 1)).count b + 1 = s.count b := by
  rcases lj5 b s with ⟨_, _, h3⟩ | ⟨j, h1, h2, _, h4, h5⟩
  · exact absurd (List.count_pos_iff.1 h) h3
  rw [List.getElem?_eq_getElem h2] at h4; have hd : b :: s.drop (j + 1) = s.drop j := by rw [← Option.some.inj h4]; exact (List.drop_eq_getElem_cons h2).symm
  have hs : s = s.take j ++ b :: s.drop (j + 1) := by rw [hd, List.take_append_drop]
  refine ⟨j, h1, h2, ?_, ?_⟩
  · conv => lhs; rw [hs]
    exact cz4 _ h5
  conv => rhs; rw [hs]
  rw [List.count_append, List.count_cons_self, List.count_eq_zero_of_not_mem h5]
  omega
theorem ix0 {done : List Str} {k : Nat} {x : Str} : (done ++ List.replicate (k + 1) ([] : Str)).set done.length x = (done ++ [x]) ++ List.replicate k [] := by
  rw [List.set_append_right _ _ (Nat.le_refl _), Nat.sub_self, List.replicate_succ, List.set_cons_zero, List.append_assoc]
  rfl
theorem cnt_run (s : Str) (c : UInt8) (w : World) : (callFunc 138 [str s, Value.int .u8 (c.toNat : Int)].toArray).run prog w = .ok (.value (int (s.count c : Nat))) w := by
  show (callFunc 138 #[str s, Value.int .u8 (c.toNat : Int)]).run prog w = _; rw [run_callFunc_extern func138 w7 w7 w7 (e := Extern.BytealgCount.count) w7]; have h := Lib.run_countString (P := prog) ⟨s.toArray⟩ (c.toNat : Int) w; have e : ((c.toNat : Int).toNat).toUInt8 = c := by simp
  rw [e] at h; show Result.andThen (Sem.run prog (Extern.BytealgCount.count #[.string ⟨s.toArray⟩, .int .u8 (c.toNat : Int)]) w) _ = _; rw [h]
  rfl
abbrev blkS (g : Nat) (l : List Str) : Nat × Obj := (g, Obj.cells (rows l).toArray H2 (0, 0))
theorem vN (s : Str) (b : UInt8) : Meets prog iW [str s, str [b]] { val := fun _ : Unit => int (s.count b : Nat) } := by
 refine j3 xI rfl v8 fun w0 => ?_; refine i4 (c5 rfl (c8 (d6 (i4 (b6 rfl ?_))))); refine G5 rfl q8 rfl ?_; refine J0 rfl rfl rfl (c8 ?_)
 first | refine k9 rfl (fun hb1 => ?_) (fun hb1 => ?_) | refine j0 rfl (fun hb1 => ?_) (fun hb1 => ?_)
 ·exact absurd hb1 (by simp)
 have hb1' := hb1; try simp at hb1'
 refine i8 (i1 (d6 (i4 (b6 rfl ?_)))); refine G5 rfl q8 rfl ?_; refine J0 rfl rfl rfl (c8 ?_); refine c_t rfl px7 ?_; refine i4 (b6 rfl (b6 rfl ?_)); refine dB 0 rfl q8 rfl rfl rfl rfl (vD rfl rfl (cnt_run s b) ?_); refine c5 rfl (c8 (E9 ?_)); exact ret1 () rfl rfl rfl tK nK tK
theorem vM (s : Str) (b : UInt8) : Meets prog iV [str s, str [b]] { val := fun _ : Unit => int (Lib.indexByte s b) } := by
 refine j3 xH rfl v8 fun w0 => ?_; refine i4 (c5 rfl (t6 (b6 rfl (b6 rfl ?_)))); refine j4 gR rfl rfl (dW s b) t4 tK fun _ _ => ?_; refine c5 rfl (c8 (l4 ?_)); exact ret1 () rfl rfl rfl tK nK tK
set_option maxHeartbeats 1000000 in
theorem dq4 (s : Str) (b : UInt8) (hs : s.length ≤ 1000000) : Meets prog bI [str s, str [b], int 0, int (-1)] { inv := fun A : Nat => True, val := fun g : Nat => .slice (d9 g) (splitB b s).length (splitB b s).length, LO := fun g => [Row (d9 g) (rows (splitB b s))] } := by
 have hcl : s.count b ≤ s.length := List.count_le_length; refine j3 tC rfl v8 fun w0 => ?_; refine i4 (c5 rfl (c8 (d6 (i4 (b6 rfl (J0 rfl rfl rfl (c8 ?_)))))))
 first | refine k9 rfl (fun hb1 => ?_) (fun hb1 => ?_) | refine j0 rfl (fun hb1 => ?_) (fun hb1 => ?_)
 ·exact absurd hb1 (by decide)
 have hb1' := hb1; try simp at hb1'
 refine i8 (i1 (d6 (i4 (b6 rfl (J3 rfl rfl rfl (c8 ?_)))))); refine c_f rfl bf_x ?_; refine i8 (i1 (d6 (i4 (b6 rfl (B5 rfl rfl rfl (c8 ?_)))))); refine c_t rfl px7 ?_; refine c9 (b6 rfl (b6 rfl ?_)); refine j4 vW rfl rfl (vN s b) (.refl _) tK fun _ _ => ?_; refine t5 _ rfl rfl rfl rfl q6 ?_; refine c5 rfl (t6 (b6 rfl (b6 rfl ?_))); refine G5 rfl q8 rfl ?_; refine t5 _ rfl rfl rfl rfl q6 ?_; refine r_min (((s.count b) : Int) + 1) rfl rfl rfl (by split <;> omega) ?_; refine c5 rfl (t6 (b6 rfl ?_)); refine r_makeR (α := Str) ([] : Str) (n := (s.count b) + 1) (bytes := 16) (z := .string ⟨#[]⟩) rfl j9 w7 rfl rfl rfl (by omega) (by omega) (by omega) fun g => ?_; refine c5 rfl (t6 (b6 rfl ?_)); refine P9 ((s.count b) : Int) rfl rfl rfl (by omega) q6 ?_; refine c5 rfl (t6 (c5 rfl (c8 (d6 (j5 ?_))))); refine u6 (β := Nat × Str × List Str) ⟨fun z => z.2.2.length = z.1 ∧ splitB b s = z.2.2 ++ splitB b z.2.1 ∧ z.2.1.count b + z.1 = (s.count b) ∧ z.2.1.length ≤ s.length, fun z => [(0, str z.2.1), (1, str [b]), (2, int 0), (3, int (s.count b)), (9, .slice (d9 g) ((s.count b) + 1) ((s.count b) + 1)), (10, int z.1)], fun z => [blkS g (z.2.2 ++ List.replicate ((s.count b) + 1 - z.1) [])], fun _ => []⟩ (fun z => (s.count b) - z.1) (0, s, []) ⟨rfl, rfl, rfl, Nat.le_refl _⟩ mC (.refl _) tK fun z hz => ?_; obtain ⟨i, cur, done⟩ := z; obtain ⟨hdl, hsp, hct, hcr⟩ := hz; simp only at hdl hsp hct hcr; refine d6 (i4 (b6 rfl (b6 rfl (B5 rfl rfl rfl (c8 ?_)))))
 first | refine k9 rfl (fun hb4 => ?_) (fun hb4 => ?_) | refine j0 rfl (fun hb4 => ?_) (fun hb4 => ?_)
 ·have hb4' := hb4; try simp at hb4'
  have hi : i < (s.count b) := by simp at hb4; omega
  obtain ⟨j, hj1, hj2, hj3, hj4⟩ := lz3 (b := b) (s := cur) (by omega); refine i8 (i1 (j5 (i4 (b6 rfl (b6 rfl ?_))))); have hIx := vM cur b; rw [hj1] at hIx; refine j4 vV rfl rfl (hIx) (hpR := [_]) (.refl _) tK fun _ _ => ?_; refine c5 rfl (c8 (d6 (i4 (b6 rfl (B5 rfl rfl rfl (c8 ?_))))))
  first | refine k9 rfl (fun hb5 => ?_) (fun hb5 => ?_) | refine j0 rfl (fun hb5 => ?_) (fun hb5 => ?_)
  ·exact absurd hb5 (by omega)
  have hb5' := hb5; try simp at hb5'
  refine i8 (i1 (i4 (b6 rfl (b6 rfl (b6 rfl (b6 rfl (b6 rfl ?_))))))); refine t5 (j : Int) rfl rfl rfl (by omega) q6 (Z3 (s := cur) j rfl q8 rfl rfl rfl (by omega) (B4 i i rfl j9 j6 rfl rfl rfl (by omega) (by omega) ?_)); refine ix4 (α := Str) (l := done ++ List.replicate ((s.count b) + 1 - i) []) (k := i) (f := 0) (cur.take j) rfl (by show i = i * 1 + 0; omega) rfl (.refl _) j6 (by rw [List.length_append, List.length_replicate]; omega) (by decide) rfl rfl ?_; have hset : (done ++ List.replicate ((s.count b) + 1 - i) ([] : Str)).set i (cur.take j) = (done ++ [cur.take j]) ++ List.replicate ((s.count b) + 1 - (i + 1)) [] := by rw [show (s.count b) + 1 - i = ((s.count b) + 1 - (i + 1)) + 1 by omega, ← hdl]; exact ix0
  rw [hset]; refine t6 (b6 rfl (b6 rfl (b6 rfl ?_))); refine G5 rfl q8 rfl ?_; refine t5 ((j + 1 : Nat) : Int) rfl rfl rfl (by simp) q6 ?_; refine jL (s := cur) (j + 1) rfl q8 rfl rfl rfl (by omega) ?_; refine c5 rfl (c8 (c9 (b6 rfl ?_))); refine t5 _ rfl rfl rfl rfl q6 ?_; refine c5 rfl (b5 (w6 ?_)); exact again _ (i + 1, cur.drop (j + 1), done ++ [cur.take j]) ⟨by show (done ++ [_]).length = i + 1; rw [List.length_append, hdl]; rfl, by show splitB b s = (done ++ [_]) ++ _; rw [hsp, hj3, List.append_assoc]; rfl, by show (cur.drop (j + 1)).count b + (i + 1) = (s.count b); omega, by show (cur.drop (j + 1)).length ≤ s.length; rw [List.length_drop]; omega⟩ (y8 (by omega)) mC (.refl _) tK
 have hb4' := hb4; try simp at hb4'
 have hi : i = (s.count b) := by simp at hb4; omega
 have hno : b ∉ cur := fun hm => by have := List.count_pos_iff.2 hm; omega
 rw [cz3 hno] at hsp; refine t7 (C7 (t8 (i1 (i4 (b6 rfl (b6 rfl (b6 rfl ?_))))))); refine B4 i i rfl j9 j6 rfl rfl rfl (by omega) (by omega) ?_; refine ix4 (α := Str) (l := done ++ List.replicate ((s.count b) + 1 - i) []) (k := i) (f := 0) cur rfl (by show i = i * 1 + 0; omega) rfl (.refl _) j6 (by rw [List.length_append, List.length_replicate]; omega) (by decide) rfl rfl ?_; have hset : (done ++ List.replicate ((s.count b) + 1 - i) ([] : Str)).set i cur = splitB b s := by rw [show (s.count b) + 1 - i = 0 + 1 by omega, ← hdl, ix0, hsp]; simp
 rw [hset]; refine t6 (b6 rfl (b6 rfl ?_)); refine t5 ((i + 1 : Nat) : Int) rfl rfl rfl (by simp) q6 ?_; refine lJ (i + 1) rfl j9 j6 rfl rfl rfl (by omega) ?_; refine c5 rfl (c8 (l4 ?_)); refine R8 (rows (splitB b s)) (List.prefix_refl _) ?_; exact ret1 g rfl (by show some (Value.slice _ (i + 1) (s.count b + 1)) = some (Value.slice _ _ _); rw [P2, hi]) rfl tK nK ⟨m0, tK⟩
theorem I9 (s : Str) (b : UInt8) (hs : s.length ≤ 1000000) : Meets prog iU [str s, str [b]] { inv := fun A : Nat => True, val := fun g : Nat => .slice (d9 g) (splitB b s).length (splitB b s).length, LO := fun g => [Row (d9 g) (rows (splitB b s))] } := by
 refine j3 xG rfl v8 fun w0 => ?_; refine i4 (c5 rfl (t6 (b6 rfl (b6 rfl ?_)))); refine j4 rM rfl rfl (dq4 s b hs) t4 tK fun g _ => ?_; refine c5 rfl (c8 (l4 ?_)); exact ret1 g rfl rfl rfl tK nK ⟨m0, tK⟩
def at_ (w : List Str) (k : Nat) : Str := w.getD k default
def kIn : Str := [105, 110]
def kIs : Str := [105, 115]
def kSee : Str := [115, 101, 101]
def kAlso : Str := [97, 108, 115, 111]
def wordsB (l : List Str) : Bool := l.all wordB && decide (0 < l.length)
abbrev PL := Str × Str × Str × List Str
def parseT (w : List Str) : Option (Bool × PL) :=
  if w.length < 2 then none
  else if at_ w 0 = wClass then
    if wordB (at_ w 1) = false then none
    else if w.length = 4 ∧ at_ w 2 = kIn then (if wordB (at_ w 3) = true then some (false, at_ w 1, at_ w 3, [], []) else none)
    else if w.length = 2 then some (false, at_ w 1, [], [], []) else none
  else if wordB (at_ w 0) = false then none
  else if at_ w 1 = kIs then
    if w.length ≤ 2 ∨ wordB (at_ w 2) = false then none
    else if w.length = 3 then some (true, at_ w 0, at_ w 2, [], [])
    else if at_ w 3 = kAlso ∧ wordsB (w.drop 4) = true then some (true, at_ w 0, at_ w 2, [], w.drop 4) else none
  else if at_ w 1 = kAlso then (if wordsB (w.drop 2) = true then some (true, at_ w 0, [], [], w.drop 2) else none)
  else if at_ w 1 = kSee then (if w.length = 3 ∧ wordB (at_ w 2) = true then some (true, at_ w 0, [], at_ w 2, []) else none)
  else none
def rdF : Nat → List Str → List PL → List PL → Option (List PL × List PL) × Nat
  | i, [], cl, hd => (none, i)
  | i, s :: r, cl, hd => if r = [] then (none, i + 1) else if s = wFinis then (if r = [[]] then (some (cl, hd), 0) else (none, i + 2)) else match parseT (splitB 32 s) with
    | none => (none, i + 1)
    | some (false, y) => if hd = [] then rdF (i + 1) r (cl ++ [y]) hd else (none, i + 1)
    | some (true, y) => rdF (i + 1) r cl (hd ++ [y])
def findN (n : Str) : List PL → Nat → Int
  | [], _ => -1
  | x :: r, i => if x.1 = n then (i : Int) else findN n r (i + 1)
def findP (l : List PL) (n : Str) : Int := findN n l 0
def trbC (cl : List PL) : List PL → Nat → List Cl → Option (List Cl) × Nat
  | [], i, acc => (some acc, 0)
  | x :: r, i, acc => if ¬ x.2.1 = [] ∧ findP cl x.2.1 < 0 then (none, i + 1) else trbC cl r (i + 1) (acc ++ [(x.1, findP cl x.2.1)])
def aloE (hd : List PL) : List Str → List Int → Option (List Int)
  | [], acc => some acc
  | a :: r, acc => if findP hd a < 0 then none else aloE hd r (acc ++ [findP hd a])
def trbH (cl hd : List PL) : List PL → Nat → List PH → Option (List PH) × Nat
  | [], i, acc => (some acc, 0)
  | x :: r, i, acc => if (¬ x.2.1 = [] ∧ findP cl x.2.1 < 0) ∨ (¬ x.2.2.1 = [] ∧ findP hd x.2.2.1 < 0) then (none, cl.length + i + 1) else match aloE hd x.2.2.2 [] with
    | none => (none, cl.length + i + 1)
    | some l => trbH cl hd r (i + 1) (acc ++ [(x.1, findP cl x.2.1, findP hd x.2.2.1, l)])
def trbT (cl hd : List PL) : Option (List Cl × List PH) × Nat := match trbC cl cl 0 [] with
  | (none, p) => (none, p)
  | (some cs, _) => match trbH cl hd hd 0 [] with
    | (none, p) => (none, p)
    | (some hs, _) => (some (cs, hs), 0)
def readT (x : Str) : (List Cl × List PH) × Nat × Int := if 900 < x.length then (([], []), 0, 10) else match rdF 0 (splitB 10 x) [] [] with
  | (none, p) => (([], []), p, 2)
  | (some (cl, hd), _) => match trbT cl hd with
    | (none, p) => (([], []), p, 3)
    | (some (cs, hs), _) => if checkT ⟨cs, hs⟩ = 0 then ((cs, hs), 0, 0) else (([], []), 0, checkT ⟨cs, hs⟩)
theorem lq4 {n : Str} : ∀ {l : List PL} {i k : Nat}, k < l.length → (∀ j, j < k → ¬ (l.getD j default).1 = n) → (l.getD k default).1 = n → findN n l i = ((i + k : Nat) : Int)
  | [], i, k, h, _, _ => by simp at h
  | x :: r, i, 0, _, _, h => by rw [findN, if_pos (by simpa using h)]; rfl
  | x :: r, i, k + 1, hk, hj, h => by
    rw [findN, if_neg (by simpa using hj 0 (by omega)), lq4 (k := k) (by simpa using hk) (fun j h1 => by simpa using hj (j + 1) (by omega)) (by simpa using h)]
    congr 1
    omega
theorem lq2 {n : Str} : ∀ {l : List PL} {i : Nat}, (∀ j, j < l.length → ¬ (l.getD j default).1 = n) → findN n l i = -1
  | [], i, _ => rfl
  | x :: r, i, h => by
    rw [findN, if_neg (by simpa using h 0 (by simp)), lq2 fun j h1 => by simpa using h (j + 1) (by simpa using h1)]
theorem lq3 (n : Str) : ∀ (l : List PL) (i : Nat), -1 ≤ findN n l i ∧ findN n l i < ((i + l.length : Nat) : Int) + (if l = [] then 0 else 0)
  | [], i => by rw [findN]; simp; omega
  | x :: r, i => by
    have ih := lq3 n r (i + 1); rw [findN]; simp only [List.length_cons]
    split
    · simp; omega
    simp at ih ⊢; omega
theorem uN (l : List PL) (n : Str) : -1 ≤ findP l n ∧ findP l n < (l.length : Int) ∨ l = [] ∧ findP l n = -1 := by
  have := lq3 n l 0
  simp at this
  cases l with
  | nil => exact .inr ⟨rfl, rfl⟩
  | cons a r => left; unfold findP; simp at this ⊢; omega
theorem M7 {α : Type} [Inhabited α] {l : List α} {k : Nat} (h : k < l.length) : l.drop k = l.getD k default :: l.drop (k + 1) := by
  rw [List.drop_eq_getElem_cons h, List.getD_eq_getElem?_getD, List.getElem?_eq_getElem h]; rfl
abbrev Ln := Str × Str × Str × Sl Str
instance : El Ln where
  default := ([], [], [], ⟨none, 0, []⟩)
  cells m := [str m.1, str m.2.1, str m.2.2.1, .slice m.2.2.2.a m.2.2.2.l.length m.2.2.2.c]
  sz := 4
  len _ := rfl
  one a u h := by simp at h; rcases h with h | h | h | h <;> subst h <;> rfl
def Ln.p (x : Ln) : PL := (x.1, x.2.1, x.2.2.1, x.2.2.2.l)
abbrev Ln.row (x : Ln) : Fact := Row x.2.2.2.a (rows x.2.2.2.l)
abbrev lnO (g : Nat) (nm cl se : Str) (A : Option Addr) (n c : Nat) : Nat × Obj := (g, Obj.cells #[str nm, str cl, str se, .slice A n c] G4 (0, 0))
theorem lx3 {l : List Str} {k : Nat} (hk : k < l.length) (h : wordB (l.getD k default) = false) : wordsB l = false := by
  have : l.all wordB = false := List.all_eq_false.2 ⟨_, w8 hk, by rw [h]; decide⟩; rw [wordsB, this, Bool.false_and]
theorem lx4 {l : List Str} (h : l.all wordB = true) : wordsB l = decide ((0 : Int) < (l.length : Int)) := by
  rw [wordsB, h, Bool.true_and]
  by_cases h0 : 0 < l.length
  · rw [decide_eq_true h0, decide_eq_true (by omega)]
  rw [decide_eq_false h0, decide_eq_false (by omega)]
theorem gj0 {l : List Str} {k : Nat} (hk : k < l.length) (h : (l.take k).all wordB = true) (h1 : wordB (l.getD k default) = true) : (l.take (k + 1)).all wordB = true := by
  rw [List.take_succ_eq_append_getElem hk, List.all_append, h]; rw [B8 hk] at h1
  simp [h1]
theorem bx2 {p q : Prop} [Decidable p] [Decidable q] (h : p ↔ q) : decide p = decide q := by simp only [h]
def clsB (r : List Str) : Bool := if r.length = 2 ∧ at_ r 0 = kIn then wordB (at_ r 1) else decide (r.length = 0)
def clsN (r : List Str) : Str := if r.length = 2 ∧ at_ r 0 = kIn then at_ r 1 else []
def isX (r : List Str) : Bool := decide (r.length = 0) || !wordB (at_ r 0)
def isB (r : List Str) : Bool := !isX r && (decide (r.length = 1) || (decide (at_ r 1 = kAlso) && wordsB (r.drop 2)))
def isN (r : List Str) : Str := if isX r = true then [] else at_ r 0
def isA (r : List Str) : List Str := if isX r = true ∨ r.length = 1 ∨ ¬ at_ r 1 = kAlso then [] else r.drop 2
def seeB (r : List Str) : Bool := decide (r.length = 1) && wordB (at_ r 0)
def seeN (r : List Str) : Str := if r.length = 1 then at_ r 0 else []
theorem yF {A : Option Addr} {ca : Nat} (l : List Str) (hn : l.length ≤ 1000000) : Meets prog lN [.slice A l.length ca] { LI := [Row A (rows l)], val := fun _ : Unit => .bool (wordsB l) } := by
 refine j3 az3 rfl v8 fun w0 => ?_; refine i4 (c5 rfl (c8 (d6 (i4 (b6 rfl ?_))))); refine k6 rfl j9 rfl ?_; refine b6 rfl (c8 (j5 ?_)); refine u6 (β := Nat) ⟨fun k => k ≤ l.length ∧ (l.take k).all wordB = true, fun k => [(0, .slice A l.length ca), (5, .slice A l.length ca), (6, int l.length), (7, int k)], fun _ => [], fun _ => [Row A (rows l)]⟩ (fun k => l.length - k) 0 ⟨Nat.zero_le _, rfl⟩ mC (.refl _) mC fun k hk => ?_; obtain ⟨hk0, hall⟩ := hk; refine i4 (B5 rfl rfl rfl (c8 (d6 ?_)))
 first | refine k9 rfl (fun hb1 => ?_) (fun hb1 => ?_) | refine j0 rfl (fun hb1 => ?_) (fun hb1 => ?_)
 ·have hb1' := hb1; try simp at hb1'
  have hk1 : k < l.length := by omega
  refine i8 (i1 (d6 (j5 (i4 ?_)))); refine m7 (α := Str) l k rfl j9 j6 rfl rfl rfl mB rfl hk1 (by decide) (a7 (v := str (l.getD k default)) rfl a9 rfl (b7 mB (b4 hk1 rfl)) ?_); refine c5 rfl (t6 (b6 rfl ?_)); refine j4 H7 rfl rfl (H5 (l.getD k default)) t4 tK fun _ _ => ?_; refine H6 rfl rfl (c8 ?_)
  first | refine k9 rfl (fun hb2 => ?_) (fun hb2 => ?_) | refine j0 rfl (fun hb2 => ?_) (fun hb2 => ?_)
  ·have hb2' := hb2; try simp at hb2'
   have hw : wordB (l.getD k default) = false := by simpa using hb2
   refine i4 (c5 rfl (c8 (l4 (B7 (u5 (B7 ?_)))))); exact ret1 () rfl (congrArg (fun b => some (Value.bool b)) (by rw [lx3 hk1 hw])) rfl tK nK tK
  have hb2' := hb2; try simp at hb2'
  have hw : wordB (l.getD k default) = true := by simpa using hb2
  refine i8 (w6 (i1 (c9 ?_))); refine t5 _ rfl rfl rfl rfl q6 ?_; refine b6 rfl (b5 ?_); exact again _ (k + 1) ⟨hk1, gj0 hk1 hall hw⟩ (y8 (by omega)) mC (.refl _) mC
 have hb1' := hb1; try simp at hb1'
 have hk1 : k = l.length := by omega
 subst hk1; rw [List.take_length] at hall; refine t7 (C7 (t8 (i1 (i4 (b6 rfl ?_))))); refine k6 rfl j9 rfl ?_; refine Q0 rfl rfl rfl (c5 rfl (c8 (l4 ?_))); exact ret1 () rfl (congrArg (fun b => some (Value.bool b)) (by rw [lx4 hall])) rfl tK nK tK
theorem aj3 {A : Option Addr} {ca g : Nat} (nm cl se : Str) (r : List Str) (hn : r.length ≤ 1000000) : Meets prog iS [.pointer (d9 g), .slice A r.length ca] { hpI := [lnO g nm cl se none 0 0], LI := [Row A (rows r)], val := fun _ : Unit => .bool (wordsB r), hpO := fun _ => [lnO g nm cl se A r.length ca] } := by
 refine j3 xC rfl v8 fun w0 => ?_; refine i4 (c5 rfl (t6 (b6 rfl (b6 rfl (r8 rfl rfl ?_)))))
 first | refine a6 ⟨_, 3, none⟩ rfl rfl W0 rfl ?_ | refine a6 _ rfl rfl W0 rfl ?_
 refine C8 rfl rfl (.refl _) wI (by rfl) (by rfl) ?_; refine t6 (b6 rfl ?_); refine j4 zK rfl rfl (yF r hn) (hpR := [_]) (.refl _) mC fun _ _ => ?_; refine c5 rfl (c8 (l4 ?_)); exact ret1 () rfl rfl rfl tK (.refl _) tK
theorem ij1 {A : Option Addr} {ca g : Nat} (nm : Str) (r : List Str) (hn : r.length ≤ 1000000) : Meets prog iR [.pointer (d9 g), .slice A r.length ca] { hpI := [lnO g nm [] [] none 0 0], LI := [Row A (rows r)], val := fun _ : Unit => .bool (clsB r), hpO := fun _ => [lnO g nm (clsN r) [] none 0 0] } := by
 refine j3 xB rfl v8 fun w0 => ?_; refine i4 (c5 rfl (c8 (d6 (i4 (b6 rfl ?_))))); refine k6 rfl j9 rfl ?_; refine J0 rfl rfl rfl (b6 rfl ?_); refine v6 rfl rfl ?_ ?_
 ·intro hg1; have hg1' := hg1; try simp at hg1'
  have hr2 : r.length = 2 := by simp at hg1; omega
  refine k5 hg1 (b6 rfl (k5 hg1 ?_)); refine m7 (α := Str) r 0 rfl j9 j6 rfl rfl rfl mB rfl (by omega) (by decide) (k5 hg1 (a7 (v := str (at_ r 0)) rfl a9 rfl (b7 mB (b4 (by omega) rfl)) ?_)); refine k5 hg1 (J3 rfl rfl rfl ?_); refine p_t rfl rfl (bt1 hg1) rfl (c8 ?_)
  first | refine k9 rfl (fun hb1 => ?_) (fun hb1 => ?_) | refine j0 rfl (fun hb1 => ?_) (fun hb1 => ?_)
  ·have hb1' := hb1; try simp at hb1'
   have hin : r.length = 2 ∧ at_ r 0 = kIn := ⟨hr2, by assumption⟩; have h1 : clsB r = wordB (at_ r 1) := by rw [clsB, if_pos hin]
   have h2 : clsN r = at_ r 1 := by rw [clsN, if_pos hin]
   refine i4 (b6 rfl (b6 rfl ?_)); refine m7 (α := Str) r 1 rfl j9 j6 rfl rfl rfl mB rfl (by omega) (by decide) (a7 (v := str (at_ r 1)) rfl a9 rfl (b7 mB (b4 (by omega) rfl)) (r8 rfl rfl ?_))
   first | refine a6 ⟨_, 1, none⟩ rfl rfl E6 rfl ?_ | refine a6 _ rfl rfl E6 rfl ?_
   refine C8 rfl rfl (.refl _) j6 (by rfl) (by rfl) ?_; refine t6 (b6 rfl ?_); refine m7 (α := Str) r 1 rfl j9 j6 rfl rfl rfl mB rfl (by omega) (by decide) (a7 (v := str (at_ r 1)) rfl a9 rfl (b7 mB (b4 (by omega) rfl)) (j4 H7 rfl rfl (H5 (at_ r 1)) (hpR := [_]) (.refl _) tK fun _ _ => ?_)); refine c5 rfl (c8 (E9 ?_)); exact ret1 () rfl (congrArg (fun b => some (Value.bool b)) (by rw [h1])) rfl tK (by show List.Sublist [lnO g nm (clsN r) [] none 0 0] _; rw [h2]; exact .refl _) tK
  have hb1' := hb1; try simp at hb1'
  have hin : ¬ (r.length = 2 ∧ at_ r 0 = kIn) := fun h => absurd h.2 (by assumption); have h1 : clsB r = decide (r.length = 0) := by rw [clsB, if_neg hin]
  have h2 : clsN r = [] := by rw [clsN, if_neg hin]
  refine i8 (i1 (i4 (b6 rfl ?_))); refine k6 rfl j9 rfl ?_; refine J0 rfl rfl rfl (c5 rfl (c8 (l4 ?_))); exact ret1 () rfl (congrArg (fun b => some (Value.bool b)) (by rw [h1]; exact bx2 (by omega))) rfl tK (by show List.Sublist [lnO g nm (clsN r) [] none 0 0] _; rw [h2]; exact .refl _) tK
 intro hg1; have hg1' := hg1; try simp at hg1'
 have hr2 : ¬ r.length = 2 := by simp at hg1; omega
 refine l8 hg1 (l8 hg1 (l8 hg1 (l8 hg1 ?_))); refine p_f rfl rfl (bf2 hg1) rfl ?_; refine c8 (c_f rfl rfl ?_); have hin : ¬ (r.length = 2 ∧ at_ r 0 = kIn) := fun h => hr2 h.1; have h1 : clsB r = decide (r.length = 0) := by rw [clsB, if_neg hin]
 have h2 : clsN r = [] := by rw [clsN, if_neg hin]
 refine i8 (i1 (i4 (b6 rfl ?_))); refine k6 rfl j9 rfl ?_; refine J0 rfl rfl rfl (c5 rfl (c8 (l4 ?_))); exact ret1 () rfl (congrArg (fun b => some (Value.bool b)) (by rw [h1]; exact bx2 (by omega))) rfl tK (by show List.Sublist [lnO g nm (clsN r) [] none 0 0] _; rw [h2]; exact .refl _) tK
theorem neq_g {n k : Nat} (h : (decide ((n : Int) = (k : Int)) == false) = true) : ¬ n = k := fun e => by
  rw [decide_eq_true (by omega)] at h; exact absurd h (by decide)
theorem eq_g {n k : Nat} (h : (decide ((n : Int) = (k : Int)) == false) = false) : n = k := Classical.byContradiction fun e => by
  rw [decide_eq_false (by omega)] at h; exact absurd h (by decide)
set_option maxHeartbeats 1000000 in
theorem ij0 {A : Option Addr} {ca g gA : Nat} (nm : Str) (r : List Str) (hn : r.length ≤ 1000000) (hc : r.length ≤ ca) : Meets prog iQ [.pointer (d9 g), .slice A r.length ca, .pointer (d9 gA)] { hpI := [lnO g nm [] [] none 0 0], LI := [Row A (rows r), Blk gA (Obj.cells #[.func (.func 130) #[] #[]] I2 (0, 0))], inv := fun y : Sl Str => y.l = isA r, val := fun _ => .bool (isB r), hpO := fun y => [lnO g nm (isN r) [] y.a y.l.length y.c], LO := fun y => [Row y.a (rows y.l)] } := by
 refine j3 xA rfl v8 fun w0 => ?_; refine i4 (c5 rfl (c8 (d6 (i4 (b6 rfl ?_))))); refine k6 rfl j9 rfl ?_; refine J0 rfl rfl rfl (b6 rfl ?_); refine v6 rfl rfl ?_ ?_
 ·intro hg1; have hg1' := hg1; try simp at hg1'
  have hr0 : ¬ r.length = 0 := neq_g hg1; refine k5 hg1 (b6 rfl (k5 hg1 ?_)); refine m7 (α := Str) r 0 rfl j9 j6 rfl rfl rfl mB rfl (by omega) (by decide) (k5 hg1 (a7 (v := str (at_ r 0)) rfl a9 rfl (b7 mB (b4 (by omega) rfl)) (k5 hg1 (j4 H7 rfl rfl (H5 (at_ r 0)) (hpR := [_]) (.refl _) tK fun _ _ => ?_)))); refine k5 hg1 (H6 rfl rfl ?_); refine p_f rfl rfl (bf1 hg1) rfl (c8 ?_)
  first | refine k9 rfl (fun hb1 => ?_) (fun hb1 => ?_) | refine j0 rfl (fun hb1 => ?_) (fun hb1 => ?_)
  ·have hb1' := hb1; try simp at hb1'
   have hx : isX r = true := by rw [isX, decide_eq_false hr0]; simpa using hb1
   refine i4 (c5 rfl (c8 (E9 ?_))); refine n5 (α := Str) ?_; exact ret1 (⟨none, 0, []⟩ : Sl Str) rfl (congrArg (fun b => some (Value.bool b)) (by rw [isB, hx]; rfl)) rfl (by show [] = isA r; rw [isA, if_pos (.inl hx)]) (by show List.Sublist [lnO g nm (isN r) [] none 0 0] _; rw [isN, if_pos hx]; exact .refl _) mC
  have hb1' := hb1; try simp at hb1'
  have hx : isX r = false := by rw [isX, decide_eq_false hr0]; simpa using hb1
  have hxn : ¬ isX r = true := by rw [hx]; decide
  refine i8 (i1 (i4 (b6 rfl (b6 rfl ?_)))); refine m7 (α := Str) r 0 rfl j9 j6 rfl rfl rfl mB rfl (by omega) (by decide) (a7 (v := str (at_ r 0)) rfl a9 rfl (b7 mB (b4 (by omega) rfl)) (r8 rfl rfl ?_))
  first | refine a6 ⟨_, 1, none⟩ rfl rfl E6 rfl ?_ | refine a6 _ rfl rfl E6 rfl ?_
  refine C8 rfl rfl (.refl _) j6 (by rfl) (by rfl) ?_; refine c8 (d6 ?_); refine C0 13 mixed (by decide) (by decide) rfl rfl (r7 rfl (k8 (fun w1 => k6 rfl j9 rfl (q_z rfl)) (k8 (fun w1 => J0 rfl rfl rfl (q_z rfl)) (r7 rfl ?_)))); refine L3 (t := 25) (want := false) rfl ?_ ?_
  ·intro hg2; have hg2' := hg2; try simp at hg2'
   have hr1 : ¬ r.length = 1 := neq_g hg2
   apply k7 _ rfl rfl rfl
   ·intro w1; refine k5 hg2 (b6 rfl (b5 ?_)); exact i5 rfl
   apply k7 _ rfl rfl rfl
   ·intro w1; refine k5 hg2 (m7 (α := Str) r 1 rfl j9 j6 rfl rfl rfl mB rfl (by omega) (by decide) (b5 ?_)); exact i5 rfl
   apply k7 _ rfl rfl rfl
   ·intro w1; refine k5 hg2 (a7 (v := str (at_ r 1)) rfl a9 rfl (b7 mB (b4 (by omega) rfl)) (b5 ?_)); exact i5 rfl
   apply k7 _ rfl rfl rfl
   ·intro w1; refine k5 hg2 (J3 rfl rfl rfl (b5 ?_)); exact i5 rfl
   apply k7 _ rfl rfl rfl
   ·intro w1; refine k5 hg2 (b6 rfl (b5 ?_)); exact i5 rfl
   refine L3 (t := 30) (want := true) rfl ?_ ?_
   ·intro hg3; have hg3' := hg3; try simp at hg3'
    have hal : at_ r 1 = kAlso := of_decide_eq_true (eq_of_beq hg3)
    apply k7 _ rfl rfl rfl
    ·intro w1; refine k5 hg3 ?_
     first | refine a7 rfl j2 rfl (d8 mB rfl) ?_ | refine a7 rfl j2 rfl (i2 mB rfl) ?_ | refine a7 rfl j2 rfl (b7 mB (b4 (by omega) rfl)) ?_ | refine a7 rfl j2 rfl (b8 mB (rows_get (by omega) rfl)) ?_ | refine a7 rfl j2 rfl (d7 mB rfl) ?_
     refine b5 ?_; exact i5 rfl
    apply k7 _ rfl rfl rfl
    ·intro w1; refine k5 hg3 (b6 rfl (b5 ?_)); exact i5 rfl
    apply k7 _ rfl rfl rfl
    ·intro w1; refine k5 hg3 (b6 rfl (b5 ?_)); exact i5 rfl
    refine V9 ⟨Unit, fun _ => True, fun _ => .slice (cutA A ca 2 1) (r.drop 2).length (ca - 2), fun _ => [Row (cutA A ca 2 1) (rows (r.drop 2))]⟩ rfl rfl rfl ?_ ?_
    ·intro w1; refine k5 hg3 (rB (α := Str) (A := A) (p := r) (ca := ca) 2 r.length mB hc ?_); rw [List.take_length]; refine U4 2 rfl j9 j6 rfl rfl rfl (by omega) ?_; have hdl : r.length - 2 = (r.drop 2).length := by rw [List.length_drop]
     rw [hdl]; refine b5 ?_; exact K5 () tK rfl mC
    refine v7 ⟨rfl, ?_⟩; intro _ _; refine k5 hg3 ?_; refine X3 (vs := [.pointer (d9 g), .slice (cutA A ca 2 1) (r.drop 2).length (ca - 2)]) (cap := []) kK rfl rfl rfl (aj3 nm (at_ r 0) [] (r.drop 2) (by rw [List.length_drop]; omega)) (hpR := []) (.refl _) mC fun _ _ => ?_; refine k5 hg2 (p_t rfl rfl (bt1 hg3) rfl (p_f rfl rfl (bf1 hg2) rfl ?_)); refine c5 rfl (c8 (l4 ?_)); exact ret1 (⟨(cutA A ca 2 1), ca - 2, r.drop 2⟩ : Sl Str) rfl (congrArg (fun b => some (Value.bool b)) (by rw [isB, hx, decide_eq_false hr1, decide_eq_true hal]; simp)) rfl (by show r.drop 2 = isA r; rw [isA, if_neg (by rintro (h | h | h); exact hxn h; exact hr1 h; exact h hal)]) (by show List.Sublist [lnO g nm (isN r) [] (cutA A ca 2 1) (r.drop 2).length (ca - 2)] _; rw [isN, if_neg hxn]; exact .refl _) mC
   intro hg3; have hg3' := hg3; try simp at hg3'
   have hal : ¬ at_ r 1 = kAlso := by have h9 := hg3; simp at h9; exact h9
   refine k8 (fun w1 => l8 hg3 (q_z rfl)) (k8 (fun w1 => l8 hg3 (q_z rfl)) (k8 (fun w1 => l8 hg3 (q_z rfl)) (k8 (fun w1 => l8 hg3 (q_z rfl)) ?_))); refine v7 ⟨rfl, ?_⟩; refine l8 hg3 (k5 hg2 ?_); refine p_f rfl rfl (bf2 hg3) rfl (p_f rfl rfl (bf1 hg2) rfl ?_); refine c5 rfl (c8 (l4 ?_)); refine n5 (α := Str) ?_; exact ret1 (⟨none, 0, []⟩ : Sl Str) rfl (congrArg (fun b => some (Value.bool b)) (by rw [isB, hx, decide_eq_false hr1, decide_eq_false hal]; rfl)) rfl (by show [] = isA r; rw [isA, if_pos (.inr (.inr hal))]) (by show List.Sublist [lnO g nm (isN r) [] none 0 0] _; rw [isN, if_neg (by rw [hx]; decide)]; exact .refl _) mC
  intro hg2; have hg2' := hg2; try simp at hg2'
  have hr1 : r.length = 1 := eq_g hg2; refine k8 (fun w1 => l8 hg2 (q_z rfl)) (k8 (fun w1 => l8 hg2 (q_z rfl)) (k8 (fun w1 => l8 hg2 (q_z rfl)) (k8 (fun w1 => l8 hg2 (q_z rfl)) (k8 (fun w1 => l8 hg2 (q_z rfl)) (k8 (fun w1 => K6 rfl rfl rfl rfl rfl rfl (q_z rfl)) (k8 (fun w1 => K6 rfl rfl rfl rfl rfl rfl (q_z rfl)) (k8 (fun w1 => K6 rfl rfl rfl rfl rfl rfl (q_z rfl)) (k8 (fun w1 => K6 rfl rfl rfl rfl rfl rfl (q_z rfl)) ?_)))))))); refine v7 ⟨rfl, ?_⟩; refine K6 rfl rfl rfl rfl rfl rfl (l8 hg2 ?_); refine p_t rfl rfl (bt2 hg2) rfl ?_; refine c5 rfl (c8 (l4 ?_)); refine n5 (α := Str) ?_; exact ret1 (⟨none, 0, []⟩ : Sl Str) rfl (congrArg (fun b => some (Value.bool b)) (by rw [isB, hx, decide_eq_true hr1]; rfl)) rfl (by show [] = isA r; rw [isA, if_pos (.inr (.inl hr1))]) (by show List.Sublist [lnO g nm (isN r) [] none 0 0] _; rw [isN, if_neg (by rw [hx]; decide)]; exact .refl _) mC
 intro hg1; have hg1' := hg1; try simp at hg1'
 have hr0 : r.length = 0 := eq_g hg1; refine l8 hg1 (l8 hg1 (l8 hg1 (l8 hg1 (l8 hg1 ?_)))); refine p_t rfl rfl (bt2 hg1) rfl ?_; refine c8 (c_t rfl rfl ?_); have hx : isX r = true := by rw [isX, decide_eq_true hr0]; rfl
 refine i4 (c5 rfl (c8 (E9 ?_))); refine n5 (α := Str) ?_; exact ret1 (⟨none, 0, []⟩ : Sl Str) rfl (congrArg (fun b => some (Value.bool b)) (by rw [isB, hx]; rfl)) rfl (by show [] = isA r; rw [isA, if_pos (.inl hx)]) (by show List.Sublist [lnO g nm (isN r) [] none 0 0] _; rw [isN, if_pos hx]; exact .refl _) mC
theorem hz9 {A : Option Addr} {ca g : Nat} (nm : Str) (r : List Str) (hn : r.length ≤ 1000000) : Meets prog iP [.pointer (d9 g), .slice A r.length ca] { hpI := [lnO g nm [] [] none 0 0], LI := [Row A (rows r)], val := fun _ : Unit => .bool (seeB r), hpO := fun _ => [lnO g nm [] (seeN r) none 0 0] } := by
 refine j3 wZ rfl v8 fun w0 => ?_; refine i4 (c5 rfl (c8 (d6 (i4 (b6 rfl ?_))))); refine k6 rfl j9 rfl ?_; refine M8 rfl rfl rfl (c8 ?_)
 first | refine k9 rfl (fun hb1 => ?_) (fun hb1 => ?_) | refine j0 rfl (fun hb1 => ?_) (fun hb1 => ?_)
 ·have hb1' := hb1; try simp at hb1'
  have hr1 : ¬ r.length = 1 := by omega
  refine i4 (c5 rfl (c8 (E9 ?_))); exact ret1 () rfl (congrArg (fun b => some (Value.bool b)) (by rw [seeB, decide_eq_false hr1]; rfl)) rfl tK (by show List.Sublist [lnO g nm [] (seeN r) none 0 0] _; rw [seeN, if_neg hr1]; exact .refl _) tK
 have hb1' := hb1; try simp at hb1'
 have hr1 : r.length = 1 := by omega
 refine i8 (i1 (i4 (b6 rfl (b6 rfl ?_)))); refine m7 (α := Str) r 0 rfl j9 j6 rfl rfl rfl mB rfl (by omega) (by decide) (a7 (v := str (at_ r 0)) rfl a9 rfl (b7 mB (b4 (by omega) rfl)) (r8 rfl rfl ?_))
 first | refine a6 ⟨_, 2, none⟩ rfl rfl J9 rfl ?_ | refine a6 _ rfl rfl J9 rfl ?_
 refine C8 rfl rfl (.refl _) j6 (by rfl) (by rfl) ?_; refine t6 (b6 rfl ?_); refine m7 (α := Str) r 0 rfl j9 j6 rfl rfl rfl mB rfl (by omega) (by decide) (a7 (v := str (at_ r 0)) rfl a9 rfl (b7 mB (b4 (by omega) rfl)) (j4 H7 rfl rfl (H5 (at_ r 0)) (hpR := [_]) (.refl _) tK fun _ _ => ?_)); refine c5 rfl (c8 (l4 ?_)); exact ret1 () rfl (congrArg (fun b => some (Value.bool b)) (by rw [seeB, decide_eq_true hr1]; rfl)) rfl tK (by show List.Sublist [lnO g nm [] (seeN r) none 0 0] _; rw [seeN, if_pos hr1]; exact .refl _) tK
def FM (gA : Nat) : List (Ment Str) := [(wClass, .agg #[.bool false, .func (.func 132) #[] #[]], 0), (kIs, .agg #[.bool true, .func (.func 133) #[] #[.pointer (d9 gA)]], 1), (kAlso, .agg #[.bool true, .func (.func 130) #[] #[]], 2), (kSee, .agg #[.bool true, .func (.func 134) #[] #[]], 3)]
theorem O8 : Meets prog lQ [] { val := fun x : Nat × Nat => .map (some x.1), LO := fun x => [Blk x.1 (mapO str (FM x.2) 4), Blk x.2 (Obj.cells #[.func (.func 130) #[] #[]] I2 (0, 0))] } := by
 refine j3 az6 rfl v8 fun w0 => ?_; refine i4 (c5 rfl (t6 ?_)); refine u4 rfl (fun _ => aN _) fun gA => C8 rfl rfl (.refl _) aM (by rfl) (by rfl) ?_; refine c8 (d6 (C3 (c9 ?_))); refine cz8 str rfl fun gM => u0 _ rfl rfl (fun _ => wN ..) (tV (KeyC.str q8) (.inr rfl) C2 rfl rfl rfl (.refl _) (iL rfl rfl rfl (u0 _ rfl rfl (fun _ => Z1 ..) (tV (KeyC.str q8) (.inr rfl) C2 rfl rfl rfl (.refl _) ?_))))
 first | refine a7 rfl j2 rfl (i2 mB rfl) ?_ | refine a7 rfl j2 rfl (d8 mB rfl) ?_ | refine a7 rfl j2 rfl (b7 mB (b4 (by omega) rfl)) ?_ | refine a7 rfl j2 rfl (b8 mB (rows_get (by omega) rfl)) ?_ | refine a7 rfl j2 rfl (d7 mB rfl) ?_
 refine u0 _ rfl rfl (fun _ => Z1 ..) (tV (KeyC.str q8) (.inr rfl) C2 rfl rfl rfl (.refl _) (u0 _ rfl rfl (fun _ => Z1 ..) (tV (KeyC.str q8) (.inr rfl) C2 rfl rfl rfl (.refl _) ?_))); refine b6 rfl (c5 rfl (c8 (l4 (az0 ?_)))); exact ret1 (gM, gA) rfl rfl rfl tK nK mC
end Go.Proofs.YtdgmfagfpbdbhaaGreatDoor
end
