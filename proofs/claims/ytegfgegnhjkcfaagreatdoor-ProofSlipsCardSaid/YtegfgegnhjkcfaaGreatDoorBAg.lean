/- Texts of this claim, one behind another. -/
import Derived.Lib.SliceRun
import Derived.Laws.AppendOwn
import Derived.Laws.MakeOwn
import Derived.Lib.Bytealg
import Derived.Test.YtegfgegnhjkcfaaGreatDoorBAf
import Derived.Test.YtegfgegnhjkcfaaGreatDoorBAd
set_option linter.unusedVariables false
set_option linter.unusedSimpArgs false
section
namespace Go.W
open Go Go.RowKit
def notI (dd : TypeDesc) : Bool := match dd with | .interface _ => false | _ => true
def NoI (P : Program) (t : TypeId) : Prop := ∃ dd, P.underlying t = some dd ∧ notI dd = true
section
variable {c : Cx} {Q : Exit → Act → World → Prop} {fr : Fr} {hp : Hp} {L : List Fact} {ops : Array Oper} {rest : List Oper}
variable {d : Tmp} {ty : TypeId} {pos : String} {af : Array Edge}
/-! ### Interfaces -/
theorem jB {t : TypeId} {x : Operand} {v : Value} (hd : Nat.blt d c.n = true) (ht : NoI c.P t) (hx : ev fr x = some v) (k : HL c ops Q rest ((d, .iface t v) :: fr) hp L) : HL c ops Q (⟨some d, .makeInterface t x, ty, pos, af, none⟩ :: rest) fr hp L :=
  n9 _ rfl rfl hd (fun a w ha _ => by
    obtain ⟨dd, h1, h2⟩ := ht; simp only [execOp, ha.ev hx, Instr.makeInterface, Sem.run_bind, run_underlying h1, Result.andThen_ok]
    cases dd <;> first | rfl | cases h2) k
theorem aq7 {t xt : TypeId} {x : Operand} {v : Value} (hd : Nat.blt d c.n = true) (ht : NoI c.P t) (hx : ev fr x = some (.iface t v)) (k : HL c ops Q rest ((d, .tuple #[v, .bool true]) :: fr) hp L) : HL c ops Q (⟨some d, .typeAssert x xt t true, ty, pos, af, none⟩ :: rest) fr hp L :=
  n9 _ rfl rfl hd (fun a w ha _ => by
    obtain ⟨dd, h1, h2⟩ := ht; simp only [execOp, ha.ev hx, Instr.typeAssert, Sem.run_bind, run_underlying h1, Result.andThen_ok]
    cases dd <;> first | (cases h2; done) | simp) k
/-! ### Three results -/
theorem results3 {fn : Func} {t u v : Tmp} (h : fn.results = #[.tmp t, .tmp u, .tmp v]) (tmps : Array Value) (P : Program) (w : World) : (results fn tmps).run P w = .ok (.tuple #[tmps.getD t undef, tmps.getD u undef, tmps.getD v undef]) w := by
  simp [results, h]
theorem ret3 {β : Type} {k : Con β} {fn : Func} {w0 : World} (x : β) {t u v : Tmp} {v1 v2 v3 : Value} (hres : fn.results = #[.tmp t, .tmp u, .tmp v]) (hv1 : lk fr t = some v1) (hv2 : lk fr u = some v2) (hv3 : lk fr v = some v3) (hk : k.val x = .tuple #[v1, v2, v3]) (hb : c.b = k.entry w0) (hi : k.inv x) (h2 : (k.hpO x).Sublist hp) (h3 : LSub L (k.LO x)) (hD : c.D = [] := by exact rfl) :
    HQ c (bodyPost c.P fn (k.post w0)) .ret fr hp L :=
  V9 x (fun a w ha _ => by rw [results3 hres, ha.at_ _ _ hv1, ha.at_ _ _ hv2, ha.at_ _ _ hv3, hk]) hb hi h2 h3 hD
/-! ### Strings that are ranged over -/
abbrev iter (s : Str) (p : Nat) : Obj := .stringIter ⟨s.toArray⟩ p
def nextV (s : Str) (p : Nat) : Value := if p < s.length then .tuple #[.bool true, int p, .int .i32 ((Utf8.decode ⟨s.toArray⟩ p).1 : Nat)] else .tuple #[.bool false]
def nextP (s : Str) (p : Nat) : Nat := if p < s.length then p + (Utf8.decode ⟨s.toArray⟩ p).2 else p
end
theorem uK {c : Cx} {Q : Exit → Act → World → Prop} {fr : Fr} {hp : Hp} {L : List Fact} {ops : Array Oper} {rest : List Oper} {d : Tmp} {ty : TypeId} {pos : String} {af : Array Edge} {f : Nat} {xs0 : Array Operand} {ats : Array TypeId} {vs : List Value} {v : Value} (hd : Nat.blt d c.n = true) (hx : xs0.toList.mapM (ev fr) = some vs) (hrun : ∀ w, (callFunc f vs.toArray).run c.P w = .ok (.value v) w) (kk : HL c ops Q rest ((d, v) :: fr) hp L) :
    HL c ops Q (⟨some d, .call ⟨.value (.func f), xs0, ats⟩, ty, pos, af, none⟩ :: rest) fr hp L := by
  intro a w ha hw; refine M4 rfl fun K hK => ?_
  have key : ∀ (xs : List Operand) (vs : List Value), xs.mapM (ev fr) = some vs → xs.map a.eval = vs := by
    intro xs
    induction xs with
    | nil => intro vs h; simpa using h
    | cons x xs ih =>
      intro vs h; simp only [List.mapM_cons, Option.bind_eq_bind, Option.bind_eq_some_iff, Option.pure_def, Option.some.injEq] at h; obtain ⟨v, hv, us, hus, rfl⟩ := h; rw [List.map_cons, ha.ev hv, ih us hus]
  have e1 : (#[] ++ xs0.map a.eval ++ #[]) = vs.toArray := by simp; apply Array.ext'; simpa using key _ _ hx
  unfold Oper.wp; rw [execOp_call_go, e1, hrun, Oper.upon_value]; exact hK _ _ (kk _ _ (ha.put (by simpa using hd) _) hw)
/-! ### Small sets of bits -/
def u8 (m : Nat) : Value := .int .u8 (m : Int)
section
variable {c : Cx} {Q : Exit → Act → World → Prop} {fr : Fr} {hp : Hp} {L : List Fact} {ops : Array Oper} {rest : List Oper}
variable {d : Tmp} {ty : TypeId} {pos : String} {af : Array Edge}
def diff8 (a b : Nat) : Nat := a &&& (255 - b)
end
/-! ### Rows whose elements have facts of their own -/
def RowsF {α : Type} [El α] (A : Option Addr) (ps : List α) (f : α → Fact) : Fact where
  P w := (Row A (rows ps)).P w ∧ ∀ p ∈ ps, (f p).P w
  fp k := (Row A (rows ps)).fp k ∨ ∃ p ∈ ps, (f p).fp k
  st w w' h hP := ⟨(Row A (rows ps)).st w w' (fun k hk => h k (.inl hk)) hP.1, fun p hp => (f p).st w w' (fun k hk => h k (.inr ⟨p, hp, hk⟩)) (hP.2 p hp)⟩
  lt w hP k hk := by
    rcases hk with hk | ⟨p, hp, hk⟩
    · exact (Row A (rows ps)).lt w hP.1 k hk
    exact (f p).lt w (hP.2 p hp) k hk
section
variable {c : Cx} {Q : Exit → Act → World → Prop} {fr : Fr} {hp : Hp} {L : List Fact} {ops : Array Oper} {rest : List Oper}
variable {α : Type} [El α] {A : Option Addr} {ps : List α} {f : α → Fact}
abbrev innersF (ps : List α) (f : α → Fact) : Fact := Facts (ps.map f)
end
end Go.W
end
section
namespace Go.W
open Go Go.RowKit
section
variable {c : Cx} {Q : Exit → Act → World → Prop} {fr : Fr} {hp : Hp} {L : List Fact} {ops : Array Oper} {rest : List Oper}
variable {d : Tmp} {ty : TypeId} {pos : String} {af : Array Edge}
theorem rF {t e : TypeId} {x i : Operand} {g o n sz : Nat} {kd : IntKind} {z : Int} (j q : Nat) (hd : Nat.blt d c.n = true) (ht : c.P.underlying t = some (.array n e)) (hz : Sz c.P e sz)
    (hx : ev fr x = some (.pointer (some ⟨g, o, none⟩))) (hi : ev fr i = some (.int kd z)) (hjz : z = (j : Int)) (hj : j < n) (hq : o + j * sz = q)
    (k : HL c ops Q rest ((d, .pointer (some ⟨g, q, none⟩)) :: fr) hp L) : HL c ops Q (⟨some d, .indexAddr t x i, ty, pos, af, none⟩ :: rest) fr hp L :=
  n9 _ rfl rfl hd (fun a w ha hw => by
    subst hjz
    have hr : (Instr.indexAt t (.pointer (some ⟨g, o, none⟩)) (.int kd (j : Int))).run c.P w = .ok (.pointer (some ⟨g, q, none⟩)) w := by
      subst hq
      simp [Instr.indexAt, asIntOf, run_underlying ht, R5 hz, hj, Instr.sureAddr, dB]
    simp only [execOp, ha.ev hx, ha.ev hi, Sem.run_bind, hr, Result.andThen_ok, Sem.run_pure]) k
/-! ### Loops that leave marks -/
def AgainM {β : Type} (s : Sta β) (ds : β → List Nat) (μ : β → Nat) (m : Nat) (P : Program) (n : Nat) (b : Bx) (a : Act) (w : World) : Prop := ∃ y, s.inv y ∧ μ y < m ∧ Ok ⟨P, n, b, (ds y).map markOf, none⟩ a (s.fr y) ∧ WI b w (shutM (ds y) ++ s.hp y) (s.L y)
end
end Go.W
end
section
namespace Go.Proofs.YtegfgegnhjkcfaaGreatDoor
open Go Go.W
set_option maxRecDepth 20000
attribute [local irreducible] HL HC HQ HB Row Rows2 Blk Facts
def cutB (b : UInt8) : Str → Str × Str × Bool
  | [] => ([], [], false)
  | x :: r => if x = b then ([], r, true) else (x :: (cutB b r).1, (cutB b r).2.1, (cutB b r).2.2)
theorem W5 (b : UInt8) : ∀ s : Str, (Lib.indexByte s b = -1 ∧ cutB b s = (s, [], false) ∧ b ∉ s) ∨ ∃ i : Nat, Lib.indexByte s b = i ∧ i < s.length ∧ cutB b s = (s.take i, s.drop (i + 1), true) ∧ s[i]? = some b ∧ b ∉ s.take i
  | [] => .inl ⟨rfl, rfl, by simp⟩
  | x :: r => by
    by_cases h : x = b
    · subst h
      exact .inr ⟨0, by simp [Lib.indexByte], by simp, by simp [cutB], by simp, by simp⟩
    have hb : (x == b) = false := by simp [h]
    rcases W5 b r with ⟨h1, h2, h3⟩ | ⟨i, h1, h2, h3, h4, h5⟩
    · exact .inl ⟨by simp [Lib.indexByte, hb, h1], by simp [cutB, h, h2], by simp [h3, Ne.symm h]⟩
    have hne : ¬ ((i : Int) = -1) := by omega
    exact .inr ⟨i + 1, by simp [Lib.indexByte, hb, h1, hne], by simp; omega, by simp [cutB, h, h3], by simpa using h4, by simp [h5, Ne.symm h]⟩
def trimL (p : UInt8 → Bool) (s : Str) : Str := s.dropWhile p
def trimR (p : UInt8 → Bool) (s : Str) : Str := (s.reverse.dropWhile p).reverse
def isDig (c : UInt8) : Bool := decide (48 ≤ c.toNat) && decide (c.toNat ≤ 57)
def D10 : Str := [48, 49, 50, 51, 52, 53, 54, 55, 56, 57]
theorem any_dig (c : UInt8) : (D10.any fun x => x == c) = isDig c := by
  unfold isDig D10
  by_cases h : 48 ≤ c.toNat ∧ c.toNat ≤ 57
  · obtain ⟨h1, h2⟩ := h
    have hc : c = UInt8.ofNat c.toNat := by simp
    have : c.toNat = 48 ∨ c.toNat = 49 ∨ c.toNat = 50 ∨ c.toNat = 51 ∨ c.toNat = 52 ∨ c.toNat = 53 ∨ c.toNat = 54 ∨ c.toNat = 55 ∨ c.toNat = 56 ∨ c.toNat = 57 := by omega
    rw [decide_eq_true h1, decide_eq_true h2]
    rcases this with e | e | e | e | e | e | e | e | e | e <;> (rw [e] at hc; rw [hc]; rfl)
  have h3 : (decide (48 ≤ c.toNat) && decide (c.toNat ≤ 57)) = false := by
    rw [Bool.and_eq_false_iff, decide_eq_false_iff_not, decide_eq_false_iff_not]; omega
  rw [h3]; simp only [List.any_cons, List.any_nil, Bool.or_false, Bool.or_eq_false_iff, beq_eq_false_iff_ne]; refine ⟨?_, ?_, ?_, ?_, ?_, ?_, ?_, ?_, ?_, ?_⟩ <;> (intro e; subst e; exact h (by decide))
theorem wL {p : UInt8 → Bool} : ∀ {l : Str}, l.dropWhile p = [] ↔ ∀ x ∈ l, p x = true
  | [] => by simp
  | a :: l => by
    by_cases h : p a = true
    · rw [List.dropWhile_cons_of_pos h, wL]
      simp [h]
    rw [List.dropWhile_cons_of_neg h]
    simp [h]
theorem X1 {p : UInt8 → Bool} {s : Str} : trimL p (trimR p s) = [] ↔ s.all p = true := by
  unfold trimL trimR; rw [wL, List.all_eq_true]
  constructor
  · intro h
    have h2 : s.reverse.dropWhile p = [] := by
      cases hd : s.reverse.dropWhile p with
      | nil => rfl
      | cons x r =>
        have h3 : p x = true := h x (by rw [hd]; simp); have h4 := List.head_dropWhile_not p (l := s.reverse) (by rw [hd]; simp); simp only [hd, List.head_cons] at h4; rw [h3] at h4; cases h4
    rw [wL] at h2; exact fun x hx => h2 x (by simpa using hx)
  intro h x hx
  have h2 : s.reverse.dropWhile p = [] := by
    rw [wL]; exact fun x hx => h x (by simpa using hx)
  rw [h2] at hx; simp at hx
def asV (l : Str) : List Value := (List.range 256).map fun i => Value.bool (l.any fun c => c.toNat == i)
theorem wR (l : Str) : (asV l).length = 256 := by simp [asV]
theorem asV_one (l : Str) : (asV l).all (·.oneCell') = true := List.all_eq_true.2 fun v hv => by
  obtain ⟨i, _, rfl⟩ := List.mem_map.1 hv
  rfl
theorem wS (l : Str) (c : UInt8) : (asV l)[c.toNat]? = some (.bool (l.any fun x => x == c)) := by
  have h : c.toNat < 256 := c.toNat_lt; unfold asV; rw [List.getElem?_map, List.getElem?_range h]; simp only [Option.map_some]
  congr 3
  funext x
  rw [Bool.eq_iff_iff]
  simp [UInt8.toNat_inj]
theorem asV_set (l : Str) (c : UInt8) : (asV l).set c.toNat (.bool true) = asV (l ++ [c]) := by
  apply List.ext_getElem?
  intro i; rw [List.getElem?_set]; have h : c.toNat < 256 := c.toNat_lt
  by_cases hi : c.toNat = i
  · subst hi
    rw [if_pos rfl, if_pos (by rw [wR]; exact h), wS]
    simp
  rw [if_neg hi]; unfold asV
  by_cases hl : i < 256
  · rw [List.getElem?_map, List.getElem?_map, List.getElem?_range hl]
    simp [hi]
  rw [List.getElem?_eq_none (by simp; omega), List.getElem?_eq_none (by simp; omega)]
theorem bq3 {p : UInt8 → Bool} {q : Str} (h : 0 < q.length) (hp : p q[0] = false) : trimL p q = q := by
  cases q with
  | nil => simp at h
  | cons a q => exact List.dropWhile_cons_of_neg (by rw [← Bool.not_eq_true] at hp; exact hp)
theorem aj7 {p : UInt8 → Bool} {q : Str} (h : 0 < q.length) (hp : p q[0] = true) : trimL p (q.drop 1) = trimL p q := by
  cases q with
  | nil => simp at h
  | cons a q => exact (List.dropWhile_cons_of_pos hp).symm
theorem bq1 {p : UInt8 → Bool} {q : Str} (h : 0 < q.length) (hp : p (q[q.length - 1]'(by omega)) = false) : trimR p q = q := by
  unfold trimR; have hne : q ≠ [] := fun e => by rw [e] at h; simp at h
  have e : q = q.dropLast ++ [q[q.length - 1]'(by omega)] := by rw [← List.getLast_eq_getElem hne, List.dropLast_concat_getLast]
  rw [e, List.reverse_append, List.reverse_singleton, List.singleton_append, List.dropWhile_cons_of_neg (by rw [← Bool.not_eq_true] at hp; exact hp)]
  simp
theorem aj6 {p : UInt8 → Bool} {q : Str} (h : 0 < q.length) (hp : p (q[q.length - 1]'(by omega)) = true) : trimR p (q.take (q.length - 1)) = trimR p q := by
  have hne : q ≠ [] := fun e => by rw [e] at h; simp at h
  have e : q = q.take (q.length - 1) ++ [q[q.length - 1]'(by omega)] := by rw [← List.dropLast_eq_take, ← List.getLast_eq_getElem hne, List.dropLast_concat_getLast]
  conv => rhs; rw [e]
  unfold trimR; rw [List.reverse_append, List.reverse_singleton, List.singleton_append, List.dropWhile_cons_of_pos hp]
theorem bq2 (p : UInt8 → Bool) (s : Str) : (trimR p s).length ≤ s.length := by
  unfold trimR; rw [List.length_reverse]; have := (List.dropWhile_sublist (l := s.reverse) p).length_le
  rwa [List.length_reverse] at this
theorem mG {c : Cx} {Q : Exit → Act → World → Prop} {fr : Fr} {hp hp' : Hp} {L : List Fact} {ops : Array Oper} {rest : List Oper} (h : hp = hp') (k : HL c ops Q rest fr hp' L) : HL c ops Q rest fr hp L := h ▸ k
section
variable {c : Cx} {Q : Exit → Act → World → Prop} {fr : Fr} {hp : Hp} {L : List Fact} {ops : Array Oper} {rest : List Oper} {d : Tmp} {ty : TypeId} {pos : String} {af : Array Edge}
theorem S3 {t : TypeId} {x lo hi : Operand} {s : Str} {kd kd' : IntKind} {z z' : Int} (l h : Nat) (hd : Nat.blt d c.n = true) (ht : c.P.underlying t = some .string)
    (hx : ev fr x = some (str s)) (hl : ev fr lo = some (.int kd z)) (hlz : z = (l : Int)) (hh : ev fr hi = some (.int kd' z')) (hhz : z' = (h : Int)) (hle : l ≤ h) (hle' : h ≤ s.length)
    (k : HL c ops Q rest ((d, str ((s.drop l).take (h - l))) :: fr) hp L) : HL c ops Q (⟨some d, .slice t x (some lo) (some hi) none, ty, pos, af, none⟩ :: rest) fr hp L :=
  n9 _ rfl rfl hd (fun a w ha _ => by
    have e1 : (ByteArray.mk s.toArray).size = s.length := rfl; simp only [execOp, ha.ev hx, Option.map_some, Option.map_none, ha.ev hl, ha.ev hh, Sem.run_bind, Instr.sliceAt, run_underlying ht]; simp only [Result.andThen_ok]
    simp [Instr.slice, Instr.sliceBounds, run_underlying ht, str, e1, S8 hlz hle, S8 hhz hle', dV]) k
end
abbrev asO (g : Nat) (l : Str) : Nat × Obj := (g, Obj.cells (asV l).toArray T.B6 (0, 0))
theorem idx_run (s : Str) (c : UInt8) (w : World) : (callFunc 103 [str s, Value.int .u8 (c.toNat : Int)].toArray).run Tryz.prog w = .ok (.value (int (Lib.indexByte s c))) w := by
  show (callFunc 103 #[str s, Value.int .u8 (c.toNat : Int)]).run Tryz.prog w = _; rw [run_callFunc_extern Tryz.func103 (by kernel_rfl) (by kernel_rfl) (by kernel_rfl) (e := Extern.BytealgIndexByte.indexByte) (by kernel_rfl)]; have h := Lib.run_indexByteString (P := Tryz.prog) ⟨s.toArray⟩ (c.toNat : Int) w; have e : ((c.toNat : Int).toNat).toUInt8 = c := by simp
  rw [e] at h; show Result.andThen (Sem.run Tryz.prog (Extern.BytealgIndexByte.indexByte #[.string ⟨s.toArray⟩, .int .u8 (c.toNat : Int)]) w) _ = _; rw [h]
  rfl
theorem A7 (s : Str) (c : UInt8) : Meets Tryz.prog F.y7 [str s, .int .u8 c.toNat] { val := fun _ : Unit => int (Lib.indexByte s c) } := by
 refine c4 F.P0 rfl l5 fun w0 => ?_; refine a9 (a8 rfl (k9 (a5 rfl (a5 rfl ?_)))); refine uK rfl rfl (idx_run s c) ?_; refine a8 rfl (a7 (i6 ?_)); exact ret1 () rfl rfl rfl trivial (.refl _) trivial
theorem bA (s : Str) (c : UInt8) : Meets Tryz.prog F.N1 [str s, .int .u8 c.toNat] { val := fun _ : Unit => int (Lib.indexByte s c) } := by
 refine c4 F.iH rfl l5 fun w0 => ?_; refine a9 (a8 rfl (k9 (a5 rfl (a5 rfl ?_)))); refine d6 F.C5 rfl rfl (A7 s c) n6 trivial fun _ _ => ?_; refine a8 rfl (a7 (i6 ?_)); exact ret1 () rfl rfl rfl trivial (.refl _) trivial
theorem O9 (s : Str) (b : UInt8) : Meets Tryz.prog F.B8 [str s, str [b]] { val := fun _ : Unit => int (Lib.indexByte s b) } := by
 refine c4 F.U5 rfl l5 fun w0 => ?_; refine a9 (a8 rfl (k9 (a5 rfl ?_))); refine l4 rfl T.i2 rfl ?_; refine a8 rfl (a7 (b5 (j0 (a9 (a5 rfl (t8 rfl rfl rfl (a5 rfl ?_))))))); refine l3 rfl rfl ?_ ?_
 ·intro hg1; have hg1' := hg1; try simp at hg1'
  refine c9 rfl rfl hg1 (a5 rfl (c9 rfl rfl hg1 (a5 rfl (c9 rfl rfl hg1 (aG rfl rfl rfl ?_))))); refine p_f rfl rfl (bf1 hg1) rfl ?_; refine a8 rfl (a7 ?_)
  first | refine i8 rfl (fun hb1 => ?_) (fun hb1 => ?_) | refine b9 rfl (fun hb1 => ?_) (fun hb1 => ?_)
  ·have hb1' := hb1; try simp at hb1'
   have hb2 : [b] = s := by simpa using hb1
   refine a9 (a8 rfl (a7 (i6 (t5 ?_)))); exact ret1 () rfl (by subst hb2; simp [Lib.indexByte, lk]) rfl trivial (.refl _) trivial
  have hb1' := hb1; try simp at hb1'
  refine a9 (a5 rfl (t8 rfl rfl rfl (a8 rfl (a7 ?_)))); refine c_t rfl (by first | rfl | assumption | exact bt1 (by assumption) | exact bt2 (by assumption)) ?_; refine a9 (a5 rfl (a5 rfl ?_)); refine q7 0 rfl T.i2 rfl rfl rfl rfl ?_; refine d6 F.C5 rfl rfl (A7 s b) n6 trivial fun _ _ => ?_; refine a8 rfl (a7 (i6 (t5 ?_))); exact ret1 () rfl rfl rfl trivial (.refl _) trivial
 intro hg1; have hg1' := hg1; try simp at hg1'
theorem Q8 (s : Str) (b : UInt8) (hs : s.length ≤ 1000000) : Meets Tryz.prog F.E0 [str s, str [b]] { val := fun _ : Unit => .tuple #[str (cutB b s).1, str (cutB b s).2.1, .bool (cutB b s).2.2] } := by
 have hI := O9 s b; have hC := W5 b s; generalize Lib.indexByte s b = z at hI hC; refine c4 F.Y7 rfl l5 fun w0 => ?_; refine a9 (a8 rfl (a8 rfl (a8 rfl (a7 (b5 (a9 (a5 rfl (a5 rfl ?_)))))))); refine d6 F.S5 rfl rfl (hI) n6 trivial fun _ _ => ?_; refine a8 rfl (k9 (a5 rfl (jC rfl rfl rfl (a7 ?_))))
 first | refine i8 rfl (fun hb1 => ?_) (fun hb1 => ?_) | refine b9 rfl (fun hb1 => ?_) (fun hb1 => ?_)
 ·have hb1' := hb1; try simp at hb1'
  obtain ⟨i, rfl, hi, hcut, _⟩ : ∃ i : Nat, z = i ∧ i < s.length ∧ cutB b s = (s.take i, s.drop (i + 1), true) ∧ True := by
    rcases hC with ⟨h1, _⟩ | ⟨i, h1, h2, h3, _⟩
    · omega
    exact ⟨i, h1, h2, h3, trivial⟩
  refine b5 ?_; refine z6 10 mixed (by decide) (by decide) rfl rfl ?_; refine j5 (fun w1 => a5 rfl (q_z rfl)) ?_; refine j5 (fun w1 => a5 rfl (q_z rfl)) ?_; refine j5 (fun w1 => I8 i rfl T.i2 rfl rfl rfl (by omega) (q_z rfl)) ?_; refine j5 (fun w1 => a5 rfl (q_z rfl)) ?_; refine j5 (fun w1 => a5 rfl (q_z rfl)) ?_; refine j5 (fun w1 => a5 rfl (q_z rfl)) ?_; refine j5 (fun w1 => l4 rfl T.i2 rfl (q_z rfl)) ?_; refine j5 (fun w1 => p7 ((i + 1 : Nat) : Int) rfl rfl rfl (by simp) l9 (q_z rfl)) ?_; refine j5 (fun w1 => B3 (i + 1) rfl T.i2 rfl rfl (by omega) (by omega) (q_z rfl)) ?_; refine j5 (fun w1 => a8 rfl (q_z rfl)) ?_; refine v6 ⟨rfl, ?_⟩; refine a8 rfl (a8 rfl (a7 (s6 ?_))); exact ret3 () rfl rfl rfl rfl (by rw [hcut] <;> rfl) rfl trivial (.refl _) trivial
 have hb1' := hb1; try simp at hb1'
 have hcut : cutB b s = (s, [], false) := by
   rcases hC with ⟨_, h2, _⟩ | ⟨i, h1, h2, h3, _⟩
   · exact h2
   omega
 refine c3 (b6 (a9 (a5 rfl (a8 rfl (a8 rfl (a8 rfl (a7 (i6 ?_)))))))); exact ret3 () rfl rfl rfl rfl (by rw [hcut] <;> rfl) rfl trivial (.refl _) trivial
theorem Z3 (s : Str) (b : UInt8) (hs : s.length ≤ 1000000) : Meets Tryz.prog F.dU [str s, str [b]] { val := fun _ : Unit => .tuple #[str (cutB b s).1, str (cutB b s).2.1, .bool (cutB b s).2.2] } := by
 refine c4 F.sY rfl l5 fun w0 => ?_; refine a9 (a8 rfl (a8 rfl (a8 rfl (k9 (a5 rfl (a5 rfl ?_)))))); refine d6 F.W4 rfl rfl (Q8 s b hs) n6 trivial fun _ _ => ?_; refine k4 rfl rfl rfl (k4 rfl rfl rfl (k4 rfl rfl rfl (a8 rfl (a8 rfl (a8 rfl (a7 (i6 ?_))))))); exact ret3 () rfl rfl rfl rfl rfl rfl trivial (.refl _) trivial
theorem E3 (g : Nat) (l : Str) (c : UInt8) : Meets Tryz.prog F.C6 [.pointer (j4 g), .int .u8 c.toNat] { LI := [Blk g (asO g l).2], val := fun _ : Unit => .bool (l.any fun x => x == c) } := by
 refine c4 F.V8 rfl l5 fun w0 => ?_; refine a9 (a8 rfl (k9 (a5 rfl (a5 rfl (i5 rfl rfl ?_))))); refine rF c.toNat c.toNat rfl T.X0 T.kU rfl rfl rfl c.toNat_lt (by simp) ?_; refine a4 (v := .bool (l.any fun x => x == c)) rfl T.cA rfl (c8 m0 (by rw [List.getElem?_toArray]; exact wS l c)) ?_; refine a8 rfl (a7 (i6 ?_)); exact ret1 () rfl rfl rfl trivial (.refl _) trivial
theorem X3 (l : Str) (hl : ∀ c ∈ l, c.toNat < 128) (hn : l.length ≤ 1000000) : Meets Tryz.prog F.I3 [str l] { val := fun _ : Unit => .tuple #[.agg (asV l).toArray, .bool true] } := by
 refine c4 F.cF rfl l5 fun w0 => ?_; refine a9 ?_; refine r9 rfl (fun _ => T.V5 _) fun g => ?_; refine mG (hp' := [asO g []]) (by kernel_rfl) ?_; refine a8 rfl (a7 (b5 (a9 (a8 rfl (a7 (j0 ?_)))))); refine s9 (β := Nat) ⟨fun k => k ≤ l.length, fun k => [(0, str l), (2, .pointer (j4 g)), (4, int k)], fun k => [asO g (l.take k)], fun _ => []⟩ (fun k => l.length - k) 0 (Nat.zero_le _) mC (.refl _) trivial fun k hk => ?_; refine b5 (a9 (a5 rfl (a5 rfl ?_))); refine l4 rfl T.i2 rfl ?_; refine r6 rfl rfl rfl (a7 ?_)
 first | refine i8 rfl (fun hb1 => ?_) (fun hb1 => ?_) | refine b9 rfl (fun hb1 => ?_) (fun hb1 => ?_)
 ·have hb1' := hb1; try simp at hb1'
  have hk1 : k < l.length := by omega
  have hc := hl l[k] (List.getElem_mem hk1); refine c3 (b6 (b5 (j0 (a9 (a5 rfl (a5 rfl ?_)))))); refine q7 k rfl T.i2 rfl rfl rfl (List.getElem?_eq_getElem hk1) ?_; refine a8 rfl (a7 (b5 (a9 (a5 rfl (jC rfl rfl rfl (a7 ?_))))))
  first | refine i8 rfl (fun hb2 => ?_) (fun hb2 => ?_) | refine b9 rfl (fun hb2 => ?_) (fun hb2 => ?_)
  ·exact absurd hb2 (by simp; omega)
  have hb2' := hb2; try simp at hb2'
  refine c3 (b6 (c6 (a5 rfl ?_))); refine rF (l[k]).toNat (l[k]).toNat rfl T.X0 T.kU rfl rfl rfl (l[k]).toNat_lt (by simp) ?_; refine n7 rfl rfl (.refl _) T.kU (by rw [List.getElem?_toArray]; exact wS _ _) (by rfl) ?_; refine mG (hp' := [asO g (l.take (k + 1))]) (by show [(g, Obj.cells (((asV (l.take k)).toArray).setIfInBounds (l[k]).toNat (Value.bool true)) T.B6 (0, 0))] = [(g, Obj.cells (asV (l.take (k + 1))).toArray T.B6 (0, 0))]; rw [List.take_succ_eq_append_getElem hk1, ← asV_set]; simp) ?_; refine b3 (q9 (b6 (c6 (a5 rfl ?_)))); refine p7 _ rfl rfl rfl rfl l9 ?_; refine a8 rfl (b3 ?_); exact again _ (k + 1) (by show k + 1 ≤ l.length; omega) (y5 (by omega)) mC (.refl _) trivial
 have hb1' := hb1; try simp at hb1'
 have hk1 : k = l.length := by omega
 subst hk1; refine n5 (y6 (n4 (b6 (b5 ?_)))); refine J7 (hp' := [asO g l]) (show List.Perm [asO g (l.take l.length)] [asO g l] by rw [List.take_length]) ?_; refine c6 ?_; refine w7 rfl T.S2 T.E4 rfl m0 (by simp [wR]) ?_; refine n1 (cs := (asV l).toArray) rfl rfl (.refl _) T.E4 (by rfl) (asV_one l) ?_; refine a8 rfl (a7 (i6 ?_)); exact t6 () rfl rfl rfl T.S2 T.E4 (by simp [wR]) m0 rfl rfl trivial i1 trivial
theorem V7 (g : Nat) (l s : Str) (hs : s.length ≤ 1000000) : Meets Tryz.prog F.H6 [str s, .pointer (j4 g)] { LI := [Blk g (asO g l).2], val := fun _ : Unit => str (trimL (fun c => l.any fun x => x == c) s) } := by
 refine c4 F.aY rfl l5 fun w0 => ?_; refine a9 (a8 rfl (a7 (b5 (j0 ?_)))); refine s9 (β := Str) ⟨fun q => q.length ≤ 1000000 ∧ trimL (fun c => l.any fun x => x == c) q = trimL (fun c => l.any fun x => x == c) s, fun q => [(0, str q), (1, .pointer (j4 g))], fun _ => [], fun _ => [Blk g (asO g l).2]⟩ (fun q => q.length) s ⟨hs, rfl⟩ mC (.refl _) mC fun q hq => ?_; obtain ⟨hq1, hq2⟩ := hq; refine b5 (a9 (a5 rfl ?_)); refine l4 rfl T.i2 rfl ?_; refine v9 rfl rfl rfl (a7 ?_)
 first | refine i8 rfl (fun hb1 => ?_) (fun hb1 => ?_) | refine b9 rfl (fun hb1 => ?_) (fun hb1 => ?_)
 ·have hb1' := hb1; try simp at hb1'
  have hq3 : 0 < q.length := by omega
  refine c3 (b6 (j0 (b5 (a9 (a5 rfl (a5 rfl ?_)))))); refine q7 0 rfl T.i2 rfl rfl rfl (List.getElem?_eq_getElem hq3) ?_; refine d6 F.H0 rfl rfl (E3 g l q[0]) n6 mC fun _ _ => ?_; refine bH rfl rfl (a7 ?_)
  first | refine i8 rfl (fun hb2 => ?_) (fun hb2 => ?_) | refine b9 rfl (fun hb2 => ?_) (fun hb2 => ?_)
  ·have hb2' := hb2; try simp at hb2'
   have hq4 : (fun c => l.any fun x => x == c) q[0] = false := by simpa using hb2
   have hq5 : trimL (fun c => l.any fun x => x == c) q = q := bq3 (p := (fun c => l.any fun x => x == c)) hq3 hq4; refine n5 (z7 (S7 rfl (z7 (n4 (b6 (a9 (a5 rfl (a8 rfl (a7 ?_))))))))); refine i6 ?_; exact ret1 () rfl (by rw [← hq2, hq5]; rfl) rfl trivial (.refl _) trivial
  have hb2' := hb2; try simp at hb2'
  have hq4 : (fun c => l.any fun x => x == c) q[0] = true := by simpa using hb2
  refine c3 (b6 (c6 (a5 rfl ?_))); refine B3 1 rfl T.i2 rfl rfl (by rfl) (by omega) ?_; refine a8 rfl (b3 (q9 ?_)); exact again _ (q.drop 1) ⟨by rw [List.length_drop]; omega, by rw [← hq2]; exact aj7 (p := (fun c => l.any fun x => x == c)) hq3 hq4⟩ (by show (q.drop 1).length < q.length; rw [List.length_drop]; omega) mC (.refl _) mC
 have hb1' := hb1; try simp at hb1'
 have hq0 : q = [] := List.eq_nil_of_length_eq_zero (by omega); have hq5 : trimL (fun c => l.any fun x => x == c) q = q := by rw [hq0]; rfl
 refine n5 (y6 (n4 (b6 (a9 (a5 rfl (a8 rfl (a7 (i6 ?_)))))))); exact ret1 () rfl (by rw [← hq2, hq5]; rfl) rfl trivial (.refl _) trivial
theorem S9 (g : Nat) (l s : Str) (hs : s.length ≤ 1000000) : Meets Tryz.prog F.G2 [str s, .pointer (j4 g)] { LI := [Blk g (asO g l).2], val := fun _ : Unit => str (trimR (fun c => l.any fun x => x == c) s) } := by
 refine c4 F.aC rfl l5 fun w0 => ?_; refine a9 (a8 rfl (a7 (b5 (j0 ?_)))); refine s9 (β := Str) ⟨fun q => q.length ≤ 1000000 ∧ trimR (fun c => l.any fun x => x == c) q = trimR (fun c => l.any fun x => x == c) s, fun q => [(0, str q), (1, .pointer (j4 g))], fun _ => [], fun _ => [Blk g (asO g l).2]⟩ (fun q => q.length) s ⟨hs, rfl⟩ mC (.refl _) mC fun q hq => ?_; obtain ⟨hq1, hq2⟩ := hq; refine b5 (a9 (a5 rfl ?_)); refine l4 rfl T.i2 rfl ?_; refine v9 rfl rfl rfl (a7 ?_)
 first | refine i8 rfl (fun hb1 => ?_) (fun hb1 => ?_) | refine b9 rfl (fun hb1 => ?_) (fun hb1 => ?_)
 ·have hb1' := hb1; try simp at hb1'
  have hq3 : 0 < q.length := by omega
  refine c3 (b6 (j0 (b5 (a9 (a5 rfl (a5 rfl (a5 rfl ?_))))))); refine l4 rfl T.i2 rfl (Z5 ((q.length - 1 : Nat) : Int) rfl rfl rfl (by omega) l9 ?_); refine q7 (q.length - 1) rfl T.i2 rfl rfl rfl (List.getElem?_eq_getElem (by omega)) ?_; refine d6 F.H0 rfl rfl (E3 g l (q[q.length - 1]'(by omega))) n6 mC fun _ _ => ?_; refine bH rfl rfl (a7 ?_)
  first | refine i8 rfl (fun hb2 => ?_) (fun hb2 => ?_) | refine b9 rfl (fun hb2 => ?_) (fun hb2 => ?_)
  ·have hb2' := hb2; try simp at hb2'
   have hq4 : (fun c => l.any fun x => x == c) (q[q.length - 1]'(by omega)) = false := by simpa using hb2
   have hq5 : trimR (fun c => l.any fun x => x == c) q = q := bq1 (p := (fun c => l.any fun x => x == c)) hq3 hq4; refine n5 (z7 (S7 rfl (z7 (n4 (b6 (a9 (a5 rfl (a8 rfl (a7 ?_))))))))); refine i6 ?_; exact ret1 () rfl (by rw [← hq2, hq5]; rfl) rfl trivial (.refl _) trivial
  have hb2' := hb2; try simp at hb2'
  have hq4 : (fun c => l.any fun x => x == c) (q[q.length - 1]'(by omega)) = true := by simpa using hb2
  refine c3 (b6 (c6 (a5 rfl (a5 rfl ?_)))); refine l4 rfl T.i2 rfl (Z5 ((q.length - 1 : Nat) : Int) rfl rfl rfl (by omega) l9 (I8 (q.length - 1) rfl T.i2 rfl rfl rfl (by omega) ?_)); refine a8 rfl (b3 (q9 ?_)); exact again _ (q.take (q.length - 1)) ⟨by rw [List.length_take]; omega, by rw [← hq2]; exact aj6 (p := (fun c => l.any fun x => x == c)) hq3 hq4⟩ (by show (q.take (q.length - 1)).length < q.length; rw [List.length_take]; omega) mC (.refl _) mC
 have hb1' := hb1; try simp at hb1'
 have hq0 : q = [] := List.eq_nil_of_length_eq_zero (by omega); have hq5 : trimR (fun c => l.any fun x => x == c) q = q := by rw [hq0]; rfl
 refine n5 (y6 (n4 (b6 (a9 (a5 rfl (a8 rfl (a7 (i6 ?_)))))))); exact ret1 () rfl (by rw [← hq2, hq5]; rfl) rfl trivial (.refl _) trivial
theorem X4 (s : Str) (hs : s.length ≤ 1000000) : Meets Tryz.prog F.cG [str s, str D10] { val := fun _ : Unit => str (trimL isDig (trimR isDig s)) } := by
 have hf : (fun c : UInt8 => D10.any fun x => x == c) = isDig := funext any_dig; refine c4 F.qT rfl l5 fun w0 => ?_; refine a9 (a8 rfl (a7 (b5 (a9 (a5 rfl (aG rfl rfl rfl (a5 rfl ?_))))))); refine l3 rfl rfl ?_ ?_
 ·intro hg1; have hg1' := hg1; try simp at hg1'
  refine c9 rfl rfl hg1 (a5 rfl (c9 rfl rfl hg1 (aG rfl rfl rfl ?_))); refine p_f rfl rfl (bf1 hg1) rfl ?_; refine a7 ?_
  first | refine i8 rfl (fun hb1 => ?_) (fun hb1 => ?_) | refine b9 rfl (fun hb1 => ?_) (fun hb1 => ?_)
  ·exact absurd hb1 (by decide)
  have hb1' := hb1; try simp at hb1'
  refine c3 (b6 (b5 (a9 (a5 rfl ?_)))); refine l4 rfl T.i2 rfl ?_; refine t8 rfl rfl rfl (a5 rfl ?_); refine l3 rfl rfl ?_ ?_
  ·intro hg2; have hg2' := hg2; try simp at hg2'
   exact absurd hg2 (by decide)
  intro hg2; have hg2' := hg2; try simp at hg2'
  refine k5 rfl rfl rfl rfl rfl hg2 (k5 rfl rfl rfl rfl rfl hg2 (k5 rfl rfl rfl rfl rfl hg2 ?_)); refine p_f rfl rfl (bf2 hg2) rfl ?_; refine a7 (c_f rfl rfl (c3 (b6 (b5 (a9 (a5 rfl ?_)))))); refine d6 F.aZ rfl rfl (X3 D10 (by decide) (by decide)) n6 trivial fun _ _ => ?_; refine a5 rfl (k4 rfl rfl rfl (k4 rfl rfl rfl ?_)); refine r9 rfl (fun _ => T.V5 _) fun g => ?_; refine n1 (cs := (asV D10).toArray) rfl rfl (.refl _) T.E4 (by rfl) (by kernel_rfl) ?_; refine ax6 (a8 rfl (k9 (a5 rfl (a7 ?_)))); refine c_t rfl (by first | rfl | assumption | exact bt1 (by assumption) | exact bt2 (by assumption)) ?_; refine a9 (a5 rfl ?_); refine d6 F.Y9 rfl rfl (S9 g D10 s hs) n6 mC fun _ _ => ?_; refine d6 F.aD rfl rfl (V7 g D10 (trimR (fun c => D10.any fun x => x == c) s) (by have := bq2 (fun c => D10.any fun x => x == c) s; omega)) n6 mC fun _ _ => ?_; refine a8 rfl (a7 (s6 ?_)); exact ret1 () rfl (by rw [hf]; rfl) rfl trivial (.refl _) trivial
 intro hg1; have hg1' := hg1; try simp at hg1'
 refine k5 rfl rfl rfl rfl rfl hg1 (k5 rfl rfl rfl rfl rfl hg1 ?_); refine p_t rfl rfl (bt2 hg1) rfl ?_; refine a7 (c_t rfl rfl (a9 (a5 rfl (a8 rfl (a7 (s6 ?_)))))); have hb2 : s = [] := by simpa using hg1
 exact ret1 () rfl (by subst hb2; rfl) rfl trivial (.refl _) trivial
end Go.Proofs.YtegfgegnhjkcfaaGreatDoor
end
section
namespace Go.Proofs.YtegfgegnhjkcfaaGreatDoor
open Go Go.W
set_option maxRecDepth 20000
attribute [local irreducible] HL HC HQ HB Row Rows2 Blk Facts
def digS : Str := [48, 49, 50, 51, 52, 53, 54, 55, 56, 57, 97, 98, 99, 100, 101, 102, 103, 104, 105, 106, 107, 108, 109, 110, 111, 112, 113, 114, 115, 116, 117, 118, 119, 120, 121, 122]
def prsS : Str := [48, 48, 48, 49, 48, 50, 48, 51, 48, 52, 48, 53, 48, 54, 48, 55, 48, 56, 48, 57, 49, 48, 49, 49, 49, 50, 49, 51, 49, 52, 49, 53, 49, 54, 49, 55, 49, 56, 49, 57, 50, 48, 50, 49, 50, 50, 50, 51, 50, 52, 50, 53, 50, 54, 50, 55, 50, 56, 50, 57, 51, 48, 51, 49, 51, 50, 51, 51, 51, 52, 51, 53, 51, 54, 51, 55, 51, 56, 51, 57, 52, 48, 52, 49, 52, 50, 52, 51, 52, 52, 52, 53, 52, 54, 52, 55, 52, 56, 52, 57, 53, 48, 53, 49, 53, 50, 53, 51, 53, 52, 53, 53, 53, 54, 53, 55, 53, 56, 53, 57, 54, 48, 54, 49, 54, 50, 54, 51, 54, 52, 54, 53, 54, 54, 54, 55, 54, 56, 54, 57, 55, 48, 55, 49, 55, 50, 55, 51, 55, 52, 55, 53, 55, 54, 55, 55, 55, 56, 55, 57, 56, 48, 56, 49, 56, 50, 56, 51, 56, 52, 56, 53, 56, 54, 56, 55, 56, 56, 56, 57, 57, 48, 57, 49, 57, 50, 57, 51, 57, 52, 57, 53, 57, 54, 57, 55, 57, 56, 57, 57]
def itoaZ (z : Int) : Str := if z < 10 then (digS.drop z.toNat).take 1 else (prsS.drop (2 * z.toNat)).take 2
theorem rZ (z : Int) : (itoaZ z).length ≤ 2 := by
  unfold itoaZ
  split <;> simp only [List.length_take] <;> omega
def numV (l : Str) : Int := l.foldl (fun n c => n * 10 + ((c.toNat : Int) - 48)) 0
def numOK (t : Str) : Bool := decide (t.length = 1 ∨ t.length = 2 ∧ ¬ t[0]? = some 48) && t.all isDig
def numS (t : Str) : Option Int := if numOK t then some (numV t) else none
theorem sP {c : UInt8} (h : isDig c = true) : 48 ≤ c.toNat ∧ c.toNat ≤ 57 := by
  unfold isDig at h
  simpa using h
theorem nF {l : Str} {k : Nat} (hk : k < l.length) : numV (l.take (k + 1)) = numV (l.take k) * 10 + ((l[k].toNat : Int) - 48) := by
  rw [List.take_succ_eq_append_getElem hk]; unfold numV; rw [List.foldl_append]
  rfl
theorem lR {l : Str} (h : l.all isDig = true) (h2 : l.length ≤ 2) : 0 ≤ numV l ∧ numV l ≤ 99 := by
  unfold numV
  match l, h2 with
  | [], _ => simp
  | [a], _ => simp at h; have := sP h; simp; omega
  | [a, b], _ => simp at h; have h1 := sP h.1; have h3 := sP h.2; simp; omega
  | a :: b :: c :: r, h2 => simp at h2
theorem lQ {l : Str} (h : l.all isDig = true) (h2 : l.length ≤ 2) (k : Nat) : 0 ≤ numV (l.take k) ∧ numV (l.take k) ≤ 99 := by
  refine lR ?_ (by rw [List.length_take]; omega); rw [List.all_eq_true] at h ⊢; exact fun x hx => h x (List.mem_of_mem_take hx)
theorem xD (z : Int) (h0 : 0 ≤ z) (h : z < 100) : Meets Tryz.prog F.G7 [int z] { val := fun _ : Unit => str (itoaZ z) } := by
 refine c4 F.aP rfl l5 fun w0 => ?_; refine a9 (a8 rfl (a7 (b5 (a9 (a5 rfl (r6 rfl rfl rfl (a7 ?_)))))))
 first | refine i8 rfl (fun hb1 => ?_) (fun hb1 => ?_) | refine b9 rfl (fun hb1 => ?_) (fun hb1 => ?_)
 ·have hb1' := hb1; try simp at hb1'
  refine a9 (a5 rfl (a5 rfl ?_)); refine p7 _ rfl rfl rfl rfl l9 ?_; refine S3 (s := digS) z.toNat (z.toNat + 1) rfl T.i2 (by kernel_rfl) rfl (by omega) rfl (by omega) (Nat.le_succ _) (by show z.toNat + 1 ≤ 36; omega) ?_; refine a8 rfl (a7 (s6 ?_)); exact ret1 () rfl (by show some (str ((digS.drop z.toNat).take (z.toNat + 1 - z.toNat))) = some (str (itoaZ z)); rw [itoaZ, if_pos hb1, Nat.add_sub_cancel_left]) rfl trivial i1 trivial
 have hb1' := hb1; try simp at hb1'
 refine c3 (b6 (a9 (a5 rfl ?_))); refine xH _ rfl rfl rfl rfl l9 (a5 rfl (xH _ rfl rfl rfl rfl l9 (p7 _ rfl rfl rfl rfl l9 ?_))); refine S3 (s := prsS) (2 * z.toNat) (2 * z.toNat + 2) rfl T.i2 (by kernel_rfl) rfl (by omega) rfl (by omega) (Nat.le_add_right _ _) (by show 2 * z.toNat + 2 ≤ 200; omega) ?_; refine a8 rfl (a7 (i6 ?_)); exact ret1 () rfl (by show some (str ((prsS.drop (2 * z.toNat)).take (2 * z.toNat + 2 - 2 * z.toNat))) = some (str (itoaZ z)); rw [itoaZ, if_neg (by omega), Nat.add_sub_cancel_left]) rfl trivial i1 trivial
theorem pY (z : Int) (h0 : 0 ≤ z) (h : z < 100) : Meets Tryz.prog F.B9 [int z, int 10] { val := fun _ : Unit => str (itoaZ z) } := by
 refine c4 F.U6 rfl l5 fun w0 => ?_; refine a9 (a8 rfl (a7 (b5 (a9 (a5 rfl (t8 rfl rfl rfl (a7 ?_))))))); refine c_t rfl (by first | rfl | assumption | exact bt1 (by assumption) | exact bt2 (by assumption)) ?_; refine b5 (a9 (a5 rfl (zU rfl rfl rfl (a5 rfl ?_)))); refine l3 rfl rfl ?_ ?_
 ·intro hg1; have hg1' := hg1; try simp at hg1'
  refine c9 rfl rfl hg1 (a5 rfl (c9 rfl rfl hg1 (r6 rfl rfl rfl ?_))); refine p_t rfl rfl (bt1 hg1) rfl ?_; refine a7 ?_
  first | refine i8 rfl (fun hb2 => ?_) (fun hb2 => ?_) | refine b9 rfl (fun hb2 => ?_) (fun hb2 => ?_)
  ·have hb2' := hb2; try simp at hb2'
   refine a9 (a5 rfl ?_); refine d6 F.Z1 rfl rfl (xD z h0 h) n6 trivial fun _ _ => ?_; refine a8 rfl (a7 (s6 (l6 ?_))); exact ret1 () rfl rfl rfl trivial i1 trivial
  exact absurd h (by omega)
 intro hg1; have hg1' := hg1; try simp at hg1'
 exact absurd h0 (by omega)
theorem xU (z : Int) (h0 : 0 ≤ z) (h : z < 100) : Meets Tryz.prog F.H7 [int z] { val := fun _ : Unit => str (itoaZ z) } := by
 refine c4 F.bU rfl l5 fun w0 => ?_; refine a9 (a8 rfl (k9 (a5 rfl ?_))); refine d6 F.S6 rfl rfl (pY z h0 h) n6 trivial fun _ _ => ?_; refine a8 rfl (a7 (i6 ?_)); exact ret1 () rfl rfl rfl trivial i1 trivial
theorem rY (z : Int) (h : 0 ≤ z ∧ z < 100) : Meets Tryz.prog F.cH [int z] { val := fun _ : Unit => str (itoaZ z) } := by
 refine c4 F.qU rfl l5 fun w0 => ?_; refine a9 (a8 rfl (k9 (a5 rfl ?_))); refine d6 F.aQ rfl rfl (xU z h.1 h.2) n6 trivial fun _ _ => ?_; refine a8 rfl (a7 (i6 ?_)); exact ret1 () rfl rfl rfl trivial i1 trivial
theorem yD (t : Str) (hl : 0 < t.length ∧ t.length ≤ 2) (hd : t.all isDig = true) : Meets Tryz.prog F.H8 [str t] { val := fun _ : Unit => .tuple #[int (numV t), .nilIface] } := by
 have h0 := sP (List.all_eq_true.1 hd _ (List.getElem_mem hl.1)); refine c4 F.bV rfl l5 fun w0 => ?_; refine a9 (a8 rfl (a8 rfl (k9 (a5 rfl ?_)))); refine l4 rfl T.i2 rfl ?_; refine a8 rfl (a7 (b5 (a9 (a5 rfl (k5 rfl rfl rfl rfl rfl rfl (k5 rfl rfl rfl rfl rfl rfl (k5 rfl rfl rfl rfl rfl rfl (L4 rfl rfl rfl rfl rfl rfl (L4 rfl rfl rfl rfl rfl rfl ?_))))))))); refine k5 rfl rfl rfl rfl rfl rfl (p_f rfl rfl rfl rfl (a5 rfl (c9 rfl rfl rfl (a5 rfl (c9 rfl rfl rfl (a5 rfl (c9 rfl rfl rfl (r6 rfl rfl rfl (c9 rfl rfl rfl (a5 rfl ?_)))))))))); refine l3 rfl rfl ?_ ?_
 ·intro hg1; have hg1' := hg1; try simp at hg1'
  refine c9 rfl rfl hg1 (a5 rfl (c9 rfl rfl hg1 (r6 rfl rfl rfl (c9 rfl rfl rfl ?_)))); refine p_t rfl rfl (bt1 hg1) rfl ?_; refine c9 rfl rfl rfl (p_t rfl rfl rfl rfl (p_f rfl rfl rfl rfl (a7 ?_)))
  first | refine i8 rfl (fun hb1 => ?_) (fun hb1 => ?_) | refine b9 rfl (fun hb1 => ?_) (fun hb1 => ?_)
  ·have hb1' := hb1; try simp at hb1'
   refine a9 (a5 rfl (a8 rfl (a7 (b5 (a9 (a5 rfl ?_)))))); refine q7 0 rfl T.i2 rfl rfl rfl (List.getElem?_eq_getElem hl.1) ?_; refine t8 rfl rfl rfl (a5 rfl ?_); refine l3 rfl rfl ?_ ?_
   ·intro hg2; have hg2' := hg2; try simp at hg2'
    refine c9 rfl rfl hg2 (a5 rfl (c9 rfl rfl hg2 ?_)); refine q7 0 rfl T.i2 rfl rfl rfl (List.getElem?_eq_getElem hl.1) ?_; refine c9 rfl rfl hg2 (t8 rfl rfl rfl ?_); refine p_f rfl rfl (bf1 hg2) rfl ?_; refine a7 ?_
    first | refine i8 rfl (fun hb2 => ?_) (fun hb2 => ?_) | refine b9 rfl (fun hb2 => ?_) (fun hb2 => ?_)
    ·omega
    have hb2' := hb2; try simp at hb2'
    refine c3 (b6 (a9 (a8 rfl (a7 (b5 (a9 (a5 rfl ?_))))))); refine zV rfl T.i2 T.B5 T.uY rfl fun gb cap => ?_; refine j9 rfl T.B5 rfl ?_; refine a5 rfl (a7 (j0 ?_)); refine s9 (β := Nat) ⟨fun k => k ≤ t.length, fun k => [(0, str t), (5, str t), (6, int (numV (t.take k))), (47, .slice (j4 gb) t.length cap), (48, int t.length), (49, int k)], fun _ => [], fun _ => [Row (j4 gb) (rows t)]⟩ (fun k => t.length - k) 0 (Nat.zero_le _) mC i1 mC fun k hk => ?_; have hb := lQ hd hl.2 k; refine a9 (r6 rfl rfl rfl (a7 (b5 ?_)))
    first | refine i8 rfl (fun hb4 => ?_) (fun hb4 => ?_) | refine b9 rfl (fun hb4 => ?_) (fun hb4 => ?_)
    ·have hb4' := hb4; try simp at hb4'
     have hk1 : k < t.length := by omega
     have hdk := sP (List.all_eq_true.1 hd _ (List.getElem_mem hk1)); refine c3 (b6 (b5 (j0 (a9 ?_)))); refine r7 (α := UInt8) _ _ rfl T.B5 T.sz_u8 rfl rfl rfl mB rfl (by omega) (by decide) ?_; refine a4 rfl T.aj3 rfl (c5 m0 (b4 hk1 (by rw [B1 hk1]; rfl))) ?_; refine a8 rfl (k9 (a5 rfl ?_)); refine D2 (.int .u8 ((t[k].toNat : Int) - 48)) rfl rfl rfl (fun _ => rfl) (fun w => by show Result.ok (Value.int .u8 (IntKind.u8.wrap ((t[k].toNat : Int) - 48))) w = _; rw [IntWalk.u8_in _ (by omega)]) ?_; refine a8 rfl (a7 (b5 (a9 (a5 rfl (v9 rfl rfl rfl (a7 ?_))))))
     first | refine i8 rfl (fun hb5 => ?_) (fun hb5 => ?_) | refine b9 rfl (fun hb5 => ?_) (fun hb5 => ?_)
     ·omega
     have hb5' := hb5; try simp at hb5'
     refine c3 (b6 (c6 (a5 rfl ?_))); refine xH (numV (t.take k) * 10) rfl rfl rfl rfl l9 (a5 rfl (mW ((t[k].toNat : Int) - 48) rfl T.uY T.nY rfl (IntWalk.i64_in _ (by omega)) ?_)); refine p7 (numV (t.take (k + 1))) rfl rfl rfl (nF hk1).symm (by have := lQ hd hl.2 (k + 1); unfold I64; omega) ?_; refine a8 rfl (b3 (q9 (b6 (c6 ?_)))); refine p7 _ rfl rfl rfl rfl l9 ?_; refine a5 rfl (b3 ?_); exact again _ (k + 1) (by show k + 1 ≤ t.length; omega) (y5 (by omega)) mC i1 mC
    have hb4' := hb4; try simp at hb4'
    have hk1 : k = t.length := by omega
    subst hk1; refine n5 (y6 (n4 (b6 (b5 (a9 (a5 rfl ?_)))))); refine q7 0 rfl T.i2 rfl rfl rfl (List.getElem?_eq_getElem hl.1) ?_; refine t8 rfl rfl rfl (a7 ?_)
    first | refine i8 rfl (fun hb6 => ?_) (fun hb6 => ?_) | refine b9 rfl (fun hb6 => ?_) (fun hb6 => ?_)
    ·omega
    have hb6' := hb6; try simp at hb6'
    refine c3 (b6 (a9 (a5 rfl (a8 rfl (a8 rfl (a7 (s6 ?_))))))); exact ret2 () rfl rfl rfl (by rw [List.take_length]) rfl trivial i1 trivial
   intro hg2; have hg2' := hg2; try simp at hg2'
   all_goals omega
  omega
 intro hg1; have hg1' := hg1; try simp at hg1'
 exact absurd hg1 (by rw [decide_eq_true (show (0 : Int) < (t.length : Int) by omega)]; decide)
theorem sT (t : Str) (hl : 0 < t.length ∧ t.length ≤ 2) (hd : t.all isDig = true) : Meets Tryz.prog F.cI [str t] { val := fun _ : Unit => .tuple #[int (numV t), .nilIface] } := by
 refine c4 F.qV rfl l5 fun w0 => ?_; refine a9 (a8 rfl (a8 rfl (k9 (a5 rfl ?_)))); refine d6 F.aR rfl rfl (yD t hl hd) n6 trivial fun _ _ => ?_; refine a5 rfl (k4 rfl rfl rfl (k4 rfl rfl rfl (a8 rfl (a8 rfl (a7 (b5 (a9 (a5 rfl ?_)))))))); refine D2 (.bool false) rfl rfl rfl (fun _ => rfl) (fun _ => rfl) ?_; refine a7 ?_; refine c_f rfl (by first | rfl | assumption | exact bf1 (by assumption) | exact bf2 (by assumption)) ?_; refine c3 (b6 (a9 (a5 rfl (a8 rfl (a8 rfl (a7 (i6 ?_))))))); exact ret2 () rfl rfl rfl rfl rfl trivial i1 trivial
end Go.Proofs.YtegfgegnhjkcfaaGreatDoor
end
section
namespace Go.Proofs.YtegfgegnhjkcfaaGreatDoor
open Go Go.W
set_option maxRecDepth 20000
attribute [local irreducible] HL HC HQ HB Row Rows2 Blk Facts
def pressO (g : Nat) (o : OutC) (lines : List Str) (nx : Int) : Nat × Obj := (g, .cells #[.slice o.1 lines.length o.2, int nx] T.Z6 (0, 0))
def deedL (m : Mk) (lines : List Str) : List Str := if m.1 = 3 then lines else lines ++ [m.2.2]
def deedN (m : Mk) (nx : Int) : Int := if m.1 = 1 then nx else m.2.1 + 1
abbrev GrowS (o : OutC) (l : List Str) (og : Hp) : Prop := Grow T.string 1 o.1 l.length o.2 (rows l) og
def deedCon (g : Nat) (o : OutC) (og : Hp) (lines : List Str) (nx : Int) (m : Mk) : Con (OutC × Hp) :=
  { hpI := pressO g o lines nx :: og, inv := fun x => GrowS x.1 (deedL m lines) x.2, val := fun _ => .tuple #[], hpO := fun x => pressO g x.1 (deedL m lines) (deedN m nx) :: x.2 }
theorem jY {α : Type} (l : List α) (a b : α) : (l ++ [a, b]).Perm (b :: (l ++ [a])) := by
  have : l ++ [a, b] = (l ++ [a]) ++ [b] := by simp
  rw [this]; exact List.perm_append_comm
theorem yV {α : Type} (l : List α) (a : α) : (l ++ [a]).Perm (a :: l) := List.perm_append_comm
theorem n8 {α : Type} (l : List α) (a : α) : (l ++ [a]).length = l.length + 1 := by simp
theorem iU {g : Nat} {o : OutC} {og : Hp} {lines : List Str} {nx : Int} (m : Mk) (hG : GrowS o lines og) (hl : lines.length ≤ 1000) (hk : m.1 = 1) : Meets Tryz.prog F.K9 [.pointer (j4 g), .agg #[int m.1, int m.2.1, str m.2.2]] (deedCon g o og lines nx m) := by
 have eL : deedL m lines = lines ++ [m.2.2] := by simp [deedL, hk]
 have eN : deedN m nx = nx := by simp [deedN, hk]
 unfold deedCon; rw [eL, eN]; unfold pressO GrowS; rw [n8]; refine c4 F.pQ rfl l5 fun w0 => ?_; refine a9 ?_; refine J9 rfl rfl fun gB => ?_; refine a7 ?_; refine J2 (og) ([_, _]) (List.perm_append_comm (l₁ := [_, _])) 9 [8] mixed (by decide) (by decide) (by decide) rfl rfl rfl (j5 (fun w1 => a5 rfl (q_z rfl)) (j5 (fun w1 => a5 rfl (q_z rfl)) (j5 (fun w1 => i5 rfl rfl (q_z rfl)) ?_)))
 apply k7 _ rfl rfl rfl
 ·intro w1
  first | refine a3 ⟨_, 0, none⟩ rfl rfl T.p9 rfl ?_ | refine a3 _ rfl rfl T.p9 rfl ?_
  refine b3 ?_; exact i3 rfl
 apply k7 _ rfl rfl rfl
 ·intro w1
  first | refine a4 rfl T.i9 rfl (c8 mB rfl) ?_ | refine a4 rfl T.i9 rfl (b7 mB rfl) ?_ | refine a4 rfl T.i9 rfl (c5 mB (b4 (by omega) rfl)) ?_ | refine a4 rfl T.i9 rfl (b8 mB (rows_get (by omega) rfl)) ?_
  refine b3 ?_; exact i3 rfl
 apply k7 _ rfl rfl rfl
 ·intro w1
  first | refine a3 ⟨_, 2, none⟩ rfl rfl T.k6 rfl ?_ | refine a3 _ rfl rfl T.k6 rfl ?_
  refine b3 ?_; exact i3 rfl
 apply k7 _ rfl rfl rfl
 ·intro w1
  first | refine a4 rfl T.j1 rfl (c8 mB rfl) ?_ | refine a4 rfl T.j1 rfl (b7 mB rfl) ?_ | refine a4 rfl T.j1 rfl (c5 mB (b4 (by omega) rfl)) ?_ | refine a4 rfl T.j1 rfl (b8 mB (rows_get (by omega) rfl)) ?_
  refine b3 ?_; exact i3 rfl
 refine aA ⟨Nat, fun _ => True, fun g1 => .slice (j4 g1) 1 1, fun g1 => [Row (j4 g1) (rows [m.2.2])]⟩ rfl rfl rfl ?_ ?_
 ·intro w1; refine j8 _ rfl rfl (fun _ => T.nT ..) fun gS => ?_; refine b3 ?_; refine D5 (rows [m.2.2]) (List.prefix_refl _) ?_; exact I0 gS trivial rfl ⟨m0, trivial⟩
 refine hH ⟨OutC × Hp, fun x => Grow T.string 1 x.1.1 (lines.length + 1) x.1.2 (rows (lines ++ [m.2.2])) x.2, fun x => .slice x.1.1 (lines.length + 1) x.1.2, fun _ => [], fun x => x.2⟩ rfl rfl rfl ?_ ?_
 ·intro g1 _; intro w1; refine w9 (lines.length + 1) (rows (lines ++ [m.2.2])) T.iE rfl rfl rfl hG (hp' := []) (by rw [List.append_nil]) (Src.row (news := rows [m.2.2]) (m := 1) m0 rfl (I7 _) (by decide)) rfl (t3 lines [m.2.2]).symm (by unfold maxLen; omega) (by omega) fun A' c' og' hG' => ?_; refine b3 ?_; exact L5 ((A', c'), og') hG' (fun _ => rfl) (List.sublist_append_left _ _) trivial
 refine v6 ⟨rfl, ?_⟩; intro g1 _ x hx; refine i5 rfl rfl ?_
 first | refine a3 ⟨_, 0, none⟩ rfl rfl T.p9 rfl ?_ | refine a3 _ rfl rfl T.p9 rfl ?_
 refine n7 rfl rfl (jY _ _ _) T.cE (by rfl) (by rfl) ?_; refine b3 ?_; exact ret0n x rfl rfl rfl hx ((List.sublist_append_left _ _).cons_cons _) trivial
theorem iT {g : Nat} {o : OutC} {og : Hp} {lines : List Str} {nx : Int} (m : Mk) (hG : GrowS o lines og) (hl : lines.length ≤ 1000) (hk : m.1 = 2) (hat : 0 ≤ m.2.1 ∧ m.2.1 ≤ 1000000) : Meets Tryz.prog F.K8 [.pointer (j4 g), .agg #[int m.1, int m.2.1, str m.2.2]] (deedCon g o og lines nx m) := by
 have eL : deedL m lines = lines ++ [m.2.2] := by simp [deedL, hk]
 have eN : deedN m nx = m.2.1 + 1 := by simp [deedN, hk]
 unfold deedCon; rw [eL, eN]; unfold pressO GrowS; rw [n8]; refine c4 F.pP rfl l5 fun w0 => ?_; refine a9 ?_; refine J9 rfl rfl fun gB => ?_; refine a7 ?_; refine J2 (_ :: og) ([_]) (List.perm_append_comm (l₁ := [_])) 16 [15, 9, 5] mixed (by decide) (by decide) (by decide) rfl rfl rfl (j5 (fun w1 => a5 rfl (q_z rfl)) (j5 (fun w1 => a5 rfl (q_z rfl)) (j5 (fun w1 => a5 rfl (q_z rfl)) (j5 (fun w1 => i5 rfl rfl (q_z rfl)) ?_))))
 apply k7 _ rfl rfl rfl
 ·intro w1
  first | refine a3 ⟨_, 0, none⟩ rfl rfl T.p9 rfl ?_ | refine a3 _ rfl rfl T.p9 rfl ?_
  refine b3 ?_; exact i3 rfl
 refine hH ⟨Unit, fun _ => True, fun _ => .slice o.1 lines.length o.2, fun _ => [], fun _ => (g, Obj.cells #[.slice o.1 lines.length o.2, int nx] T.Z6 (0, 0)) :: og⟩ rfl rfl rfl ?_ ?_
 ·intro w1
  first | refine a4 rfl T.i9 rfl (b7 mB rfl) ?_ | refine a4 rfl T.i9 rfl (c8 mB rfl) ?_ | refine a4 rfl T.i9 rfl (c5 mB (b4 (by omega) rfl)) ?_ | refine a4 rfl T.i9 rfl (b8 mB (rows_get (by omega) rfl)) ?_
  refine b3 ?_; exact L5 () trivial (fun _ => rfl) (.refl _) trivial
 apply k7 _ rfl rfl rfl
 ·intro w1
  first | refine a3 ⟨_, 2, none⟩ rfl rfl T.k6 rfl ?_ | refine a3 _ rfl rfl T.k6 rfl ?_
  refine b3 ?_; exact i3 rfl
 apply k7 _ rfl rfl rfl
 ·intro w1
  first | refine a4 rfl T.j1 rfl (c8 mB rfl) ?_ | refine a4 rfl T.j1 rfl (b7 mB rfl) ?_ | refine a4 rfl T.j1 rfl (c5 mB (b4 (by omega) rfl)) ?_ | refine a4 rfl T.j1 rfl (b8 mB (rows_get (by omega) rfl)) ?_
  refine b3 ?_; exact i3 rfl
 refine aA ⟨Nat, fun _ => True, fun g1 => .slice (j4 g1) 1 1, fun g1 => [Row (j4 g1) (rows [m.2.2])]⟩ rfl rfl rfl ?_ ?_
 ·intro w1; refine j8 _ rfl rfl (fun _ => T.nT ..) fun gS => ?_; refine b3 ?_; refine D5 (rows [m.2.2]) (List.prefix_refl _) ?_; exact I0 gS trivial rfl ⟨m0, trivial⟩
 refine hH ⟨OutC × Hp, fun x => Grow T.string 1 x.1.1 (lines.length + 1) x.1.2 (rows (lines ++ [m.2.2])) x.2, fun x => .slice x.1.1 (lines.length + 1) x.1.2, fun _ => [], fun x => x.2 ++ [(g, Obj.cells #[.slice o.1 lines.length o.2, int nx] T.Z6 (0, 0))]⟩ rfl rfl rfl ?_ ?_
 ·intro g1 _ _ _; intro w1; refine w9 (lines.length + 1) (rows (lines ++ [m.2.2])) T.iE rfl rfl rfl hG (List.perm_append_comm (l₁ := [_])) (Src.row (news := rows [m.2.2]) (m := 1) m0 rfl (I7 _) (by decide)) rfl (t3 lines [m.2.2]).symm (by unfold maxLen; omega) (by omega) fun A' c' og' hG' => ?_; refine b3 ?_; exact L5 ((A', c'), og') hG' (fun _ => rfl) (.refl _) trivial
 apply k7 _ rfl rfl rfl
 ·intro w1
  first | refine a3 ⟨_, 1, none⟩ rfl rfl T.d8 rfl ?_ | refine a3 _ rfl rfl T.d8 rfl ?_
  refine b3 ?_; exact i3 rfl
 apply k7 _ rfl rfl rfl
 ·intro w1
  first | refine a4 rfl T.a6 rfl (c8 mB rfl) ?_ | refine a4 rfl T.a6 rfl (b7 mB rfl) ?_ | refine a4 rfl T.a6 rfl (c5 mB (b4 (by omega) rfl)) ?_ | refine a4 rfl T.a6 rfl (b8 mB (rows_get (by omega) rfl)) ?_
  refine b3 ?_; exact i3 rfl
 refine j5 (fun w1 => p7 _ rfl rfl rfl rfl l9 (q_z rfl)) (j5 (fun w1 => i5 rfl rfl (q_z rfl)) ?_)
 apply k7 _ rfl rfl rfl
 ·intro w1
  first | refine a3 ⟨_, 0, none⟩ rfl rfl T.p9 rfl ?_ | refine a3 _ rfl rfl T.p9 rfl ?_
  refine b3 ?_; exact i3 rfl
 refine hb_st ⟨OutC × Hp, fun x => Grow T.string 1 x.1.1 (lines.length + 1) x.1.2 (rows (lines ++ [m.2.2])) x.2, fun x => .tuple #[], fun _ => [], fun x => (g, Obj.cells #[.slice x.1.1 (lines.length + 1) x.1.2, int nx] T.Z6 (0, 0)) :: x.2⟩ rfl rfl ?_ ?_
 ·intro x hx; intro w1; refine n7 rfl rfl (yV _ _) T.cE (by rfl) (by rfl) ?_; refine b3 ?_; exact L5 x hx (fun h => by cases h) (.refl _) trivial
 refine v6 ⟨rfl, ?_⟩; intro _ _ g1 _ x0 hx0 x hx; refine i5 rfl rfl ?_
 first | refine a3 ⟨_, 1, none⟩ rfl rfl T.p8 rfl ?_ | refine a3 _ rfl rfl T.p8 rfl ?_
 refine n7 rfl rfl (.refl _) T.D8 (by rfl) (by rfl) ?_; refine b3 ?_; exact ret0n x rfl rfl rfl hx ((List.sublist_append_left _ _).cons_cons _) trivial
theorem iS {g : Nat} {o : OutC} {og : Hp} {lines : List Str} {nx : Int} (m : Mk) (hG : GrowS o lines og) (hl : lines.length ≤ 1000) (hk : m.1 = 3) (hat : 0 ≤ m.2.1 ∧ m.2.1 ≤ 1000000) : Meets Tryz.prog F.K7 [.pointer (j4 g), .agg #[int m.1, int m.2.1, str m.2.2]] (deedCon g o og lines nx m) := by
 have eL : deedL m lines = lines := by simp [deedL, hk]
 have eN : deedN m nx = m.2.1 + 1 := by simp [deedN, hk]
 unfold deedCon; rw [eL, eN]; unfold pressO; refine c4 F.pO rfl l5 fun w0 => ?_; refine a9 ?_; refine J9 rfl rfl fun gB => ?_; refine a7 (c6 (a5 rfl ?_))
 first | refine a3 ⟨_, 1, none⟩ rfl rfl T.d8 rfl ?_ | refine a3 _ rfl rfl T.d8 rfl ?_
 first | refine a4 rfl T.a6 rfl (b7 mB rfl) ?_ | refine a4 rfl T.a6 rfl (c8 mB rfl) ?_ | refine a4 rfl T.a6 rfl (c5 mB (b4 (by omega) rfl)) ?_ | refine a4 rfl T.a6 rfl (b8 mB (rows_get (by omega) rfl)) ?_
 refine p7 _ rfl rfl rfl rfl l9 (i5 rfl rfl ?_)
 first | refine a3 ⟨_, 1, none⟩ rfl rfl T.p8 rfl ?_ | refine a3 _ rfl rfl T.p8 rfl ?_
 refine n7 rfl rfl (.swap _ _ _) T.D8 (by rfl) (by rfl) ?_; refine b3 ?_; exact ret0n (o, og) rfl rfl rfl hG ((List.sublist_cons_self _ _).cons_cons _) trivial
def fnV (f : Nat) : Value := .func (.func f) #[] #[]
def deedsL : List (Ment Int) := [(1, fnV F.K9, 0), (2, fnV F.K8, 1), (3, fnV F.K7, 2)]
abbrev K3 : KeyC Tryz.prog T.int int := KeyC.int T.nY
theorem lF : Meets Tryz.prog F.gJ [] { val := fun g : Nat => .map (some g), hpO := fun g => [(g, mapO int deedsL 3)] } := by
 refine c4 F.tE rfl l5 fun w0 => ?_; refine a9 (a8 rfl (k9 ?_)); refine rE int rfl fun gM => ?_; refine kY (k := 1) K3 (.inr rfl) T.s8 rfl rfl rfl (.refl _) (kY (k := 2) K3 (.inr rfl) T.s8 rfl rfl rfl (.refl _) (kY (k := 3) K3 (.inr rfl) T.s8 rfl rfl rfl (.refl _) ?_)); refine a5 rfl (a8 rfl (a7 (i6 ?_))); exact ret1 gM rfl rfl rfl trivial (.refl _) trivial
def deedV (k : Int) : Value := if k = 1 then fnV F.K9 else if k = 2 then fnV F.K8 else fnV F.K7
theorem cq7 {k : Int} (h : 1 ≤ k ∧ k ≤ 3) : getM deedsL k = some (deedV k) := by
  have : k = 1 ∨ k = 2 ∨ k = 3 := by omega
  rcases this with rfl | rfl | rfl <;> rfl
theorem hl_deed {n : Nat} {b : Bx} {Q : Exit → Act → World → Prop} {fr : Fr} {hp hpR : Hp} {L : List Fact} {ops : Array Oper} {rest : List Oper} {d : Tmp} {ty : TypeId} {pos : String} {af : Array Edge} {x : Operand} {args : Array Operand} {ats : Array TypeId}
    {g : Nat} {o : OutC} {og : Hp} {lines : List Str} {nx : Int} {m : Mk} (hd : Nat.blt d n = true) (hf : ev fr x = some (deedV m.1)) (hx : args.toList.mapM (ev fr) = some [.pointer (j4 g), .agg #[int m.1, int m.2.1, str m.2.2]])
    (hk : 1 ≤ m.1 ∧ m.1 ≤ 3) (hat : 0 ≤ m.2.1 ∧ m.2.1 ≤ 1000000) (hG : GrowS o lines og) (hl : lines.length ≤ 1000) (h1 : hp.Perm ((pressO g o lines nx :: og) ++ hpR))
    (kk : ∀ y : OutC × Hp, GrowS y.1 (deedL m lines) y.2 → HL ⟨Tryz.prog, n, b, [], none⟩ ops Q rest ((d, .tuple #[]) :: fr) ((pressO g y.1 (deedL m lines) (deedN m nx) :: y.2) ++ hpR) L) :
    HL ⟨Tryz.prog, n, b, [], none⟩ ops Q (⟨some d, .call ⟨.value x, args, ats⟩, ty, pos, af, none⟩ :: rest) fr hp L := by
  have : m.1 = 1 ∨ m.1 = 2 ∨ m.1 = 3 := by omega
  rcases this with h | h | h
  · exact J1 (cap := []) F.nB hd (by rw [hf, h]; rfl) hx (iU m hG hl h) h1 trivial (fun y hy => kk y hy)
  · exact J1 (cap := []) F.nA hd (by rw [hf, h]; rfl) hx (iT m hG hl h hat) h1 trivial (fun y hy => kk y hy)
  exact J1 (cap := []) F.mZ hd (by rw [hf, h]; rfl) hx (iS m hG hl h hat) h1 trivial (fun y hy => kk y hy)
def stepP (p : List Str) (st : List Str × Nat) (m : Mk) : List Str × Nat :=
  (deedL m (st.1 ++ (p.take (max st.2 m.2.1.toNat)).drop st.2), (deedN m (max st.2 m.2.1.toNat : Nat)).toNat)
def madeP (p : List Str) (l : List Mk) : List Str := (l.foldl (stepP p) ([], 0)).1 ++ p.drop (l.foldl (stepP p) ([], 0)).2
def MV (n : Nat) (l : List Mk) : Prop := ∀ m ∈ l, 1 ≤ m.1 ∧ m.1 ≤ 3 ∧ 0 ≤ m.2.1 ∧ m.2.1 ≤ n ∧ (m.1 = 1 ∨ m.2.1 < n)
theorem R7 {α : Type} {f : α → Int} : ∀ {l : List α}, firstErr f l = 0 → ∀ a ∈ l, f a = 0
  | [], _, a, h => by simp at h
  | b :: l, h, a, ha => by
    rw [firstErr] at h
    split at h
    · rename_i h0
      rcases List.mem_cons.1 ha with rfl | ha
      · exact h0
      exact R7 h a ha
    rename_i h0; exact absurd h h0
theorem xO {n : Nat} {l : List Mk} (h : marksErr n l = 0) : l.length ≤ 12 ∧ MV n l := by
  unfold marksErr at h
  split at h
  · omega
  rename_i h12
  refine ⟨by omega, fun m hm => ?_⟩; obtain ⟨i, hi, rfl⟩ := List.getElem_of_mem hm; have := R7 h i (by simpa using hi); unfold markErr mErr at this; rw [B1 hi] at this; generalize l[i] = m at *
  split at this
  · omega
  split at this
  · omega
  rename_i h1 h2
  by_cases hk : m.1 = 1
  · simp only [hk, if_true] at h2; omega
  simp only [hk, if_false] at h2; omega
theorem bq6 {p : List Str} {st : List Str × Nat} {m : Mk} {k : Nat} (hp6 : p.length ≤ 6) (h1 : st.2 ≤ p.length) (h2 : st.1.length ≤ 7 * k) (hm : 1 ≤ m.1 ∧ m.1 ≤ 3 ∧ 0 ≤ m.2.1 ∧ m.2.1 ≤ p.length ∧ (m.1 = 1 ∨ m.2.1 < p.length)) : (stepP p st m).2 ≤ p.length ∧ (stepP p st m).1.length ≤ 7 * (k + 1) := by
  obtain ⟨ls, nx⟩ := st; simp only at h1 h2; unfold stepP deedL deedN; have h3 : ((p.take (max nx m.2.1.toNat)).drop nx).length ≤ 6 := by rw [List.length_drop, List.length_take]; omega
  by_cases k1 : m.1 = 1
  · simp only [k1, if_true]
    rw [if_neg (by decide)]; rw [List.length_append, List.length_append]; simp only [List.length_cons, List.length_nil, Int.toNat_natCast]; omega
  by_cases k3 : m.1 = 3
  · simp only [k3, if_true]
    rw [if_neg (by decide), List.length_append]
    omega
  simp only [k1, k3, if_false]; rw [List.length_append, List.length_append]; simp only [List.length_cons, List.length_nil]; omega
theorem L3 {α : Type} [Inhabited α] {l : List α} {k : Nat} (h : k < l.length) : l.getD k default ∈ l := by rw [B1 h]; exact List.getElem_mem h
theorem mY {A B : Option Addr} {ca cb : Nat} (p : List Str) (l : List Mk) (hp6 : p.length ≤ 6) (hl : l.length ≤ 12) (hV : MV p.length l) (hc : p.length ≤ ca) :
    Meets Tryz.prog F.jU [.slice A p.length ca, .slice B l.length cb] { outSl (madeP p l) with LI := [Row A (rows p), Row B (rows l)] } := by
 refine c4 F.vG rfl l5 fun w0 => ?_; refine a9 (a8 rfl (k9 ?_)); refine t4 _ rfl rfl (fun _ => T.qG ..) ?_; refine J9 rfl rfl fun gB => ?_; refine a8 rfl (k9 ?_); refine d6 F.rK rfl rfl (lF) n6 trivial fun gM _ => ?_; refine a8 rfl (a7 (kK ?_)); refine J7 (.swap _ _ _) ?_; refine c6 (a5 rfl ?_); refine j9 rfl T.j3 rfl ?_; refine a5 rfl (a7 (j0 ?_))
 refine s9 (β := Nat × OutC × Hp × List Str × Nat) ⟨fun ⟨k, o, og, ls, nx⟩ => k ≤ l.length ∧ (l.take k).foldl (stepP p) ([], 0) = (ls, nx) ∧ GrowS o ls og ∧ nx ≤ p.length ∧ ls.length ≤ 7 * k,
   fun ⟨k, o, og, ls, nx⟩ => [(0, .slice A p.length ca), (5, .pointer (j4 gB)), (6, .map (some gM)), (12, .slice B l.length cb), (13, int l.length), (14, int k)], fun ⟨k, o, og, ls, nx⟩ => pressO gB o ls nx :: (og ++ [(gM, mapO int deedsL 3)]), fun _ => [Row A (rows p), Row B (rows l)]⟩
   (fun x => l.length - x.1) (0, (none, 0), [], [], 0) ⟨Nat.zero_le _, rfl, Grow.nil _ _, Nat.zero_le _, Nat.le_refl _⟩ mC (.refl _) ⟨m0, m1, trivial⟩ fun x hx => ?_
 obtain ⟨k, o, og, ls, nx⟩ := x; obtain ⟨hk, hst, hG, hn, hlen⟩ := hx; refine a9 (r6 rfl rfl rfl (a7 (b5 ?_)))
 first | refine i8 rfl (fun hb1 => ?_) (fun hb1 => ?_) | refine b9 rfl (fun hb1 => ?_) (fun hb1 => ?_)
 ·have hb1' := hb1; try simp at hb1'
  have hk2 : k < l.length := by omega
  refine c3 (b6 (b5 (j0 (a9 ?_)))); refine r7 (α := Mk) _ _ rfl T.j3 T.c7 rfl rfl rfl mB rfl (by omega) (by decide) (r8 rfl T.j2 T.c7 rfl rfl (n3 mB (q8 (by omega))) ?_); refine r9 rfl (fun _ => T.u1 _) fun gA => ?_; refine n1 rfl rfl (by first | exact .refl _ | exact perm2 _ _ _ | exact perm3 _ _ _ _ | exact perm4 _ _ _ _ _) T.c7 (by rfl) (by rfl) ?_; refine a7 (b5 ?_); have hVm := hV _ (L3 hk2); have hst2 : (l.take (k + 1)).foldl (stepP p) ([], 0) = stepP p (ls, nx) (l.getD k default) := by rw [u0 l k hk2, List.foldl_append, hst]; rfl
  have hnext := bq6 (st := (ls, nx)) (k := k) hp6 hn hlen hVm; generalize hm : l.getD k default = m at *; obtain ⟨kd, at0, t⟩ := m; simp only at hVm; obtain ⟨at1, rfl⟩ := Int.eq_ofNat_of_zero_le hVm.2.2.1; refine J7 (pm1 _ _ _ _) (J2 (og) ([_, _, _]) (.refl _) 19 [18] mixed (by decide) (by decide) (by decide) rfl rfl rfl (j5 (fun w1 => a5 rfl (q_z rfl)) (j5 (fun w1 => a5 rfl (q_z rfl)) (j5 (fun w1 => i5 rfl rfl (q_z rfl)) ?_))))
  apply k7 _ rfl rfl rfl
  ·intro w1
   first | refine a3 ⟨_, 0, none⟩ rfl rfl T.p9 rfl ?_ | refine a3 _ rfl rfl T.p9 rfl ?_
   refine b3 ?_; exact i3 rfl
  apply k7 _ rfl rfl rfl
  ·intro w1
   first | refine a4 rfl T.i9 rfl (c8 mB rfl) ?_ | refine a4 rfl T.i9 rfl (b7 mB rfl) ?_ | refine a4 rfl T.i9 rfl (c5 mB (b4 (by omega) rfl)) ?_ | refine a4 rfl T.i9 rfl (b8 mB (rows_get (by omega) rfl)) ?_
   refine b3 ?_; exact i3 rfl
  refine j5 (fun w1 => a5 rfl (q_z rfl)) (j5 (fun w1 => a5 rfl (q_z rfl)) (j5 (fun w1 => i5 rfl rfl (q_z rfl)) ?_))
  apply k7 _ rfl rfl rfl
  ·intro w1
   first | refine a3 ⟨_, 1, none⟩ rfl rfl T.p8 rfl ?_ | refine a3 _ rfl rfl T.p8 rfl ?_
   refine b3 ?_; exact i3 rfl
  apply k7 _ rfl rfl rfl
  ·intro w1
   first | refine a4 rfl T.a6 rfl (c8 mB rfl) ?_ | refine a4 rfl T.a6 rfl (b7 mB rfl) ?_ | refine a4 rfl T.a6 rfl (c5 mB (b4 (by omega) rfl)) ?_ | refine a4 rfl T.a6 rfl (b8 mB (rows_get (by omega) rfl)) ?_
   refine b3 ?_; exact i3 rfl
  refine j5 (fun w1 => a5 rfl (q_z rfl)) (j5 (fun w1 => i5 rfl rfl (q_z rfl)) ?_)
  apply k7 _ rfl rfl rfl
  ·intro w1
   first | refine a3 ⟨_, 1, none⟩ rfl rfl T.p8 rfl ?_ | refine a3 _ rfl rfl T.p8 rfl ?_
   refine b3 ?_; exact i3 rfl
  apply k7 _ rfl rfl rfl
  ·intro w1
   first | refine a4 rfl T.a6 rfl (c8 mB rfl) ?_ | refine a4 rfl T.a6 rfl (b7 mB rfl) ?_ | refine a4 rfl T.a6 rfl (c5 mB (b4 (by omega) rfl)) ?_ | refine a4 rfl T.a6 rfl (b8 mB (rows_get (by omega) rfl)) ?_
   refine b3 ?_; exact i3 rfl
  apply k7 _ rfl rfl rfl
  ·intro w1
   first | refine a3 ⟨_, 1, none⟩ rfl rfl T.d8 rfl ?_ | refine a3 _ rfl rfl T.d8 rfl ?_
   refine b3 ?_; exact i3 rfl
  apply k7 _ rfl rfl rfl
  ·intro w1
   first | refine a4 rfl T.a6 rfl (c8 mB rfl) ?_ | refine a4 rfl T.a6 rfl (b7 mB rfl) ?_ | refine a4 rfl T.a6 rfl (c5 mB (b4 (by omega) rfl)) ?_ | refine a4 rfl T.a6 rfl (b8 mB (rows_get (by omega) rfl)) ?_
   refine b3 ?_; exact i3 rfl
  refine j5 (fun w1 => r_max ((max nx at1 : Nat) : Int) rfl rfl rfl (by simp only; split <;> omega) (q_z rfl)) ?_; refine j5 (fun w1 => yT nx (max nx at1) rfl T.u5 T.v8 rfl rfl rfl rfl rfl (Nat.le_max_left _ _) (by omega) (q_z rfl)) ?_; refine hH ⟨OutC × Hp, fun x => GrowS x.1 (ls ++ (p.take (max nx at1)).drop nx) x.2, fun x => .slice x.1.1 (ls ++ (p.take (max nx at1)).drop nx).length x.1.2, fun _ => [], fun x => x.2⟩ rfl rfl rfl ?_ ?_
  ·intro w1; refine zA (p := p) (ca := ca) nx (max nx at1) m0 hc ?_; refine w9 (ls ++ (p.take (max nx at1)).drop nx).length (rows (ls ++ (p.take (max nx at1)).drop nx)) T.iE rfl rfl rfl hG (hp' := []) (by rw [List.append_nil]) (Src.row (news := rows ((p.take (max nx at1)).drop nx)) m0 (by rw [E5, List.length_drop, List.length_take, Nat.min_eq_left (by omega)]; rfl) (I7 _) (by decide)) (by rw [List.length_append, List.length_drop, List.length_take]; omega) (t3 _ _).symm (by unfold maxLen; rw [List.length_append, List.length_drop, List.length_take]; omega) (by rw [List.length_append, List.length_drop, List.length_take]; omega) fun A' c' og' hG' => ?_; refine b3 ?_; exact L5 ((A', c'), og') hG' (fun _ => rfl) (List.sublist_append_left _ _) trivial
  refine v6 ⟨rfl, ?_⟩; intro x hx; obtain ⟨o1, og1⟩ := x; have hG1 : GrowS o1 (ls ++ (p.take (max nx at1)).drop nx) og1 := hx; generalize hl1 : ls ++ (p.take (max nx at1)).drop nx = l1 at *; refine i5 rfl rfl ?_
  first | refine a3 ⟨_, 0, none⟩ rfl rfl T.p9 rfl ?_ | refine a3 _ rfl rfl T.p9 rfl ?_
  refine n7 rfl rfl (pm2 _ _ _ _) T.cE (by rfl) (by rfl) ?_; refine a7 (b5 ?_); refine J7 (pm3 _ _ _ _) (J2 (og1) ([_, _, _]) (.refl _) 8 [] mixed (by decide) (by decide) (by decide) rfl rfl rfl (j5 (fun w1 => a5 rfl (q_z rfl)) (j5 (fun w1 => a5 rfl (q_z rfl)) (j5 (fun w1 => i5 rfl rfl (q_z rfl)) ?_))))
  apply k7 _ rfl rfl rfl
  ·intro w1
   first | refine a3 ⟨_, 1, none⟩ rfl rfl T.p8 rfl ?_ | refine a3 _ rfl rfl T.p8 rfl ?_
   refine b3 ?_; exact i3 rfl
  apply k7 _ rfl rfl rfl
  ·intro w1
   first | refine a4 rfl T.a6 rfl (c8 mB rfl) ?_ | refine a4 rfl T.a6 rfl (b7 mB rfl) ?_ | refine a4 rfl T.a6 rfl (c5 mB (b4 (by omega) rfl)) ?_ | refine a4 rfl T.a6 rfl (b8 mB (rows_get (by omega) rfl)) ?_
   refine b3 ?_; exact i3 rfl
  apply k7 _ rfl rfl rfl
  ·intro w1
   first | refine a3 ⟨_, 1, none⟩ rfl rfl T.d8 rfl ?_ | refine a3 _ rfl rfl T.d8 rfl ?_
   refine b3 ?_; exact i3 rfl
  apply k7 _ rfl rfl rfl
  ·intro w1
   first | refine a4 rfl T.a6 rfl (c8 mB rfl) ?_ | refine a4 rfl T.a6 rfl (b7 mB rfl) ?_ | refine a4 rfl T.a6 rfl (c5 mB (b4 (by omega) rfl)) ?_ | refine a4 rfl T.a6 rfl (b8 mB (rows_get (by omega) rfl)) ?_
   refine b3 ?_; exact i3 rfl
  refine j5 (fun w1 => r_max ((max nx at1 : Nat) : Int) rfl rfl rfl (by simp only; split <;> omega) (q_z rfl)) ?_; refine v6 ⟨rfl, ?_⟩; refine i5 rfl rfl ?_
  first | refine a3 ⟨_, 1, none⟩ rfl rfl T.p8 rfl ?_ | refine a3 _ rfl rfl T.p8 rfl ?_
  refine n7 rfl rfl (pm4 _ _ _ _) T.D8 (by rfl) (by rfl) ?_; refine a7 ?_; refine J7 (pm5 _ _ _ _) ?_; refine c6 (a5 rfl ?_)
  first | refine a3 ⟨_, 0, none⟩ rfl rfl T.d9 rfl ?_ | refine a3 _ rfl rfl T.d9 rfl ?_
  first | refine a4 rfl T.a6 rfl (b7 mB rfl) ?_ | refine a4 rfl T.a6 rfl (c8 mB rfl) ?_ | refine a4 rfl T.a6 rfl (c5 mB (b4 (by omega) rfl)) ?_ | refine a4 rfl T.a6 rfl (b8 mB (rows_get (by omega) rfl)) ?_
  refine bx3 (k := kd) K3 rfl T.s8 rfl rfl (vP m1) (cq7 ⟨hVm.1, hVm.2.1⟩) (a5 rfl ?_)
  first | refine w7 rfl T.j2 T.c7 rfl mB (by rfl) ?_ | refine z2 rfl T.j2 T.c7 rfl mB (by rfl) ?_ | refine r8 rfl T.j2 T.c7 rfl rfl (n3 mB (q8 (by omega))) ?_
  have hl1n : l1.length ≤ 1000 := by rw [← hl1, List.length_append, List.length_drop, List.length_take]; omega
  refine hl_deed (m := (kd, (at1 : Int), t)) (o := o1) (og := og1) (lines := l1) (nx := (max nx at1 : Nat)) rfl rfl rfl ⟨hVm.1, hVm.2.1⟩ ⟨by simp only; omega, by simp only; omega⟩ hG1 hl1n (pm6 _ _ _ _) fun y hy => ?_; refine b3 (q9 (b6 (c6 ?_))); refine p7 _ rfl rfl rfl rfl l9 ?_; refine a5 rfl (b3 ?_); have hs : stepP p (ls, nx) (kd, (at1 : Int), t) = (deedL (kd, (at1 : Int), t) l1, (deedN (kd, (at1 : Int), t) (max nx at1 : Nat)).toNat) := by rw [← hl1]; rfl
  rw [hs] at hst2 hnext; have hN : (((deedN (kd, (at1 : Int), t) (max nx at1 : Nat)).toNat : Nat) : Int) = deedN (kd, (at1 : Int), t) (max nx at1 : Nat) := Int.toNat_of_nonneg (by unfold deedN; simp only; split <;> omega); refine again _ (k + 1, y.1, y.2, deedL (kd, (at1 : Int), t) l1, (deedN (kd, (at1 : Int), t) (max nx at1 : Nat)).toNat) ?_ ?_ ?_ ?_ ?_
  · exact ⟨by omega, hst2, hy, hnext.1, hnext.2⟩
  · show l.length - (k + 1) < l.length - k
    omega
  · exact mC
  · show (pressO gB y.1 _ (((deedN (kd, (at1 : Int), t) (max nx at1 : Nat)).toNat : Nat) : Int) :: (y.2 ++ [_])).Sublist _
    rw [hN]; exact ((List.Sublist.refl _).append (.cons _ (.refl _))).cons_cons _
  exact ⟨m0, m1, trivial⟩
 have hb1' := hb1; try simp at hb1'
 have hk2 : k = l.length := by omega
 refine n5 (y6 (n4 (b6 (b5 ?_)))); refine z6 10 mixed (by decide) (by decide) rfl rfl (j5 (fun w1 => a5 rfl (q_z rfl)) (j5 (fun w1 => i5 rfl rfl (q_z rfl)) ?_))
 apply k7 _ rfl rfl rfl
 ·intro w1
  first | refine a3 ⟨_, 0, none⟩ rfl rfl T.p9 rfl ?_ | refine a3 _ rfl rfl T.p9 rfl ?_
  refine b3 ?_; exact i3 rfl
 apply k7 _ rfl rfl rfl
 ·intro w1
  first | refine a4 rfl T.i9 rfl (c8 mB rfl) ?_ | refine a4 rfl T.i9 rfl (b7 mB rfl) ?_ | refine a4 rfl T.i9 rfl (c5 mB (b4 (by omega) rfl)) ?_ | refine a4 rfl T.i9 rfl (b8 mB (rows_get (by omega) rfl)) ?_
  refine b3 ?_; exact i3 rfl
 refine j5 (fun w1 => a5 rfl (q_z rfl)) (j5 (fun w1 => a5 rfl (q_z rfl)) (j5 (fun w1 => i5 rfl rfl (q_z rfl)) ?_))
 apply k7 _ rfl rfl rfl
 ·intro w1
  first | refine a3 ⟨_, 1, none⟩ rfl rfl T.p8 rfl ?_ | refine a3 _ rfl rfl T.p8 rfl ?_
  refine b3 ?_; exact i3 rfl
 apply k7 _ rfl rfl rfl
 ·intro w1
  first | refine a4 rfl T.a6 rfl (c8 mB rfl) ?_ | refine a4 rfl T.a6 rfl (b7 mB rfl) ?_ | refine a4 rfl T.a6 rfl (c5 mB (b4 (by omega) rfl)) ?_ | refine a4 rfl T.a6 rfl (b8 mB (rows_get (by omega) rfl)) ?_
  refine b3 ?_; exact i3 rfl
 refine j5 (fun w1 => rD nx rfl T.u5 T.v8 rfl rfl rfl hn (q_z rfl)) ?_; refine v6 ⟨rfl, ?_⟩; refine zA (p := p) (ca := ca) nx p.length m0 hc ?_; rw [List.take_length]; refine w9 (ls ++ p.drop nx).length (rows (ls ++ p.drop nx)) T.iE rfl rfl rfl hG (pm7 _ _ _) (Src.row (news := rows (p.drop nx)) m0 (by rw [E5, List.length_drop]; rfl) (I7 _) (by decide)) (by rw [List.length_append, List.length_drop]) (t3 _ _).symm (by unfold maxLen; rw [List.length_append, List.length_drop]; omega) (by rw [List.length_append, List.length_drop]; omega) fun A' c' og' hG' => ?_; refine a8 rfl (a7 (i6 ?_)); subst hk2; rw [List.take_length] at hst; have e : madeP p l = ls ++ p.drop nx := by unfold madeP; rw [hst]
 rw [e]; refine mF hG' ?_; exact ret1 (A', c') rfl rfl rfl hG'.le i1 ⟨m0, trivial⟩
end Go.Proofs.YtegfgegnhjkcfaaGreatDoor
end
section
namespace Go.Proofs.YtegfgegnhjkcfaaGreatDoor
open Go Go.W
set_option maxRecDepth 20000
attribute [local irreducible] HL HC HQ HB Row Rows2 Blk Facts
def inR (i : Nat) (st : List Str × Str × Bool) (m : Mk) : List Str × Str × Bool :=
  if ¬ m.2.1 = (i : Int) then st else if m.1 = 1 then (st.1 ++ [m.2.2], st.2) else if m.1 = 2 then (st.1, m.2.2, st.2.2) else (st.1, st.2.1, false)
def lineR (p : List Str) (i : Nat) : Str := if i < p.length then p.getD i default else []
def outR (p : List Str) (l : List Mk) (out : List Str) (i : Nat) : List Str :=
  if (l.foldl (inR i) (out, lineR p i, decide (i < p.length))).2.2 = true then (l.foldl (inR i) (out, lineR p i, decide (i < p.length))).1 ++ [(l.foldl (inR i) (out, lineR p i, decide (i < p.length))).2.1]
  else (l.foldl (inR i) (out, lineR p i, decide (i < p.length))).1
def madeR (p : List Str) (l : List Mk) : List Str := (List.range (p.length + 1)).foldl (outR p l) []
def applyP (p : List Str) (l : List Mk) : List Str × Int := if ¬ checkErr p l = 0 then ([], checkErr p l) else if 6 < (madeP p l).length then ([], 6) else (madeP p l, 0)
def applyR (p : List Str) (l : List Mk) : List Str × Int := if ¬ checkErr p l = 0 then ([], checkErr p l) else if 6 < (madeR p l).length then ([], 6) else (madeR p l, 0)
def outErr {α : Type} [El α] (r : List α × Int) : Con OutC := { inv := fun x => r.1.length ≤ x.2, val := fun x => .tuple #[.slice x.1 r.1.length x.2, int r.2], LO := fun x => [Row x.1 (rows r.1)] }
theorem jJ {p : List Str} {l : List Mk} (h : checkErr p l = 0) : p.length ≤ 6 ∧ l.length ≤ 12 ∧ MV p.length l := by
  unfold checkErr at h
  split at h
  · rename_i h1
    refine ⟨?_, xO h⟩; unfold pageErr at h1
    split at h1 <;> omega
  rename_i h1; exact absurd h h1
def costM (l : List Mk) : Nat := (l.filter fun m => decide (¬ m.1 = 3)).length
def costR (p : List Str) (l : List Mk) : Int × Int := if ¬ checkErr p l = 0 then (0, checkErr p l) else (costM l, 0)
theorem Z8 {A B : Option Addr} {ca cb : Nat} (p : List Str) (l : List Mk) (hc : p.length ≤ ca) :
    Meets Tryz.prog F.Z9 [.slice A p.length ca, .slice B l.length cb] { outErr (applyP p l) with LI := [Row A (rows p), Row B (rows l)] } := by
 refine c4 F.tM rfl l5 fun w0 => ?_; refine a9 (a8 rfl (a8 rfl (a7 (b5 (a9 (a5 rfl (a5 rfl ?_))))))); refine d6 F.bM rfl rfl (V2 p l) (.refl _) ⟨m0, m1, trivial⟩ fun _ _ => ?_; refine a8 rfl (k9 (a5 rfl (u9 rfl rfl rfl (a7 ?_))))
 first | refine i8 rfl (fun hb1 => ?_) (fun hb1 => ?_) | refine b9 rfl (fun hb1 => ?_) (fun hb1 => ?_)
 ·have hb1' := hb1; try simp at hb1'
  have e : applyP p l = ([], checkErr p l) := by rw [applyP, if_pos hb1]
  rw [e]; refine a9 (a5 rfl (a8 rfl (a8 rfl (a7 (s6 (mE ?_)))))); exact ret2 (none, 0) rfl rfl rfl rfl rfl (Nat.le_refl _) (.refl _) ⟨m0, trivial⟩
 have hb1' := hb1; try simp at hb1'
 have h0 : checkErr p l = 0 := by omega
 obtain ⟨hp6, hl, hV⟩ := jJ h0; refine c3 (b6 (a9 (a5 rfl (a5 rfl ?_)))); refine d6 F.tC rfl rfl (mY p l hp6 hl hV hc) (.refl _) ⟨m0, m1, trivial⟩ fun x hx => ?_; refine a8 rfl (a7 (b5 (a9 (a5 rfl ?_)))); refine j9 rfl T.u5 rfl ?_; refine v9 rfl rfl rfl (a7 ?_)
 first | refine i8 rfl (fun hb2 => ?_) (fun hb2 => ?_) | refine b9 rfl (fun hb2 => ?_) (fun hb2 => ?_)
 ·have hb2' := hb2; try simp at hb2'
  have e : applyP p l = ([], 6) := by rw [applyP, if_neg hb1, if_pos (by omega)]
  rw [e]; refine a9 (a8 rfl (a8 rfl (a7 (s6 (mE ?_))))); exact ret2 (none, 0) rfl rfl rfl rfl rfl (Nat.le_refl _) (.refl _) ⟨m0, trivial⟩
 have hb2' := hb2; try simp at hb2'
 have e : applyP p l = (madeP p l, 0) := by rw [applyP, if_neg hb1, if_neg (by omega)]
 rw [e]; refine c3 (b6 (a9 (a5 rfl (a8 rfl (a8 rfl (a7 (i6 ?_))))))); exact ret2 x rfl rfl rfl rfl rfl hx (.refl _) ⟨m0, trivial⟩
end Go.Proofs.YtegfgegnhjkcfaaGreatDoor
end
