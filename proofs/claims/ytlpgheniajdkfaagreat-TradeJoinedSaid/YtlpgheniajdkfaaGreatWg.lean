/- Lists of data as rows of cells; small helps for the walks. -/
import Derived.Test.YtlpgheniajdkfaaGreatWf
namespace Go.W
universe u
open Go Go.RowKit
set_option linter.unusedVariables false
set_option linter.unusedSimpArgs false

/-- Data that lies in so many cells. -/
class El (α : Type) extends Inhabited α where
  cells : α → List Value
  sz : Nat
  len : ∀ a, (cells a).length = sz
  one : ∀ a, ∀ u ∈ cells a, u.oneCell' = true
def rows {α : Type} [El α] (l : List α) : List Value := l.flatMap El.cells

instance : El Str where
  default := []
  cells s := [str s]
  sz := 1
  len _ := rfl
  one a u h := by simp at h; subst h; rfl
instance : El Int where
  default := 0
  cells n := [int n]
  sz := 1
  len _ := rfl
  one a u h := by simp at h; subst h; rfl
instance : El UInt8 where
  default := 0
  cells n := [.int .u8 n.toNat]
  sz := 1
  len _ := rfl
  one a u h := by simp at h; subst h; rfl
/-- A mark: its kind, its line, its text. -/
abbrev Mk := Int × Int × Str
instance : El Mk where
  default := (0, 0, [])
  cells m := [int m.1, int m.2.1, str m.2.2]
  sz := 3
  len _ := rfl
  one a u h := by simp at h; rcases h with h | h | h <;> subst h <;> rfl
/-- A slice with what it holds. -/
structure Sl (α : Type) where
  a : Option Addr
  c : Nat
  l : List α
instance {α : Type} : El (Sl α) where
  default := ⟨none, 0, []⟩
  cells p := [.slice p.a p.l.length p.c]
  sz := 1
  len _ := rfl
  one a u h := by simp at h; subst h; rfl

section
variable {α : Type} [El α]
theorem rows_nil : rows ([] : List α) = [] := rfl
theorem rows_cons (a : α) (l : List α) : rows (a :: l) = El.cells a ++ rows l := rfl
theorem rows_append (l l' : List α) : rows (l ++ l') = rows l ++ rows l' := by simp [rows]
theorem rows_len (l : List α) : (rows l).length = l.length * El.sz α := by
  induction l with
  | nil => simp [rows_nil]
  | cons a l ih => rw [rows_cons, List.length_append, El.len, ih, List.length_cons, Nat.add_mul, Nat.one_mul, Nat.add_comm]
theorem rows_one (l : List α) : ∀ u ∈ rows l, u.oneCell' = true := by
  intro u hu
  obtain ⟨a, _, h⟩ := List.mem_flatMap.1 hu
  exact El.one a u h
theorem rows_drop (l : List α) (k : Nat) : (rows l).drop (k * El.sz α) = rows (l.drop k) := by
  induction l generalizing k with
  | nil => simp [rows_nil]
  | cons a l ih =>
    cases k with
    | zero => simp
    | succ k =>
      rw [rows_cons, List.drop_succ_cons, ← ih, List.drop_append, El.len, List.drop_eq_nil_of_le (by rw [El.len, Nat.succ_mul]; omega), List.nil_append]
      congr 1
      rw [Nat.succ_mul]
      omega
theorem rows_get' (l : List α) (i j : Nat) (hi : i < l.length) (hj : j < El.sz α) : (rows l)[i * El.sz α + j]? = (El.cells (l.getD i default))[j]? := by
  have h := congrArg (·[j]?) (rows_drop l i)
  simp only [List.getElem?_drop] at h
  rw [h, List.drop_eq_getElem_cons hi, rows_cons, List.getElem?_append_left (by rw [El.len]; exact hj)]
  simp [List.getD_eq_getElem?_getD, hi]
theorem rows_get {l : List α} {i j : Nat} {v : Value} (hi : i < l.length) (hv : (El.cells (l.getD i default))[j]? = some v) : (rows l)[i * El.sz α + j]? = some v := by
  have hj : j < El.sz α := by
    have := (List.getElem?_eq_some_iff.1 hv).1
    rwa [El.len] at this
  rw [rows_get' l i j hi hj, hv]
theorem rows_get0 {l : List α} {i : Nat} {v : Value} (hi : i < l.length) (hv : (El.cells (l.getD i default))[0]? = some v) : (rows l)[i * El.sz α]? = some v := rows_get (j := 0) hi hv
theorem rows_all {l : List α} {i : Nat} (hi : i < l.length) : ∀ j u, (El.cells (l.getD i default))[j]? = some u → (rows l)[i * El.sz α + j]? = some u := fun j u h => rows_get hi h
theorem rows_lt {l : List α} {i : Nat} (hi : i < l.length) (h0 : 0 < El.sz α) : i * El.sz α < (rows l).length := by
  rw [rows_len]
  exact Nat.mul_lt_mul_of_pos_right hi h0
theorem rows_take (l : List α) (k : Nat) : (rows l).take (k * El.sz α) = rows (l.take k) := by
  induction l generalizing k with
  | nil => simp [rows_nil]
  | cons a l ih =>
    cases k with
    | zero => simp [rows_nil]
    | succ k =>
      rw [rows_cons, List.take_succ_cons, rows_cons, ← ih, Nat.succ_mul, List.take_append, El.len, List.take_of_length_le (by rw [El.len]; omega)]
      congr 2
      omega
end

theorem r_conv {c : Cx} {Q : Exit → Act → World → Prop} {fr : Fr} {hp : Hp} {L : List Fact} {ops : Array Oper} {rest : List Oper} {d : Tmp} {ty : TypeId} {pos : String} {af : Array Edge}
    {s t : TypeId} {x : Operand} {ks k k' : IntKind} {a : Int} (z : Int) (hd : Nat.blt d c.n = true) (hs : c.P.underlying s = some (.int ks)) (ht : c.P.underlying t = some (.int k')) (hx : ev fr x = some (.int k a)) (hz : k'.wrap a = z)
    (kk : HL c ops Q rest ((d, .int k' z) :: fr) hp L) : HL c ops Q (⟨some d, .convert s t x, ty, pos, af, none⟩ :: rest) fr hp L :=
  hl_val _ rfl rfl hd (fun a' w ha _ => by
    simp only [execOp, ha.ev hx, Sem.run_bind, convert, run_underlying hs, run_underlying ht, Result.andThen_ok]
    rw [← hz]
    cases ks <;> rfl) kk
theorem r_rem {c : Cx} {Q : Exit → Act → World → Prop} {fr : Fr} {hp : Hp} {L : List Fact} {ops : Array Oper} {rest : List Oper} {d : Tmp} {ty : TypeId} {pos : String} {af : Array Edge}
    {t yt : TypeId} {x y : Operand} {kd : IntKind} {a b : Int} (hd : Nat.blt d c.n = true) (hx : ev fr x = some (.int kd a)) (hy : ev fr y = some (.int kd b)) (hb : b ≠ 0)
    (kk : HL c ops Q rest ((d, .int kd (a.tmod b)) :: fr) hp L) : HL c ops Q (⟨some d, .binOp .rem t x y yt, ty, pos, af, none⟩ :: rest) fr hp L :=
  r_bin _ hd hx hy (fun _ => rfl) (fun w => by
    have : (binOp .rem t (.int kd a) (.int kd b)) = Op.intDiv .rem kd a b := by cases kd <;> rfl
    rw [this]
    simp [Op.intDiv, hb]) kk
theorem wrapU (n : Int) : 0 ≤ IntKind.u64.wrap n ∧ IntKind.u64.wrap n < 18446744073709551616 := by
  simp only [IntKind.wrap, IntKind.bits, IntKind.signed]
  simp
  omega
/-- The rule for an element's address, for rows of data. -/
theorem r_elem {α : Type} [El α] {c : Cx} {Q : Exit → Act → World → Prop} {fr : Fr} {hp : Hp} {L : List Fact} {ops : Array Oper} {rest : List Oper} {d : Tmp} {ty : TypeId} {pos : String} {af : Array Edge}
    {t e : TypeId} {x i : Operand} {A : Option Addr} {n cp : Nat} {kd : IntKind} {z : Int} (l : List α) (j : Nat) (hd : Nat.blt d c.n = true) (ht : c.P.underlying t = some (.slice e)) (hz : Sz c.P e (El.sz α))
    (hx : ev fr x = some (.slice A n cp)) (hi : ev fr i = some (.int kd z)) (hjz : z = (j : Int)) (hr : Row A (rows l) ∈ L) (hn : n = l.length) (hj : j < l.length) (h0 : 0 < El.sz α)
    (k : HL c ops Q rest ((d, .pointer (some ((adr A).add (j * El.sz α)))) :: fr) hp L) : HL c ops Q (⟨some d, .indexAddr t x i, ty, pos, af, none⟩ :: rest) fr hp L :=
  r_indexAddr j hd ht hz hx hi hjz (by omega) hr (rows_lt hj h0) k

/-- A list of slices, each with what it holds. -/
def Rows2 {α : Type} [El α] (A : Option Addr) (ps : List (Sl α)) : Fact where
  P w := (Row A (rows ps)).P w ∧ ∀ p ∈ ps, (Row p.a (rows p.l)).P w
  fp k := (Row A (rows ps)).fp k ∨ ∃ p ∈ ps, (Row p.a (rows p.l)).fp k
  st w w' h hP := ⟨(Row A (rows ps)).st w w' (fun k hk => h k (.inl hk)) hP.1, fun p hp => (Row p.a (rows p.l)).st w w' (fun k hk => h k (.inr ⟨p, hp, hk⟩)) (hP.2 p hp)⟩
  lt w hP k hk := by
    rcases hk with hk | ⟨p, hp, hk⟩
    · exact (Row A (rows ps)).lt w hP.1 k hk
    · exact (Row p.a (rows p.l)).lt w (hP.2 p hp) k hk

section
variable {c : Cx} {Q : Exit → Act → World → Prop} {fr : Fr} {hp : Hp} {L : List Fact} {ops : Array Oper} {rest : List Oper}
/-- The outer row of a list of slices, and one of the inner ones. -/
theorem wi_outer {α : Type} [El α] {b : Bx} {w : World} {A : Option Addr} {ps : List (Sl α)} (h : Rows2 A ps ∈ L) (hw : WI b w hp L) : WI b w hp (Row A (rows ps) :: L) :=
  wi_more hw (hw.fs _ h).1 (fun k hk => ⟨_, h, .inl hk⟩)
theorem wi_inner {α : Type} [El α] {b : Bx} {w : World} {A : Option Addr} {ps : List (Sl α)} {p : Sl α} (h : Rows2 A ps ∈ L) (hp' : p ∈ ps) (hw : WI b w hp L) : WI b w hp (Row p.a (rows p.l) :: L) :=
  wi_more hw ((hw.fs _ h).2 p hp') (fun k hk => ⟨_, h, .inr ⟨p, hp', hk⟩⟩)
theorem hl_outer {α : Type} [El α] {A : Option Addr} {ps : List (Sl α)} (h : Rows2 A ps ∈ L) (k : HL c ops Q rest fr hp (Row A (rows ps) :: L)) : HL c ops Q rest fr hp L := fun a w ha hw => k a w ha (wi_outer h hw)
theorem hc_outer {α : Type} [El α] {A : Option Addr} {ps : List (Sl α)} {x : Code} (h : Rows2 A ps ∈ L) (k : HC c x Q fr hp (Row A (rows ps) :: L)) : HC c x Q fr hp L := fun a w ha hw => k a w ha (wi_outer h hw)
theorem hl_inner {α : Type} [El α] {A : Option Addr} {ps : List (Sl α)} {p : Sl α} (h : Rows2 A ps ∈ L) (hp' : p ∈ ps) (k : HL c ops Q rest fr hp (Row p.a (rows p.l) :: L)) : HL c ops Q rest fr hp L := fun a w ha hw => k a w ha (wi_inner h hp' hw)

variable {d : Tmp} {ty : TypeId} {pos : String} {af : Array Edge}
theorem p_t {x y z : Operand} {v : Value} {b : Bool} (hd : Nat.blt d c.n = true) (hx : ev fr x = some (.bool b)) (hb : b = true) (hy : ev fr y = some v) (k : HL c ops Q rest ((d, v) :: fr) hp L) : HL c ops Q (⟨some d, .pick x y z, ty, pos, af, none⟩ :: rest) fr hp L := by
  subst hb; exact r_pick_t hd hx hy k
theorem p_f {x y z : Operand} {v : Value} {b : Bool} (hd : Nat.blt d c.n = true) (hx : ev fr x = some (.bool b)) (hb : b = false) (hz : ev fr z = some v) (k : HL c ops Q rest ((d, v) :: fr) hp L) : HL c ops Q (⟨some d, .pick x y z, ty, pos, af, none⟩ :: rest) fr hp L := by
  subst hb; exact r_pick_f hd hx hz k
theorem c_t {x : Operand} {b : Bool} {thn els : Code} (hx : ev fr x = some (.bool b)) (hb : b = true) (ht : HC c thn Q fr hp L) : HC c (.cond x thn els) Q fr hp L := by subst hb; exact hc_cond_t hx ht
theorem c_f {x : Operand} {b : Bool} {thn els : Code} (hx : ev fr x = some (.bool b)) (hb : b = false) (hf : HC c els Q fr hp L) : HC c (.cond x thn els) Q fr hp L := by subst hb; exact hc_cond_f hx hf
theorem bt1 {b : Bool} (h : (b == true) = true) : b = true := by cases b <;> simp_all
theorem bt2 {b : Bool} (h : (b == false) = false) : b = true := by cases b <;> simp_all
theorem bf1 {b : Bool} (h : (b == false) = true) : b = false := by cases b <;> simp_all
theorem bf2 {b : Bool} (h : (b == true) = false) : b = false := by cases b <;> simp_all
theorem gy {b : Bool} (h : (b == true) = false) : (b == false) = true := by cases b <;> simp_all
/-- A guard on what was left out: left out. -/
theorem g_und {o : Oper} {j : Nat} {want : Bool} {t : Tmp} {v : Value} (ho : o.dst = some d) (hg : o.guard = some (j, want)) (hd : Nat.blt d c.n = true) (hj : (ops[j]?).bind (·.dst) = some t) (hv : lk fr t = some v) (hu : v = undef)
    (k : HL c ops Q rest ((d, undef) :: fr) hp L) : HL c ops Q (o :: rest) fr hp L := by
  subst hu
  intro a w ha hw
  refine wpL_skip ?_ ?_
  · rw [Region.wanted, hg]
    show (yielded ops a.tmps j == some want) = false
    have h1 := ha.at_ t _ hv
    have : yielded ops a.tmps j = none := by
      unfold yielded
      rw [hj]
      simp only [Option.bind_some]
      cases h2 : a.tmps[t]? with
      | none => rfl
      | some u => simp [Array.getD_eq_getD_getElem?, h2, undef] at h1; rw [h1]
    rw [this]; rfl
  · rw [ho]; exact k _ _ (ha.put (by simpa using hd) _) hw
/-- A guard that is not decided: both ways. -/
theorem g_split {dst : Option Tmp} {op : Op} {j : Nat} {want b : Bool} {t : Tmp} (hj : (ops[j]?).bind (·.dst) = some t) (hv : lk fr t = some (.bool b))
    (hy : (b == want) = true → HL c ops Q (⟨dst, op, ty, pos, af, some (j, want)⟩ :: rest) fr hp L) (hn : (b == want) = false → HL c ops Q (⟨dst, op, ty, pos, af, some (j, want)⟩ :: rest) fr hp L) :
    HL c ops Q (⟨dst, op, ty, pos, af, some (j, want)⟩ :: rest) fr hp L := by
  cases hb : (b == want)
  · exact hn hb
  · exact hy hb
theorem hb_split {O0 : Hp} {K : Env → Prop} {r : List Oper} {E : Env} {want b : Bool} {t : Tmp} (hv : lkE E t = some (.ex (.bool b))) (hy : (b == want) = true → HB c ops fr O0 hp L K r E) (hn : (b == want) = false → HB c ops fr O0 hp L K r E) : HB c ops fr O0 hp L K r E := by
  cases hb : (b == want)
  · exact hn hb
  · exact hy hb
/-- A test on a proposition. -/
theorem c_dec {x : Operand} {p : Prop} [Decidable p] {thn els : Code} (hx : ev fr x = some (.bool (decide p))) (ht : p → HC c thn Q fr hp L) (hf : ¬ p → HC c els Q fr hp L) : HC c (.cond x thn els) Q fr hp L :=
  hc_cond hx (fun h => ht (of_decide_eq_true h)) (fun h => hf (of_decide_eq_false h))
end
theorem m0 {α : Type u} {a  : α} {l : List α} : a ∈ a :: l := .head _
theorem m1 {α : Type u} {a x0 : α} {l : List α} : a ∈ x0 :: a :: l := .tail _ (.head _)
theorem m2 {α : Type u} {a x0 x1 : α} {l : List α} : a ∈ x0 :: x1 :: a :: l := .tail _ (.tail _ (.head _))
theorem m3 {α : Type u} {a x0 x1 x2 : α} {l : List α} : a ∈ x0 :: x1 :: x2 :: a :: l := .tail _ (.tail _ (.tail _ (.head _)))
theorem perm3 {α : Type} (a b c : α) (l : List α) : (a :: b :: c :: l).Perm (c :: a :: b :: l) := by
  have h1 : (a :: b :: c :: l).Perm (a :: c :: b :: l) := (List.Perm.swap c b l).cons a
  exact h1.trans (.swap c a _)
theorem perm2 {α : Type} (a b : α) (l : List α) : (a :: b :: l).Perm (b :: a :: l) := .swap b a l
theorem perm4 {α : Type} (a b c d : α) (l : List α) : (a :: b :: c :: d :: l).Perm (d :: a :: b :: c :: l) := ((perm3 b c d l).cons a).trans (.swap d a _)
end Go.W
