/- The rules of the walks for single operations. -/
import Derived.Test.YtlpgheniajdkfaaGreatWa
import Derived.Deep.MidRow
import Derived.Laws.Tables
import Derived.Laws.Build
import Derived.Laws.Strings
namespace Go.W
open Go Go.RowKit
set_option linter.unusedVariables false
set_option linter.unusedSimpArgs false

abbrev Str := List UInt8
def str (s : Str) : Value := .string ⟨s.toArray⟩
abbrev int (n : Int) : Value := .int .i64 n
def I64 (n : Int) : Prop := -9223372036854775808 ≤ n ∧ n ≤ 9223372036854775807

section
variable {c : Cx} {Q : Exit → Act → World → Prop} {fr : Fr} {hp : Hp} {L : List Fact} {ops : Array Oper} {rest : List Oper}
variable {d : Tmp} {ty : TypeId} {pos : String} {af : Array Edge}

/-- An operation yields a value, in the world that it found or in another. -/
theorem hl_gen {o : Oper} (ho : o.dst = some d) (hg : o.guard = none) (hd : Nat.blt d c.n = true)
    (h : ∀ a w, Ok c a fr → WI c.b w hp L → ∃ v w' hp' L', (execOp a.eval o).run c.P w = .ok (.value v) w' ∧ WI c.b w' hp' L' ∧ HL c ops Q rest ((d, v) :: fr) hp' L') : HL c ops Q (o :: rest) fr hp L := by
  intro a w ha hw
  obtain ⟨v, w', hp', L', hr, hw', hk⟩ := h a w ha hw
  refine wpL_plain hg fun K hK => ?_
  unfold Oper.wp
  rw [hr, Oper.upon_value, ho]
  exact hK _ _ (hk _ _ (ha.put (by simpa using hd) v) hw')
theorem hl_val {o : Oper} (v : Value) (ho : o.dst = some d) (hg : o.guard = none) (hd : Nat.blt d c.n = true)
    (hr : ∀ a w, Ok c a fr → WI c.b w hp L → (execOp a.eval o).run c.P w = .ok (.value v) w) (k : HL c ops Q rest ((d, v) :: fr) hp L) : HL c ops Q (o :: rest) fr hp L :=
  hl_gen ho hg hd fun a w ha hw => ⟨v, w, hp, L, hr a w ha hw, hw, k⟩
/-- An operation that yields nothing (a store). -/
theorem hl_unit {o : Oper} (ho : o.dst = none) (hg : o.guard = none)
    (h : ∀ a w, Ok c a fr → WI c.b w hp L → ∃ w' hp' L', (execOp a.eval o).run c.P w = .ok .skip w' ∧ WI c.b w' hp' L' ∧ HL c ops Q rest fr hp' L') : HL c ops Q (o :: rest) fr hp L := by
  intro a w ha hw
  obtain ⟨w', hp', L', hr, hw', hk⟩ := h a w ha hw
  refine wpL_plain hg fun K hK => ?_
  unfold Oper.wp
  rw [hr, Oper.upon_skip, ho]
  exact hK _ _ (hk _ _ ha hw')

/-! Guards -/
theorem yielded_eq {a : Act} {j : Nat} {t : Tmp} {b : Bool} (ha : Ok c a fr) (hj : (ops[j]?).bind (·.dst) = some t) (hv : lk fr t = some (.bool b)) : yielded ops a.tmps j = some b := by
  have h1 := ha.at_ t _ hv
  unfold yielded
  rw [hj]
  simp only [Option.bind_some]
  have : a.tmps[t]? = some (.bool b) := by
    cases h2 : a.tmps[t]? with
    | none => simp [Array.getD_eq_getD_getElem?, h2, undef] at h1
    | some u => simp [Array.getD_eq_getD_getElem?, h2] at h1; rw [h1]
  rw [this]
theorem g_no {o : Oper} {j : Nat} {want b : Bool} {t : Tmp} (ho : o.dst = some d) (hg : o.guard = some (j, want)) (hd : Nat.blt d c.n = true) (hj : (ops[j]?).bind (·.dst) = some t) (hv : lk fr t = some (.bool b)) (hb : (b == want) = false)
    (k : HL c ops Q rest ((d, undef) :: fr) hp L) : HL c ops Q (o :: rest) fr hp L := by
  intro a w ha hw
  refine wpL_skip ?_ ?_
  · rw [Region.wanted, hg]
    show (yielded ops a.tmps j == some want) = false
    rw [yielded_eq ha hj hv]
    simpa using hb
  · rw [ho]; exact k _ _ (ha.put (by simpa using hd) _) hw
theorem g_yes {dst : Option Tmp} {op : Op} {j : Nat} {want b : Bool} {t : Tmp} (hj : (ops[j]?).bind (·.dst) = some t) (hv : lk fr t = some (.bool b)) (hb : (b == want) = true)
    (k : HL c ops Q (⟨dst, op, ty, pos, af, none⟩ :: rest) fr hp L) : HL c ops Q (⟨dst, op, ty, pos, af, some (j, want)⟩ :: rest) fr hp L := by
  intro a w ha hw
  have h1 := k a w ha hw
  have hw1 : Region.wanted ⟨dst, op, ty, pos, af, some (j, want)⟩ (yielded ops a.tmps) = true := by
    show (yielded ops a.tmps j == some want) = true
    rw [yielded_eq ha hj hv]
    simpa using hb
  unfold wpL at h1 ⊢
  rw [if_pos hw1]
  rw [if_pos (by simp [Region.wanted])] at h1
  exact h1

/-! Plain values -/
theorem r_move {x : Operand} {v : Value} (hd : Nat.blt d c.n = true) (hx : ev fr x = some v) (k : HL c ops Q rest ((d, v) :: fr) hp L) : HL c ops Q (⟨some d, .move x, ty, pos, af, none⟩ :: rest) fr hp L :=
  hl_val v rfl rfl hd (fun a w ha _ => by show Result.ok (Next.value (a.eval x)) w = _; rw [ha.ev hx]) k
theorem r_assign {x : Operand} {v : Value} (hd : Nat.blt d c.n = true) (hx : ev fr x = some v) (k : HL c ops Q rest ((d, v) :: fr) hp L) : HL c ops Q (⟨some d, .assign x, ty, pos, af, none⟩ :: rest) fr hp L :=
  hl_val v rfl rfl hd (fun a w ha _ => by show Result.ok (Next.value (a.eval x)) w = _; rw [ha.ev hx]) k
theorem r_pick_t {x y z : Operand} {v : Value} (hd : Nat.blt d c.n = true) (hx : ev fr x = some (.bool true)) (hy : ev fr y = some v) (k : HL c ops Q rest ((d, v) :: fr) hp L) : HL c ops Q (⟨some d, .pick x y z, ty, pos, af, none⟩ :: rest) fr hp L :=
  hl_val v rfl rfl hd (fun a w ha _ => by show ((do pure (.value (if ← asBool (a.eval x) then a.eval y else a.eval z)) : Sem Next)).run c.P w = _; rw [ha.ev hx, ha.ev hy]; rfl) k
theorem r_pick_f {x y z : Operand} {v : Value} (hd : Nat.blt d c.n = true) (hx : ev fr x = some (.bool false)) (hz : ev fr z = some v) (k : HL c ops Q rest ((d, v) :: fr) hp L) : HL c ops Q (⟨some d, .pick x y z, ty, pos, af, none⟩ :: rest) fr hp L :=
  hl_val v rfl rfl hd (fun a w ha _ => by show ((do pure (.value (if ← asBool (a.eval x) then a.eval y else a.eval z)) : Sem Next)).run c.P w = _; rw [ha.ev hx, ha.ev hz]; rfl) k
theorem r_not {t : TypeId} {x : Operand} {b : Bool} (hd : Nat.blt d c.n = true) (hx : ev fr x = some (.bool b)) (k : HL c ops Q rest ((d, .bool (!b)) :: fr) hp L) : HL c ops Q (⟨some d, .unOp .not t x, ty, pos, af, none⟩ :: rest) fr hp L :=
  hl_val _ rfl rfl hd (fun a w ha _ => by show ((do pure (.value (← Op.unary .not (a.eval x))) : Sem Next)).run c.P w = _; rw [ha.ev hx]; rfl) k
theorem r_nilCheck {x : Operand} {p : Addr} (hd : Nat.blt d c.n = true) (hx : ev fr x = some (.pointer (some p))) (k : HL c ops Q rest ((d, .pointer (some p)) :: fr) hp L) : HL c ops Q (⟨some d, .nilCheck x, ty, pos, af, none⟩ :: rest) fr hp L :=
  hl_val _ rfl rfl hd (fun a w ha _ => by simp only [execOp]; rw [ha.ev hx]; rfl) k
theorem r_extract {x : Operand} {vs : Array Value} {i : Nat} {v : Value} (hd : Nat.blt d c.n = true) (hx : ev fr x = some (.tuple vs)) (hv : vs[i]? = some v) (k : HL c ops Q rest ((d, v) :: fr) hp L) : HL c ops Q (⟨some d, .extract x i, ty, pos, af, none⟩ :: rest) fr hp L :=
  hl_val _ rfl rfl hd (fun a w ha _ => by simp only [execOp]; rw [ha.ev hx]; simp [Instr.extract, hv]) k
theorem r_makeFunc {fn : Fn} {first cap : Array Operand} {v1 v2 : List Value} (hd : Nat.blt d c.n = true) (h1 : first.toList.mapM (ev fr) = some v1) (h2 : cap.toList.mapM (ev fr) = some v2)
    (k : HL c ops Q rest ((d, .func fn v1.toArray v2.toArray) :: fr) hp L) : HL c ops Q (⟨some d, .makeFunc fn first cap, ty, pos, af, none⟩ :: rest) fr hp L :=
  hl_val _ rfl rfl hd (fun a w ha _ => by
    have key : ∀ (xs : List Operand) (vs : List Value), xs.mapM (ev fr) = some vs → xs.map a.eval = vs := by
      intro xs
      induction xs with
      | nil => intro vs h; simpa using h
      | cons x xs ih =>
        intro vs h
        simp only [List.mapM_cons, Option.bind_eq_bind, Option.bind_eq_some_iff, Option.pure_def, Option.some.injEq] at h
        obtain ⟨v, hv, us, hus, rfl⟩ := h
        rw [List.map_cons, ha.ev hv, ih us hus]
    have e1 : first.map a.eval = v1.toArray := by apply Array.ext'; simpa using key _ _ h1
    have e2 : cap.map a.eval = v2.toArray := by apply Array.ext'; simpa using key _ _ h2
    simp only [execOp, e1, e2]; rfl) k

/-! Numbers -/
theorem run_bin {a : Act} {w : World} {op : BinOp} {t yt : TypeId} {x y : Operand} {u v r : Value} {P : Program} (hx : a.eval x = u) (hy : a.eval y = v) (hg : (eqGuard op t x y u v).run P w = .ok () w) (hr : (binOp op t u v).run P w = .ok r w) :
    (execOp a.eval ⟨some d, .binOp op t x y yt, ty, pos, af, none⟩).run P w = .ok (.value r) w := by
  simp only [execOp, hx, hy, Sem.run_bind, hg, hr, Result.andThen_ok, Sem.run_pure]
theorem r_add {t yt : TypeId} {x y : Operand} {a b : Int} (z : Int) (hd : Nat.blt d c.n = true) (hx : ev fr x = some (int a)) (hy : ev fr y = some (int b)) (hz : a + b = z) (hr : I64 z) (k : HL c ops Q rest ((d, int z) :: fr) hp L) :
    HL c ops Q (⟨some d, .binOp .add t x y yt, ty, pos, af, none⟩ :: rest) fr hp L :=
  hl_val _ rfl rfl hd (fun a' w ha _ => run_bin (ha.ev hx) (ha.ev hy) rfl (by
    show Result.ok (Value.int .i64 (IntKind.i64.wrap (a + b))) w = _
    rw [IntWalk.i64_in _ (hz ▸ hr), hz])) k
theorem r_sub {t yt : TypeId} {x y : Operand} {a b : Int} (z : Int) (hd : Nat.blt d c.n = true) (hx : ev fr x = some (int a)) (hy : ev fr y = some (int b)) (hz : a - b = z) (hr : I64 z) (k : HL c ops Q rest ((d, int z) :: fr) hp L) :
    HL c ops Q (⟨some d, .binOp .sub t x y yt, ty, pos, af, none⟩ :: rest) fr hp L :=
  hl_val _ rfl rfl hd (fun a' w ha _ => run_bin (ha.ev hx) (ha.ev hy) rfl (by
    show Result.ok (Value.int .i64 (IntKind.i64.wrap (a - b))) w = _
    rw [IntWalk.i64_in _ (hz ▸ hr), hz])) k
theorem r_eql {t yt : TypeId} {x y : Operand} {kd : IntKind} {a b : Int} (hd : Nat.blt d c.n = true) (hx : ev fr x = some (.int kd a)) (hy : ev fr y = some (.int kd b)) (k : HL c ops Q rest ((d, .bool (decide (a = b))) :: fr) hp L) :
    HL c ops Q (⟨some d, .binOp .eql t x y yt, ty, pos, af, none⟩ :: rest) fr hp L :=
  hl_val _ rfl rfl hd (fun a' w ha _ => run_bin (u := .int kd a) (v := .int kd b) (ha.ev hx) (ha.ev hy) rfl (by cases kd <;> rfl)) k
theorem r_neq {t yt : TypeId} {x y : Operand} {kd : IntKind} {a b : Int} (hd : Nat.blt d c.n = true) (hx : ev fr x = some (.int kd a)) (hy : ev fr y = some (.int kd b)) (k : HL c ops Q rest ((d, .bool (decide (¬ a = b))) :: fr) hp L) :
    HL c ops Q (⟨some d, .binOp .neq t x y yt, ty, pos, af, none⟩ :: rest) fr hp L :=
  hl_val _ rfl rfl hd (fun a' w ha _ => run_bin (u := .int kd a) (v := .int kd b) (ha.ev hx) (ha.ev hy) rfl (by
    have e : (binOp .neq t (.int kd a) (.int kd b)).run c.P w = .ok (.bool (a != b)) w := by cases kd <;> rfl
    rw [e, show (a != b) = decide (¬ a = b) by by_cases h : a = b <;> simp [h]])) k
theorem r_lss {t yt : TypeId} {x y : Operand} {kd : IntKind} {a b : Int} (hd : Nat.blt d c.n = true) (hx : ev fr x = some (.int kd a)) (hy : ev fr y = some (.int kd b)) (k : HL c ops Q rest ((d, .bool (decide (a < b))) :: fr) hp L) :
    HL c ops Q (⟨some d, .binOp .lss t x y yt, ty, pos, af, none⟩ :: rest) fr hp L :=
  hl_val _ rfl rfl hd (fun a' w ha _ => run_bin (u := .int kd a) (v := .int kd b) (ha.ev hx) (ha.ev hy) rfl (by cases kd <;> rfl)) k
theorem r_leq {t yt : TypeId} {x y : Operand} {kd : IntKind} {a b : Int} (hd : Nat.blt d c.n = true) (hx : ev fr x = some (.int kd a)) (hy : ev fr y = some (.int kd b)) (k : HL c ops Q rest ((d, .bool (decide (a ≤ b))) :: fr) hp L) :
    HL c ops Q (⟨some d, .binOp .leq t x y yt, ty, pos, af, none⟩ :: rest) fr hp L :=
  hl_val _ rfl rfl hd (fun a' w ha _ => run_bin (u := .int kd a) (v := .int kd b) (ha.ev hx) (ha.ev hy) rfl (by cases kd <;> rfl)) k
theorem r_gtr {t yt : TypeId} {x y : Operand} {kd : IntKind} {a b : Int} (hd : Nat.blt d c.n = true) (hx : ev fr x = some (.int kd a)) (hy : ev fr y = some (.int kd b)) (k : HL c ops Q rest ((d, .bool (decide (b < a))) :: fr) hp L) :
    HL c ops Q (⟨some d, .binOp .gtr t x y yt, ty, pos, af, none⟩ :: rest) fr hp L :=
  hl_val _ rfl rfl hd (fun a' w ha _ => run_bin (u := .int kd a) (v := .int kd b) (ha.ev hx) (ha.ev hy) rfl (by cases kd <;> rfl)) k
theorem r_geq {t yt : TypeId} {x y : Operand} {kd : IntKind} {a b : Int} (hd : Nat.blt d c.n = true) (hx : ev fr x = some (.int kd a)) (hy : ev fr y = some (.int kd b)) (k : HL c ops Q rest ((d, .bool (decide (b ≤ a))) :: fr) hp L) :
    HL c ops Q (⟨some d, .binOp .geq t x y yt, ty, pos, af, none⟩ :: rest) fr hp L :=
  hl_val _ rfl rfl hd (fun a' w ha _ => run_bin (u := .int kd a) (v := .int kd b) (ha.ev hx) (ha.ev hy) rfl (by cases kd <;> rfl)) k
theorem r_seql {t yt : TypeId} {x y : Operand} {x' y' : Str} (hd : Nat.blt d c.n = true) (hx : ev fr x = some (str x')) (hy : ev fr y = some (str y')) (k : HL c ops Q rest ((d, .bool (decide (x' = y'))) :: fr) hp L) :
    HL c ops Q (⟨some d, .binOp .eql t x y yt, ty, pos, af, none⟩ :: rest) fr hp L :=
  hl_val _ rfl rfl hd (fun a' w ha _ => run_bin (ha.ev hx) (ha.ev hy) rfl (by
    unfold str
    rw [binOp_string_eql]
    simp only [ByteArray.toList_mk, Sem.run_pure]
    by_cases h : x' = y' <;> simp [h])) k
theorem r_sneq {t yt : TypeId} {x y : Operand} {x' y' : Str} (hd : Nat.blt d c.n = true) (hx : ev fr x = some (str x')) (hy : ev fr y = some (str y')) (k : HL c ops Q rest ((d, .bool (decide (¬ x' = y'))) :: fr) hp L) :
    HL c ops Q (⟨some d, .binOp .neq t x y yt, ty, pos, af, none⟩ :: rest) fr hp L :=
  hl_val _ rfl rfl hd (fun a' w ha _ => run_bin (ha.ev hx) (ha.ev hy) rfl (by
    unfold str
    rw [binOp_string_neq]
    simp only [ByteArray.toList_mk, Sem.run_pure]
    by_cases h : x' = y' <;> simp [h])) k
theorem r_slss {t yt : TypeId} {x y : Operand} {x' y' : Str} (hd : Nat.blt d c.n = true) (hx : ev fr x = some (str x')) (hy : ev fr y = some (str y')) (k : HL c ops Q rest ((d, .bool (Op.bytesLess x' y')) :: fr) hp L) :
    HL c ops Q (⟨some d, .binOp .lss t x y yt, ty, pos, af, none⟩ :: rest) fr hp L :=
  hl_val _ rfl rfl hd (fun a' w ha _ => run_bin (ha.ev hx) (ha.ev hy) rfl (by
    unfold str
    rw [binOp_string_lss]
    simp only [ByteArray.toList_mk, Sem.run_pure])) k
/-- Any other comparison, whose run is known. -/
theorem r_bin {op : BinOp} {t yt : TypeId} {x y : Operand} {u v : Value} (r : Value) (hd : Nat.blt d c.n = true) (hx : ev fr x = some u) (hy : ev fr y = some v) (hg : ∀ w, (eqGuard op t x y u v).run c.P w = .ok () w) (hr : ∀ w, (binOp op t u v).run c.P w = .ok r w)
    (k : HL c ops Q rest ((d, r) :: fr) hp L) : HL c ops Q (⟨some d, .binOp op t x y yt, ty, pos, af, none⟩ :: rest) fr hp L :=
  hl_val _ rfl rfl hd (fun _ w ha _ => run_bin (ha.ev hx) (ha.ev hy) (hg w) (hr w)) k
theorem r_len_sl {t : TypeId} {x : Operand} {A : Option Addr} {n cp : Nat} {e : TypeId} (hd : Nat.blt d c.n = true) (ht : c.P.underlying t = some (.slice e)) (hx : ev fr x = some (.slice A n cp)) (k : HL c ops Q rest ((d, int n) :: fr) hp L) :
    HL c ops Q (⟨some d, .call ⟨.builtin .len, #[x], #[t]⟩, ty, pos, af, none⟩ :: rest) fr hp L :=
  hl_val _ rfl rfl hd (fun a w ha _ => by
    simp [execOp, resolve, invoke, builtin, Builtin.len_, ha.ev hx, run_underlying ht, goInt]) k
theorem r_len_str {t : TypeId} {x : Operand} {s : Str} (hd : Nat.blt d c.n = true) (ht : c.P.underlying t = some .string) (hx : ev fr x = some (str s)) (k : HL c ops Q rest ((d, int s.length) :: fr) hp L) :
    HL c ops Q (⟨some d, .call ⟨.builtin .len, #[x], #[t]⟩, ty, pos, af, none⟩ :: rest) fr hp L :=
  hl_val _ rfl rfl hd (fun a w ha _ => by
    have e1 : (ByteArray.mk s.toArray).size = s.length := rfl
    simp [execOp, resolve, invoke, builtin, Builtin.len_, ha.ev hx, run_underlying ht, goInt, str, e1]) k
end
end Go.W
