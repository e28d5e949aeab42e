/- Walks of Steps: the program's (all orders tried, as a range over a function) and the document's. -/
import Derived.Test.YtpbbgbjidhffoaaPk
namespace Go.Proofs.Ytpbbgbjidhffoaa
open Go Go.W
set_option linter.unusedVariables false
set_option linter.unusedSimpArgs false
set_option maxRecDepth 20000
attribute [local irreducible] HL HC HQ HB Row Rows2 Blk Facts

theorem find_succ {α : Type} {f : Nat → Option α} {k : Nat} (h : (List.range k).findSome? f = none) (h1 : f k = none) : (List.range (k + 1)).findSome? f = none := by
  rw [List.range_succ, List.findSome?_append, h]; simp [h1]
theorem find_at {α : Type} {f : Nat → Option α} {k n : Nat} {x : α} (hk : k < n) (h : (List.range k).findSome? f = none) (h1 : f k = some x) : (List.range n).findSome? f = some x := by
  have e : List.range n = List.range (k + 1) ++ (List.range (n - (k + 1))).map (fun i => (k + 1) + i) := by
    have := List.range_add (n := k + 1) (m := n - (k + 1))
    rw [← this]
    congr 1
    omega
  rw [e, List.range_succ, List.findSome?_append, List.findSome?_append, h]
  simp [h1]
/-- The first order from a beginning on that is as wanted; d numbers are still wanted. -/
def growF (n : Nat) (p : List Int → Bool) : Nat → List Int → Option (List Int)
  | 0, l => if p l = true then some l else none
  | d + 1, l => (List.range n).findSome? fun i : Nat => if (i : Int) ∈ l then none else growF n p d (l ++ [(i : Int)])
def InR (n : Nat) (l : List Int) : Prop := ∀ i ∈ l, 0 ≤ i ∧ i < (n : Int)
theorem InR.snoc {n : Nat} {l : List Int} {i : Nat} (h : InR n l) (hi : i < n) : InR n (l ++ [(i : Int)]) := by
  intro x hx
  rcases List.mem_append.1 hx with hx | hx
  · exact h x hx
  · simp at hx; omega
abbrev GrowI (o : OutC) (l : List Int) (og : Hp) : Prop := Grow T.int 1 o.1 l.length o.2 (rows l) og
theorem row_cap {α : Type} [El α] {A : Option Addr} {l l' : List α} (h : l = l') : Row A (rows l) = Row A (rows l') := by rw [h]


theorem slices_Clone_ints_meets {A : Option Addr} {c : Nat} (l : List Int) (hl : l.length ≤ 1000000) : Meets Try.prog F.slices_Clone_ints [.slice A l.length c] { LI := [Row A (rows l)], inv := fun x : OutC × Hp => GrowI x.1 l x.2, val := fun x => .slice x.1.1 l.length x.1.2, hpO := fun x => x.2 } := by
 refine meets_intro F.slices_Clone_ints_f rfl (Nat.le_of_ble_eq_true rfl) fun w0 => ?_
 refine hc_seq ?_
 refine hc_region ?_
 refine r_assign rfl rfl ?_
 refine hl_nil ?_
 refine then_n ?_
 refine hc_seq ?_
 refine hc_seq ?_
 refine hc_region ?_
 refine r_move rfl rfl ?_
 refine r_eqlnil rfl T.u_ints rfl rfl ?_
 refine hl_nil ?_
 refine then_n ?_
 refine hc_cond rfl (fun hb1 => ?_) (fun hb1 => ?_)
 ·have hb1' := hb1; try simp at hb1'
  have hA : A = none := by cases A with | none => rfl | some a => cases hb1
  subst hA
  refine hc_pure (φ := l = []) (fun w hw => row_none (by decide) (hw.fs (Row none (rows l)) m0)) fun hl0 => ?_
  subst hl0
  refine hc_seq ?_
  refine hc_region ?_
  refine r_assign rfl rfl ?_
  refine hl_nil ?_
  refine then_n ?_
  refine hc_ret ?_
  refine then_ret ?_
  exact ret1 ((none, 0), []) rfl rfl rfl (Grow.nil _ _) (.refl _) trivial
 ·have hb1' := hb1; try simp at hb1'
  refine hc_skip ?_
  refine then_n ?_
  refine hc_seq ?_
  refine hc_region ?_
  refine r_buildSlice _ rfl rfl (fun _ => T.bs_ints_0 ..) fun gS => ?_
  refine r_move rfl rfl ?_
  refine r_append l.length (rows l) T.el_ints rfl rfl rfl (Grow.new (cs := #[]) (n := 0) rfl (Nat.zero_le _)) (.refl _) (Src.row m0 (rows_len l) (rows_one l) (by decide)) (by omega) rfl (by unfold maxLen; omega) (by omega) fun A' c' og' hG => ?_
  refine r_assign rfl rfl ?_
  refine hl_nil ?_
  refine then_n ?_
  refine hc_ret ?_
  exact ret1 ((A', c'), og') rfl rfl rfl hG (List.sublist_append_left _ _) trivial

section
variable (lb : Nat) (rc : Option Code → Loop) (R0 : Hp) (R1 : List Int → OutC → Hp) (LI0 : List Fact) (p : List Int → Bool)
/-- What a call of yield does: it stops at the first order that is as wanted. -/
def yCon (o : List Int) (A : Option Addr) (c : Nat) : Con Unit :=
  { hpI := (lb, .loop (rc none)) :: R0, LI := Row A (rows o) :: LI0, val := fun _ => .bool (!(p o)), hpO := fun _ => if p o = true then (lb, .loop (rc (some .ret))) :: R1 o (A, c) else (lb, .loop (rc none)) :: R0 }
abbrev OrdO := Option (List Int × OutC)
def ordR (x : OrdO) : Hp := match x with | none => R0 | some y => R1 y.1 y.2
def ordL (x : OrdO) : List Fact := match x with | none => [] | some y => [Row y.2.1 (rows y.1)]
def ordJ (x : OrdO) : Option Code := match x with | none => none | some _ => some .ret
def ordCon (LI : List Fact) (q : Option (List Int)) (val : OrdO → Value) : Con OrdO :=
  { hpI := (lb, .loop (rc none)) :: R0, LI := LI ++ LI0, inv := fun x => q = x.map (·.1), val := val, hpO := fun x => (lb, .loop (rc (ordJ x))) :: ordR R0 R1 x, LO := ordL }
end
def boxN (g : Nat) (n : Int) : Fact := Blk g (.cells #[int n] T.int (0, 0))
def boxF (g : Nat) (v : Value) : Fact := Blk g (.cells #[v] T.func_L_int_bool (0, 0))
def ptr (g : Nat) : Value := .pointer (some ⟨g, 0, none⟩)
def growV (gn gy gg : Nat) : Value := .func (.func F.proof_orders_1_1) #[] [ptr gn, ptr gy, ptr gg].toArray

theorem proof_orders_1_1_meets {lb : Nat} {rc : Option Code → Loop} {R0 : Hp} {R1 : List Int → OutC → Hp} {LI0 : List Fact} {p : List Int → Bool} {n : Nat} {gn gy gg : Nat} (hn : n ≤ 1000) (hY : ∀ (o : List Int) (A : Option Addr) (c : Nat), o.length = n → InR n o → MeetsY Try.prog lb [.slice A o.length c] (yCon lb rc R0 R1 LI0 p o A c)) :
    ∀ (d : Nat) (l : List Int) (A : Option Addr) (c : Nat), l.length + d = n → InR n l → Meets Try.prog F.proof_orders_1_1 [.slice A l.length c, ptr gn, ptr gy, ptr gg] (ordCon lb rc R0 R1 LI0 [Row A (rows l), boxN gn n, boxF gy (yieldV lb), boxF gg (growV gn gy gg)] (growF n p d l) (fun x => .bool x.isNone)) := by
 intro d
 induction d using Nat.strongRecOn
 rename_i d ih
 intro l A c hd hR
 refine meets_intro F.proof_orders_1_1_f rfl (Nat.le_of_ble_eq_true rfl) fun w0 => ?_
 refine hc_seq ?_
 refine hc_region ?_
 refine r_assign rfl rfl ?_
 refine hl_nil ?_
 refine then_n ?_
 refine hc_seq ?_
 refine hc_seq ?_
 refine hc_region ?_
 refine r_move rfl rfl ?_
 refine r_len_sl rfl T.u_ints rfl ?_
 first | refine r_load rfl T.cell_int rfl (cell_own (by repeat constructor) rfl) ?_ | refine r_load rfl T.cell_int rfl (cell_blk (by repeat constructor) rfl) ?_ | refine r_load rfl T.cell_int rfl (cell_row (by repeat constructor) (rows_get0 (by omega) rfl)) ?_ | refine r_load rfl T.cell_int rfl (cell_row_f (by repeat constructor) (rows_get (by omega) rfl)) ?_
 refine r_eql rfl rfl rfl ?_
 refine hl_nil ?_
 refine then_n ?_
 first | refine c_dec rfl (fun hb1 => ?_) (fun hb1 => ?_) | refine hc_cond rfl (fun hb1 => ?_) (fun hb1 => ?_)
 ·have hb1' := hb1; try simp at hb1'
  have h0 : d = 0 := by omega
  subst h0
  have hlen : l.length = n := by omega
  refine hc_seq ?_
  refine hc_region ?_
  first | refine r_load rfl T.cell_func_L_int_bool rfl (cell_own (by repeat constructor) rfl) ?_ | refine r_load rfl T.cell_func_L_int_bool rfl (cell_blk (by repeat constructor) rfl) ?_ | refine r_load rfl T.cell_func_L_int_bool rfl (cell_row (by repeat constructor) (rows_get0 (by omega) rfl)) ?_ | refine r_load rfl T.cell_func_L_int_bool rfl (cell_row_f (by repeat constructor) (rows_get (by omega) rfl)) ?_
  refine r_move rfl rfl ?_
  refine hl_yield (k := yCon lb rc R0 R1 LI0 p l A c) rfl rfl rfl (hY l A c hlen hR) (hpR := []) (by rw [List.append_nil]; exact .refl _) ⟨m0, (LSub.of_mem fun F hF => by repeat (first | exact hF | apply List.Mem.tail))⟩ fun _ _ => ?_
  refine r_assign rfl rfl ?_
  refine hl_nil ?_
  refine then_n ?_
  refine hc_ret ?_
  refine then_ret ?_
  by_cases hp : p l = true
  · exact ret1 (some (l, (A, c))) rfl (by show some (Value.bool (!(p l))) = some (Value.bool false); rw [hp]; rfl) rfl (by show growF n p 0 l = some l; rw [growF, if_pos hp]) (by show List.Sublist _ ((if p l = true then _ else _) ++ []); rw [if_pos hp, List.append_nil]; exact .refl _) ⟨m0, trivial⟩
  · exact ret1 none rfl (by show some (Value.bool (!(p l))) = some (Value.bool true); rw [Bool.eq_false_iff.2 hp]; rfl) rfl (by show growF n p 0 l = none; rw [growF, if_neg hp]) (by show List.Sublist _ ((if p l = true then _ else _) ++ []); rw [if_neg hp, List.append_nil]; exact .refl _) trivial
 ·have hb1' := hb1; try simp at hb1'
  obtain ⟨d0, rfl⟩ : ∃ d0, d = d0 + 1 := ⟨d - 1, by omega⟩
  refine hc_skip ?_
  refine then_n ?_
  refine hc_seq ?_
  refine hc_seq ?_
  refine hc_region ?_
  first | refine r_load rfl T.cell_int rfl (cell_own (by repeat constructor) rfl) ?_ | refine r_load rfl T.cell_int rfl (cell_blk (by repeat constructor) rfl) ?_ | refine r_load rfl T.cell_int rfl (cell_row (by repeat constructor) (rows_get0 (by omega) rfl)) ?_ | refine r_load rfl T.cell_int rfl (cell_row_f (by repeat constructor) (rows_get (by omega) rfl)) ?_
  refine r_move rfl rfl ?_
  refine hl_nil ?_
  refine then_n ?_
  refine hc_block ?_
  refine hc_loop (β := Nat) ⟨fun k => k ≤ n ∧ (List.range k).findSome? (fun i : Nat => if (i : Int) ∈ l then none else growF n p d0 (l ++ [(i : Int)])) = none, fun k => [(0, .slice A l.length c), (1, ptr gn), (2, ptr gy), (3, ptr gg), (14, int n), (15, int k)], fun _ => (lb, .loop (rc none)) :: R0, fun _ => [Row A (rows l), boxN gn n, boxF gy (yieldV lb), boxF gg (growV gn gy gg)] ++ LI0⟩ (fun k => n - k) 0 ⟨Nat.zero_le _, rfl⟩ ⟨rfl, rfl, rfl, rfl, rfl, rfl, trivial⟩ (.refl _) ⟨m0, m1, m2, m3, (LSub.of_mem fun F hF => by repeat (first | exact hF | apply List.Mem.tail))⟩ fun k hk => ?_
  obtain ⟨hk, ht⟩ := hk
  refine hc_seq ?_
  refine hc_region ?_
  refine r_lss rfl rfl rfl ?_
  refine hl_nil ?_
  refine then_n ?_
  refine hc_seq ?_
  first | refine c_dec rfl (fun hb2 => ?_) (fun hb2 => ?_) | refine hc_cond rfl (fun hb2 => ?_) (fun hb2 => ?_)
  ·have hb2' := hb2; try simp at hb2'
   have hk2 : k < n := by omega
   refine hc_skip ?_
   refine then_n ?_
   refine hc_seq ?_
   refine hc_block ?_
   refine hc_seq ?_
   refine hc_region ?_
   refine r_move rfl rfl ?_
   refine r_assign rfl rfl ?_
   refine hl_nil ?_
   refine then_n ?_
   refine hc_seq ?_
   refine hc_drawW ([]) (_) (.refl _) 11 [10, 7] mixed (by decide) (by decide) (by decide) rfl rfl rfl ?_
   apply hb_ex _ rfl rfl rfl
   ·intro w1
    refine r_move rfl rfl ?_
    refine hl_nil ?_
    exact qe_done rfl
   apply hb_ex _ rfl rfl rfl
   ·intro w1
    refine r_move rfl rfl ?_
    refine hl_nil ?_
    exact qe_done rfl
   apply hb_ex _ rfl rfl rfl
   ·intro w1
    refine hl_call F.slices_Contains_ints_cb rfl rfl (slices_Contains_ints_meets l (k : Int) (by omega)) (.refl _) ⟨.tail _ (List.mem_append_right _ m0), trivial⟩ fun _ _ => ?_
    refine hl_nil ?_
    exact qe_done rfl
   apply hb_ex _ rfl rfl rfl
   ·intro w1
    refine r_not rfl rfl ?_
    refine hl_nil ?_
    exact qe_done rfl
   apply hb_ex _ rfl rfl rfl
   ·intro w1
    refine r_move rfl rfl ?_
    refine hl_nil ?_
    exact qe_done rfl
   refine hb_split (t := 22) (want := true) rfl ?_ ?_
   ·intro hg1; have hg1' := hg1; try simp at hg1'
    have hni : ¬ (k : Int) ∈ l := by simpa using hg1
    apply hb_ex _ rfl rfl rfl
    ·intro w1
     refine g_yes rfl rfl hg1 ?_
     refine r_load rfl T.cell_func_L_int_bool rfl (cell_blk (.tail _ (List.mem_append_right _ m3)) rfl) ?_
     refine hl_nil ?_
     exact qe_done rfl
    apply hb_ex _ rfl rfl rfl
    ·intro w1
     refine g_yes rfl rfl hg1 ?_
     refine r_move rfl rfl ?_
     refine hl_nil ?_
     exact qe_done rfl
    refine hb_wr ⟨OutC × Hp, fun x => GrowI x.1 l x.2, fun x => .slice x.1.1 l.length x.1.2, fun _ => [], fun x => x.2⟩ rfl rfl rfl ?_ ?_
    ·intro w1
     refine g_yes rfl rfl hg1 ?_
     refine hl_call F.slices_Clone_ints_cb rfl rfl (slices_Clone_ints_meets l (by omega)) (.refl _) ⟨m0, trivial⟩ fun x hx => ?_
     refine hl_nil ?_
     exact qw_done x hx (fun _ => rfl) (by rw [List.append_nil]; exact .refl _) trivial
    apply hb_ex _ rfl rfl rfl
    ·intro w1
     refine g_yes rfl rfl hg1 ?_
     refine r_move rfl rfl ?_
     refine hl_nil ?_
     exact qe_done rfl
    refine hb_vs ⟨Nat, fun _ => True, fun g1 => .slice (some ⟨g1, 0, none⟩) 1 1, fun g1 => [Row (some ⟨g1, 0, none⟩) (rows [(k : Int)])]⟩ rfl rfl rfl ?_ ?_
    ·intro w1
     refine g_yes rfl rfl hg1 ?_
     refine r_buildSlice _ rfl rfl (fun _ => T.bs_ints_1 ..) fun gS => ?_
     refine hl_nil ?_
     refine hq_letgo (rows [(k : Int)]) (List.prefix_refl _) ?_
     exact qv_done gS trivial rfl ⟨m0, trivial⟩
    refine hb_wr ⟨OutC × Hp, fun x => Grow T.int 1 x.1.1 (l.length + 1) x.1.2 (rows (l ++ [(k : Int)])) x.2, fun x => .slice x.1.1 (l.length + 1) x.1.2, fun _ => [], fun x => x.2⟩ rfl rfl rfl ?_ ?_
    ·intro x7 hx7 g9 _; intro w1
     refine g_yes rfl rfl hg1 ?_
     refine r_append (l.length + 1) (rows (l ++ [(k : Int)])) T.el_ints rfl rfl rfl hx7 (hp' := []) (by rw [List.append_nil]) (Src.row (news := rows [(k : Int)]) (m := 1) m0 rfl (rows_one _) (by decide)) rfl (rows_append l [(k : Int)]).symm (by unfold maxLen; omega) (by omega) fun A' c' og' hG' => ?_
     refine hl_nil ?_
     exact qw_done ((A', c'), og') hG' (fun _ => rfl) (by rw [List.append_nil]; exact .refl _) trivial
    refine hb_nil ⟨rfl, ?_⟩
    intro x7 hx7 g9 _ x10 hx10
    refine g_yes rfl rfl hg1 ?_
    have ihk := ih d0 (by omega) (l ++ [(k : Int)]) x10.1.1 x10.1.2 (by rw [len_snoc]; omega) (hR.snoc hk2)
    rw [len_snoc] at ihk
    refine hl_grown hx10 ?_
    refine hl_callv (vs := [.slice x10.1.1 (l.length + 1) x10.1.2]) (cap := [ptr gn, ptr gy, ptr gg]) F.proof_orders_1_1_cb rfl rfl rfl ihk (hpR := []) (by rw [List.append_nil]; exact .refl _) ⟨m0, m3, m4, m5, (LSub.of_mem fun F hF => by repeat (first | exact hF | apply List.Mem.tail))⟩ fun y hy => ?_
    have hy : growF n p d0 (l ++ [(k : Int)]) = y.map (·.1) := hy
    refine g_yes rfl rfl hg1 ?_
    refine r_not rfl rfl ?_
    refine p_t rfl rfl (bt1 hg1) rfl ?_
    refine hl_nil ?_
    refine then_n ?_
    first | refine c_dec rfl (fun hb3 => ?_) (fun hb3 => ?_) | refine hc_cond rfl (fun hb3 => ?_) (fun hb3 => ?_)
    ·have hb3' := hb3; try simp at hb3'
     obtain ⟨z, rfl⟩ : ∃ z, y = some z := by cases y with | none => cases hb3 | some z => exact ⟨z, rfl⟩
     refine hc_seq ?_
     refine hc_region ?_
     refine r_assign rfl rfl ?_
     refine hl_nil ?_
     refine then_n ?_
     refine hc_ret ?_
     refine inb_ret ?_
     refine then_ret ?_
     refine then_ret ?_
     refine inb_ret ?_
     refine then_ret ?_
     exact ret1 (some z) rfl rfl rfl (find_at hk2 ht (by rw [if_neg hni, hy]; rfl)) (by rw [List.append_nil]; exact .refl _) ⟨m0, trivial⟩
    ·have hb3' := hb3; try simp at hb3'
     have hyn : y = none := by cases y with | none => rfl | some z => cases hb3
     subst hyn
     refine hc_skip ?_
     refine inb_n ?_
     refine then_n ?_
     refine hc_region ?_
     refine r_add _ rfl rfl rfl rfl (by unfold I64; omega) ?_
     refine r_move rfl rfl ?_
     refine hl_nil ?_
     exact again _ (k + 1) ⟨by omega, find_succ ht (by rw [if_neg hni, hy]; rfl)⟩ (by show n - (k + 1) < n - k; omega) ⟨rfl, rfl, rfl, rfl, rfl, rfl, trivial⟩ (by rw [List.append_nil]; exact .refl _) ⟨(by repeat constructor), (by repeat constructor), (by repeat constructor), (by repeat constructor), (LSub.of_mem fun F hF => by repeat (first | exact hF | apply List.Mem.tail))⟩
   ·intro hg1; have hg1' := hg1; try simp at hg1'
    have hin : (k : Int) ∈ l := by simpa using hg1
    apply hb_ex _ rfl rfl rfl
    ·intro w1
     refine g_no rfl rfl rfl rfl rfl hg1 ?_
     refine hl_nil ?_
     exact qe_done rfl
    apply hb_ex _ rfl rfl rfl
    ·intro w1
     refine g_no rfl rfl rfl rfl rfl hg1 ?_
     refine hl_nil ?_
     exact qe_done rfl
    refine hb_wr ⟨Unit, fun _ => True, fun _ => undef, fun _ => [], fun _ => []⟩ rfl rfl rfl ?_ ?_
    ·intro w1
     refine g_no rfl rfl rfl rfl rfl hg1 ?_
     refine hl_nil ?_
     exact qw_done () trivial (fun _ => rfl) (.refl _) trivial
    apply hb_ex _ rfl rfl rfl
    ·intro w1
     refine g_no rfl rfl rfl rfl rfl hg1 ?_
     refine hl_nil ?_
     exact qe_done rfl
    apply hb_ex _ rfl rfl rfl
    ·intro w1
     refine g_no rfl rfl rfl rfl rfl hg1 ?_
     refine hl_nil ?_
     exact qe_done rfl
    refine hb_wr ⟨Unit, fun _ => True, fun _ => undef, fun _ => [], fun _ => []⟩ rfl rfl rfl ?_ ?_
    ·intro _ _; intro w1
     refine g_no rfl rfl rfl rfl rfl hg1 ?_
     refine hl_nil ?_
     exact qw_done () trivial (fun _ => rfl) (.refl _) trivial
    refine hb_nil ⟨rfl, ?_⟩
    intro _ _ _ _
    refine g_no rfl rfl rfl rfl rfl hg1 ?_
    refine g_no rfl rfl rfl rfl rfl hg1 ?_
    refine p_f rfl rfl (bf2 hg1) rfl ?_
    refine hl_nil ?_
    refine then_n ?_
    refine c_f rfl rfl ?_
    refine hc_skip ?_
    refine inb_n ?_
    refine then_n ?_
    refine hc_region ?_
    refine r_add _ rfl rfl rfl rfl (by unfold I64; omega) ?_
    refine r_move rfl rfl ?_
    refine hl_nil ?_
    exact again _ (k + 1) ⟨by omega, find_succ ht (by rw [if_pos hin])⟩ (by show n - (k + 1) < n - k; omega) ⟨rfl, rfl, rfl, rfl, rfl, rfl, trivial⟩ (.refl _) ⟨(by repeat constructor), (by repeat constructor), (by repeat constructor), (by repeat constructor), (LSub.of_mem fun F hF => by repeat (first | exact hF | apply List.Mem.tail))⟩
  ·have hb2' := hb2; try simp at hb2'
   have hk2 : k = n := by omega
   subst hk2
   refine hc_exit ?_
   refine then_exit ?_
   refine then_exit ?_
   refine inb_hit ?_
   refine then_n ?_
   refine hc_seq ?_
   refine hc_region ?_
   refine r_assign rfl rfl ?_
   refine hl_nil ?_
   refine then_n ?_
   refine hc_ret ?_
   exact ret1 none rfl rfl rfl ht (.refl _) trivial

theorem proof_orders_1_meets {lb : Nat} {rc : Option Code → Loop} {R0 : Hp} {R1 : List Int → OutC → Hp} {LI0 : List Fact} {p : List Int → Bool} {n : Nat} {gn : Nat} (hn : n ≤ 1000) (hY : ∀ (o : List Int) (A : Option Addr) (c : Nat), o.length = n → InR n o → MeetsY Try.prog lb [.slice A o.length c] (yCon lb rc R0 R1 LI0 p o A c)) : Meets Try.prog F.proof_orders_1 [yieldV lb, ptr gn] (ordCon lb rc R0 R1 LI0 [boxN gn n] (growF n p n []) (fun _ => .tuple #[])) := by
 refine meets_intro F.proof_orders_1_f rfl (Nat.le_of_ble_eq_true rfl) fun w0 => ?_
 refine hc_seq ?_
 refine hc_region ?_
 refine r_box rfl rfl fun gy => ?_
 refine hl_nil ?_
 refine then_n ?_
 refine hc_seq ?_
 refine hc_region ?_
 refine r_alloc rfl (fun _ => T.al_func_L_int_bool _) fun gg => ?_
 refine hl_nil ?_
 refine then_n ?_
 refine hc_seq ?_
 refine hc_region ?_
 refine r_makeFunc rfl rfl rfl ?_
 refine r_store rfl rfl (.refl _) T.sz_func_L_int_bool (by rfl) (by rfl) ?_
 refine hl_nil ?_
 refine then_n ?_
 refine hc_letgoB ?_
 refine hc_letgoB ?_
 refine hc_region ?_
 first | refine r_load rfl T.cell_func_L_int_bool rfl (cell_own (by repeat constructor) rfl) ?_ | refine r_load rfl T.cell_func_L_int_bool rfl (cell_blk (by repeat constructor) rfl) ?_ | refine r_load rfl T.cell_func_L_int_bool rfl (cell_row (by repeat constructor) (rows_get0 (by omega) rfl)) ?_ | refine r_load rfl T.cell_func_L_int_bool rfl (cell_row_f (by repeat constructor) (rows_get (by omega) rfl)) ?_
 refine hl_nilrow (α := Int) ?_
 refine hl_callv (vs := [.slice none 0 0]) (cap := [ptr gn, ptr gy, ptr gg]) F.proof_orders_1_1_cb rfl rfl rfl (proof_orders_1_1_meets hn hY n [] none 0 (by simp) (by intro x hx; simp at hx)) (hpR := []) (by rw [List.append_nil]; exact .refl _) ⟨m0, m3, m1, m2, (LSub.of_mem fun F hF => by repeat (first | exact hF | apply List.Mem.tail))⟩ fun y hy => ?_
 refine hl_nil ?_
 exact ret0n y rfl rfl rfl hy (by rw [List.append_nil]; exact .refl _) (LSub.of_mem fun F hF => List.mem_append_left _ hF)

theorem proof_orders_meets (n : Int) : Meets Try.prog F.proof_orders [int n] { val := fun g : Nat => .func (.func F.proof_orders_1) #[] [ptr g].toArray, LO := fun g => [boxN g n] } := by
 refine meets_intro F.proof_orders_f rfl (Nat.le_of_ble_eq_true rfl) fun w0 => ?_
 refine hc_seq ?_
 refine hc_region ?_
 refine r_box rfl rfl fun gn => ?_
 refine r_assign rfl rfl ?_
 refine hl_nil ?_
 refine then_n ?_
 refine hc_seq ?_
 refine hc_region ?_
 refine r_makeFunc rfl rfl rfl ?_
 refine r_assign rfl rfl ?_
 refine hl_nil ?_
 refine then_n ?_
 refine hc_ret ?_
 refine hq_letgoB ?_
 exact ret1 gn rfl rfl rfl trivial (.refl _) ⟨m0, trivial⟩

/-- An order by which a page of n lines is never too long. -/
def orderOK (l : List Mk) (most : Int) : Int → List Int → Bool
  | _, [] => true
  | n, i :: r => if most < n + growsM (l.getD i.toNat default) then false else orderOK l most (n + growsM (l.getD i.toNat default)) r
def stepsP (p : List Str) (l : List Mk) (most : Int) : List Int × Int :=
  if ¬ checkErr p l = 0 then ([], checkErr p l) else if 5 < l.length then ([], 6) else if most < 0 then ([], 1) else if most < p.length then ([], 12)
  else ((growF l.length (orderOK l most p.length) l.length []).getD [], if (growF l.length (orderOK l most p.length) l.length []).isSome then 0 else 11)
theorem order_drop {l : List Mk} {most m : Int} {o : List Int} {k : Nat} (hk : k < o.length) : orderOK l most m (o.drop k) = if most < m + growsM (l.getD (o.getD k default).toNat default) then false else orderOK l most (m + growsM (l.getD (o.getD k default).toNat default)) (o.drop (k + 1)) := by
  rw [List.drop_eq_getElem_cons hk, orderOK, getD_at hk]
theorem grows_bound (m : Mk) : -1 ≤ growsM m ∧ growsM m ≤ 1 := by unfold growsM; split <;> (try split) <;> omega
def cellI (g : Nat) (v : Value) : Nat × Obj := (g, .cells #[v] T.ints (0, 0))
def cellE (g : Nat) (e : Int) : Nat × Obj := (g, .cells #[int e] T.api_Errno (0, 0))

theorem proof_Steps_meets {A B : Option Addr} {ca cb : Nat} (p : List Str) (l : List Mk) (most : Int) : Meets Try.prog F.proof_Steps [.slice A p.length ca, .slice B l.length cb, int most] { outE (stepsP p l most) with LI := [Row A (rows p), Row B (rows l)] } := by
 refine meetsM_intro F.proof_Steps_f rfl (Nat.le_of_ble_eq_true rfl) fun w0 => ?_
 refine hc_seq ?_
 refine hc_region ?_
 refine r_box rfl rfl fun g3 => ?_
 refine r_box rfl rfl fun g4 => ?_
 refine r_box rfl rfl fun g5 => ?_
 refine r_alloc rfl (fun _ => T.al_ints _) fun g6 => ?_
 refine r_alloc rfl (fun _ => T.al_api_Errno _) fun g7 => ?_
 refine hl_nil ?_
 refine then_n ?_
 refine hc_scope ?_
 refine hc_seq ?_
 refine hc_seq ?_
 refine hc_perm (List.reverse_perm _).symm ?_
 refine hc_letgoB ?_
 refine hc_letgoB ?_
 refine hc_letgoB ?_
 refine hc_region ?_
 first | refine r_load rfl T.cell_strs rfl (cell_own (by repeat constructor) rfl) ?_ | refine r_load rfl T.cell_strs rfl (cell_blk (by repeat constructor) rfl) ?_ | refine r_load rfl T.cell_strs rfl (cell_row (by repeat constructor) (rows_get0 (by omega) rfl)) ?_ | refine r_load rfl T.cell_strs rfl (cell_row_f (by repeat constructor) (rows_get (by omega) rfl)) ?_
 first | refine r_load rfl T.cell_L_api_Mark rfl (cell_own (by repeat constructor) rfl) ?_ | refine r_load rfl T.cell_L_api_Mark rfl (cell_blk (by repeat constructor) rfl) ?_ | refine r_load rfl T.cell_L_api_Mark rfl (cell_row (by repeat constructor) (rows_get0 (by omega) rfl)) ?_ | refine r_load rfl T.cell_L_api_Mark rfl (cell_row_f (by repeat constructor) (rows_get (by omega) rfl)) ?_
 refine hl_call F.proof_checked_cb rfl rfl (proof_checked_meets p l) (List.Perm.refl _) ⟨m3, m4, trivial⟩ fun _ _ => ?_
 refine r_assign rfl rfl ?_
 refine hl_nil ?_
 refine then_n ?_
 refine hc_seq ?_
 refine hc_region ?_
 refine r_move rfl rfl ?_
 refine r_neq rfl rfl rfl ?_
 refine hl_nil ?_
 refine then_n ?_
 first | refine c_dec rfl (fun hb1 => ?_) (fun hb1 => ?_) | refine hc_cond rfl (fun hb1 => ?_) (fun hb1 => ?_)
 ·have hb1' := hb1; try simp at hb1'
  have e : stepsP p l most = ([], checkErr p l) := by rw [stepsP, if_pos hb1]
  rw [e]
  refine hc_seq ?_
  refine hc_region ?_
  refine r_move rfl rfl ?_
  refine r_store rfl rfl (by first | exact .refl _ | exact perm2 _ _ _ | exact perm3 _ _ _ _ | exact perm4 _ _ _ _ _) T.sz_ints (by rfl) (by rfl) ?_
  refine r_store rfl rfl (by first | exact .refl _ | exact perm2 _ _ _ | exact perm3 _ _ _ _ | exact perm4 _ _ _ _ _) T.sz_api_Errno (by rfl) (by rfl) ?_
  refine hl_nil ?_
  refine then_n ?_
  refine hc_ret ?_
  refine then_ret ?_
  refine ng_ret ?_
  refine hq_nilrow (α := Int) ?_
  exact ret_marks [] (none, 0) rfl (.refl _) (res_cells2 rfl rfl rfl T.cell_ints T.cell_api_Errno (cell_own (by repeat constructor) rfl) (cell_own (by repeat constructor) rfl)) rfl trivial (List.nil_sublist _) ⟨m0, trivial⟩
 ·have hb1' := hb1; try simp at hb1'
  obtain ⟨hp6, hl12, hV⟩ := checkErr_zero (Classical.not_not.1 hb1)
  refine hc_skip ?_
  refine then_n ?_
  refine hc_seq ?_
  refine hc_block ?_
  refine hc_seq ?_
  refine hc_region ?_
  first | refine r_load rfl T.cell_L_api_Mark rfl (cell_own (by repeat constructor) rfl) ?_ | refine r_load rfl T.cell_L_api_Mark rfl (cell_blk (by repeat constructor) rfl) ?_ | refine r_load rfl T.cell_L_api_Mark rfl (cell_row (by repeat constructor) (rows_get0 (by omega) rfl)) ?_ | refine r_load rfl T.cell_L_api_Mark rfl (cell_row_f (by repeat constructor) (rows_get (by omega) rfl)) ?_
  refine r_len_sl rfl T.u_L_api_Mark rfl ?_
  refine r_gtr rfl rfl rfl ?_
  refine r_assign rfl rfl ?_
  refine hl_nil ?_
  refine then_n ?_
  first | refine c_dec rfl (fun hb2 => ?_) (fun hb2 => ?_) | refine hc_cond rfl (fun hb2 => ?_) (fun hb2 => ?_)
  ·have hb2' := hb2; try simp at hb2'
   have e : stepsP p l most = ([], 6) := by rw [stepsP, if_neg hb1, if_pos (by omega)]
   rw [e]
   refine hc_seq ?_
   refine hc_region ?_
   refine r_store rfl rfl (by first | exact .refl _ | exact perm2 _ _ _ | exact perm3 _ _ _ _ | exact perm4 _ _ _ _ _) T.sz_ints (by rfl) (by rfl) ?_
   refine r_store rfl rfl (by first | exact .refl _ | exact perm2 _ _ _ | exact perm3 _ _ _ _ | exact perm4 _ _ _ _ _) T.sz_api_Errno (by rfl) (by rfl) ?_
   refine hl_nil ?_
   refine then_n ?_
   refine hc_ret ?_
   refine inb_ret ?_
   refine then_ret ?_
   refine ng_ret ?_
   refine hq_nilrow (α := Int) ?_
   exact ret_marks [] (none, 0) rfl (.refl _) (res_cells2 rfl rfl rfl T.cell_ints T.cell_api_Errno (cell_own (by repeat constructor) rfl) (cell_own (by repeat constructor) rfl)) rfl trivial (List.nil_sublist _) ⟨m0, trivial⟩
  ·have hb2' := hb2; try simp at hb2'
   have hb2 : ¬ 5 < l.length := by omega
   refine hc_seq ?_
   refine hc_region ?_
   first | refine r_load rfl T.cell_int rfl (cell_own (by repeat constructor) rfl) ?_ | refine r_load rfl T.cell_int rfl (cell_blk (by repeat constructor) rfl) ?_ | refine r_load rfl T.cell_int rfl (cell_row (by repeat constructor) (rows_get0 (by omega) rfl)) ?_ | refine r_load rfl T.cell_int rfl (cell_row_f (by repeat constructor) (rows_get (by omega) rfl)) ?_
   refine r_lss rfl rfl rfl ?_
   refine r_assign rfl rfl ?_
   refine hl_nil ?_
   refine then_n ?_
   first | refine c_dec rfl (fun hb3 => ?_) (fun hb3 => ?_) | refine hc_cond rfl (fun hb3 => ?_) (fun hb3 => ?_)
   ·have hb3' := hb3; try simp at hb3'
    have e : stepsP p l most = ([], 1) := by rw [stepsP, if_neg hb1, if_neg hb2, if_pos hb3]
    rw [e]
    refine hc_seq ?_
    refine hc_region ?_
    refine r_store rfl rfl (by first | exact .refl _ | exact perm2 _ _ _ | exact perm3 _ _ _ _ | exact perm4 _ _ _ _ _) T.sz_ints (by rfl) (by rfl) ?_
    refine r_store rfl rfl (by first | exact .refl _ | exact perm2 _ _ _ | exact perm3 _ _ _ _ | exact perm4 _ _ _ _ _) T.sz_api_Errno (by rfl) (by rfl) ?_
    refine hl_nil ?_
    refine then_n ?_
    refine hc_ret ?_
    refine inb_ret ?_
    refine then_ret ?_
    refine ng_ret ?_
    refine hq_nilrow (α := Int) ?_
    exact ret_marks [] (none, 0) rfl (.refl _) (res_cells2 rfl rfl rfl T.cell_ints T.cell_api_Errno (cell_own (by repeat constructor) rfl) (cell_own (by repeat constructor) rfl)) rfl trivial (List.nil_sublist _) ⟨m0, trivial⟩
   ·have hb3' := hb3; try simp at hb3'
    refine hc_seq ?_
    refine hc_region ?_
    first | refine r_load rfl T.cell_strs rfl (cell_own (by repeat constructor) rfl) ?_ | refine r_load rfl T.cell_strs rfl (cell_blk (by repeat constructor) rfl) ?_ | refine r_load rfl T.cell_strs rfl (cell_row (by repeat constructor) (rows_get0 (by omega) rfl)) ?_ | refine r_load rfl T.cell_strs rfl (cell_row_f (by repeat constructor) (rows_get (by omega) rfl)) ?_
    refine r_len_sl rfl T.u_strs rfl ?_
    first | refine r_load rfl T.cell_int rfl (cell_own (by repeat constructor) rfl) ?_ | refine r_load rfl T.cell_int rfl (cell_blk (by repeat constructor) rfl) ?_ | refine r_load rfl T.cell_int rfl (cell_row (by repeat constructor) (rows_get0 (by omega) rfl)) ?_ | refine r_load rfl T.cell_int rfl (cell_row_f (by repeat constructor) (rows_get (by omega) rfl)) ?_
    refine r_gtr rfl rfl rfl ?_
    refine r_assign rfl rfl ?_
    refine hl_nil ?_
    refine then_n ?_
    first | refine c_dec rfl (fun hb4 => ?_) (fun hb4 => ?_) | refine hc_cond rfl (fun hb4 => ?_) (fun hb4 => ?_)
    ·have hb4' := hb4; try simp at hb4'
     have e : stepsP p l most = ([], 12) := by rw [stepsP, if_neg hb1, if_neg hb2, if_neg hb3, if_pos hb4]
     rw [e]
     refine hc_seq ?_
     refine hc_region ?_
     refine r_store rfl rfl (by first | exact .refl _ | exact perm2 _ _ _ | exact perm3 _ _ _ _ | exact perm4 _ _ _ _ _) T.sz_ints (by rfl) (by rfl) ?_
     refine r_store rfl rfl (by first | exact .refl _ | exact perm2 _ _ _ | exact perm3 _ _ _ _ | exact perm4 _ _ _ _ _) T.sz_api_Errno (by rfl) (by rfl) ?_
     refine hl_nil ?_
     refine then_n ?_
     refine hc_ret ?_
     refine inb_ret ?_
     refine then_ret ?_
     refine ng_ret ?_
     refine hq_nilrow (α := Int) ?_
     exact ret_marks [] (none, 0) rfl (.refl _) (res_cells2 rfl rfl rfl T.cell_ints T.cell_api_Errno (cell_own (by repeat constructor) rfl) (cell_own (by repeat constructor) rfl)) rfl trivial (List.nil_sublist _) ⟨m0, trivial⟩
    ·have hb4' := hb4; try simp at hb4'
     have e : stepsP p l most = ((growF l.length (orderOK l most p.length) l.length []).getD [], if (growF l.length (orderOK l most p.length) l.length []).isSome then 0 else 11) := by rw [stepsP, if_neg hb1, if_neg hb2, if_neg hb3, if_neg hb4]
     rw [e]
     refine hc_skip ?_
     refine inb_n ?_
     refine then_n ?_
     refine hc_seq ?_
     refine hc_label ?_
     refine then_n ?_
     refine hc_seq ?_
     refine hc_seq ?_
     refine hc_region ?_
     first | refine r_load rfl T.cell_L_api_Mark rfl (cell_own (by repeat constructor) rfl) ?_ | refine r_load rfl T.cell_L_api_Mark rfl (cell_blk (by repeat constructor) rfl) ?_ | refine r_load rfl T.cell_L_api_Mark rfl (cell_row (by repeat constructor) (rows_get0 (by omega) rfl)) ?_ | refine r_load rfl T.cell_L_api_Mark rfl (cell_row_f (by repeat constructor) (rows_get (by omega) rfl)) ?_
     refine r_len_sl rfl T.u_L_api_Mark rfl ?_
     refine hl_call F.proof_orders_cb rfl rfl (proof_orders_meets l.length) (List.Perm.refl _) trivial fun gn _ => ?_
     refine hl_nil ?_
     refine then_n ?_
     refine hc_block ?_
     refine hc_rangeFunc (β := OrdO) (cap := [ptr gn]) (hpR := []) [cellI g6 (.slice none 0 0), cellE g7 0] ([boxN gn l.length] ++ [Row A (rows p), Row B (rows l), Blk g3 (.cells #[.slice A p.length ca] T.strs (0, 0)), Blk g4 (.cells #[.slice B l.length cb] T.L_api_Mark (0, 0)), Blk g5 (.cells #[int most] T.int (0, 0))]) (fun x => growF l.length (orderOK l most p.length) l.length [] = x.map (·.1)) (fun _ => .tuple #[]) ordJ (ordR [cellI g6 (.slice none 0 0), cellE g7 0] (fun o out => [cellI g6 (.slice out.1 o.length out.2), cellE g7 0])) ordL rfl F.proof_orders_1_cb (.refl _) ⟨m0, m4, m5, m3, m2, m1, trivial⟩ ?_ ?_ ?_
     ·intro lb d fn tmps hsz hfr
      refine proof_orders_1_meets (lb := lb) (rc := recL fn tmps #[34] _ _ d) (R0 := [cellI g6 (.slice none 0 0), cellE g7 0]) (R1 := (fun o out => [cellI g6 (.slice out.1 o.length out.2), cellE g7 0])) (LI0 := [Row A (rows p), Row B (rows l), Blk g3 (.cells #[.slice A p.length ca] T.strs (0, 0)), Blk g4 (.cells #[.slice B l.length cb] T.L_api_Mark (0, 0)), Blk g5 (.cells #[int most] T.int (0, 0))]) (p := (orderOK l most p.length)) (n := l.length) (by omega) (fun o A2 c2 hlo hio => ?_)
      refine meetsY_intro m0 hsz hfr rfl (by intro t ht; simp at ht; subst ht; exact Nat.lt_of_lt_of_le (show 34 < 61 by decide) (Nat.le_refl _)) fun w => ?_
      refine hc_regionR rfl ?_
      refine r_assign rfl rfl ?_
      refine hl_nil ?_
      refine then_begin (.refl _) ?_
      refine hc_block ?_
      refine hc_seq ?_
      refine hc_regionR rfl ?_
      first | refine r_load rfl T.cell_strs rfl (cell_own (by repeat constructor) rfl) ?_ | refine r_load rfl T.cell_strs rfl (cell_blk (by repeat constructor) rfl) ?_ | refine r_load rfl T.cell_strs rfl (cell_row (by repeat constructor) (rows_get0 (by omega) rfl)) ?_ | refine r_load rfl T.cell_strs rfl (cell_row_f (by repeat constructor) (rows_get (by omega) rfl)) ?_
      refine r_len_sl rfl T.u_strs rfl ?_
      refine r_assign rfl rfl ?_
      refine hl_nil ?_
      refine then_n ?_
      refine hc_seq ?_
      refine hc_seq ?_
      refine hc_regionR rfl ?_
      refine r_move rfl rfl ?_
      refine r_len_sl rfl T.u_ints rfl ?_
      refine r_move rfl rfl ?_
      refine hl_nil ?_
      refine then_n ?_
      refine hc_block ?_
      refine hc_loop (β := Nat × Int) ⟨fun ⟨k, m⟩ => k ≤ o.length ∧ orderOK l most p.length o = orderOK l most m (o.drop k) ∧ -(k : Int) ≤ m ∧ m ≤ 6 + k, fun ⟨k, m⟩ => [(3, ptr g3), (4, ptr g4), (5, ptr g5), (6, ptr g6), (7, ptr g7), (9, .slice A2 o.length c2), (10, int m), (37, .slice A2 o.length c2), (38, int o.length), (39, int k)], fun _ => (lb, .loop (recB fn tmps #[34] _ _ d)) :: [cellI g6 (.slice none 0 0), cellE g7 0], fun _ => [Row A2 (rows o), Row A (rows p), Row B (rows l), Blk g3 (.cells #[.slice A p.length ca] T.strs (0, 0)), Blk g4 (.cells #[.slice B l.length cb] T.L_api_Mark (0, 0)), Blk g5 (.cells #[int most] T.int (0, 0))]⟩ (fun x => o.length - x.1) (0, (p.length : Int)) ⟨Nat.zero_le _, rfl, by omega, by omega⟩ ⟨rfl, rfl, rfl, rfl, rfl, rfl, rfl, rfl, rfl, rfl, trivial⟩ (.refl _) ⟨m0, m1, m2, m3, m4, m5, trivial⟩ fun x hx => ?_
      obtain ⟨k, m⟩ := x
      obtain ⟨hk, hq, hm1, hm2⟩ := hx
      refine hc_seq ?_
      refine hc_regionR rfl ?_
      refine r_lss rfl rfl rfl ?_
      refine hl_nil ?_
      refine then_n ?_
      refine hc_seq ?_
      first | refine c_dec rfl (fun hb5 => ?_) (fun hb5 => ?_) | refine hc_cond rfl (fun hb5 => ?_) (fun hb5 => ?_)
      ·have hb5' := hb5; try simp at hb5'
       have hk2 : k < o.length := by omega
       have hio2 := hio _ (getD_mem hk2)
       have e2 : m + -1 = m - 1 := rfl
       refine hc_skip ?_
       refine then_n ?_
       refine hc_seq ?_
       refine hc_block ?_
       refine hc_seq ?_
       refine hc_regionR rfl ?_
       refine r_elem (α := Int) _ _ rfl T.u_ints T.sz_int rfl rfl rfl (by repeat constructor) rfl (by omega) (by decide) ?_
       refine r_load rfl T.cell_int rfl (cell_row (by repeat constructor) (rows_get0 (by omega) rfl)) ?_
       refine r_assign rfl rfl ?_
       refine hl_nil ?_
       refine then_n ?_
       refine hc_seq ?_
       refine hc_seq ?_
       refine hc_regionR rfl ?_
       first | refine r_load rfl T.cell_L_api_Mark rfl (cell_own (by repeat constructor) rfl) ?_ | refine r_load rfl T.cell_L_api_Mark rfl (cell_blk (by repeat constructor) rfl) ?_ | refine r_load rfl T.cell_L_api_Mark rfl (cell_row (by repeat constructor) (rows_get0 (by omega) rfl)) ?_ | refine r_load rfl T.cell_L_api_Mark rfl (cell_row_f (by repeat constructor) (rows_get (by omega) rfl)) ?_
       refine r_move rfl rfl ?_
       refine r_elem (α := Mk) l (o.getD k default).toNat rfl T.u_L_api_Mark T.sz_api_Mark rfl rfl (by omega) m2 rfl (by omega) (by decide) ?_
       first | refine r_fieldAddr ⟨_, 0, none⟩ rfl rfl T.fa_api_Mark_0 rfl ?_ | refine r_fieldAddr _ rfl rfl T.fa_api_Mark_0 rfl ?_
       refine r_load rfl T.cell_int rfl (cell_row (by repeat constructor) (rows_get0 (by omega) rfl)) ?_
       refine hl_nil ?_
       refine then_n ?_
       refine hc_block ?_
       refine hc_seq ?_
       refine hc_regionR rfl ?_
       refine r_eql rfl rfl rfl ?_
       refine r_assign rfl rfl ?_
       refine hl_nil ?_
       refine then_n ?_
       first | refine c_dec rfl (fun hb6 => ?_) (fun hb6 => ?_) | refine hc_cond rfl (fun hb6 => ?_) (fun hb6 => ?_)
       ·have hb6' := hb6; try simp at hb6'
        have hgr : growsM (l.getD (o.getD k default).toNat default) = 1 := by rw [growsM, if_pos hb6]
        refine hc_regionR rfl ?_
        refine r_move rfl rfl ?_
        refine r_add _ rfl rfl rfl rfl (by unfold I64; omega) ?_
        refine r_assign rfl rfl ?_
        refine hl_nil ?_
        refine inb_n ?_
        refine then_n ?_
        refine hc_seq ?_
        refine hc_regionR rfl ?_
        refine r_move rfl rfl ?_
        first | refine r_load rfl T.cell_int rfl (cell_own (by repeat constructor) rfl) ?_ | refine r_load rfl T.cell_int rfl (cell_blk (by repeat constructor) rfl) ?_ | refine r_load rfl T.cell_int rfl (cell_row (by repeat constructor) (rows_get0 (by omega) rfl)) ?_ | refine r_load rfl T.cell_int rfl (cell_row_f (by repeat constructor) (rows_get (by omega) rfl)) ?_
        refine r_gtr rfl rfl rfl ?_
        refine hl_nil ?_
        refine then_n ?_
        first | refine c_dec rfl (fun hb8 => ?_) (fun hb8 => ?_) | refine hc_cond rfl (fun hb8 => ?_) (fun hb8 => ?_)
        ·have hb8' := hb8; try simp at hb8'
         refine hc_exit ?_
         refine inb_miss rfl ?_
         refine then_exit ?_
         refine then_exit ?_
         refine inb_miss rfl ?_
         refine then_exit ?_
         refine inb_hit ?_
         have hf : orderOK l most p.length o = false := by rw [hq, order_drop hk2, hgr, if_pos hb8]
         exact rp_n () (.refl _) rfl (by show Value.bool (!(orderOK l most p.length o)) = _; rw [hf]; rfl) trivial (by show List.Sublist (if orderOK l most p.length o = true then _ else _) _; rw [if_neg (by rw [hf]; decide)]; exact .refl _) trivial
        ·have hb8' := hb8; try simp at hb8'
         refine hc_skip ?_
         refine inb_n ?_
         refine then_n ?_
         refine hc_regionR rfl ?_
         refine r_add _ rfl rfl rfl rfl (by unfold I64; omega) ?_
         refine r_move rfl rfl ?_
         refine hl_nil ?_
         exact again _ (k + 1, m + 1) ⟨by omega, by rw [hq, order_drop hk2]; rw [hgr, if_neg hb8], by omega, by omega⟩ (by show o.length - (k + 1) < o.length - k; omega) ⟨rfl, rfl, rfl, rfl, rfl, rfl, rfl, rfl, rfl, rfl, trivial⟩ (.refl _) ⟨m0, m1, m2, m3, m4, m5, trivial⟩
       ·have hb6' := hb6; try simp at hb6'
        refine hc_seq ?_
        refine hc_regionR rfl ?_
        refine r_eql rfl rfl rfl ?_
        refine r_assign rfl rfl ?_
        refine hl_nil ?_
        refine then_n ?_
        first | refine c_dec rfl (fun hb7 => ?_) (fun hb7 => ?_) | refine hc_cond rfl (fun hb7 => ?_) (fun hb7 => ?_)
        ·have hb7' := hb7; try simp at hb7'
         have hgr : growsM (l.getD (o.getD k default).toNat default) = -1 := by rw [growsM, if_neg hb6, if_pos hb7]
         refine hc_regionR rfl ?_
         refine r_move rfl rfl ?_
         refine r_sub _ rfl rfl rfl rfl (by unfold I64; omega) ?_
         refine r_assign rfl rfl ?_
         refine hl_nil ?_
         refine inb_n ?_
         refine then_n ?_
         refine hc_seq ?_
         refine hc_regionR rfl ?_
         refine r_move rfl rfl ?_
         first | refine r_load rfl T.cell_int rfl (cell_own (by repeat constructor) rfl) ?_ | refine r_load rfl T.cell_int rfl (cell_blk (by repeat constructor) rfl) ?_ | refine r_load rfl T.cell_int rfl (cell_row (by repeat constructor) (rows_get0 (by omega) rfl)) ?_ | refine r_load rfl T.cell_int rfl (cell_row_f (by repeat constructor) (rows_get (by omega) rfl)) ?_
         refine r_gtr rfl rfl rfl ?_
         refine hl_nil ?_
         refine then_n ?_
         first | refine c_dec rfl (fun hb8 => ?_) (fun hb8 => ?_) | refine hc_cond rfl (fun hb8 => ?_) (fun hb8 => ?_)
         ·have hb8' := hb8; try simp at hb8'
          refine hc_exit ?_
          refine inb_miss rfl ?_
          refine then_exit ?_
          refine then_exit ?_
          refine inb_miss rfl ?_
          refine then_exit ?_
          refine inb_hit ?_
          have hf : orderOK l most p.length o = false := by rw [hq, order_drop hk2, hgr, e2, if_pos hb8]
          exact rp_n () (.refl _) rfl (by show Value.bool (!(orderOK l most p.length o)) = _; rw [hf]; rfl) trivial (by show List.Sublist (if orderOK l most p.length o = true then _ else _) _; rw [if_neg (by rw [hf]; decide)]; exact .refl _) trivial
         ·have hb8' := hb8; try simp at hb8'
          refine hc_skip ?_
          refine inb_n ?_
          refine then_n ?_
          refine hc_regionR rfl ?_
          refine r_add _ rfl rfl rfl rfl (by unfold I64; omega) ?_
          refine r_move rfl rfl ?_
          refine hl_nil ?_
          exact again _ (k + 1, m - 1) ⟨by omega, by rw [hq, order_drop hk2]; rw [hgr, e2, if_neg hb8], by omega, by omega⟩ (by show o.length - (k + 1) < o.length - k; omega) ⟨rfl, rfl, rfl, rfl, rfl, rfl, rfl, rfl, rfl, rfl, trivial⟩ (.refl _) ⟨m0, m1, m2, m3, m4, m5, trivial⟩
        ·have hb7' := hb7; try simp at hb7'
         have hgr : growsM (l.getD (o.getD k default).toNat default) = 0 := by rw [growsM, if_neg hb6, if_neg hb7]
         refine hc_skip ?_
         refine inb_n ?_
         refine then_n ?_
         refine hc_seq ?_
         refine hc_regionR rfl ?_
         refine r_move rfl rfl ?_
         first | refine r_load rfl T.cell_int rfl (cell_own (by repeat constructor) rfl) ?_ | refine r_load rfl T.cell_int rfl (cell_blk (by repeat constructor) rfl) ?_ | refine r_load rfl T.cell_int rfl (cell_row (by repeat constructor) (rows_get0 (by omega) rfl)) ?_ | refine r_load rfl T.cell_int rfl (cell_row_f (by repeat constructor) (rows_get (by omega) rfl)) ?_
         refine r_gtr rfl rfl rfl ?_
         refine hl_nil ?_
         refine then_n ?_
         first | refine c_dec rfl (fun hb8 => ?_) (fun hb8 => ?_) | refine hc_cond rfl (fun hb8 => ?_) (fun hb8 => ?_)
         ·have hb8' := hb8; try simp at hb8'
          refine hc_exit ?_
          refine inb_miss rfl ?_
          refine then_exit ?_
          refine then_exit ?_
          refine inb_miss rfl ?_
          refine then_exit ?_
          refine inb_hit ?_
          have hf : orderOK l most p.length o = false := by rw [hq, order_drop hk2, hgr, Int.add_zero, if_pos hb8]
          exact rp_n () (.refl _) rfl (by show Value.bool (!(orderOK l most p.length o)) = _; rw [hf]; rfl) trivial (by show List.Sublist (if orderOK l most p.length o = true then _ else _) _; rw [if_neg (by rw [hf]; decide)]; exact .refl _) trivial
         ·have hb8' := hb8; try simp at hb8'
          refine hc_skip ?_
          refine inb_n ?_
          refine then_n ?_
          refine hc_regionR rfl ?_
          refine r_add _ rfl rfl rfl rfl (by unfold I64; omega) ?_
          refine r_move rfl rfl ?_
          refine hl_nil ?_
          exact again _ (k + 1, m) ⟨by omega, by rw [hq, order_drop hk2]; rw [hgr, Int.add_zero, if_neg hb8], by omega, by omega⟩ (by show o.length - (k + 1) < o.length - k; omega) ⟨rfl, rfl, rfl, rfl, rfl, rfl, rfl, rfl, rfl, rfl, trivial⟩ (.refl _) ⟨m0, m1, m2, m3, m4, m5, trivial⟩
      ·have hb5' := hb5; try simp at hb5'
       have hk2 : k = o.length := by omega
       refine hc_exit ?_
       refine then_exit ?_
       refine then_exit ?_
       refine inb_hit ?_
       refine then_n ?_
       refine hc_seq ?_
       refine hc_regionR rfl ?_
       refine r_move rfl rfl ?_
       refine r_store rfl rfl (by first | exact .refl _ | exact perm2 _ _ _ | exact perm3 _ _ _ _ | exact perm4 _ _ _ _ _) T.sz_ints (by rfl) (by rfl) ?_
       refine r_store rfl rfl (by first | exact .refl _ | exact perm2 _ _ _ | exact perm3 _ _ _ _ | exact perm4 _ _ _ _ _) T.sz_api_Errno (by rfl) (by rfl) ?_
       refine hl_nil ?_
       refine then_n ?_
       refine hc_ret ?_
       refine inb_ret ?_
       have ht : orderOK l most p.length o = true := by rw [hq, hk2, List.drop_length]; rfl
       refine rp_ret (hp' := [cellI g6 (.slice A2 o.length c2), cellE g7 0]) () (List.reverse_perm _).symm rfl (by show Value.bool (!(orderOK l most p.length o)) = _; rw [ht]; rfl) trivial (by show List.Sublist (if orderOK l most p.length o = true then _ else _) _; rw [if_pos ht]; exact .refl _) trivial
     ·intro x d hx hp
      obtain rfl : x = none := by cases x with | none => rfl | some y => cases hp
      refine inb_n ?_
      refine then_n ?_
      refine hc_seq ?_
      refine hc_region ?_
      refine r_store rfl rfl (by first | exact .refl _ | exact perm2 _ _ _ | exact perm3 _ _ _ _ | exact perm4 _ _ _ _ _) T.sz_ints (by rfl) (by rfl) ?_
      refine r_store rfl rfl (by first | exact .refl _ | exact perm2 _ _ _ | exact perm3 _ _ _ _ | exact perm4 _ _ _ _ _) T.sz_api_Errno (by rfl) (by rfl) ?_
      refine hl_nil ?_
      refine then_n ?_
      refine hc_ret ?_
      refine ng_ret ?_
      have hx : growF l.length (orderOK l most p.length) l.length [] = none := hx
      rw [hx]
      refine hq_nilrow (α := Int) ?_
      exact ret_marks [d] (none, 0) rfl (List.reverse_perm _).symm (res_cells2 rfl rfl rfl T.cell_ints T.cell_api_Errno (cell_own (by repeat constructor) rfl) (cell_own (by repeat constructor) rfl)) rfl trivial (List.nil_sublist _) ⟨m0, trivial⟩
     ·intro x d j hx hp
      obtain ⟨y, rfl⟩ : ∃ y, x = some y := by cases x with | none => cases hp | some y => exact ⟨y, rfl⟩
      cases hp
      refine hc_ret ?_
      refine inb_ret ?_
      refine then_ret ?_
      refine ng_ret ?_
      have hx : growF l.length (orderOK l most p.length) l.length [] = some y.1 := hx
      rw [hx]
      exact ret_marks [d] y.2 rfl (.refl _) (res_cells2 rfl rfl rfl T.cell_ints T.cell_api_Errno (cell_own (by repeat constructor) rfl) (cell_own (by repeat constructor) rfl)) rfl trivial (List.nil_sublist _) ⟨m0, trivial⟩

/-- The first order of the marks that are left. -/
def stepsF (l : List Mk) (most : Int) : Nat → List Int → Int → Option (List Int)
  | 0, done, _ => some done
  | d + 1, done, lines => (List.range l.length).findSome? fun i : Nat => if (i : Int) ∈ done ∨ most < lines + growsM (l.getD i default) then none else stepsF l most d (done ++ [(i : Int)]) (lines + growsM (l.getD i default))
def outB (r : Option (List Int)) : Con OutC := { val := fun x => .tuple #[.slice x.1 (r.getD []).length x.2, .bool r.isSome], LO := fun x => [Row x.1 (rows (r.getD []))] }
theorem mem_take_succ {l : List Int} {k : Nat} {s : Int} (hk : k < l.length) : s ∈ l.take (k + 1) ↔ s ∈ l.take k ∨ l.getD k default = s := by
  rw [take_succ_getD l k hk]
  simp only [List.mem_append, List.mem_singleton]
  constructor
  · rintro (h | h)
    · exact .inl h
    · exact .inr h.symm
  · rintro (h | h)
    · exact .inl h
    · exact .inr h.symm

theorem ref07_steps_meets {A : Option Addr} {ca : Nat} (l : List Mk) (most : Int) (hl : l.length ≤ 12) :
    ∀ (d : Nat) (done : List Int) (lines : Int) (B : Option Addr) (cb : Nat), done.length + d = l.length → -(done.length : Int) ≤ lines → lines ≤ 6 + done.length → Meets Try.prog F.ref07_steps [.slice A l.length ca, .slice B done.length cb, int lines, int most] { outB (stepsF l most d done lines) with LI := [Row A (rows l), Row B (rows done)] } := by
 intro d
 induction d using Nat.strongRecOn
 rename_i d ih
 intro done lines B cb hd hl1 hl2
 refine meets_intro F.ref07_steps_f rfl (Nat.le_of_ble_eq_true rfl) fun w0 => ?_
 refine hc_seq ?_
 refine hc_region ?_
 refine r_assign rfl rfl ?_
 refine r_assign rfl rfl ?_
 refine hl_nil ?_
 refine then_n ?_
 refine hc_seq ?_
 refine hc_seq ?_
 refine hc_region ?_
 refine r_move rfl rfl ?_
 refine r_len_sl rfl T.u_ints rfl ?_
 refine r_move rfl rfl ?_
 refine r_len_sl rfl T.u_L_api_Mark rfl ?_
 refine r_eql rfl rfl rfl ?_
 refine hl_nil ?_
 refine then_n ?_
 first | refine c_dec rfl (fun hb1 => ?_) (fun hb1 => ?_) | refine hc_cond rfl (fun hb1 => ?_) (fun hb1 => ?_)
 ·have hb1' := hb1; try simp at hb1'
  have h0 : d = 0 := by omega
  subst h0
  refine hc_seq ?_
  refine hc_region ?_
  refine r_move rfl rfl ?_
  refine r_assign rfl rfl ?_
  refine r_assign rfl rfl ?_
  refine hl_nil ?_
  refine then_n ?_
  refine hc_ret ?_
  refine then_ret ?_
  exact ret2 (B, cb) rfl rfl rfl rfl rfl trivial (.refl _) ⟨m1, trivial⟩
 ·have hb1' := hb1; try simp at hb1'
  obtain ⟨d0, rfl⟩ : ∃ d0, d = d0 + 1 := ⟨d - 1, by omega⟩
  refine hc_skip ?_
  refine then_n ?_
  refine hc_seq ?_
  refine hc_seq ?_
  refine hc_region ?_
  refine r_assign rfl rfl ?_
  refine hl_nil ?_
  refine then_n ?_
  refine hc_block ?_
  refine hc_loop (β := Nat) ⟨fun i => i ≤ l.length ∧ (List.range i).findSome? (fun i : Nat => if (i : Int) ∈ done ∨ most < lines + growsM (l.getD i default) then none else stepsF l most d0 (done ++ [(i : Int)]) (lines + growsM (l.getD i default))) = none, fun i => [(0, .slice A l.length ca), (1, .slice B done.length cb), (2, int lines), (3, int most), (10, int i)], fun _ => [], fun _ => [Row A (rows l), Row B (rows done)]⟩ (fun i => l.length - i) 0 ⟨Nat.zero_le _, rfl⟩ ⟨rfl, rfl, rfl, rfl, rfl, trivial⟩ (.refl _) ⟨m0, m1, trivial⟩ fun i hi => ?_
  obtain ⟨hi, ht⟩ := hi
  refine hc_seq ?_
  refine hc_seq ?_
  refine hc_region ?_
  refine r_move rfl rfl ?_
  refine r_move rfl rfl ?_
  refine r_len_sl rfl T.u_L_api_Mark rfl ?_
  refine r_lss rfl rfl rfl ?_
  refine hl_nil ?_
  refine then_n ?_
  first | refine c_dec rfl (fun hb2 => ?_) (fun hb2 => ?_) | refine hc_cond rfl (fun hb2 => ?_) (fun hb2 => ?_)
  ·have hb2' := hb2; try simp at hb2'
   have hi2 : i < l.length := by omega
   have hgb := grows_bound (l.getD i default)
   refine hc_skip ?_
   refine then_n ?_
   refine hc_seq ?_
   refine hc_block ?_
   refine hc_seq ?_
   refine hc_region ?_
   refine r_assign rfl rfl ?_
   refine hl_nil ?_
   refine then_n ?_
   refine hc_seq ?_
   refine hc_seq ?_
   refine hc_region ?_
   refine r_assign rfl rfl ?_
   refine hl_nil ?_
   refine then_n ?_
   refine hc_block ?_
   refine hc_loop (β := Nat) ⟨fun k => k ≤ done.length, fun k => [(0, .slice A l.length ca), (1, .slice B done.length cb), (2, int lines), (3, int most), (10, int i), (11, .bool (decide ((i : Int) ∈ done.take k))), (12, int k)], fun _ => [], fun _ => [Row A (rows l), Row B (rows done)]⟩ (fun k => done.length - k) 0 (Nat.zero_le _) ⟨rfl, rfl, rfl, rfl, rfl, rfl, rfl, trivial⟩ (.refl _) ⟨m0, m1, trivial⟩ fun k hk => ?_
   simp only at hk
   refine hc_seq ?_
   refine hc_seq ?_
   refine hc_region ?_
   refine r_move rfl rfl ?_
   refine r_move rfl rfl ?_
   refine r_len_sl rfl T.u_ints rfl ?_
   refine r_lss rfl rfl rfl ?_
   refine hl_nil ?_
   refine then_n ?_
   first | refine c_dec rfl (fun hb3 => ?_) (fun hb3 => ?_) | refine hc_cond rfl (fun hb3 => ?_) (fun hb3 => ?_)
   ·have hb3' := hb3; try simp at hb3'
    have hk2 : k < done.length := by omega
    refine hc_skip ?_
    refine then_n ?_
    refine hc_seq ?_
    refine hc_block ?_
    refine hc_region ?_
    refine r_move rfl rfl ?_
    refine r_move rfl rfl ?_
    refine g_split rfl rfl ?_ ?_
    ·intro hg1; have hg1' := hg1; try simp at hg1'
     have hni : ¬ (i : Int) ∈ done.take k := by simpa using hg1
     refine g_yes rfl rfl hg1 ?_
     refine r_move rfl rfl ?_
     refine g_yes rfl rfl hg1 ?_
     refine r_move rfl rfl ?_
     refine g_yes rfl rfl hg1 ?_
     refine r_elem (α := Int) _ _ rfl T.u_ints T.sz_int rfl rfl rfl (by repeat constructor) rfl (by omega) (by decide) ?_
     refine g_yes rfl rfl hg1 ?_
     refine r_load rfl T.cell_int rfl (cell_row (by repeat constructor) (rows_get0 (by omega) rfl)) ?_
     refine g_yes rfl rfl hg1 ?_
     refine r_move rfl rfl ?_
     refine g_yes rfl rfl hg1 ?_
     refine r_eql rfl rfl rfl ?_
     refine p_f rfl rfl (bf1 hg1) rfl ?_
     refine r_assign rfl rfl ?_
     refine hl_nil ?_
     refine inb_n ?_
     refine then_n ?_
     refine hc_region ?_
     refine r_move rfl rfl ?_
     refine r_add _ rfl rfl rfl rfl (by unfold I64; omega) ?_
     refine r_assign rfl rfl ?_
     refine hl_nil ?_
     refine again _ (k + 1) (by show k + 1 ≤ done.length; omega) (by show done.length - (k + 1) < done.length - k; omega) ⟨rfl, rfl, rfl, rfl, rfl, ?_, rfl, trivial⟩ (.refl _) ⟨m0, m1, trivial⟩
     exact congrArg (fun b => some (Value.bool b)) (decide_eq_decide.2 (by rw [mem_take_succ hk2]; exact ⟨.inr, fun h => h.resolve_left hni⟩))
    ·intro hg1; have hg1' := hg1; try simp at hg1'
     have hin : (i : Int) ∈ done.take k := by simpa using hg1
     refine g_no rfl rfl rfl rfl rfl hg1 ?_
     refine g_no rfl rfl rfl rfl rfl hg1 ?_
     refine g_no rfl rfl rfl rfl rfl hg1 ?_
     refine g_no rfl rfl rfl rfl rfl hg1 ?_
     refine g_no rfl rfl rfl rfl rfl hg1 ?_
     refine g_no rfl rfl rfl rfl rfl hg1 ?_
     refine p_t rfl rfl (bt2 hg1) rfl ?_
     refine r_assign rfl rfl ?_
     refine hl_nil ?_
     refine inb_n ?_
     refine then_n ?_
     refine hc_region ?_
     refine r_move rfl rfl ?_
     refine r_add _ rfl rfl rfl rfl (by unfold I64; omega) ?_
     refine r_assign rfl rfl ?_
     refine hl_nil ?_
     refine again _ (k + 1) (by show k + 1 ≤ done.length; omega) (by show done.length - (k + 1) < done.length - k; omega) ⟨rfl, rfl, rfl, rfl, rfl, ?_, rfl, trivial⟩ (.refl _) ⟨m0, m1, trivial⟩
     exact congrArg (fun b => some (Value.bool b)) (decide_eq_true ((mem_take_succ hk2).2 (.inl hin))).symm
   ·have hb3' := hb3; try simp at hb3'
    have hk2 : k = done.length := by omega
    subst hk2
    refine hc_exit ?_
    refine then_exit ?_
    refine then_exit ?_
    refine inb_hit ?_
    refine then_n ?_
    refine hc_seq ?_
    refine hc_seq ?_
    refine hc_region ?_
    refine r_move rfl rfl ?_
    refine r_move rfl rfl ?_
    refine g_split rfl rfl ?_ ?_
    ·intro hg2; have hg2' := hg2; try simp at hg2'
     have hni : ¬ (i : Int) ∈ done := by simpa using hg2
     refine g_yes rfl rfl hg2 ?_
     refine r_move rfl rfl ?_
     refine g_yes rfl rfl hg2 ?_
     refine r_move rfl rfl ?_
     refine g_yes rfl rfl hg2 ?_
     refine r_move rfl rfl ?_
     refine g_yes rfl rfl hg2 ?_
     refine r_elem (α := Mk) _ _ rfl T.u_L_api_Mark T.sz_api_Mark rfl rfl rfl (by repeat constructor) rfl (by omega) (by decide) ?_
     refine g_yes rfl rfl hg2 ?_
     refine r_loadS rfl T.row_api_Mark T.sz_api_Mark rfl rfl (cells_row (by repeat constructor) (rows_all (by omega))) ?_
     refine g_yes rfl rfl hg2 ?_
     refine hl_call F.ref07_grows_cb rfl rfl (ref07_grows_meets (l.getD i default)) (List.Perm.refl _) trivial fun _ _ => ?_
     refine g_yes rfl rfl hg2 ?_
     refine r_add _ rfl rfl rfl rfl (by unfold I64; omega) ?_
     refine g_yes rfl rfl hg2 ?_
     refine r_move rfl rfl ?_
     refine g_yes rfl rfl hg2 ?_
     refine r_gtr rfl rfl rfl ?_
     refine p_f rfl rfl (bf1 hg2) rfl ?_
     refine hl_nil ?_
     refine then_n ?_
     first | refine c_dec rfl (fun hb4 => ?_) (fun hb4 => ?_) | refine hc_cond rfl (fun hb4 => ?_) (fun hb4 => ?_)
     ·have hb4' := hb4; try simp at hb4'
      refine hc_exit ?_
      refine then_exit ?_
      refine inb_hit ?_
      refine then_n ?_
      refine hc_region ?_
      refine r_move rfl rfl ?_
      refine r_add _ rfl rfl rfl rfl (by unfold I64; omega) ?_
      refine r_assign rfl rfl ?_
      refine hl_nil ?_
      exact again _ (i + 1) ⟨by omega, find_succ ht (by rw [if_pos (.inr hb4)])⟩ (by show l.length - (i + 1) < l.length - i; omega) ⟨rfl, rfl, rfl, rfl, rfl, trivial⟩ (.refl _) ⟨m0, m1, trivial⟩
     ·have hb4' := hb4; try simp at hb4'
      have hnot : ¬ ((i : Int) ∈ done ∨ most < lines + growsM (l.getD i default)) := fun h => h.elim hni hb4
      refine hc_skip ?_
      refine then_n ?_
      refine hc_seq ?_
      refine hc_drawW ([]) (_) (.refl _) 20 [15, 6, 3, 1] mixed (by decide) (by decide) (by decide) rfl rfl rfl ?_
      apply hb_ex _ rfl rfl rfl
      ·intro w1
       refine r_move rfl rfl ?_
       refine hl_nil ?_
       exact qe_done rfl
      refine hb_wr ⟨OutC × Hp, fun x => Grow T.int 1 x.1.1 0 x.1.2 [] x.2, fun x => .slice x.1.1 0 x.1.2, fun _ => [], fun x => x.2⟩ rfl rfl rfl ?_ ?_
      ·intro w1
       refine r_buildSlice _ rfl rfl (fun _ => T.bs_ints_0 ..) fun gS => ?_
       refine hl_nil ?_
       exact qw_done ((some ⟨gS, 0, none⟩, 0), [_]) (Grow.new (cs := #[]) (n := 0) rfl (Nat.zero_le _)) (fun _ => rfl) (.refl _) trivial
      apply hb_ex _ rfl rfl rfl
      ·intro w1
       refine r_move rfl rfl ?_
       refine hl_nil ?_
       exact qe_done rfl
      refine hb_wr ⟨OutC × Hp, fun x => Grow T.int 1 x.1.1 done.length x.1.2 (rows done) x.2, fun x => .slice x.1.1 done.length x.1.2, fun _ => [], fun x => x.2⟩ rfl rfl rfl ?_ ?_
      ·intro x1 hx1; intro w1
       refine r_append done.length (rows done) T.el_ints rfl rfl rfl hx1 (hp' := []) (by rw [List.append_nil]) (Src.row m1 (rows_len done) (rows_one done) (by decide)) (by omega) rfl (by unfold maxLen; omega) (by omega) fun A' c' og' hG' => ?_
       refine hl_nil ?_
       exact qw_done ((A', c'), og') hG' (fun _ => rfl) (by rw [List.append_nil]; exact .refl _) trivial
      apply hb_ex _ rfl rfl rfl
      ·intro w1
       refine r_move rfl rfl ?_
       refine hl_nil ?_
       exact qe_done rfl
      refine hb_vs ⟨Nat, fun _ => True, fun g1 => .slice (some ⟨g1, 0, none⟩) 1 1, fun g1 => [Row (some ⟨g1, 0, none⟩) (rows [(i : Int)])]⟩ rfl rfl rfl ?_ ?_
      ·intro w1
       refine r_buildSlice _ rfl rfl (fun _ => T.bs_ints_1 ..) fun gS => ?_
       refine hl_nil ?_
       refine hq_letgo (rows [(i : Int)]) (List.prefix_refl _) ?_
       exact qv_done gS trivial rfl ⟨m0, trivial⟩
      refine hb_wr ⟨OutC × Hp, fun x => Grow T.int 1 x.1.1 (done.length + 1) x.1.2 (rows (done ++ [(i : Int)])) x.2, fun x => .slice x.1.1 (done.length + 1) x.1.2, fun _ => [], fun x => x.2⟩ rfl rfl rfl ?_ ?_
      ·intro x3 hx3 g5 _; intro w1
       refine r_append (done.length + 1) (rows (done ++ [(i : Int)])) T.el_ints rfl rfl rfl hx3 (hp' := []) (by rw [List.append_nil]) (Src.row (news := rows [(i : Int)]) (m := 1) m0 rfl (rows_one _) (by decide)) rfl (rows_append done [(i : Int)]).symm (by unfold maxLen; omega) (by omega) fun A' c' og' hG' => ?_
       refine hl_nil ?_
       exact qw_done ((A', c'), og') hG' (fun _ => rfl) (by rw [List.append_nil]; exact .refl _) trivial
      apply hb_ex _ rfl rfl rfl
      ·intro w1
       refine r_move rfl rfl ?_
       refine hl_nil ?_
       exact qe_done rfl
      apply hb_ex _ rfl rfl rfl
      ·intro w1
       refine r_move rfl rfl ?_
       refine hl_nil ?_
       exact qe_done rfl
      apply hb_ex _ rfl rfl rfl
      ·intro w1
       refine r_move rfl rfl ?_
       refine hl_nil ?_
       exact qe_done rfl
      apply hb_ex _ rfl rfl rfl
      ·intro w1
       refine r_elem (α := Mk) _ _ rfl T.u_L_api_Mark T.sz_api_Mark rfl rfl rfl (by repeat constructor) rfl (by omega) (by decide) ?_
       refine hl_nil ?_
       exact qe_done rfl
      apply hb_ex _ rfl rfl rfl
      ·intro w1
       refine r_loadS rfl T.row_api_Mark T.sz_api_Mark rfl rfl (cells_row (by repeat constructor) (rows_all (by omega))) ?_
       refine hl_nil ?_
       exact qe_done rfl
      apply hb_ex _ rfl rfl rfl
      ·intro w1
       refine hl_call F.ref07_grows_cb rfl rfl (ref07_grows_meets (l.getD i default)) (List.Perm.refl _) trivial fun _ _ => ?_
       refine hl_nil ?_
       exact qe_done rfl
      apply hb_ex _ rfl rfl rfl
      ·intro w1
       refine r_add _ rfl rfl rfl rfl (by unfold I64; omega) ?_
       refine hl_nil ?_
       exact qe_done rfl
      apply hb_ex _ rfl rfl rfl
      ·intro w1
       refine r_move rfl rfl ?_
       refine hl_nil ?_
       exact qe_done rfl
      refine hb_wr ⟨OutC, fun _ => True, fun x => .tuple #[.slice x.1 ((stepsF l most d0 (done ++ [(i : Int)]) (lines + growsM (l.getD i default))).getD []).length x.2, .bool (stepsF l most d0 (done ++ [(i : Int)]) (lines + growsM (l.getD i default))).isSome], fun x => [Row x.1 (rows ((stepsF l most d0 (done ++ [(i : Int)]) (lines + growsM (l.getD i default))).getD []))], fun _ => []⟩ rfl rfl rfl ?_ ?_
      ·intro x6 hx6; intro w1
       have ihk := ih d0 (by omega) (done ++ [(i : Int)]) (lines + growsM (l.getD i default)) x6.1.1 x6.1.2 (by rw [len_snoc]; omega) (by rw [len_snoc]; omega) (by rw [len_snoc]; omega)
       rw [len_snoc] at ihk
       refine hl_grown0 hx6 ?_
       refine hl_call (vs := [.slice A l.length ca, .slice x6.1.1 (done.length + 1) x6.1.2, int (lines + growsM (l.getD i default)), int most]) F.ref07_steps_cb rfl rfl ihk (List.Perm.refl _) ⟨(by repeat constructor), m0, trivial⟩ fun x hx => ?_
       refine hl_nil ?_
       exact qw_done x trivial (fun _ => rfl) (.refl _) ⟨m0, trivial⟩
      refine hb_vs ⟨OutC, fun _ => True, fun x => .tuple #[.slice x.1 ((stepsF l most d0 (done ++ [(i : Int)]) (lines + growsM (l.getD i default))).getD []).length x.2, .bool (stepsF l most d0 (done ++ [(i : Int)]) (lines + growsM (l.getD i default))).isSome], fun x => [Row x.1 (rows ((stepsF l most d0 (done ++ [(i : Int)]) (lines + growsM (l.getD i default))).getD []))]⟩ rfl rfl rfl ?_ ?_
      ·intro x _; intro w1
       refine r_move rfl rfl ?_
       refine hl_nil ?_
       exact qv_done x trivial rfl ⟨m0, trivial⟩
      refine hb_vs ⟨OutC, fun _ => True, fun x => .slice x.1 ((stepsF l most d0 (done ++ [(i : Int)]) (lines + growsM (l.getD i default))).getD []).length x.2, fun x => [Row x.1 (rows ((stepsF l most d0 (done ++ [(i : Int)]) (lines + growsM (l.getD i default))).getD []))]⟩ rfl rfl rfl ?_ ?_
      ·intro x _; intro w1
       refine r_extract rfl rfl rfl ?_
       refine hl_nil ?_
       exact qv_done x trivial rfl ⟨m0, trivial⟩
      apply hb_ex _ rfl rfl rfl
      ·intro x _; intro w1
       refine r_extract rfl rfl rfl ?_
       refine hl_nil ?_
       exact qe_done rfl
      refine hb_vs ⟨OutC, fun _ => True, fun x => .slice x.1 ((stepsF l most d0 (done ++ [(i : Int)]) (lines + growsM (l.getD i default))).getD []).length x.2, fun x => [Row x.1 (rows ((stepsF l most d0 (done ++ [(i : Int)]) (lines + growsM (l.getD i default))).getD []))]⟩ rfl rfl rfl ?_ ?_
      ·intro x _; intro w1
       refine r_assign rfl rfl ?_
       refine hl_nil ?_
       exact qv_done x trivial rfl ⟨m0, trivial⟩
      refine hb_nil ⟨rfl, ?_⟩
      intro x1 _ x3 _ g5 _ x6 _ x15 _ x16 _ x17 _ x _
      refine r_assign rfl rfl ?_
      refine hl_nil ?_
      refine then_n ?_
      refine hc_seq ?_
      refine hc_region ?_
      refine r_move rfl rfl ?_
      refine hl_nil ?_
      refine then_n ?_
      first | refine c_dec rfl (fun hb5 => ?_) (fun hb5 => ?_) | refine hc_cond rfl (fun hb5 => ?_) (fun hb5 => ?_)
      ·have hb5' := hb5; try simp at hb5'
       obtain ⟨o, ho⟩ := Option.isSome_iff_exists.1 hb5
       refine hc_seq ?_
       refine hc_region ?_
       refine r_move rfl rfl ?_
       refine r_assign rfl rfl ?_
       refine r_assign rfl rfl ?_
       refine hl_nil ?_
       refine then_n ?_
       refine hc_ret ?_
       refine inb_ret ?_
       refine then_ret ?_
       refine then_ret ?_
       refine inb_ret ?_
       refine then_ret ?_
       have e : stepsF l most (d0 + 1) done lines = some o := find_at hi2 ht (by rw [if_neg hnot, ho])
       rw [e]
       rw [ho]
       exact ret2 x rfl rfl rfl rfl rfl trivial (List.nil_sublist _) ⟨m0, trivial⟩
      ·have hb5' := hb5; try simp at hb5'
       have hno : stepsF l most d0 (done ++ [(i : Int)]) (lines + growsM (l.getD i default)) = none := by simpa using hb5
       refine hc_skip ?_
       refine inb_n ?_
       refine then_n ?_
       refine hc_region ?_
       refine r_move rfl rfl ?_
       refine r_add _ rfl rfl rfl rfl (by unfold I64; omega) ?_
       refine r_assign rfl rfl ?_
       refine hl_nil ?_
       exact again _ (i + 1) ⟨by omega, find_succ ht (by rw [if_neg hnot, hno])⟩ (by show l.length - (i + 1) < l.length - i; omega) ⟨rfl, rfl, rfl, rfl, rfl, trivial⟩ (List.nil_sublist _) ⟨(by repeat constructor), (by repeat constructor), trivial⟩
    ·intro hg2; have hg2' := hg2; try simp at hg2'
     have hin : (i : Int) ∈ done := by simpa using hg2
     refine g_no rfl rfl rfl rfl rfl hg2 ?_
     refine g_no rfl rfl rfl rfl rfl hg2 ?_
     refine g_no rfl rfl rfl rfl rfl hg2 ?_
     refine g_no rfl rfl rfl rfl rfl hg2 ?_
     refine g_no rfl rfl rfl rfl rfl hg2 ?_
     refine g_no rfl rfl rfl rfl rfl hg2 ?_
     refine g_no rfl rfl rfl rfl rfl hg2 ?_
     refine g_no rfl rfl rfl rfl rfl hg2 ?_
     refine g_no rfl rfl rfl rfl rfl hg2 ?_
     refine p_t rfl rfl (bt2 hg2) rfl ?_
     refine hl_nil ?_
     refine then_n ?_
     refine c_t rfl rfl ?_
     refine hc_exit ?_
     refine then_exit ?_
     refine inb_hit ?_
     refine then_n ?_
     refine hc_region ?_
     refine r_move rfl rfl ?_
     refine r_add _ rfl rfl rfl rfl (by unfold I64; omega) ?_
     refine r_assign rfl rfl ?_
     refine hl_nil ?_
     exact again _ (i + 1) ⟨by omega, find_succ ht (by rw [if_pos (.inl hin)])⟩ (by show l.length - (i + 1) < l.length - i; omega) ⟨rfl, rfl, rfl, rfl, rfl, trivial⟩ (.refl _) ⟨m0, m1, trivial⟩
  ·have hb2' := hb2; try simp at hb2'
   have hi2 : i = l.length := by omega
   subst hi2
   refine hc_exit ?_
   refine then_exit ?_
   refine then_exit ?_
   refine inb_hit ?_
   refine then_n ?_
   refine hc_seq ?_
   refine hc_region ?_
   refine r_assign rfl rfl ?_
   refine r_assign rfl rfl ?_
   refine hl_nil ?_
   refine then_n ?_
   refine hc_ret ?_
   have e : stepsF l most (d0 + 1) done lines = none := ht
   rw [e]
   refine hq_nilrow (α := Int) ?_
   exact ret2 (none, 0) rfl rfl rfl rfl rfl trivial (.refl _) ⟨m0, trivial⟩

def stepsR (p : List Str) (l : List Mk) (most : Int) : List Int × Int :=
  if ¬ checkErr p l = 0 then ([], checkErr p l) else if 5 < l.length then ([], 6) else if most < 0 then ([], 1) else if most < p.length then ([], 12)
  else if (stepsF l most l.length [] p.length).isSome then ((stepsF l most l.length [] p.length).getD [], 0) else ([], 11)

theorem ref07_Steps_meets {A B : Option Addr} {ca cb : Nat} (p : List Str) (l : List Mk) (most : Int) : Meets Try.prog F.ref07_Steps [.slice A p.length ca, .slice B l.length cb, int most] { outE (stepsR p l most) with LI := [Row A (rows p), Row B (rows l)] } := by
 refine meets_intro F.ref07_Steps_f rfl (Nat.le_of_ble_eq_true rfl) fun w0 => ?_
 refine hc_seq ?_
 refine hc_region ?_
 refine r_assign rfl rfl ?_
 refine r_assign rfl rfl ?_
 refine hl_nil ?_
 refine then_n ?_
 refine hc_seq ?_
 refine hc_seq ?_
 refine hc_region ?_
 refine r_move rfl rfl ?_
 refine r_move rfl rfl ?_
 refine hl_call F.ref07_check_cb rfl rfl (ref07_check_meets p l) (List.Perm.refl _) ⟨m0, m1, trivial⟩ fun _ _ => ?_
 refine r_assign rfl rfl ?_
 refine hl_nil ?_
 refine then_n ?_
 refine hc_seq ?_
 refine hc_region ?_
 refine r_move rfl rfl ?_
 refine r_neq rfl rfl rfl ?_
 refine hl_nil ?_
 refine then_n ?_
 first | refine c_dec rfl (fun hb1 => ?_) (fun hb1 => ?_) | refine hc_cond rfl (fun hb1 => ?_) (fun hb1 => ?_)
 ·have hb1' := hb1; try simp at hb1'
  have e : stepsR p l most = ([], checkErr p l) := by rw [stepsR, if_pos hb1]
  rw [e]
  refine hc_seq ?_
  refine hc_region ?_
  refine r_move rfl rfl ?_
  refine r_assign rfl rfl ?_
  refine r_assign rfl rfl ?_
  refine hl_nil ?_
  refine then_n ?_
  refine hc_ret ?_
  refine then_ret ?_
  refine hq_nilrow (α := Int) ?_
  exact ret2 (none, 0) rfl rfl rfl rfl rfl trivial (List.nil_sublist _) ⟨m0, trivial⟩
 ·have hb1' := hb1; try simp at hb1'
  obtain ⟨hp6, hl12, hV⟩ := checkErr_zero (Classical.not_not.1 hb1)
  refine hc_skip ?_
  refine then_n ?_
  refine hc_seq ?_
  refine hc_seq ?_
  refine hc_region ?_
  refine r_move rfl rfl ?_
  refine r_len_sl rfl T.u_L_api_Mark rfl ?_
  refine r_gtr rfl rfl rfl ?_
  refine hl_nil ?_
  refine then_n ?_
  first | refine c_dec rfl (fun hb2 => ?_) (fun hb2 => ?_) | refine hc_cond rfl (fun hb2 => ?_) (fun hb2 => ?_)
  ·have hb2' := hb2; try simp at hb2'
   have e : stepsR p l most = ([], 6) := by rw [stepsR, if_neg hb1, if_pos (by omega)]
   rw [e]
   refine hc_seq ?_
   refine hc_region ?_
   refine r_assign rfl rfl ?_
   refine r_assign rfl rfl ?_
   refine hl_nil ?_
   refine then_n ?_
   refine hc_ret ?_
   refine then_ret ?_
   refine hq_nilrow (α := Int) ?_
   exact ret2 (none, 0) rfl rfl rfl rfl rfl trivial (List.nil_sublist _) ⟨m0, trivial⟩
  ·have hb2' := hb2; try simp at hb2'
   have hb2 : ¬ 5 < l.length := by omega
   refine hc_skip ?_
   refine then_n ?_
   refine hc_seq ?_
   refine hc_seq ?_
   refine hc_region ?_
   refine r_move rfl rfl ?_
   refine r_lss rfl rfl rfl ?_
   refine hl_nil ?_
   refine then_n ?_
   first | refine c_dec rfl (fun hb3 => ?_) (fun hb3 => ?_) | refine hc_cond rfl (fun hb3 => ?_) (fun hb3 => ?_)
   ·have hb3' := hb3; try simp at hb3'
    have e : stepsR p l most = ([], 1) := by rw [stepsR, if_neg hb1, if_neg hb2, if_pos hb3]
    rw [e]
    refine hc_seq ?_
    refine hc_region ?_
    refine r_assign rfl rfl ?_
    refine r_assign rfl rfl ?_
    refine hl_nil ?_
    refine then_n ?_
    refine hc_ret ?_
    refine then_ret ?_
    refine hq_nilrow (α := Int) ?_
    exact ret2 (none, 0) rfl rfl rfl rfl rfl trivial (List.nil_sublist _) ⟨m0, trivial⟩
   ·have hb3' := hb3; try simp at hb3'
    refine hc_skip ?_
    refine then_n ?_
    refine hc_seq ?_
    refine hc_seq ?_
    refine hc_region ?_
    refine r_move rfl rfl ?_
    refine r_len_sl rfl T.u_strs rfl ?_
    refine r_move rfl rfl ?_
    refine r_gtr rfl rfl rfl ?_
    refine hl_nil ?_
    refine then_n ?_
    first | refine c_dec rfl (fun hb4 => ?_) (fun hb4 => ?_) | refine hc_cond rfl (fun hb4 => ?_) (fun hb4 => ?_)
    ·have hb4' := hb4; try simp at hb4'
     have e : stepsR p l most = ([], 12) := by rw [stepsR, if_neg hb1, if_neg hb2, if_neg hb3, if_pos hb4]
     rw [e]
     refine hc_seq ?_
     refine hc_region ?_
     refine r_assign rfl rfl ?_
     refine r_assign rfl rfl ?_
     refine hl_nil ?_
     refine then_n ?_
     refine hc_ret ?_
     refine then_ret ?_
     refine hq_nilrow (α := Int) ?_
     exact ret2 (none, 0) rfl rfl rfl rfl rfl trivial (List.nil_sublist _) ⟨m0, trivial⟩
    ·have hb4' := hb4; try simp at hb4'
     have e0 : stepsR p l most = if (stepsF l most l.length [] p.length).isSome then ((stepsF l most l.length [] p.length).getD [], 0) else ([], 11) := by rw [stepsR, if_neg hb1, if_neg hb2, if_neg hb3, if_neg hb4]
     refine hc_skip ?_
     refine then_n ?_
     refine hc_seq ?_
     refine hc_region ?_
     refine r_move rfl rfl ?_
     refine r_move rfl rfl ?_
     refine r_len_sl rfl T.u_strs rfl ?_
     refine r_move rfl rfl ?_
     refine hl_nilrow (α := Int) ?_
     refine hl_call (vs := [.slice B l.length cb, .slice none 0 0, int p.length, int most]) F.ref07_steps_cb rfl rfl (ref07_steps_meets l most hl12 l.length [] p.length none 0 (by simp) (by simp) (by simp; omega)) (List.Perm.refl _) ⟨m2, m0, trivial⟩ fun x hx => ?_
     refine r_move rfl rfl ?_
     refine r_extract rfl rfl rfl ?_
     refine r_extract rfl rfl rfl ?_
     refine r_assign rfl rfl ?_
     refine r_assign rfl rfl ?_
     refine hl_nil ?_
     refine then_n ?_
     refine hc_seq ?_
     refine hc_seq ?_
     refine hc_region ?_
     refine r_move rfl rfl ?_
     refine r_not rfl rfl ?_
     refine hl_nil ?_
     refine then_n ?_
     first | refine c_dec rfl (fun hb5 => ?_) (fun hb5 => ?_) | refine hc_cond rfl (fun hb5 => ?_) (fun hb5 => ?_)
     ·have hb5' := hb5; try simp at hb5'
      have hno : (stepsF l most l.length [] p.length).isSome = false := by cases h : (stepsF l most l.length [] p.length).isSome; rfl; rw [h] at hb5; cases hb5
      have e : stepsR p l most = ([], 11) := by rw [e0, if_neg (by rw [hno]; decide)]
      rw [e]
      refine hc_seq ?_
      refine hc_region ?_
      refine r_assign rfl rfl ?_
      refine r_assign rfl rfl ?_
      refine hl_nil ?_
      refine then_n ?_
      refine hc_ret ?_
      refine then_ret ?_
      refine hq_nilrow (α := Int) ?_
      exact ret2 (none, 0) rfl rfl rfl rfl rfl trivial (List.nil_sublist _) ⟨m0, trivial⟩
     ·have hb5' := hb5; try simp at hb5'
      have hso : (stepsF l most l.length [] p.length).isSome = true := by cases h : (stepsF l most l.length [] p.length).isSome; rw [h] at hb5; cases hb5; rfl
      have e : stepsR p l most = ((stepsF l most l.length [] p.length).getD [], 0) := by rw [e0, if_pos hso]
      rw [e]
      refine hc_skip ?_
      refine then_n ?_
      refine hc_seq ?_
      refine hc_region ?_
      refine r_move rfl rfl ?_
      refine r_assign rfl rfl ?_
      refine r_assign rfl rfl ?_
      refine hl_nil ?_
      refine then_n ?_
      refine hc_ret ?_
      exact ret2 x rfl rfl rfl rfl rfl trivial (List.nil_sublist _) ⟨m0, trivial⟩

end Go.Proofs.Ytpbbgbjidhffoaa
