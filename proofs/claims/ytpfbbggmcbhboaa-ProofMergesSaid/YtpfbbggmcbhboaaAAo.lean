/- Texts. -/
import Derived.Sort.Walk0
import Derived.Test.YtpfbbggmcbhboaaAAn
import Derived.Test.YtpfbbggmcbhboaaAAm
set_option linter.unusedVariables false
set_option linter.unusedSimpArgs false
section
namespace Go.Proofs.Ytpfbbggmcbhboaa
open Go Go.W
set_option maxRecDepth 20000
attribute [local irreducible] HL HC HQ HB Row Rows2 Blk Facts
theorem find_succ {α : Type} {f : Nat → Option α} {k : Nat} (h : (List.range k).findSome? f = none) (h1 : f k = none) : (List.range (k + 1)).findSome? f = none := by
  rw [List.range_succ, List.findSome?_append, h]; simp [h1]
theorem find_at {α : Type} {f : Nat → Option α} {k n : Nat} {x : α} (hk : k < n) (h : (List.range k).findSome? f = none) (h1 : f k = some x) : (List.range n).findSome? f = some x := by
  have e : List.range n = List.range (k + 1) ++ (List.range (n - (k + 1))).map (fun i => (k + 1) + i) := by
    have := List.range_add (n := k + 1) (m := n - (k + 1)); rw [← this]
    congr 1
    omega
  rw [e, List.range_succ, List.findSome?_append, List.findSome?_append, h]
  simp [h1]
def growF (n : Nat) (p : List Int → Bool) : Nat → List Int → Option (List Int)
  | 0, l => if p l = true then some l else none
  | d + 1, l => (List.range n).findSome? fun i : Nat => if (i : Int) ∈ l then none else growF n p d (l ++ [(i : Int)])
def InR (n : Nat) (l : List Int) : Prop := ∀ i ∈ l, 0 ≤ i ∧ i < (n : Int)
theorem InR.snoc {n : Nat} {l : List Int} {i : Nat} (h : InR n l) (hi : i < n) : InR n (l ++ [(i : Int)]) := by
  intro x hx
  rcases List.mem_append.1 hx with hx | hx
  · exact h x hx
  · simp at hx; omega
abbrev GrowI (o : OutC) (l : List Int) (og : Hp) : Prop := Grow T.int 1 o.1 l.length o.2 (rows l) og
theorem slices_Clone_ints_meets {A : Option Addr} {c : Nat} (l : List Int) (hl : l.length ≤ 1000000) : Meets Try.prog F.slices_Clone_ints [.slice A l.length c] { LI := [Row A (rows l)], inv := fun x : OutC × Hp => GrowI x.1 l x.2, val := fun x => .slice x.1.1 l.length x.1.2, hpO := fun x => x.2 } := by
 refine meets_intro F.slices_Clone_ints_f rfl (Nat.le_of_ble_eq_true rfl) fun w0 => ?_; refine hc_seq (hc_region (r_assign rfl rfl (hl_nil (then_n (hc_seq (hc_seq (hc_region (r_move rfl rfl (r_eqlnil rfl T.u_ints rfl rfl (hl_nil (then_n ?_))))))))))); refine hc_cond rfl (fun hb1 => ?_) (fun hb1 => ?_)
 ·have hb1' := hb1; try simp at hb1'
  have hA : A = none := by cases A with | none => rfl | some a => cases hb1
  subst hA; refine hc_pure (φ := l = []) (fun w hw => row_none (by decide) (hw.fs (Row none (rows l)) m0)) fun hl0 => ?_; subst hl0; refine hc_seq (hc_region (r_assign rfl rfl (hl_nil (then_n (hc_ret (then_ret ?_)))))); exact ret1 ((none, 0), []) rfl rfl rfl (Grow.nil _ _) (.refl _) trivial
 ·have hb1' := hb1; try simp at hb1'
  refine hc_skip (then_n (hc_seq (hc_region ?_))); refine r_buildSlice _ rfl rfl (fun _ => T.bs_ints_0 ..) fun gS => ?_; refine r_move rfl rfl ?_; refine r_append l.length (rows l) T.el_ints rfl rfl rfl (Grow.new (cs := #[]) (n := 0) rfl (Nat.zero_le _)) (.refl _) (Src.row m0 (rows_len l) (rows_one l) (by decide)) (by omega) rfl (by unfold maxLen; omega) (by omega) fun A' c' og' hG => ?_; refine r_assign rfl rfl (hl_nil (then_n (hc_ret ?_))); exact ret1 ((A', c'), og') rfl rfl rfl hG (List.sublist_append_left _ _) trivial
section
variable (lb : Nat) (rc : Option Code → Loop) (R0 : Hp) (R1 : List Int → OutC → Hp) (LI0 : List Fact) (p : List Int → Bool)
def yCon (o : List Int) (A : Option Addr) (c : Nat) : Con Unit :=
  { hpI := (lb, .loop (rc none)) :: R0, LI := Row A (rows o) :: LI0, val := fun _ => .bool (!(p o)), hpO := fun _ => if p o = true then (lb, .loop (rc (some .ret))) :: R1 o (A, c) else (lb, .loop (rc none)) :: R0 }
abbrev OrdO := Option (List Int × OutC)
def ordR (x : OrdO) : Hp := match x with | none => R0 | some y => R1 y.1 y.2
def ordL (x : OrdO) : List Fact := match x with | none => [] | some y => [Row y.2.1 (rows y.1)]
def ordJ (x : OrdO) : Option Code := match x with | none => none | some _ => some .ret
def ordCon (LI : List Fact) (q : Option (List Int)) (val : OrdO → Value) : Con OrdO :=
  { hpI := (lb, .loop (rc none)) :: R0, LI := LI ++ LI0, inv := fun x => q = x.map (·.1), val := val, hpO := fun x => (lb, .loop (rc (ordJ x))) :: ordR R0 R1 x, LO := ordL }
end
def boxN (g : Nat) (n : Int) : Fact := Blk g (.cells #[int n] T.int (0, 0))
def boxF (g : Nat) (v : Value) : Fact := Blk g (.cells #[v] T.func_L_int_bool (0, 0))
def ptr (g : Nat) : Value := .pointer (some ⟨g, 0, none⟩)
def growV (gn gy gg : Nat) : Value := .func (.func F.proof_orders_1_1) #[] [ptr gn, ptr gy, ptr gg].toArray
theorem proof_orders_1_1_meets {lb : Nat} {rc : Option Code → Loop} {R0 : Hp} {R1 : List Int → OutC → Hp} {LI0 : List Fact} {p : List Int → Bool} {n : Nat} {gn gy gg : Nat} (hn : n ≤ 1000) (hY : ∀ (o : List Int) (A : Option Addr) (c : Nat), o.length = n → InR n o → MeetsY Try.prog lb [.slice A o.length c] (yCon lb rc R0 R1 LI0 p o A c)) :
    ∀ (d : Nat) (l : List Int) (A : Option Addr) (c : Nat), l.length + d = n → InR n l → Meets Try.prog F.proof_orders_1_1 [.slice A l.length c, ptr gn, ptr gy, ptr gg] (ordCon lb rc R0 R1 LI0 [Row A (rows l), boxN gn n, boxF gy (yieldV lb), boxF gg (growV gn gy gg)] (growF n p d l) (fun x => .bool x.isNone)) := by
 intro d
 induction d using Nat.strongRecOn
 rename_i d ih
 intro l A c hd hR; refine meets_intro F.proof_orders_1_1_f rfl (Nat.le_of_ble_eq_true rfl) fun w0 => ?_; refine hc_seq (hc_region (r_assign rfl rfl (hl_nil (then_n (hc_seq (hc_seq (hc_region (r_move rfl rfl ?_)))))))); refine r_len_sl rfl T.u_ints rfl ?_
 first | refine r_load rfl T.cell_int rfl (cell_own mB rfl) ?_ | refine r_load rfl T.cell_int rfl (cell_blk mB rfl) ?_ | refine r_load rfl T.cell_int rfl (cell_row mB (rows_get0 (by omega) rfl)) ?_ | refine r_load rfl T.cell_int rfl (cell_row_f mB (rows_get (by omega) rfl)) ?_
 refine r_eql rfl rfl rfl (hl_nil (then_n ?_))
 first | refine c_dec rfl (fun hb1 => ?_) (fun hb1 => ?_) | refine hc_cond rfl (fun hb1 => ?_) (fun hb1 => ?_)
 ·have hb1' := hb1; try simp at hb1'
  have h0 : d = 0 := by omega
  subst h0; have hlen : l.length = n := by omega
  refine hc_seq (hc_region ?_)
  first | refine r_load rfl T.cell_func_L_int_bool rfl (cell_own mB rfl) ?_ | refine r_load rfl T.cell_func_L_int_bool rfl (cell_blk mB rfl) ?_ | refine r_load rfl T.cell_func_L_int_bool rfl (cell_row mB (rows_get0 (by omega) rfl)) ?_ | refine r_load rfl T.cell_func_L_int_bool rfl (cell_row_f mB (rows_get (by omega) rfl)) ?_
  refine r_move rfl rfl ?_; refine hl_yield (k := yCon lb rc R0 R1 LI0 p l A c) rfl rfl rfl (hY l A c hlen hR) (hpR := []) (by rw [List.append_nil]; exact .refl _) ⟨m0, (LSub.of_mem fun F hF => by repeat (first | exact hF | apply List.Mem.tail))⟩ fun _ _ => ?_; refine r_assign rfl rfl (hl_nil (then_n (hc_ret (then_ret ?_))))
  by_cases hp : p l = true
  · exact ret1 (some (l, (A, c))) rfl (by show some (Value.bool (!(p l))) = some (Value.bool false); rw [hp]; rfl) rfl (by show growF n p 0 l = some l; rw [growF, if_pos hp]) (by show List.Sublist _ ((if p l = true then _ else _) ++ []); rw [if_pos hp, List.append_nil]; exact .refl _) ⟨m0, trivial⟩
  · exact ret1 none rfl (by show some (Value.bool (!(p l))) = some (Value.bool true); rw [Bool.eq_false_iff.2 hp]; rfl) rfl (by show growF n p 0 l = none; rw [growF, if_neg hp]) (by show List.Sublist _ ((if p l = true then _ else _) ++ []); rw [if_neg hp, List.append_nil]; exact .refl _) trivial
 ·have hb1' := hb1; try simp at hb1'
  obtain ⟨d0, rfl⟩ : ∃ d0, d = d0 + 1 := ⟨d - 1, by omega⟩; refine hc_skip (then_n (hc_seq (hc_seq (hc_region ?_))))
  first | refine r_load rfl T.cell_int rfl (cell_own mB rfl) ?_ | refine r_load rfl T.cell_int rfl (cell_blk mB rfl) ?_ | refine r_load rfl T.cell_int rfl (cell_row mB (rows_get0 (by omega) rfl)) ?_ | refine r_load rfl T.cell_int rfl (cell_row_f mB (rows_get (by omega) rfl)) ?_
  refine r_move rfl rfl (hl_nil (then_n (hc_block ?_))); refine hc_loop (β := Nat) ⟨fun k => k ≤ n ∧ (List.range k).findSome? (fun i : Nat => if (i : Int) ∈ l then none else growF n p d0 (l ++ [(i : Int)])) = none, fun k => [(0, .slice A l.length c), (1, ptr gn), (2, ptr gy), (3, ptr gg), (14, int n), (15, int k)], fun _ => (lb, .loop (rc none)) :: R0, fun _ => [Row A (rows l), boxN gn n, boxF gy (yieldV lb), boxF gg (growV gn gy gg)] ++ LI0⟩ (fun k => n - k) 0 ⟨Nat.zero_le _, rfl⟩ ⟨rfl, rfl, rfl, rfl, rfl, rfl, trivial⟩ (.refl _) ⟨m0, m1, m2, m3, (LSub.of_mem fun F hF => by repeat (first | exact hF | apply List.Mem.tail))⟩ fun k hk => ?_; obtain ⟨hk, ht⟩ := hk; refine hc_seq (hc_region (r_lss rfl rfl rfl (hl_nil (then_n (hc_seq ?_)))))
  first | refine c_dec rfl (fun hb2 => ?_) (fun hb2 => ?_) | refine hc_cond rfl (fun hb2 => ?_) (fun hb2 => ?_)
  ·have hb2' := hb2; try simp at hb2'
   have hk2 : k < n := by omega
   refine hc_skip (then_n (hc_seq (hc_block (hc_seq (hc_region (r_move rfl rfl (r_assign rfl rfl (hl_nil (then_n (hc_seq ?_)))))))))); refine hc_drawW ([]) (_) (.refl _) 11 [10, 7] mixed (by decide) (by decide) (by decide) rfl rfl rfl ?_; refine hb_ex _ rfl rfl rfl (fun w1 => r_move rfl rfl (hl_nil (qe_done rfl))) ?_; refine hb_ex _ rfl rfl rfl (fun w1 => r_move rfl rfl (hl_nil (qe_done rfl))) ?_; refine hb_ex _ rfl rfl rfl (fun w1 => hl_call F.slices_Contains_ints_cb rfl rfl (slices_Contains_ints_meets l (k : Int) (by omega)) (.refl _) ⟨.tail _ (List.mem_append_right _ m0), trivial⟩ fun _ _ => (hl_nil (qe_done rfl))) ?_; refine hb_ex _ rfl rfl rfl (fun w1 => r_not rfl rfl (hl_nil (qe_done rfl))) ?_; refine hb_ex _ rfl rfl rfl (fun w1 => r_move rfl rfl (hl_nil (qe_done rfl))) ?_; refine hb_split (t := 22) (want := true) rfl ?_ ?_
   ·intro hg1; have hg1' := hg1; try simp at hg1'
    have hni : ¬ (k : Int) ∈ l := by simpa using hg1
    apply hb_ex _ rfl rfl rfl
    ·intro w1; refine g_yes rfl rfl hg1 ?_; refine r_load rfl T.cell_func_L_int_bool rfl (cell_blk (.tail _ (List.mem_append_right _ m3)) rfl) ?_; refine hl_nil ?_; exact qe_done rfl
    apply hb_ex _ rfl rfl rfl
    ·intro w1; refine g_yes rfl rfl hg1 (r_move rfl rfl (hl_nil ?_)); exact qe_done rfl
    refine hb_wr ⟨OutC × Hp, fun x => GrowI x.1 l x.2, fun x => .slice x.1.1 l.length x.1.2, fun _ => [], fun x => x.2⟩ rfl rfl rfl ?_ ?_
    ·intro w1; refine g_yes rfl rfl hg1 ?_; refine hl_call F.slices_Clone_ints_cb rfl rfl (slices_Clone_ints_meets l (by omega)) (.refl _) ⟨m0, trivial⟩ fun x hx => ?_; refine hl_nil ?_; exact qw_done x hx (fun _ => rfl) (by rw [List.append_nil]; exact .refl _) trivial
    apply hb_ex _ rfl rfl rfl
    ·intro w1; refine g_yes rfl rfl hg1 (r_move rfl rfl (hl_nil ?_)); exact qe_done rfl
    refine hb_vs ⟨Nat, fun _ => True, fun g1 => .slice (some ⟨g1, 0, none⟩) 1 1, fun g1 => [Row (some ⟨g1, 0, none⟩) (rows [(k : Int)])]⟩ rfl rfl rfl ?_ ?_
    ·intro w1; refine g_yes rfl rfl hg1 ?_; refine r_buildSlice _ rfl rfl (fun _ => T.bs_ints_1 ..) fun gS => ?_; refine hl_nil ?_; refine hq_letgo (rows [(k : Int)]) (List.prefix_refl _) ?_; exact qv_done gS trivial rfl ⟨m0, trivial⟩
    refine hb_wr ⟨OutC × Hp, fun x => Grow T.int 1 x.1.1 (l.length + 1) x.1.2 (rows (l ++ [(k : Int)])) x.2, fun x => .slice x.1.1 (l.length + 1) x.1.2, fun _ => [], fun x => x.2⟩ rfl rfl rfl ?_ ?_
    ·intro x7 hx7 g9 _; intro w1; refine g_yes rfl rfl hg1 ?_; refine r_append (l.length + 1) (rows (l ++ [(k : Int)])) T.el_ints rfl rfl rfl hx7 (hp' := []) (by rw [List.append_nil]) (Src.row (news := rows [(k : Int)]) (m := 1) m0 rfl (rows_one _) (by decide)) rfl (rows_append l [(k : Int)]).symm (by unfold maxLen; omega) (by omega) fun A' c' og' hG' => ?_; refine hl_nil ?_; exact qw_done ((A', c'), og') hG' (fun _ => rfl) (by rw [List.append_nil]; exact .refl _) trivial
    refine hb_nil ⟨rfl, ?_⟩; intro x7 hx7 g9 _ x10 hx10; refine g_yes rfl rfl hg1 ?_; have ihk := ih d0 (by omega) (l ++ [(k : Int)]) x10.1.1 x10.1.2 (by rw [len_snoc]; omega) (hR.snoc hk2); rw [len_snoc] at ihk; refine hl_grown hx10 ?_; refine hl_callv (vs := [.slice x10.1.1 (l.length + 1) x10.1.2]) (cap := [ptr gn, ptr gy, ptr gg]) F.proof_orders_1_1_cb rfl rfl rfl ihk (hpR := []) (by rw [List.append_nil]; exact .refl _) ⟨m0, m3, m4, m5, (LSub.of_mem fun F hF => by repeat (first | exact hF | apply List.Mem.tail))⟩ fun y hy => ?_; have hy : growF n p d0 (l ++ [(k : Int)]) = y.map (·.1) := hy; refine g_yes rfl rfl hg1 (r_not rfl rfl ?_); refine p_t rfl rfl (bt1 hg1) rfl ?_; refine hl_nil (then_n ?_)
    first | refine c_dec rfl (fun hb3 => ?_) (fun hb3 => ?_) | refine hc_cond rfl (fun hb3 => ?_) (fun hb3 => ?_)
    ·have hb3' := hb3; try simp at hb3'
     obtain ⟨z, rfl⟩ : ∃ z, y = some z := by cases y with | none => cases hb3 | some z => exact ⟨z, rfl⟩
     refine hc_seq (hc_region (r_assign rfl rfl (hl_nil (then_n (hc_ret (inb_ret (then_ret (then_ret (inb_ret (then_ret ?_)))))))))); exact ret1 (some z) rfl rfl rfl (find_at hk2 ht (by rw [if_neg hni, hy]; rfl)) (by rw [List.append_nil]; exact .refl _) ⟨m0, trivial⟩
    ·have hb3' := hb3; try simp at hb3'
     have hyn : y = none := by cases y with | none => rfl | some z => cases hb3
     subst hyn; refine hc_skip (inb_n (then_n (hc_region ?_))); refine r_add _ rfl rfl rfl rfl (by unfold I64; omega) ?_; refine r_move rfl rfl (hl_nil ?_); exact again _ (k + 1) ⟨by omega, find_succ ht (by rw [if_neg hni, hy]; rfl)⟩ (by show n - (k + 1) < n - k; omega) ⟨rfl, rfl, rfl, rfl, rfl, rfl, trivial⟩ (by rw [List.append_nil]; exact .refl _) ⟨mB, mB, mB, mB, (LSub.of_mem fun F hF => by repeat (first | exact hF | apply List.Mem.tail))⟩
   ·intro hg1; have hg1' := hg1; try simp at hg1'
    have hin : (k : Int) ∈ l := by simpa using hg1
    refine hb_ex _ rfl rfl rfl (fun w1 => g_no rfl rfl rfl rfl rfl hg1 (hl_nil (qe_done rfl))) ?_; refine hb_ex _ rfl rfl rfl (fun w1 => g_no rfl rfl rfl rfl rfl hg1 (hl_nil (qe_done rfl))) ?_; refine hb_wr ⟨Unit, fun _ => True, fun _ => undef, fun _ => [], fun _ => []⟩ rfl rfl rfl ?_ ?_
    ·intro w1; refine g_no rfl rfl rfl rfl rfl hg1 (hl_nil ?_); exact qw_done () trivial (fun _ => rfl) (.refl _) trivial
    refine hb_ex _ rfl rfl rfl (fun w1 => g_no rfl rfl rfl rfl rfl hg1 (hl_nil (qe_done rfl))) ?_; refine hb_ex _ rfl rfl rfl (fun w1 => g_no rfl rfl rfl rfl rfl hg1 (hl_nil (qe_done rfl))) ?_; refine hb_wr ⟨Unit, fun _ => True, fun _ => undef, fun _ => [], fun _ => []⟩ rfl rfl rfl ?_ ?_
    ·intro _ _; intro w1; refine g_no rfl rfl rfl rfl rfl hg1 (hl_nil ?_); exact qw_done () trivial (fun _ => rfl) (.refl _) trivial
    refine hb_nil ⟨rfl, ?_⟩; intro _ _ _ _; refine g_no rfl rfl rfl rfl rfl hg1 (g_no rfl rfl rfl rfl rfl hg1 ?_); refine p_f rfl rfl (bf2 hg1) rfl ?_; refine hl_nil (then_n (c_f rfl rfl (hc_skip (inb_n (then_n (hc_region ?_)))))); refine r_add _ rfl rfl rfl rfl (by unfold I64; omega) ?_; refine r_move rfl rfl (hl_nil ?_); exact again _ (k + 1) ⟨by omega, find_succ ht (by rw [if_pos hin])⟩ (by show n - (k + 1) < n - k; omega) ⟨rfl, rfl, rfl, rfl, rfl, rfl, trivial⟩ (.refl _) ⟨mB, mB, mB, mB, (LSub.of_mem fun F hF => by repeat (first | exact hF | apply List.Mem.tail))⟩
  ·have hb2' := hb2; try simp at hb2'
   have hk2 : k = n := by omega
   subst hk2; refine hc_exit (then_exit (then_exit (inb_hit (then_n (hc_seq (hc_region (r_assign rfl rfl (hl_nil (then_n (hc_ret ?_)))))))))); exact ret1 none rfl rfl rfl ht (.refl _) trivial
theorem proof_orders_1_meets {lb : Nat} {rc : Option Code → Loop} {R0 : Hp} {R1 : List Int → OutC → Hp} {LI0 : List Fact} {p : List Int → Bool} {n : Nat} {gn : Nat} (hn : n ≤ 1000) (hY : ∀ (o : List Int) (A : Option Addr) (c : Nat), o.length = n → InR n o → MeetsY Try.prog lb [.slice A o.length c] (yCon lb rc R0 R1 LI0 p o A c)) : Meets Try.prog F.proof_orders_1 [yieldV lb, ptr gn] (ordCon lb rc R0 R1 LI0 [boxN gn n] (growF n p n []) (fun _ => .tuple #[])) := by
 refine meets_intro F.proof_orders_1_f rfl (Nat.le_of_ble_eq_true rfl) fun w0 => ?_; refine hc_seq (hc_region ?_); refine r_box rfl rfl fun gy => ?_; refine hl_nil (then_n (hc_seq (hc_region ?_))); refine r_alloc rfl (fun _ => T.al_func_L_int_bool _) fun gg => ?_; refine hl_nil (then_n (hc_seq (hc_region (r_makeFunc rfl rfl rfl ?_)))); refine r_store rfl rfl (.refl _) T.sz_func_L_int_bool (by rfl) (by rfl) ?_; refine hl_nil (then_n (hc_letgoB (hc_letgoB (hc_region ?_))))
 first | refine r_load rfl T.cell_func_L_int_bool rfl (cell_own mB rfl) ?_ | refine r_load rfl T.cell_func_L_int_bool rfl (cell_blk mB rfl) ?_ | refine r_load rfl T.cell_func_L_int_bool rfl (cell_row mB (rows_get0 (by omega) rfl)) ?_ | refine r_load rfl T.cell_func_L_int_bool rfl (cell_row_f mB (rows_get (by omega) rfl)) ?_
 refine hl_nilrow (α := Int) ?_; refine hl_callv (vs := [.slice none 0 0]) (cap := [ptr gn, ptr gy, ptr gg]) F.proof_orders_1_1_cb rfl rfl rfl (proof_orders_1_1_meets hn hY n [] none 0 (by simp) (by intro x hx; simp at hx)) (hpR := []) (by rw [List.append_nil]; exact .refl _) ⟨m0, m3, m1, m2, (LSub.of_mem fun F hF => by repeat (first | exact hF | apply List.Mem.tail))⟩ fun y hy => ?_; refine hl_nil ?_; exact ret0n y rfl rfl rfl hy (by rw [List.append_nil]; exact .refl _) (LSub.of_mem fun F hF => List.mem_append_left _ hF)
theorem proof_orders_meets (n : Int) : Meets Try.prog F.proof_orders [int n] { val := fun g : Nat => .func (.func F.proof_orders_1) #[] [ptr g].toArray, LO := fun g => [boxN g n] } := by
 refine meets_intro F.proof_orders_f rfl (Nat.le_of_ble_eq_true rfl) fun w0 => ?_; refine hc_seq (hc_region ?_); refine r_box rfl rfl fun gn => ?_; refine r_assign rfl rfl (hl_nil (then_n (hc_seq (hc_region (r_makeFunc rfl rfl rfl (r_assign rfl rfl (hl_nil (then_n (hc_ret (hq_letgoB ?_)))))))))); exact ret1 gn rfl rfl rfl trivial (.refl _) ⟨m0, trivial⟩
def orderOK (l : List Mk) (most : Int) : Int → List Int → Bool
  | _, [] => true
  | n, i :: r => if most < n + growsM (l.getD i.toNat default) then false else orderOK l most (n + growsM (l.getD i.toNat default)) r
def stepsP (p : List Str) (l : List Mk) (most : Int) : List Int × Int :=
  if ¬ checkErr p l = 0 then ([], checkErr p l) else if 5 < l.length then ([], 6) else if most < 0 then ([], 1) else if most < p.length then ([], 12)
  else ((growF l.length (orderOK l most p.length) l.length []).getD [], if (growF l.length (orderOK l most p.length) l.length []).isSome then 0 else 11)
theorem order_drop {l : List Mk} {most m : Int} {o : List Int} {k : Nat} (hk : k < o.length) : orderOK l most m (o.drop k) = if most < m + growsM (l.getD (o.getD k default).toNat default) then false else orderOK l most (m + growsM (l.getD (o.getD k default).toNat default)) (o.drop (k + 1)) := by
  rw [List.drop_eq_getElem_cons hk, orderOK, getD_at hk]
def cellI (g : Nat) (v : Value) : Nat × Obj := (g, .cells #[v] T.ints (0, 0))
def cellE (g : Nat) (e : Int) : Nat × Obj := (g, .cells #[int e] T.api_Errno (0, 0))
theorem proof_Steps_meets {A B : Option Addr} {ca cb : Nat} (p : List Str) (l : List Mk) (most : Int) : Meets Try.prog F.proof_Steps [.slice A p.length ca, .slice B l.length cb, int most] { outE (stepsP p l most) with LI := [Row A (rows p), Row B (rows l)] } := by
 refine meetsM_intro F.proof_Steps_f rfl (Nat.le_of_ble_eq_true rfl) fun w0 => ?_; refine hc_seq (hc_region ?_); refine r_box rfl rfl fun g3 => ?_; refine r_box rfl rfl fun g4 => ?_; refine r_box rfl rfl fun g5 => ?_; refine r_alloc rfl (fun _ => T.al_ints _) fun g6 => ?_; refine r_alloc rfl (fun _ => T.al_api_Errno _) fun g7 => ?_; refine hl_nil (then_n (hc_scope (hc_seq (hc_seq ?_)))); refine hc_perm (List.reverse_perm _).symm ?_; refine hc_letgoB (hc_letgoB (hc_letgoB (hc_region ?_)))
 first | refine r_load rfl T.cell_strs rfl (cell_own mB rfl) ?_ | refine r_load rfl T.cell_strs rfl (cell_blk mB rfl) ?_ | refine r_load rfl T.cell_strs rfl (cell_row mB (rows_get0 (by omega) rfl)) ?_ | refine r_load rfl T.cell_strs rfl (cell_row_f mB (rows_get (by omega) rfl)) ?_
 first | refine r_load rfl T.cell_L_api_Mark rfl (cell_own mB rfl) ?_ | refine r_load rfl T.cell_L_api_Mark rfl (cell_blk mB rfl) ?_ | refine r_load rfl T.cell_L_api_Mark rfl (cell_row mB (rows_get0 (by omega) rfl)) ?_ | refine r_load rfl T.cell_L_api_Mark rfl (cell_row_f mB (rows_get (by omega) rfl)) ?_
 refine hl_call F.proof_checked_cb rfl rfl (proof_checked_meets p l) (List.Perm.refl _) ⟨m3, m4, trivial⟩ fun _ _ => ?_; refine r_assign rfl rfl (hl_nil (then_n (hc_seq (hc_region (r_move rfl rfl (r_neq rfl rfl rfl (hl_nil (then_n ?_))))))))
 first | refine c_dec rfl (fun hb1 => ?_) (fun hb1 => ?_) | refine hc_cond rfl (fun hb1 => ?_) (fun hb1 => ?_)
 ·have hb1' := hb1; try simp at hb1'
  have e : stepsP p l most = ([], checkErr p l) := by rw [stepsP, if_pos hb1]
  rw [e]; refine hc_seq (hc_region (r_move rfl rfl ?_)); refine r_store rfl rfl (by first | exact .refl _ | exact perm2 _ _ _ | exact perm3 _ _ _ _ | exact perm4 _ _ _ _ _) T.sz_ints (by rfl) (by rfl) ?_; refine r_store rfl rfl (by first | exact .refl _ | exact perm2 _ _ _ | exact perm3 _ _ _ _ | exact perm4 _ _ _ _ _) T.sz_api_Errno (by rfl) (by rfl) ?_; refine hl_nil (then_n (hc_ret (then_ret (ng_ret ?_)))); refine hq_nilrow (α := Int) ?_; exact ret_marks [] (none, 0) rfl (.refl _) (res_cells2 rfl rfl rfl T.cell_ints T.cell_api_Errno (cell_own mB rfl) (cell_own mB rfl)) rfl trivial (List.nil_sublist _) ⟨m0, trivial⟩
 ·have hb1' := hb1; try simp at hb1'
  obtain ⟨hp6, hl12, hV⟩ := checkErr_zero (Classical.not_not.1 hb1); refine hc_skip (then_n (hc_seq (hc_block (hc_seq (hc_region ?_)))))
  first | refine r_load rfl T.cell_L_api_Mark rfl (cell_own mB rfl) ?_ | refine r_load rfl T.cell_L_api_Mark rfl (cell_blk mB rfl) ?_ | refine r_load rfl T.cell_L_api_Mark rfl (cell_row mB (rows_get0 (by omega) rfl)) ?_ | refine r_load rfl T.cell_L_api_Mark rfl (cell_row_f mB (rows_get (by omega) rfl)) ?_
  refine r_len_sl rfl T.u_L_api_Mark rfl ?_; refine r_gtr rfl rfl rfl (r_assign rfl rfl (hl_nil (then_n ?_)))
  first | refine c_dec rfl (fun hb2 => ?_) (fun hb2 => ?_) | refine hc_cond rfl (fun hb2 => ?_) (fun hb2 => ?_)
  ·have hb2' := hb2; try simp at hb2'
   have e : stepsP p l most = ([], 6) := by rw [stepsP, if_neg hb1, if_pos (by omega)]
   rw [e]; refine hc_seq (hc_region ?_); refine r_store rfl rfl (by first | exact .refl _ | exact perm2 _ _ _ | exact perm3 _ _ _ _ | exact perm4 _ _ _ _ _) T.sz_ints (by rfl) (by rfl) ?_; refine r_store rfl rfl (by first | exact .refl _ | exact perm2 _ _ _ | exact perm3 _ _ _ _ | exact perm4 _ _ _ _ _) T.sz_api_Errno (by rfl) (by rfl) ?_; refine hl_nil (then_n (hc_ret (inb_ret (then_ret (ng_ret ?_))))); refine hq_nilrow (α := Int) ?_; exact ret_marks [] (none, 0) rfl (.refl _) (res_cells2 rfl rfl rfl T.cell_ints T.cell_api_Errno (cell_own mB rfl) (cell_own mB rfl)) rfl trivial (List.nil_sublist _) ⟨m0, trivial⟩
  ·have hb2' := hb2; try simp at hb2'
   have hb2 : ¬ 5 < l.length := by omega
   refine hc_seq (hc_region ?_)
   first | refine r_load rfl T.cell_int rfl (cell_own mB rfl) ?_ | refine r_load rfl T.cell_int rfl (cell_blk mB rfl) ?_ | refine r_load rfl T.cell_int rfl (cell_row mB (rows_get0 (by omega) rfl)) ?_ | refine r_load rfl T.cell_int rfl (cell_row_f mB (rows_get (by omega) rfl)) ?_
   refine r_lss rfl rfl rfl (r_assign rfl rfl (hl_nil (then_n ?_)))
   first | refine c_dec rfl (fun hb3 => ?_) (fun hb3 => ?_) | refine hc_cond rfl (fun hb3 => ?_) (fun hb3 => ?_)
   ·have hb3' := hb3; try simp at hb3'
    have e : stepsP p l most = ([], 1) := by rw [stepsP, if_neg hb1, if_neg hb2, if_pos hb3]
    rw [e]; refine hc_seq (hc_region ?_); refine r_store rfl rfl (by first | exact .refl _ | exact perm2 _ _ _ | exact perm3 _ _ _ _ | exact perm4 _ _ _ _ _) T.sz_ints (by rfl) (by rfl) ?_; refine r_store rfl rfl (by first | exact .refl _ | exact perm2 _ _ _ | exact perm3 _ _ _ _ | exact perm4 _ _ _ _ _) T.sz_api_Errno (by rfl) (by rfl) ?_; refine hl_nil (then_n (hc_ret (inb_ret (then_ret (ng_ret ?_))))); refine hq_nilrow (α := Int) ?_; exact ret_marks [] (none, 0) rfl (.refl _) (res_cells2 rfl rfl rfl T.cell_ints T.cell_api_Errno (cell_own mB rfl) (cell_own mB rfl)) rfl trivial (List.nil_sublist _) ⟨m0, trivial⟩
   ·have hb3' := hb3; try simp at hb3'
    refine hc_seq (hc_region ?_)
    first | refine r_load rfl T.cell_strs rfl (cell_own mB rfl) ?_ | refine r_load rfl T.cell_strs rfl (cell_blk mB rfl) ?_ | refine r_load rfl T.cell_strs rfl (cell_row mB (rows_get0 (by omega) rfl)) ?_ | refine r_load rfl T.cell_strs rfl (cell_row_f mB (rows_get (by omega) rfl)) ?_
    refine r_len_sl rfl T.u_strs rfl ?_
    first | refine r_load rfl T.cell_int rfl (cell_own mB rfl) ?_ | refine r_load rfl T.cell_int rfl (cell_blk mB rfl) ?_ | refine r_load rfl T.cell_int rfl (cell_row mB (rows_get0 (by omega) rfl)) ?_ | refine r_load rfl T.cell_int rfl (cell_row_f mB (rows_get (by omega) rfl)) ?_
    refine r_gtr rfl rfl rfl (r_assign rfl rfl (hl_nil (then_n ?_)))
    first | refine c_dec rfl (fun hb4 => ?_) (fun hb4 => ?_) | refine hc_cond rfl (fun hb4 => ?_) (fun hb4 => ?_)
    ·have hb4' := hb4; try simp at hb4'
     have e : stepsP p l most = ([], 12) := by rw [stepsP, if_neg hb1, if_neg hb2, if_neg hb3, if_pos hb4]
     rw [e]; refine hc_seq (hc_region ?_); refine r_store rfl rfl (by first | exact .refl _ | exact perm2 _ _ _ | exact perm3 _ _ _ _ | exact perm4 _ _ _ _ _) T.sz_ints (by rfl) (by rfl) ?_; refine r_store rfl rfl (by first | exact .refl _ | exact perm2 _ _ _ | exact perm3 _ _ _ _ | exact perm4 _ _ _ _ _) T.sz_api_Errno (by rfl) (by rfl) ?_; refine hl_nil (then_n (hc_ret (inb_ret (then_ret (ng_ret ?_))))); refine hq_nilrow (α := Int) ?_; exact ret_marks [] (none, 0) rfl (.refl _) (res_cells2 rfl rfl rfl T.cell_ints T.cell_api_Errno (cell_own mB rfl) (cell_own mB rfl)) rfl trivial (List.nil_sublist _) ⟨m0, trivial⟩
    ·have hb4' := hb4; try simp at hb4'
     have e : stepsP p l most = ((growF l.length (orderOK l most p.length) l.length []).getD [], if (growF l.length (orderOK l most p.length) l.length []).isSome then 0 else 11) := by rw [stepsP, if_neg hb1, if_neg hb2, if_neg hb3, if_neg hb4]
     rw [e]; refine hc_skip (inb_n (then_n (hc_seq (hc_label (then_n (hc_seq (hc_seq (hc_region ?_))))))))
     first | refine r_load rfl T.cell_L_api_Mark rfl (cell_own mB rfl) ?_ | refine r_load rfl T.cell_L_api_Mark rfl (cell_blk mB rfl) ?_ | refine r_load rfl T.cell_L_api_Mark rfl (cell_row mB (rows_get0 (by omega) rfl)) ?_ | refine r_load rfl T.cell_L_api_Mark rfl (cell_row_f mB (rows_get (by omega) rfl)) ?_
     refine r_len_sl rfl T.u_L_api_Mark rfl ?_; refine hl_call F.proof_orders_cb rfl rfl (proof_orders_meets l.length) (List.Perm.refl _) trivial fun gn _ => ?_; refine hl_nil (then_n (hc_block ?_)); refine hc_rangeFunc (β := OrdO) (cap := [ptr gn]) (hpR := []) [cellI g6 (.slice none 0 0), cellE g7 0] ([boxN gn l.length] ++ [Row A (rows p), Row B (rows l), Blk g3 (.cells #[.slice A p.length ca] T.strs (0, 0)), Blk g4 (.cells #[.slice B l.length cb] T.L_api_Mark (0, 0)), Blk g5 (.cells #[int most] T.int (0, 0))]) (fun x => growF l.length (orderOK l most p.length) l.length [] = x.map (·.1)) (fun _ => .tuple #[]) ordJ (ordR [cellI g6 (.slice none 0 0), cellE g7 0] (fun o out => [cellI g6 (.slice out.1 o.length out.2), cellE g7 0])) ordL rfl F.proof_orders_1_cb (.refl _) ⟨m0, m4, m5, m3, m2, m1, trivial⟩ ?_ ?_ ?_
     ·intro lb d fn tmps hsz hfr; refine proof_orders_1_meets (lb := lb) (rc := recL fn tmps #[34] _ _ d) (R0 := [cellI g6 (.slice none 0 0), cellE g7 0]) (R1 := (fun o out => [cellI g6 (.slice out.1 o.length out.2), cellE g7 0])) (LI0 := [Row A (rows p), Row B (rows l), Blk g3 (.cells #[.slice A p.length ca] T.strs (0, 0)), Blk g4 (.cells #[.slice B l.length cb] T.L_api_Mark (0, 0)), Blk g5 (.cells #[int most] T.int (0, 0))]) (p := (orderOK l most p.length)) (n := l.length) (by omega) (fun o A2 c2 hlo hio => ?_); refine meetsY_intro m0 hsz hfr rfl (by intro t ht; simp at ht; subst ht; exact Nat.lt_of_lt_of_le (show 34 < 61 by decide) (Nat.le_refl _)) fun w => ?_; refine hc_regionR rfl (r_assign rfl rfl (hl_nil ?_)); refine then_begin (.refl _) ?_; refine hc_block (hc_seq (hc_regionR rfl ?_))
      first | refine r_load rfl T.cell_strs rfl (cell_own mB rfl) ?_ | refine r_load rfl T.cell_strs rfl (cell_blk mB rfl) ?_ | refine r_load rfl T.cell_strs rfl (cell_row mB (rows_get0 (by omega) rfl)) ?_ | refine r_load rfl T.cell_strs rfl (cell_row_f mB (rows_get (by omega) rfl)) ?_
      refine r_len_sl rfl T.u_strs rfl ?_; refine r_assign rfl rfl (hl_nil (then_n (hc_seq (hc_seq (hc_regionR rfl (r_move rfl rfl ?_)))))); refine r_len_sl rfl T.u_ints rfl ?_; refine r_move rfl rfl (hl_nil (then_n (hc_block ?_))); refine hc_loop (β := Nat × Int) ⟨fun ⟨k, m⟩ => k ≤ o.length ∧ orderOK l most p.length o = orderOK l most m (o.drop k) ∧ -(k : Int) ≤ m ∧ m ≤ 6 + k, fun ⟨k, m⟩ => [(3, ptr g3), (4, ptr g4), (5, ptr g5), (6, ptr g6), (7, ptr g7), (9, .slice A2 o.length c2), (10, int m), (37, .slice A2 o.length c2), (38, int o.length), (39, int k)], fun _ => (lb, .loop (recB fn tmps #[34] _ _ d)) :: [cellI g6 (.slice none 0 0), cellE g7 0], fun _ => [Row A2 (rows o), Row A (rows p), Row B (rows l), Blk g3 (.cells #[.slice A p.length ca] T.strs (0, 0)), Blk g4 (.cells #[.slice B l.length cb] T.L_api_Mark (0, 0)), Blk g5 (.cells #[int most] T.int (0, 0))]⟩ (fun x => o.length - x.1) (0, (p.length : Int)) ⟨Nat.zero_le _, rfl, by omega, by omega⟩ ⟨rfl, rfl, rfl, rfl, rfl, rfl, rfl, rfl, rfl, rfl, trivial⟩ (.refl _) ⟨m0, m1, m2, m3, m4, m5, trivial⟩ fun x hx => ?_; obtain ⟨k, m⟩ := x; obtain ⟨hk, hq, hm1, hm2⟩ := hx; refine hc_seq (hc_regionR rfl (r_lss rfl rfl rfl (hl_nil (then_n (hc_seq ?_)))))
      first | refine c_dec rfl (fun hb5 => ?_) (fun hb5 => ?_) | refine hc_cond rfl (fun hb5 => ?_) (fun hb5 => ?_)
      ·have hb5' := hb5; try simp at hb5'
       have hk2 : k < o.length := by omega
       have hio2 := hio _ (getD_mem hk2); have e2 : m + -1 = m - 1 := rfl; refine hc_skip (then_n (hc_seq (hc_block (hc_seq (hc_regionR rfl ?_))))); refine r_elem (α := Int) _ _ rfl T.u_ints T.sz_int rfl rfl rfl mB rfl (by omega) (by decide) ?_; refine r_load rfl T.cell_int rfl (cell_row mB (rows_get0 (by omega) rfl)) ?_; refine r_assign rfl rfl (hl_nil (then_n (hc_seq (hc_seq (hc_regionR rfl ?_)))))
       first | refine r_load rfl T.cell_L_api_Mark rfl (cell_own mB rfl) ?_ | refine r_load rfl T.cell_L_api_Mark rfl (cell_blk mB rfl) ?_ | refine r_load rfl T.cell_L_api_Mark rfl (cell_row mB (rows_get0 (by omega) rfl)) ?_ | refine r_load rfl T.cell_L_api_Mark rfl (cell_row_f mB (rows_get (by omega) rfl)) ?_
       refine r_move rfl rfl ?_; refine r_elem (α := Mk) l (o.getD k default).toNat rfl T.u_L_api_Mark T.sz_api_Mark rfl rfl (by omega) m2 rfl (by omega) (by decide) ?_
       first | refine r_fieldAddr ⟨_, 0, none⟩ rfl rfl T.fa_api_Mark_0 rfl ?_ | refine r_fieldAddr _ rfl rfl T.fa_api_Mark_0 rfl ?_
       refine r_load rfl T.cell_int rfl (cell_row mB (rows_get0 (by omega) rfl)) ?_; refine hl_nil (then_n (hc_block (hc_seq (hc_regionR rfl (r_eql rfl rfl rfl (r_assign rfl rfl (hl_nil (then_n ?_))))))))
       first | refine c_dec rfl (fun hb6 => ?_) (fun hb6 => ?_) | refine hc_cond rfl (fun hb6 => ?_) (fun hb6 => ?_)
       ·have hb6' := hb6; try simp at hb6'
        have hgr : growsM (l.getD (o.getD k default).toNat default) = 1 := by rw [growsM, if_pos hb6]
        refine hc_regionR rfl (r_move rfl rfl ?_); refine r_add _ rfl rfl rfl rfl (by unfold I64; omega) ?_; refine r_assign rfl rfl (hl_nil (inb_n (then_n (hc_seq (hc_regionR rfl (r_move rfl rfl ?_))))))
        first | refine r_load rfl T.cell_int rfl (cell_own mB rfl) ?_ | refine r_load rfl T.cell_int rfl (cell_blk mB rfl) ?_ | refine r_load rfl T.cell_int rfl (cell_row mB (rows_get0 (by omega) rfl)) ?_ | refine r_load rfl T.cell_int rfl (cell_row_f mB (rows_get (by omega) rfl)) ?_
        refine r_gtr rfl rfl rfl (hl_nil (then_n ?_))
        first | refine c_dec rfl (fun hb8 => ?_) (fun hb8 => ?_) | refine hc_cond rfl (fun hb8 => ?_) (fun hb8 => ?_)
        ·have hb8' := hb8; try simp at hb8'
         refine hc_exit (inb_miss rfl (then_exit (then_exit (inb_miss rfl (then_exit (inb_hit ?_)))))); have hf : orderOK l most p.length o = false := by rw [hq, order_drop hk2, hgr, if_pos hb8]
         exact rp_n () (.refl _) rfl (by show Value.bool (!(orderOK l most p.length o)) = _; rw [hf]; rfl) trivial (by show List.Sublist (if orderOK l most p.length o = true then _ else _) _; rw [if_neg (by rw [hf]; decide)]; exact .refl _) trivial
        ·have hb8' := hb8; try simp at hb8'
         refine hc_skip (inb_n (then_n (hc_regionR rfl ?_))); refine r_add _ rfl rfl rfl rfl (by unfold I64; omega) ?_; refine r_move rfl rfl (hl_nil ?_); exact again _ (k + 1, m + 1) ⟨by omega, by rw [hq, order_drop hk2]; rw [hgr, if_neg hb8], by omega, by omega⟩ (by show o.length - (k + 1) < o.length - k; omega) ⟨rfl, rfl, rfl, rfl, rfl, rfl, rfl, rfl, rfl, rfl, trivial⟩ (.refl _) ⟨m0, m1, m2, m3, m4, m5, trivial⟩
       ·have hb6' := hb6; try simp at hb6'
        refine hc_seq (hc_regionR rfl (r_eql rfl rfl rfl (r_assign rfl rfl (hl_nil (then_n ?_)))))
        first | refine c_dec rfl (fun hb7 => ?_) (fun hb7 => ?_) | refine hc_cond rfl (fun hb7 => ?_) (fun hb7 => ?_)
        ·have hb7' := hb7; try simp at hb7'
         have hgr : growsM (l.getD (o.getD k default).toNat default) = -1 := by rw [growsM, if_neg hb6, if_pos hb7]
         refine hc_regionR rfl (r_move rfl rfl ?_); refine r_sub _ rfl rfl rfl rfl (by unfold I64; omega) ?_; refine r_assign rfl rfl (hl_nil (inb_n (then_n (hc_seq (hc_regionR rfl (r_move rfl rfl ?_))))))
         first | refine r_load rfl T.cell_int rfl (cell_own mB rfl) ?_ | refine r_load rfl T.cell_int rfl (cell_blk mB rfl) ?_ | refine r_load rfl T.cell_int rfl (cell_row mB (rows_get0 (by omega) rfl)) ?_ | refine r_load rfl T.cell_int rfl (cell_row_f mB (rows_get (by omega) rfl)) ?_
         refine r_gtr rfl rfl rfl (hl_nil (then_n ?_))
         first | refine c_dec rfl (fun hb8 => ?_) (fun hb8 => ?_) | refine hc_cond rfl (fun hb8 => ?_) (fun hb8 => ?_)
         ·have hb8' := hb8; try simp at hb8'
          refine hc_exit (inb_miss rfl (then_exit (then_exit (inb_miss rfl (then_exit (inb_hit ?_)))))); have hf : orderOK l most p.length o = false := by rw [hq, order_drop hk2, hgr, e2, if_pos hb8]
          exact rp_n () (.refl _) rfl (by show Value.bool (!(orderOK l most p.length o)) = _; rw [hf]; rfl) trivial (by show List.Sublist (if orderOK l most p.length o = true then _ else _) _; rw [if_neg (by rw [hf]; decide)]; exact .refl _) trivial
         ·have hb8' := hb8; try simp at hb8'
          refine hc_skip (inb_n (then_n (hc_regionR rfl ?_))); refine r_add _ rfl rfl rfl rfl (by unfold I64; omega) ?_; refine r_move rfl rfl (hl_nil ?_); exact again _ (k + 1, m - 1) ⟨by omega, by rw [hq, order_drop hk2]; rw [hgr, e2, if_neg hb8], by omega, by omega⟩ (by show o.length - (k + 1) < o.length - k; omega) ⟨rfl, rfl, rfl, rfl, rfl, rfl, rfl, rfl, rfl, rfl, trivial⟩ (.refl _) ⟨m0, m1, m2, m3, m4, m5, trivial⟩
        ·have hb7' := hb7; try simp at hb7'
         have hgr : growsM (l.getD (o.getD k default).toNat default) = 0 := by rw [growsM, if_neg hb6, if_neg hb7]
         refine hc_skip (inb_n (then_n (hc_seq (hc_regionR rfl (r_move rfl rfl ?_)))))
         first | refine r_load rfl T.cell_int rfl (cell_own mB rfl) ?_ | refine r_load rfl T.cell_int rfl (cell_blk mB rfl) ?_ | refine r_load rfl T.cell_int rfl (cell_row mB (rows_get0 (by omega) rfl)) ?_ | refine r_load rfl T.cell_int rfl (cell_row_f mB (rows_get (by omega) rfl)) ?_
         refine r_gtr rfl rfl rfl (hl_nil (then_n ?_))
         first | refine c_dec rfl (fun hb8 => ?_) (fun hb8 => ?_) | refine hc_cond rfl (fun hb8 => ?_) (fun hb8 => ?_)
         ·have hb8' := hb8; try simp at hb8'
          refine hc_exit (inb_miss rfl (then_exit (then_exit (inb_miss rfl (then_exit (inb_hit ?_)))))); have hf : orderOK l most p.length o = false := by rw [hq, order_drop hk2, hgr, Int.add_zero, if_pos hb8]
          exact rp_n () (.refl _) rfl (by show Value.bool (!(orderOK l most p.length o)) = _; rw [hf]; rfl) trivial (by show List.Sublist (if orderOK l most p.length o = true then _ else _) _; rw [if_neg (by rw [hf]; decide)]; exact .refl _) trivial
         ·have hb8' := hb8; try simp at hb8'
          refine hc_skip (inb_n (then_n (hc_regionR rfl ?_))); refine r_add _ rfl rfl rfl rfl (by unfold I64; omega) ?_; refine r_move rfl rfl (hl_nil ?_); exact again _ (k + 1, m) ⟨by omega, by rw [hq, order_drop hk2]; rw [hgr, Int.add_zero, if_neg hb8], by omega, by omega⟩ (by show o.length - (k + 1) < o.length - k; omega) ⟨rfl, rfl, rfl, rfl, rfl, rfl, rfl, rfl, rfl, rfl, trivial⟩ (.refl _) ⟨m0, m1, m2, m3, m4, m5, trivial⟩
      ·have hb5' := hb5; try simp at hb5'
       have hk2 : k = o.length := by omega
       refine hc_exit (then_exit (then_exit (inb_hit (then_n (hc_seq (hc_regionR rfl (r_move rfl rfl ?_))))))); refine r_store rfl rfl (by first | exact .refl _ | exact perm2 _ _ _ | exact perm3 _ _ _ _ | exact perm4 _ _ _ _ _) T.sz_ints (by rfl) (by rfl) ?_; refine r_store rfl rfl (by first | exact .refl _ | exact perm2 _ _ _ | exact perm3 _ _ _ _ | exact perm4 _ _ _ _ _) T.sz_api_Errno (by rfl) (by rfl) ?_; refine hl_nil (then_n (hc_ret (inb_ret ?_))); have ht : orderOK l most p.length o = true := by rw [hq, hk2, List.drop_length]; rfl
       refine rp_ret (hp' := [cellI g6 (.slice A2 o.length c2), cellE g7 0]) () (List.reverse_perm _).symm rfl (by show Value.bool (!(orderOK l most p.length o)) = _; rw [ht]; rfl) trivial (by show List.Sublist (if orderOK l most p.length o = true then _ else _) _; rw [if_pos ht]; exact .refl _) trivial
     ·intro x d hx hp; obtain rfl : x = none := by cases x with | none => rfl | some y => cases hp
      refine inb_n (then_n (hc_seq (hc_region ?_))); refine r_store rfl rfl (by first | exact .refl _ | exact perm2 _ _ _ | exact perm3 _ _ _ _ | exact perm4 _ _ _ _ _) T.sz_ints (by rfl) (by rfl) ?_; refine r_store rfl rfl (by first | exact .refl _ | exact perm2 _ _ _ | exact perm3 _ _ _ _ | exact perm4 _ _ _ _ _) T.sz_api_Errno (by rfl) (by rfl) ?_; refine hl_nil (then_n (hc_ret (ng_ret ?_))); have hx : growF l.length (orderOK l most p.length) l.length [] = none := hx; rw [hx]; refine hq_nilrow (α := Int) ?_; exact ret_marks [d] (none, 0) rfl (List.reverse_perm _).symm (res_cells2 rfl rfl rfl T.cell_ints T.cell_api_Errno (cell_own mB rfl) (cell_own mB rfl)) rfl trivial (List.nil_sublist _) ⟨m0, trivial⟩
     ·intro x d j hx hp; obtain ⟨y, rfl⟩ : ∃ y, x = some y := by cases x with | none => cases hp | some y => exact ⟨y, rfl⟩
      cases hp
      refine hc_ret (inb_ret (then_ret (ng_ret ?_))); have hx : growF l.length (orderOK l most p.length) l.length [] = some y.1 := hx; rw [hx]; exact ret_marks [d] y.2 rfl (.refl _) (res_cells2 rfl rfl rfl T.cell_ints T.cell_api_Errno (cell_own mB rfl) (cell_own mB rfl)) rfl trivial (List.nil_sublist _) ⟨m0, trivial⟩
def stepsF (l : List Mk) (most : Int) : Nat → List Int → Int → Option (List Int)
  | 0, done, _ => some done
  | d + 1, done, lines => (List.range l.length).findSome? fun i : Nat => if (i : Int) ∈ done ∨ most < lines + growsM (l.getD i default) then none else stepsF l most d (done ++ [(i : Int)]) (lines + growsM (l.getD i default))
def outB (r : Option (List Int)) : Con OutC := { val := fun x => .tuple #[.slice x.1 (r.getD []).length x.2, .bool r.isSome], LO := fun x => [Row x.1 (rows (r.getD []))] }
def stepsR (p : List Str) (l : List Mk) (most : Int) : List Int × Int :=
  if ¬ checkErr p l = 0 then ([], checkErr p l) else if 5 < l.length then ([], 6) else if most < 0 then ([], 1) else if most < p.length then ([], 12)
  else if (stepsF l most l.length [] p.length).isSome then ((stepsF l most l.length [] p.length).getD [], 0) else ([], 11)
end Go.Proofs.Ytpfbbggmcbhboaa
end
section
namespace Go.Proofs.Ytpfbbggmcbhboaa
open Go Go.W
set_option maxRecDepth 20000
attribute [local irreducible] HL HC HQ HB Row Rows2 Blk Facts
abbrev sAnna : Str := [97, 110, 110, 97]
abbrev sBea : Str := [98, 101, 97]
abbrev sBen : Str := [98, 101, 110]
abbrev sCid : Str := [99, 105, 100]
abbrev sCyd : Str := [99, 121, 100]
abbrev sAbe : Str := [97, 98, 101]
abbrev sDan : Str := [100, 97, 110]
abbrev folkL : List Str := [sAnna, sBen, sCyd]
abbrev slipL : List Mk := [(1, 1, sBea), (2, 2, sCid)]
abbrev newL : List Str := [sAnna, sBea, sBen, sCid]
def diffN (old page : List Str) : Nat → Nat → Nat → Lst
  | 0, _, _ => (0, [])
  | d + 1, i, j => leastOf ((if i = old.length ∧ j = page.length then [(0, [])] else []) ++
    (if j < page.length then [behindP (diffN old page d i (j + 1)) (1, (i : Int), page.getD j default)] else []) ++
    (if i < old.length then [behindP (diffN old page d (i + 1) j) (3, (i : Int), [])] else []) ++
    (if i < old.length ∧ j < page.length then behindP (diffN old page d (i + 1) (j + 1)) (2, (i : Int), page.getD j default) :: (if old.getD i default = page.getD j default then [diffN old page d (i + 1) (j + 1)] else []) else []))
theorem diffN_eq (old page : List Str) : ∀ (d i j : Nat), (old.length - i) + (page.length - j) < d → diffN old page d i j = diffP old page i j := by
  intro d
  induction d with
  | zero => intro i j h; omega
  | succ d ih =>
    intro i j h; unfold diffN diffP
    congr 1
    congr 1
    · congr 1
      · congr 1
        by_cases hj : j < page.length
        · rw [if_pos hj, dif_pos hj, ih i (j + 1) (by omega)]
        · rw [if_neg hj, dif_neg hj]
      · by_cases hi : i < old.length
        · rw [if_pos hi, dif_pos hi, ih (i + 1) j (by omega)]
        · rw [if_neg hi, dif_neg hi]
    · by_cases hi : i < old.length ∧ j < page.length
      · rw [if_pos hi, dif_pos hi, ih (i + 1) (j + 1) (by omega)]
      · rw [if_neg hi, dif_neg hi]
theorem ex_apply : applyP folkL slipL = (newL, 0) := by decide +kernel
theorem ex_diff : diffE folkL newL (diffP folkL newL 0 0).2 = (slipL, 0) := by rw [← diffN_eq folkL newL 10 0 0 (by decide)]; decide +kernel
theorem ex_steps : stepsP folkL [(1, 0, sAbe), (3, 1, []), (3, 2, [])] 3 = ([1, 0, 2], 0) := by decide +kernel
theorem ex_origin (a b : Option Addr) : originE [⟨a, 2, [sAnna, sBen]⟩, ⟨b, 2, [sAnna, sCyd]⟩] [sAnna, sBen, sDan] = ([1, 0, -1], 0) := by rfl
theorem ex_look (a b : Option Addr) : lookP [⟨a, 2, [sAnna, sBen]⟩, ⟨b, 2, [sAnna, sCyd]⟩] [(1, 2, sDan)] [sAnna, sCyd, sBen, sDan] = ((2, 2), 0) := by
  have e1 : yearsErr (years [⟨a, 2, [sAnna, sBen]⟩, ⟨b, 2, [sAnna, sCyd]⟩]) = 0 := by show yearsErr [[sAnna, sBen], [sAnna, sCyd]] = 0; decide +kernel
  have e2 : (lastP [⟨a, 2, [sAnna, sBen]⟩, ⟨b, 2, [sAnna, sCyd]⟩]).l = [sAnna, sCyd] := rfl; have e3 : applyP [sAnna, sCyd] [(1, 2, sDan)] = ([sAnna, sCyd, sDan], 0) := by decide +kernel
  have e4 : pageErr [sAnna, sCyd, sBen, sDan] = 0 := by decide +kernel
  have e5 : (diffP [sAnna, sCyd, sDan] [sAnna, sCyd, sBen, sDan] 0 0).2 = [(1, 2, sBen)] := by rw [← diffN_eq _ _ 10 0 0 (by decide)]; decide +kernel
  unfold lookP; rw [e1, e2, e3, e4, e5]
  rfl
theorem law07_folk_meets : Meets Try.prog F.law07_folk [] (outSl folkL) := by
 refine meets_intro F.law07_folk_f rfl (Nat.le_of_ble_eq_true rfl) fun w0 => ?_; refine hc_seq (hc_region (r_assign rfl rfl (hl_nil (then_n (hc_seq (hc_region ?_)))))); refine r_buildSlice _ rfl rfl (fun _ => T.bs_strs_3 ..) fun gS => ?_; refine r_assign rfl rfl (hl_nil (then_n (hc_ret ?_))); refine hq_letgo (rows folkL) (List.prefix_refl _) ?_; exact ret1 (some ⟨gS, 0, none⟩, 3) rfl rfl rfl (Nat.le_refl _) (.refl _) ⟨m0, trivial⟩
theorem law07_in_meets (n : Int) (s : Str) : Meets Try.prog F.law07_in [int n, str s] { val := fun _ : Unit => .agg #[int 1, int n, str s] } := by
 refine meets_intro F.law07_in_f rfl (Nat.le_of_ble_eq_true rfl) fun w0 => ?_; refine hc_seq (hc_region ?_); refine r_alloc rfl (fun _ => T.al_api_Mark _) fun gA => ?_; refine hl_nil (then_n (hc_seq (hc_region (r_move rfl rfl (r_move rfl rfl ?_))))); refine r_build _ rfl rfl (fun _ => T.bd_api_Mark_0_1_2 ..) ?_; refine r_storeS rfl rfl (by first | exact .refl _ | exact perm2 _ _ _ | exact perm3 _ _ _ _ | exact perm4 _ _ _ _ _) T.sz_api_Mark (by rfl) (by rfl) ?_; refine hl_nil (then_n (hc_ret ?_)); exact ret_row () rfl rfl T.row_api_Mark T.sz_api_Mark rfl m0 rfl rfl trivial (List.nil_sublist _) trivial
theorem law07_set_meets (n : Int) (s : Str) : Meets Try.prog F.law07_set [int n, str s] { val := fun _ : Unit => .agg #[int 2, int n, str s] } := by
 refine meets_intro F.law07_set_f rfl (Nat.le_of_ble_eq_true rfl) fun w0 => ?_; refine hc_seq (hc_region ?_); refine r_alloc rfl (fun _ => T.al_api_Mark _) fun gA => ?_; refine hl_nil (then_n (hc_seq (hc_region (r_move rfl rfl (r_move rfl rfl ?_))))); refine r_build _ rfl rfl (fun _ => T.bd_api_Mark_0_1_2 ..) ?_; refine r_storeS rfl rfl (by first | exact .refl _ | exact perm2 _ _ _ | exact perm3 _ _ _ _ | exact perm4 _ _ _ _ _) T.sz_api_Mark (by rfl) (by rfl) ?_; refine hl_nil (then_n (hc_ret ?_)); exact ret_row () rfl rfl T.row_api_Mark T.sz_api_Mark rfl m0 rfl rfl trivial (List.nil_sublist _) trivial
theorem law07_out_meets (n : Int) : Meets Try.prog F.law07_out [int n] { val := fun _ : Unit => .agg #[int 3, int n, str []] } := by
 refine meets_intro F.law07_out_f rfl (Nat.le_of_ble_eq_true rfl) fun w0 => ?_; refine hc_seq (hc_region ?_); refine r_alloc rfl (fun _ => T.al_api_Mark _) fun gA => ?_; refine hl_nil (then_n (hc_seq (hc_region (r_move rfl rfl ?_)))); refine r_build _ rfl rfl (fun _ => T.bd_api_Mark_0_1 ..) ?_; refine r_storeS rfl rfl (by first | exact .refl _ | exact perm2 _ _ _ | exact perm3 _ _ _ _ | exact perm4 _ _ _ _ _) T.sz_api_Mark (by rfl) (by rfl) ?_; refine hl_nil (then_n (hc_ret ?_)); exact ret_row () rfl rfl T.row_api_Mark T.sz_api_Mark rfl m0 rfl rfl trivial (List.nil_sublist _) trivial
theorem law07_slip_meets : Meets Try.prog F.law07_slip [] (outSl slipL) := by
 refine meets_intro F.law07_slip_f rfl (Nat.le_of_ble_eq_true rfl) fun w0 => ?_; refine hc_seq (hc_region (r_assign rfl rfl (hl_nil (then_n (hc_seq (hc_region ?_)))))); refine hl_call F.law07_in_cb rfl rfl (law07_in_meets 1 sBea) (List.Perm.refl _) trivial fun _ _ => ?_; refine hl_call F.law07_set_cb rfl rfl (law07_set_meets 2 sCid) (List.Perm.refl _) trivial fun _ _ => ?_; refine r_buildSlice _ rfl rfl (fun _ => T.bs_L_api_Mark_2 ..) fun gS => ?_; refine r_assign rfl rfl (hl_nil (then_n (hc_ret ?_))); refine hq_letgo (rows slipL) (List.prefix_refl _) ?_; exact ret1 (some ⟨gS, 0, none⟩, 2) rfl rfl rfl (Nat.le_refl _) (.refl _) ⟨m0, trivial⟩
def agesP (x : OutC × Option Addr × Option Addr) : List (Sl Str) := [⟨x.2.1, 2, [sAnna, sBen]⟩, ⟨x.2.2, 2, [sAnna, sCyd]⟩]
theorem law07_ages_meets : Meets Try.prog F.law07_ages [] { inv := fun x : OutC × Option Addr × Option Addr => 2 ≤ x.1.2, val := fun x => .slice x.1.1 2 x.1.2, LO := fun x => [Rows2 x.1.1 (agesP x)] } := by
 refine meets_intro F.law07_ages_f rfl (Nat.le_of_ble_eq_true rfl) fun w0 => ?_; refine hc_seq (hc_region (r_assign rfl rfl (hl_nil (then_n (hc_seq (hc_region ?_)))))); refine r_buildSlice _ rfl rfl (fun _ => T.bs_strs_2 ..) fun ga => ?_; refine r_buildSlice _ rfl rfl (fun _ => T.bs_strs_2 ..) fun gb => ?_; refine r_buildSlice _ rfl rfl (fun _ => T.bs_pages_2 ..) fun gS => ?_; refine r_assign rfl rfl (hl_nil (then_n (hc_ret ?_))); refine hq_letgo (rows [(⟨some ⟨ga, 0, none⟩, 2, [sAnna, sBen]⟩ : Sl Str), ⟨some ⟨gb, 0, none⟩, 2, [sAnna, sCyd]⟩]) (List.prefix_refl _) ?_; refine hq_letgo (rows [sAnna, sCyd]) (List.prefix_refl _) ?_; refine hq_letgo (rows [sAnna, sBen]) (List.prefix_refl _) ?_; refine hq_rows2 (A := some ⟨gS, 0, none⟩) (ps := [(⟨some ⟨ga, 0, none⟩, 2, [sAnna, sBen]⟩ : Sl Str), ⟨some ⟨gb, 0, none⟩, 2, [sAnna, sCyd]⟩]) m2 (by intro p hp; simp at hp; rcases hp with rfl | rfl; exact m0; exact m1) ?_; exact ret1 ((some ⟨gS, 0, none⟩, 2), some ⟨ga, 0, none⟩, some ⟨gb, 0, none⟩) rfl rfl rfl (Nat.le_refl _) (.refl _) ⟨m0, trivial⟩
abbrev orderM : List Mk := [(1, 0, sAbe), (3, 1, []), (3, 2, [])]
theorem ex_apply_meets {A B : Option Addr} {ca cb : Nat} (hc : 3 ≤ ca) : Meets Try.prog F.proof_Apply [.slice A 3 ca, .slice B 2 cb] { outErr (newL, (0 : Int)) with LI := [Row A (rows folkL), Row B (rows slipL)] } := by
  have h := proof_Apply_meets (A := A) (B := B) (ca := ca) (cb := cb) folkL slipL hc; rw [ex_apply] at h; exact h
theorem ex_diff_meets {A B : Option Addr} {ca cb : Nat} : Meets Try.prog F.proof_Diff [.slice A 3 ca, .slice B 4 cb] { outE (slipL, (0 : Int)) with LI := [Row A (rows folkL), Row B (rows newL)] } := by
  have h := proof_Diff_meets (A := A) (B := B) (ca := ca) (cb := cb) folkL newL; rw [ex_diff] at h; exact h
theorem ex_steps_meets {A B : Option Addr} {ca cb : Nat} : Meets Try.prog F.proof_Steps [.slice A 3 ca, .slice B 3 cb, int 3] { outE (([1, 0, 2] : List Int), (0 : Int)) with LI := [Row A (rows folkL), Row B (rows orderM)] } := by
  have h := proof_Steps_meets (A := A) (B := B) (ca := ca) (cb := cb) folkL orderM 3; rw [ex_steps] at h; exact h
theorem ex_origin_meets {B : Option Addr} {cb : Nat} (y : OutC × Option Addr × Option Addr) : Meets Try.prog F.proof_Origin [.slice y.1.1 2 y.1.2, .slice B 3 cb] { outErr (([1, 0, -1] : List Int), (0 : Int)) with LI := [Rows2 y.1.1 (agesP y), Row B (rows [sAnna, sBen, sDan])] } := by
  have h := proof_Origin_meets (A := y.1.1) (B := B) (ca := y.1.2) (cb := cb) (agesP y) [sAnna, sBen, sDan]; rw [agesP, ex_origin] at h; exact h
theorem ex_look_meets {B C : Option Addr} {cb cc : Nat} (y : OutC × Option Addr × Option Addr) (hy : 2 ≤ y.1.2) : Meets Try.prog F.proof_Look [.slice y.1.1 2 y.1.2, .slice B 1 cb, .slice C 4 cc] { LI := [Rows2 y.1.1 (agesP y), Row B (rows [((1, 2, sDan) : Mk)]), Row C (rows [sAnna, sCyd, sBen, sDan])], val := fun _ : Unit => .tuple #[.agg #[int 2, int 2], int 0] } := by
  have h := proof_Look_meets (A := y.1.1) (B := B) (C := C) (ca := y.1.2) (cb := cb) (cc := cc) (agesP y) [(1, 2, sDan)] [sAnna, sCyd, sBen, sDan] hy (by intro q hq; simp [agesP] at hq; rcases hq with rfl | rfl <;> simp); rw [agesP, ex_look] at h; exact h
set_option maxHeartbeats 1000000 in
theorem law07_correcting_meets : Meets Try.prog F.law07_correcting [] { val := fun _ : Unit => .bool true } := by
 refine meets_intro F.law07_correcting_f rfl (Nat.le_of_ble_eq_true rfl) fun w0 => ?_; refine hc_seq (hc_region (r_assign rfl rfl (hl_nil (then_n (hc_seq (hc_region ?_)))))); refine hl_call F.law07_folk_cb rfl rfl (law07_folk_meets) (List.Perm.refl _) trivial fun x1 hx1 => ?_; refine hl_call F.law07_slip_cb rfl rfl (law07_slip_meets) (List.Perm.refl _) trivial fun x2 hx2 => ?_; refine hl_call F.proof_Apply_cb rfl rfl (ex_apply_meets hx1) (List.Perm.refl _) ⟨m1, m0, trivial⟩ fun x3 hx3 => ?_; refine r_move rfl rfl (r_extract rfl rfl rfl (r_extract rfl rfl rfl (r_assign rfl rfl (r_assign rfl rfl (hl_nil (then_n (hc_seq (hc_region ?_)))))))); refine hl_call F.law07_folk_cb rfl rfl (law07_folk_meets) (List.Perm.refl _) trivial fun x4 hx4 => ?_; refine r_buildSlice _ rfl rfl (fun _ => T.bs_strs_4 ..) fun gS => ?_; refine hl_letgo (rows newL) (List.prefix_refl _) ?_; refine hl_call F.proof_Diff_cb rfl rfl (ex_diff_meets) (List.Perm.refl _) ⟨m1, m0, trivial⟩ fun x5 _ => ?_; refine r_move rfl rfl (r_extract rfl rfl rfl (r_extract rfl rfl rfl (r_assign rfl rfl (r_assign rfl rfl (hl_nil (then_n (hc_seq (hc_region ?_)))))))); refine hl_call F.law07_folk_cb rfl rfl (law07_folk_meets) (List.Perm.refl _) trivial fun x6 hx6 => ?_; refine hl_call F.law07_in_cb rfl rfl (law07_in_meets 0 sAbe) (List.Perm.refl _) trivial fun _ _ => ?_; refine hl_call F.law07_out_cb rfl rfl (law07_out_meets 1) (List.Perm.refl _) trivial fun _ _ => ?_; refine hl_call F.law07_out_cb rfl rfl (law07_out_meets 2) (List.Perm.refl _) trivial fun _ _ => ?_; refine r_buildSlice _ rfl rfl (fun _ => T.bs_L_api_Mark_3 ..) fun gS => ?_; refine hl_letgo (rows orderM) (List.prefix_refl _) ?_; refine hl_call F.proof_Steps_cb rfl rfl (ex_steps_meets) (List.Perm.refl _) ⟨m1, m0, trivial⟩ fun x7 _ => ?_; refine r_move rfl rfl (r_extract rfl rfl rfl (r_extract rfl rfl rfl (r_assign rfl rfl (r_assign rfl rfl (hl_nil (then_n (hc_seq (hc_region ?_)))))))); refine hl_call F.law07_ages_cb rfl rfl (law07_ages_meets) (List.Perm.refl _) trivial fun y1 hy1 => ?_; refine r_buildSlice _ rfl rfl (fun _ => T.bs_strs_3 ..) fun gS => ?_; refine hl_letgo (rows [sAnna, sBen, sDan]) (List.prefix_refl _) ?_; refine hl_call F.proof_Origin_cb rfl rfl (ex_origin_meets y1) (List.Perm.refl _) ⟨m1, m0, trivial⟩ fun x8 _ => ?_; refine r_move rfl rfl (r_extract rfl rfl rfl (r_extract rfl rfl rfl (r_assign rfl rfl (r_assign rfl rfl (hl_nil (then_n (hc_seq (hc_region ?_)))))))); refine hl_call F.law07_ages_cb rfl rfl (law07_ages_meets) (List.Perm.refl _) trivial fun y2 hy2 => ?_; refine hl_call F.law07_in_cb rfl rfl (law07_in_meets 2 sDan) (List.Perm.refl _) trivial fun _ _ => ?_; refine r_buildSlice _ rfl rfl (fun _ => T.bs_L_api_Mark_1 ..) fun gS => ?_; refine hl_letgo (rows [((1, 2, sDan) : Mk)]) (List.prefix_refl _) ?_; refine r_buildSlice _ rfl rfl (fun _ => T.bs_strs_4 ..) fun gS => ?_; refine hl_letgo (rows [sAnna, sCyd, sBen, sDan]) (List.prefix_refl _) ?_; refine hl_call F.proof_Look_cb rfl rfl (ex_look_meets y2 hy2) (List.Perm.refl _) ⟨m2, m1, m0, trivial⟩ fun _ _ => ?_; refine r_move rfl rfl (r_extract rfl rfl rfl (r_extract rfl rfl rfl ?_)); refine r_alloc rfl (fun _ => T.al_api_Flaw _) fun gA => ?_; refine r_storeS rfl rfl (by first | exact .refl _ | exact perm2 _ _ _ | exact perm3 _ _ _ _ | exact perm4 _ _ _ _ _) T.sz_api_Flaw (by rfl) (by rfl) ?_; refine r_assign rfl rfl (hl_nil (then_n (hc_seq (hc_region (r_move rfl rfl (r_eql rfl rfl rfl (r_move rfl rfl ?_))))))); refine g_split rfl rfl ?_ ?_
 ·intro hg1; have hg1' := hg1; try simp at hg1'
  refine g_yes rfl rfl hg1 (r_move rfl rfl (g_yes rfl rfl hg1 (r_eql rfl rfl rfl ?_))); refine p_t rfl rfl (bt1 hg1) rfl ?_; refine r_move rfl rfl ?_; refine g_split rfl rfl ?_ ?_
  ·intro hg2; have hg2' := hg2; try simp at hg2'
   refine g_yes rfl rfl hg2 (r_move rfl rfl (g_yes rfl rfl hg2 (r_eql rfl rfl rfl ?_))); refine p_t rfl rfl (bt1 hg2) rfl ?_; refine r_move rfl rfl ?_; refine g_split rfl rfl ?_ ?_
   ·intro hg3; have hg3' := hg3; try simp at hg3'
    refine g_yes rfl rfl hg3 (r_move rfl rfl (g_yes rfl rfl hg3 (r_eql rfl rfl rfl ?_))); refine p_t rfl rfl (bt1 hg3) rfl ?_; refine r_move rfl rfl ?_; refine g_split rfl rfl ?_ ?_
    ·intro hg4; have hg4' := hg4; try simp at hg4'
     refine g_yes rfl rfl hg4 (r_move rfl rfl (g_yes rfl rfl hg4 (r_eql rfl rfl rfl ?_))); refine p_t rfl rfl (bt1 hg4) rfl ?_; refine r_move rfl rfl ?_; refine g_split rfl rfl ?_ ?_
     ·intro hg5; have hg5' := hg5; try simp at hg5'
      refine g_yes rfl rfl hg5 ?_
      first | refine r_loadA rfl T.row_api_Flaw T.sz_api_Flaw rfl mB (by rfl) ?_ | refine r_loadB rfl T.row_api_Flaw T.sz_api_Flaw rfl mB (by rfl) ?_ | refine r_loadS rfl T.row_api_Flaw T.sz_api_Flaw rfl rfl (cells_row mB (rows_all (by omega))) ?_
      refine g_yes rfl rfl hg5 ?_; refine r_build _ rfl rfl (fun _ => T.bd_api_Flaw_0_1 ..) ?_; refine g_yes rfl rfl hg5 ?_; refine r_bin _ rfl rfl rfl (fun _ => T.eqg_api_Flaw ..) (fun _ => T.eql_api_Flaw ..) ?_; refine p_t rfl rfl (bt1 hg5) rfl ?_; refine r_move rfl rfl ?_; refine g_split rfl rfl ?_ ?_
      ·intro hg6; have hg6' := hg6; try simp at hg6'
       refine g_yes rfl rfl hg6 (r_move rfl rfl (g_yes rfl rfl hg6 ?_)); refine r_buildSlice _ rfl rfl (fun _ => T.bs_strs_4 ..) fun gS => ?_; refine g_yes rfl rfl hg6 ?_; refine hl_letgo (rows newL) (List.prefix_refl _) ?_; refine hl_call F.kit_EqStrings_cb rfl rfl (kit_EqStrings_meets newL newL (by decide)) (List.Perm.refl _) ⟨mB, mB, trivial⟩ fun _ _ => ?_; refine p_t rfl rfl (bt1 hg6) rfl ?_; refine r_move rfl rfl ?_; refine g_split rfl rfl ?_ ?_
       ·intro hg7; have hg7' := hg7; try simp at hg7'
        refine g_yes rfl rfl hg7 (r_move rfl rfl (g_yes rfl rfl hg7 ?_)); refine hl_call F.law07_slip_cb rfl rfl (law07_slip_meets) (List.Perm.refl _) trivial fun x9 _ => ?_; refine g_yes rfl rfl hg7 ?_; refine hl_call F.kit_EqMarks_cb rfl rfl (kit_EqMarks_meets slipL slipL (by decide)) (List.Perm.refl _) ⟨mB, mB, trivial⟩ fun _ _ => ?_; refine p_t rfl rfl (bt1 hg7) rfl ?_; refine r_move rfl rfl ?_; refine g_split rfl rfl ?_ ?_
        ·intro hg8; have hg8' := hg8; try simp at hg8'
         refine g_yes rfl rfl hg8 (r_move rfl rfl (g_yes rfl rfl hg8 ?_)); refine r_buildSlice _ rfl rfl (fun _ => T.bs_ints_3 ..) fun gS => ?_; refine g_yes rfl rfl hg8 ?_; refine hl_letgo (rows ([1, 0, 2] : List Int)) (List.prefix_refl _) ?_; refine hl_call F.kit_EqInts_cb rfl rfl (kit_EqInts_meets [1, 0, 2] [1, 0, 2] (by decide)) (List.Perm.refl _) ⟨mB, mB, trivial⟩ fun _ _ => ?_; refine p_t rfl rfl (bt1 hg8) rfl ?_; refine r_move rfl rfl ?_; refine g_split rfl rfl ?_ ?_
         ·intro hg9; have hg9' := hg9; try simp at hg9'
          refine g_yes rfl rfl hg9 (r_move rfl rfl (g_yes rfl rfl hg9 ?_)); refine r_buildSlice _ rfl rfl (fun _ => T.bs_ints_3 ..) fun gS => ?_; refine g_yes rfl rfl hg9 ?_; refine hl_letgo (rows ([1, 0, -1] : List Int)) (List.prefix_refl _) ?_; refine hl_call F.kit_EqInts_cb rfl rfl (kit_EqInts_meets [1, 0, -1] [1, 0, -1] (by decide)) (List.Perm.refl _) ⟨mB, mB, trivial⟩ fun _ _ => ?_; refine p_t rfl rfl (bt1 hg9) rfl ?_; refine r_assign rfl rfl (hl_nil (then_n (hc_ret ?_))); exact ret1 () rfl rfl rfl trivial (List.nil_sublist _) trivial
         ·intro hg9; have hg9' := hg9; try simp at hg9'
        ·intro hg8; have hg8' := hg8; try simp at hg8'
       ·intro hg7; have hg7' := hg7; try simp at hg7'
      ·intro hg6; have hg6' := hg6; try simp at hg6'
     ·intro hg5; have hg5' := hg5; try simp at hg5'
    ·intro hg4; have hg4' := hg4; try simp at hg4'
   ·intro hg3; have hg3' := hg3; try simp at hg3'
  ·intro hg2; have hg2' := hg2; try simp at hg2'
 ·intro hg1; have hg1' := hg1; try simp at hg1'
end Go.Proofs.Ytpfbbggmcbhboaa
end
section
namespace Go.Proofs.Ytpfbbggmcbhboaa
open Go Go.W
set_option maxRecDepth 20000
attribute [local irreducible] HL HC HQ HB Row Rows2 Blk Facts
def okNext (b m : Mk) : Prop := b.2.1 < m.2.1 ∨ (b.2.1 = m.2.1 ∧ b.1 = 1)
def textOK (m : Mk) : Prop := (m.1 = 3 ∧ m.2.2 = []) ∨ (¬ m.1 = 3 ∧ m.2.2 ∈ lineWords)
structure MarksOK (n : Nat) (l : List Mk) : Prop where
  ch : ∀ k, k + 1 < l.length → okNext (l.getD k default) (l.getD (k + 1) default)
  v : MV n l
  t : ∀ m ∈ l, textOK m
theorem MarksOK.nil (n : Nat) : MarksOK n [] := ⟨fun k h => by simp at h, fun m h => by simp at h, fun m h => by simp at h⟩
def LastI (i : Nat) (l : List Mk) : Prop := ∀ b ∈ l, b.2.1 < (i : Int) ∨ (b.2.1 = (i : Int) ∧ b.1 = 1)
def LastB (i : Nat) (l : List Mk) : Prop := ∀ b ∈ l, b.2.1 < (i : Int)
theorem LastB.i {i : Nat} {l : List Mk} (h : LastB i l) : LastI i l := fun b hb => .inl (h b hb)
theorem LastI.b {i : Nat} {l : List Mk} (h : LastI i l) : LastB (i + 1) l := fun b hb => by rcases h b hb with h | h <;> omega
theorem LastI.snoc {i : Nat} {l : List Mk} (h : LastI i l) (t : Str) : LastI i (l ++ [(1, (i : Int), t)]) := fun b hb => by
  rcases List.mem_append.1 hb with hb | hb
  · exact h b hb
  · simp at hb; subst hb; exact .inr ⟨rfl, rfl⟩
theorem LastI.any {i : Nat} {l : List Mk} (h : LastI i l) (k : Int) (t : Str) : LastB (i + 1) (l ++ [(k, (i : Int), t)]) := fun b hb => by
  rcases List.mem_append.1 hb with hb | hb
  · exact h.b b hb
  · simp at hb; subst hb; simp only; omega
theorem MarksOK.snoc {n i : Nat} {l : List Mk} {k : Int} {t : Str} (h : MarksOK n l) (hl : LastI i l) (hk : 1 ≤ k ∧ k ≤ 3) (hi : i ≤ n) (hi2 : k = 1 ∨ i < n) (ht : textOK (k, (i : Int), t)) : MarksOK n (l ++ [(k, (i : Int), t)]) := by
  refine ⟨fun j hj => ?_, fun m hm => ?_, fun m hm => ?_⟩
  · rw [List.length_append, List.length_cons, List.length_nil] at hj
    by_cases hj2 : j + 1 < l.length
    · have := h.ch j hj2
      rw [getD_at (by omega), getD_at hj2] at this; rw [getD_at (by simp; omega), getD_at (by simp; omega), List.getElem_append_left (by omega), List.getElem_append_left hj2]; exact this
    · have hje : j + 1 = l.length := by omega
      rw [getD_at (by simp; omega), getD_at (by simp; omega), List.getElem_append_left (by omega), List.getElem_append_right (by omega)]; have := hl l[j] (List.getElem_mem _); simp only [hje, Nat.sub_self, List.getElem_cons_zero]; exact this
  · rcases List.mem_append.1 hm with hm | hm
    · exact h.v m hm
    · simp at hm; subst hm; simp only; omega
  · rcases List.mem_append.1 hm with hm | hm
    · exact h.t m hm
    · simp at hm; subst hm; exact ht
abbrev GrowM (o : OutC) (l : List Mk) (og : Hp) : Prop := Grow T.api_Mark 3 o.1 l.length o.2 (rows l) og
theorem kit_NewDice_meets {A : Option Addr} {c : Nat} (nums : List Int) : Meets Try.prog F.kit_NewDice [.slice A nums.length c] { LI := [Row A (rows nums)], val := fun g : Nat => .pointer (some ⟨g, 0, none⟩), hpO := fun g => [dice g A c nums (0, 11400714819323198485)] } := by
 refine meets_intro F.kit_NewDice_f rfl (Nat.le_of_ble_eq_true rfl) fun w0 => ?_; refine hc_seq (hc_region (r_assign rfl rfl (hl_nil (then_n (hc_seq (hc_region (r_move rfl rfl ?_))))))); refine r_build _ rfl rfl (fun _ => T.bd_wayzgoosekit_Dice_0_2 ..) ?_; refine r_box rfl rfl fun gB => ?_; refine r_assign rfl rfl (hl_nil (then_n (hc_ret ?_))); exact ret1 gB rfl rfl rfl trivial (.refl _) trivial
theorem kit_MarksOf_meets {g : Nat} {A : Option Addr} {c : Nat} {nums : List Int} {s : Int × Int} (n most : Nat) (hn : nums.length ≤ 9223372036854775807) (hs : DOK nums s) (hI : n ≤ 100 ∧ most ≤ 100) :
    Meets Try.prog F.kit_MarksOf [.pointer (some ⟨g, 0, none⟩), int n, int most] (diceCon g A c nums s (fun x : List Mk × OutC => x.1.length ≤ most ∧ MarksOK n x.1 ∧ x.1.length ≤ x.2.2) (fun x => .slice x.2.1 x.1.length x.2.2) (fun x => [Row x.2.1 (rows x.1)])) := by
 refine meets_intro F.kit_MarksOf_f rfl (Nat.le_of_ble_eq_true rfl) fun w0 => ?_; refine hc_seq (hc_region (r_assign rfl rfl (hl_nil (then_n (hc_seq (hc_region (r_assign rfl rfl (hl_nil (then_n (hc_seq (hc_seq ?_))))))))))); refine hc_region (r_assign rfl rfl (hl_nil (then_n (hc_block ?_))))
 refine hc_loop (β := List Mk × OutC × Hp × (Int × Int) × Nat) ⟨fun ⟨l, o, og, s, i⟩ => (GrowM o l og ∧ l.length ≤ most ∧ MarksOK n l ∧ DOK nums s) ∧ LastB i l ∧ i ≤ n + 1,
   fun ⟨l, o, og, s, i⟩ => [(0, .pointer (some ⟨g, 0, none⟩)), (1, int n), (2, int most), (7, .slice o.1 l.length o.2), (8, int i)], fun ⟨l, o, og, s, i⟩ => og ++ [dice g A c nums s], fun _ => [Row A (rows nums)]⟩
   (fun x => n + 1 - x.2.2.2.2) ([], (none, 0), [], s, 0) ⟨⟨Grow.nil _ _, Nat.zero_le _, MarksOK.nil n, hs⟩, by intro b h; simp at h, Nat.zero_le _⟩ ⟨rfl, rfl, rfl, rfl, rfl, trivial⟩ (.refl _) ⟨m0, trivial⟩ fun x hx => ?_
 obtain ⟨l, o, og, s, i⟩ := x; obtain ⟨⟨hG, hlen, hOK, hs⟩, hLB, hi⟩ := hx; have hLast := hLB.i; refine hc_seq (hc_seq (hc_region (r_move rfl rfl (r_move rfl rfl (r_leq rfl rfl rfl (hl_nil (then_n ?_)))))))
 first | refine c_dec rfl (fun hb1 => ?_) (fun hb1 => ?_) | refine hc_cond rfl (fun hb1 => ?_) (fun hb1 => ?_)
 ·have hb1' := hb1; try simp at hb1'
  have hi2 : i ≤ n := by omega
  refine hc_skip (then_n (hc_seq (hc_block ?_))); refine hc_cut (⟨fun ⟨l, o, og, s⟩ => GrowM o l og ∧ l.length ≤ most ∧ MarksOK n l ∧ LastI i l ∧ DOK nums s, fun ⟨l, o, og, s⟩ => [(0, .pointer (some ⟨g, 0, none⟩)), (1, int n), (2, int most), (7, .slice o.1 l.length o.2), (8, int i)], fun ⟨l, o, og, s⟩ => og ++ [dice g A c nums s], fun _ => [Row A (rows nums)]⟩ : Sta (List Mk × OutC × Hp × (Int × Int))) ?_ ?_
  ·skip
   refine hc_block ?_
   refine hc_loop (β := List Mk × OutC × Hp × (Int × Int)) ⟨fun ⟨l, o, og, s⟩ => GrowM o l og ∧ l.length ≤ most ∧ MarksOK n l ∧ LastI i l ∧ DOK nums s,
     fun ⟨l, o, og, s⟩ => [(0, .pointer (some ⟨g, 0, none⟩)), (1, int n), (2, int most), (7, .slice o.1 l.length o.2), (8, int i)], fun ⟨l, o, og, s⟩ => og ++ [dice g A c nums s], fun _ => [Row A (rows nums)]⟩
     (fun x => most - x.1.length) (l, o, og, s) ⟨hG, hlen, hOK, hLast, hs⟩ ⟨rfl, rfl, rfl, rfl, rfl, trivial⟩ (.refl _) ⟨m0, trivial⟩ fun x hx => ?_
   clear hG hlen hOK hs hLB hLast; obtain ⟨l, o, og, s⟩ := x; obtain ⟨hG, hlen, hOK, hLast, hs⟩ := hx; refine hc_seq (hc_seq (hc_region (r_move rfl rfl ?_))); refine hl_call F.kit_Dice_Once_cb rfl rfl (kit_Dice_Once_meets (4) hn hs (by omega)) (List.perm_append_comm) ⟨m0, trivial⟩ fun x hx => ?_; obtain ⟨s1, z⟩ := x; obtain ⟨hs1, _⟩ := hx; refine r_move rfl rfl ?_; refine g_split rfl rfl ?_ ?_
   ·intro hg1; have hg1' := hg1; try simp at hg1'
    refine g_yes rfl rfl hg1 (r_move rfl rfl (g_yes rfl rfl hg1 ?_)); refine r_len_sl rfl T.u_L_api_Mark rfl ?_; refine g_yes rfl rfl hg1 (r_move rfl rfl (g_yes rfl rfl hg1 (r_lss rfl rfl rfl ?_))); refine p_t rfl rfl (bt1 hg1) rfl ?_; refine hl_nil (then_n ?_)
    first | refine c_dec rfl (fun hb2 => ?_) (fun hb2 => ?_) | refine hc_cond rfl (fun hb2 => ?_) (fun hb2 => ?_)
    ·have hb2' := hb2; try simp at hb2'
     have hlt : l.length < most := by omega
     refine hc_skip (then_n (hc_block (hc_region (r_move rfl rfl (r_move rfl rfl (r_move rfl rfl ?_)))))); refine hl_call F.kit_LineOf_cb rfl rfl (kit_LineOf_meets hn hs1) (List.Perm.refl _) ⟨m0, trivial⟩ fun x hx => ?_; obtain ⟨s2, t⟩ := x; obtain ⟨hs2, ht⟩ := hx; refine r_build _ rfl rfl (fun _ => T.bd_api_Mark_0_1_2 ..) ?_; refine r_buildSlice _ rfl rfl (fun _ => T.bs_L_api_Mark_1 ..) fun gS => ?_; refine r_append (l.length + 1) (rows (l ++ [(1, (i : Int), t)])) T.el_L_api_Mark rfl rfl rfl hG (List.perm_append_comm (l₁ := [_, _])) (Src.own (cs := #[int 1, int i, str t]) (m := 1) (List.mem_append_right _ m0) rfl rfl) rfl (rows_append l [(1, (i : Int), t)]).symm (by unfold maxLen; omega) (by omega) fun A' c' og' hG' => ?_; refine r_assign rfl rfl (hl_nil (inb_n ?_)); refine again _ (l ++ [(1, (i : Int), t)], (A', c'), og', s2) ⟨by unfold GrowM; rw [len_snoc]; exact hG', by rw [len_snoc]; omega, hOK.snoc hLast (by omega) (by omega) (by omega) (.inr ⟨by simp, ht⟩), hLast.snoc t, hs2⟩ (by show most - (l ++ [_]).length < most - l.length; rw [len_snoc]; omega) ?_ ((List.Sublist.refl og').append (.cons _ (.refl _))) ⟨m0, trivial⟩; exact ⟨rfl, rfl, rfl, by rw [len_snoc]; rfl, rfl, trivial⟩
    ·have hb2' := hb2; try simp at hb2'
     refine hc_exit (then_exit (then_exit (inb_hit ?_))); refine hq_perm (List.perm_append_comm (l₁ := [_])) ?_; exact cut_n _ (l, o, og, s1) ⟨hG, hlen, hOK, hLast, hs1⟩ ⟨rfl, rfl, rfl, rfl, rfl, trivial⟩ (.refl _) ⟨m0, trivial⟩
   ·intro hg1; have hg1' := hg1; try simp at hg1'
    refine g_no rfl rfl rfl rfl rfl hg1 (g_no rfl rfl rfl rfl rfl hg1 (g_no rfl rfl rfl rfl rfl hg1 (g_no rfl rfl rfl rfl rfl hg1 ?_))); refine p_f rfl rfl (bf2 hg1) rfl ?_; refine hl_nil (then_n (c_f rfl rfl (hc_exit (then_exit (then_exit (inb_hit ?_)))))); refine hq_perm (List.perm_append_comm (l₁ := [_])) ?_; exact cut_n _ (l, o, og, s1) ⟨hG, hlen, hOK, hLast, hs1⟩ ⟨rfl, rfl, rfl, rfl, rfl, trivial⟩ (.refl _) ⟨m0, trivial⟩
  ·intro x hx; clear hG hlen hOK hs hLB hLast; obtain ⟨l, o, og, s⟩ := x; obtain ⟨hG, hlen, hOK, hLast, hs⟩ := hx; refine hc_seq (hc_seq (hc_region (r_move rfl rfl (r_move rfl rfl (r_eql rfl rfl rfl (r_move rfl rfl ?_)))))); refine g_split rfl rfl ?_ ?_
   ·intro hg2; have hg2' := hg2; try simp at hg2'
    have hne : ¬ i = n := fun e => by subst e; simp at hg2
    refine g_yes rfl rfl hg2 (r_move rfl rfl (g_yes rfl rfl hg2 ?_)); refine r_len_sl rfl T.u_L_api_Mark rfl ?_; refine g_yes rfl rfl hg2 (r_move rfl rfl (g_yes rfl rfl hg2 (r_eql rfl rfl rfl ?_))); refine p_f rfl rfl (bf1 hg2) rfl ?_; refine hl_nil (then_n ?_)
    first | refine c_dec rfl (fun hb3 => ?_) (fun hb3 => ?_) | refine hc_cond rfl (fun hb3 => ?_) (fun hb3 => ?_)
    ·have hb3' := hb3; try simp at hb3'
     refine hc_exit (then_exit (inb_hit (then_n (hc_region (r_move rfl rfl ?_))))); refine r_add _ rfl rfl rfl rfl (by unfold I64; omega) ?_; refine r_assign rfl rfl (hl_nil ?_); refine again _ (l, o, og, s, i + 1) ⟨⟨hG, hlen, hOK, hs⟩, hLast.b, by omega⟩ (by show n + 1 - (i + 1) < n + 1 - i; omega) ?_ (.refl _) ⟨m0, trivial⟩; exact ⟨rfl, rfl, rfl, rfl, rfl, trivial⟩
    ·have hb3' := hb3; try simp at hb3'
     have hlt : l.length < most := by have : ¬ (l.length : Int) = most := hb3; omega
     refine hc_skip (then_n (hc_seq (hc_region (r_move rfl rfl ?_)))); refine hl_call F.kit_Dice_To_cb rfl rfl (kit_Dice_To_meets 4 hn hs (by omega)) (List.perm_append_comm) ⟨m0, trivial⟩ fun x hx => ?_; obtain ⟨s1, z⟩ := x; obtain ⟨hs1, hz⟩ := hx; refine hl_nil (then_n (hc_block (hc_seq (hc_region (r_eql rfl rfl rfl (r_assign rfl rfl (hl_nil (then_n ?_))))))))
     first | refine c_dec rfl (fun hb4 => ?_) (fun hb4 => ?_) | refine hc_cond rfl (fun hb4 => ?_) (fun hb4 => ?_)
     ·have hb4' := hb4; try simp at hb4'
      refine hc_region (r_move rfl rfl (r_move rfl rfl (r_move rfl rfl ?_))); refine hl_call F.kit_LineOf_cb rfl rfl (kit_LineOf_meets hn hs1) (List.Perm.refl _) ⟨m0, trivial⟩ fun x hx => ?_; obtain ⟨s2, t⟩ := x; obtain ⟨hs2, ht⟩ := hx; refine r_build _ rfl rfl (fun _ => T.bd_api_Mark_0_1_2 ..) ?_; refine r_buildSlice _ rfl rfl (fun _ => T.bs_L_api_Mark_1 ..) fun gS => ?_; refine r_append (l.length + 1) (rows (l ++ [(2, (i : Int), t)])) T.el_L_api_Mark rfl rfl rfl hG (List.perm_append_comm (l₁ := [_, _])) (Src.own (cs := #[int 2, int i, str t]) (m := 1) (List.mem_append_right _ m0) rfl rfl) rfl (rows_append l [(2, (i : Int), t)]).symm (by unfold maxLen; omega) (by omega) fun A' c' og' hG' => ?_; refine r_assign rfl rfl (hl_nil (inb_n (inb_n (then_n (hc_region (r_move rfl rfl ?_)))))); refine r_add _ rfl rfl rfl rfl (by unfold I64; omega) ?_; refine r_assign rfl rfl (hl_nil ?_); refine again _ (l ++ [(2, (i : Int), t)], (A', c'), og', s2, i + 1) ⟨⟨by unfold GrowM; rw [len_snoc]; exact hG', by rw [len_snoc]; omega, hOK.snoc hLast (by omega) (by omega) (by omega) (.inr ⟨by simp, ht⟩), hs2⟩, hLast.any 2 t, by omega⟩ (by show n + 1 - (i + 1) < n + 1 - i; omega) ?_ ((List.Sublist.refl og').append (.cons _ (.refl _))) ⟨m0, trivial⟩; exact ⟨rfl, rfl, rfl, by rw [len_snoc]; rfl, rfl, trivial⟩
     ·have hb4' := hb4; try simp at hb4'
      refine hc_seq (hc_region (r_eql rfl rfl rfl (r_assign rfl rfl (hl_nil (then_n ?_)))))
      first | refine c_dec rfl (fun hb5 => ?_) (fun hb5 => ?_) | refine hc_cond rfl (fun hb5 => ?_) (fun hb5 => ?_)
      ·have hb5' := hb5; try simp at hb5'
       refine hc_region (r_move rfl rfl (r_move rfl rfl ?_)); refine r_build _ rfl rfl (fun _ => T.bd_api_Mark_0_1 ..) ?_; refine r_buildSlice _ rfl rfl (fun _ => T.bs_L_api_Mark_1 ..) fun gS => ?_; refine r_append (l.length + 1) (rows (l ++ [(3, (i : Int), [])])) T.el_L_api_Mark rfl rfl rfl hG (List.perm_append_comm (l₁ := [_, _])) (Src.own (cs := #[int 3, int i, str []]) (m := 1) (List.mem_append_right _ m0) rfl rfl) rfl (rows_append l [(3, (i : Int), [])]).symm (by unfold maxLen; omega) (by omega) fun A' c' og' hG' => ?_; refine r_assign rfl rfl (hl_nil (inb_n (inb_n (then_n (hc_region (r_move rfl rfl ?_)))))); refine r_add _ rfl rfl rfl rfl (by unfold I64; omega) ?_; refine r_assign rfl rfl (hl_nil ?_); refine again _ (l ++ [(3, (i : Int), [])], (A', c'), og', s1, i + 1) ⟨⟨by unfold GrowM; rw [len_snoc]; exact hG', by rw [len_snoc]; omega, hOK.snoc hLast (by omega) (by omega) (by omega) (.inl ⟨rfl, rfl⟩), hs1⟩, hLast.any 3 [], by omega⟩ (by show n + 1 - (i + 1) < n + 1 - i; omega) ?_ ((List.Sublist.refl og').append (.cons _ (.refl _))) ⟨m0, trivial⟩; exact ⟨rfl, rfl, rfl, by rw [len_snoc]; rfl, rfl, trivial⟩
      ·have hb5' := hb5; try simp at hb5'
       refine hc_skip (inb_n (inb_n (then_n (hc_region (r_move rfl rfl ?_))))); refine r_add _ rfl rfl rfl rfl (by unfold I64; omega) ?_; refine r_assign rfl rfl (hl_nil ?_); refine hq_perm (List.perm_append_comm (l₁ := [_])) ?_; refine again _ (l, o, og, s1, i + 1) ⟨⟨hG, hlen, hOK, hs1⟩, hLast.b, by omega⟩ (by show n + 1 - (i + 1) < n + 1 - i; omega) ?_ (.refl _) ⟨m0, trivial⟩; exact ⟨rfl, rfl, rfl, rfl, rfl, trivial⟩
   ·intro hg2; have hg2' := hg2; try simp at hg2'
    have hne : i = n := by have h : (i : Int) = n := (by simpa using hg2); omega
    refine g_no rfl rfl rfl rfl rfl hg2 (g_no rfl rfl rfl rfl rfl hg2 (g_no rfl rfl rfl rfl rfl hg2 (g_no rfl rfl rfl rfl rfl hg2 ?_))); refine p_t rfl rfl (bt2 hg2) rfl ?_; refine hl_nil (then_n (c_t rfl rfl (hc_exit (then_exit (inb_hit (then_n (hc_region (r_move rfl rfl ?_)))))))); refine r_add _ rfl rfl rfl rfl (by unfold I64; omega) ?_; refine r_assign rfl rfl (hl_nil ?_); refine again _ (l, o, og, s, i + 1) ⟨⟨hG, hlen, hOK, hs⟩, hLast.b, by omega⟩ (by show n + 1 - (i + 1) < n + 1 - i; omega) ?_ (.refl _) ⟨m0, trivial⟩; exact ⟨rfl, rfl, rfl, rfl, rfl, trivial⟩
 ·have hb1' := hb1; try simp at hb1'
  have hi2 : i = n + 1 := by omega
  refine hc_exit (then_exit (then_exit (inb_hit (then_n (hc_seq (hc_region (r_move rfl rfl (r_assign rfl rfl (hl_nil (then_n (hc_ret ?_))))))))))); refine hq_grown hG ?_; exact ret1 (s, l, o) rfl rfl rfl ⟨hs, hlen, hOK, hG.le⟩ (.refl _) ⟨m0, trivial⟩
abbrev GrowS2 (o : OutC) (ps : List (Sl Str)) (og : Hp) : Prop := Grow T.strs 1 o.1 ps.length o.2 (rows ps) og
def inner (ps : List (Sl Str)) : Fact := Facts (ps.map fun p => Row p.a (rows p.l))
def PagesOK (ps : List (Sl Str)) : Prop := ∀ p ∈ ps, PageOK p.l ∧ p.l.length ≤ 6 ∧ p.l.length ≤ p.c
theorem PagesOK.snoc {ps : List (Sl Str)} {p : Sl Str} (h : PagesOK ps) (hp : PageOK p.l ∧ p.l.length ≤ 6 ∧ p.l.length ≤ p.c) : PagesOK (ps ++ [p]) := fun q hq => by
  rcases List.mem_append.1 hq with hq | hq
  · exact h q hq
  · simp at hq; subst hq; exact hp
theorem PageOK.set {l : List Str} {k : Nat} {t : Str} (h : PageOK l) (ht : t ∈ lineWords) : PageOK (l.set k t) := fun s hs => by
  rcases List.mem_or_eq_of_mem_set hs with h1 | h1
  · exact h s h1
  · exact h1 ▸ ht
theorem PageOK.drop {l : List Str} {k : Nat} (h : PageOK l) : PageOK (l.drop k) := fun s hs => h s (List.mem_of_mem_drop hs)
theorem PageOK.snoc {l : List Str} {t : Str} (h : PageOK l) (ht : t ∈ lineWords) : PageOK (l ++ [t]) := fun s hs => by
  rcases List.mem_append.1 hs with h1 | h1
  · exact h s h1
  · simp at h1; subst h1; exact ht
end Go.Proofs.Ytpfbbggmcbhboaa
end
section
namespace Go.Proofs.Ytpfbbggmcbhboaa
open Go Go.W
set_option maxRecDepth 20000
attribute [local irreducible] HL HC HQ HB Row Rows2 Blk Facts
structure Good {α : Type} (c : α → α → Int) : Prop where
  eq : ∀ a b, c a b = 0 ↔ a = b
  anti : ∀ a b, c a b < 0 ↔ 0 < c b a
  tr : ∀ a b d, c a b < 0 → c b d < 0 → c a d < 0
theorem Good.irr {α : Type} {c : α → α → Int} (h : Good c) (a : α) : ¬ c a a < 0 := by
  have := (h.eq a a).2 rfl; omega
theorem good_I : Good cmpI where
  eq a b := by unfold cmpI; split <;> (try split) <;> omega
  anti a b := by unfold cmpI; split <;> (try split) <;> (try split) <;> (try split) <;> omega
  tr a b d := by unfold cmpI; split <;> (try split) <;> (try split) <;> (try split) <;> (try split) <;> (try split) <;> omega
theorem str_lt_irr (a : Str) : ¬ a < a := List.lt_irrefl a
theorem str_tri {a b : Str} (h1 : ¬ a < b) (h2 : ¬ b < a) : a = b := List.le_antisymm (List.not_lt.1 h2) (List.not_lt.1 h1)
theorem cmpS_eq (a b : Str) : cmpS a b = if a < b then -1 else if a = b then 0 else 1 := by
  unfold cmpS; simp only [bytesLess_eq]
  by_cases h1 : a < b
  · simp [h1]
  · by_cases h2 : a = b
    · simp [h2, str_lt_irr]
    · simp [h1, h2]
theorem good_S : Good cmpS where
  eq a b := by
    rw [cmpS_eq]
    split
    · rename_i h; constructor
      · intro h; omega
      · rintro rfl; exact absurd h (str_lt_irr _)
    · split
      · rename_i h; exact ⟨fun _ => h, fun _ => rfl⟩
      · rename_i h; exact ⟨fun h => by omega, fun e => absurd e h⟩
  anti a b := by
    rw [cmpS_eq, cmpS_eq]
    by_cases h1 : a < b
    · have h2 : ¬ b < a := fun h => str_lt_irr _ (List.lt_trans h1 h)
      have h3 : ¬ b = a := by rintro rfl; exact str_lt_irr _ h1
      simp [h1, h2, h3]
    · by_cases h2 : b < a
      · have h3 : ¬ a = b := by rintro rfl; exact str_lt_irr _ h2
        simp [h1, h2, h3]
      · have h3 := str_tri h1 h2
        simp [h3, str_lt_irr]
  tr a b d := by
    rw [cmpS_eq, cmpS_eq, cmpS_eq]; intro h1 h2
    have h3 : a < b := by
      apply Classical.byContradiction; intro h; rw [if_neg h] at h1; split at h1 <;> omega
    have h4 : b < d := by
      apply Classical.byContradiction; intro h; rw [if_neg h] at h2; split at h2 <;> omega
    rw [if_pos (List.lt_trans h3 h4)]
    omega
theorem good_or {α β γ : Type} {c : β → β → Int} {d : γ → γ → Int} (f : α → β) (g : α → γ) (hc : Good c) (hd : Good d) (hi : ∀ a b, f a = f b → g a = g b → a = b) : Good (fun a b => if ¬ c (f a) (f b) = 0 then c (f a) (f b) else d (g a) (g b)) where
  eq a b := by
    split
    · rename_i h
      exact ⟨fun h0 => absurd h0 h, fun e => by subst e; exact absurd ((hc.eq _ _).2 rfl) h⟩
    · rename_i h
      have h1 := (hc.eq _ _).1 (Classical.not_not.1 h); rw [hd.eq]; exact ⟨fun h2 => hi _ _ h1 h2, fun e => by rw [e]⟩
  anti a b := by
    have h1 := hc.anti (f a) (f b); have h2 := hc.anti (f b) (f a); have h3 := hd.anti (g a) (g b)
    split <;> split <;> omega
  tr a b e := by
    have h1 := hc.tr (f a) (f b) (f e); have h2 := hd.tr (g a) (g b) (g e); have e1 := hc.eq (f a) (f b); have e2 := hc.eq (f b) (f e); have e3 := hc.eq (f a) (f e); have a1 := hc.anti (f a) (f b); have a2 := hc.anti (f b) (f e)
    by_cases k1 : c (f a) (f b) = 0
    · have q1 := e1.1 k1
      rw [q1] at *; rw [if_neg (by simp [(hc.eq _ _).2 rfl])]
      by_cases k2 : c (f b) (f e) = 0
      · rw [if_neg (by simp [k2]), if_neg (by simp [k2])]
        exact h2
      · rw [if_pos k2, if_pos k2]
        intro _ h; exact h
    · rw [if_pos k1]
      by_cases k2 : c (f b) (f e) = 0
      · have q2 := e2.1 k2
        rw [← q2, if_pos k1]; intro h _; exact h
      · rw [if_pos k2]
        intro h3 h4; have h5 := h1 h3 h4; rw [if_pos (by omega)]; exact h5
theorem orL3 (a b c : Int) : orL [a, b, c] = if ¬ a = 0 then a else if ¬ b = 0 then b else c := by
  simp only [orL]
  split
  · rfl
  · split
    · rfl
    · split
      · rfl
      · rename_i h; omega
theorem good_map {α β : Type} {c : β → β → Int} (f : α → β) (h : Good c) (hf : ∀ a b, f a = f b → a = b) : Good (fun a b => c (f a) (f b)) where
  eq a b := (h.eq _ _).trans ⟨hf a b, fun e => by rw [e]⟩
  anti a b := h.anti _ _
  tr a b d := h.tr _ _ _
theorem good_prod {β γ : Type} {c : β → β → Int} {d : γ → γ → Int} (hc : Good c) (hd : Good d) : Good (fun a b : β × γ => if ¬ c a.1 b.1 = 0 then c a.1 b.1 else d a.2 b.2) :=
  good_or (fun a => a.1) (fun a => a.2) hc hd (fun a b h1 h2 => Prod.ext h1 h2)
theorem good_Mk : Good cmpMk := by
  have h := good_map (α := Mk) (fun m => (m.2.1, m.1, m.2.2)) (good_prod good_I (good_prod good_I good_S)) (fun a b e => by
    simp only [Prod.mk.injEq] at e
    exact Prod.ext e.2.1 (Prod.ext e.1 e.2.2))
  have e : cmpMk = fun a b : Mk => (fun a b : Int × Int × Str => if ¬ cmpI a.1 b.1 = 0 then cmpI a.1 b.1 else (fun a b : Int × Str => if ¬ cmpI a.1 b.1 = 0 then cmpI a.1 b.1 else cmpS a.2 b.2) a.2 b.2) (a.2.1, a.1, a.2.2) (b.2.1, b.1, b.2.2) := by
    funext a b
    rw [cmpMk, orL3]
  rw [e]; exact h
theorem good_Ms : Good cmpMs where
  eq a := by
    induction a with
    | nil => intro b; cases b <;> simp [cmpMs]
    | cons x a ih =>
      intro b
      cases b with
      | nil => simp [cmpMs]
      | cons y b =>
        rw [cmpMs]
        split
        · rename_i h
          refine ⟨fun h0 => absurd h0 h, fun e => ?_⟩
          injection e with e1 e2
          exact absurd ((good_Mk.eq _ _).2 e1) h
        · rename_i h
          have h1 := (good_Mk.eq _ _).1 (Classical.not_not.1 h); rw [ih, h1]
          simp
  anti a := by
    induction a with
    | nil => intro b; cases b <;> simp [cmpMs]
    | cons x a ih =>
      intro b
      cases b with
      | nil => simp [cmpMs]
      | cons y b =>
        rw [cmpMs, cmpMs]; have h1 := good_Mk.anti x y; have h2 := good_Mk.anti y x; have h3 := ih b
        split <;> split <;> omega
  tr a := by
    induction a with
    | nil =>
      intro b d h1 h2
      cases d with
      | nil =>
        cases b with
        | nil => exact h1
        | cons y b => simp [cmpMs] at h2
      | cons z d => simp [cmpMs]
    | cons x a ih =>
      intro b d h1 h2
      cases b with
      | nil => simp [cmpMs] at h1
      | cons y b =>
        cases d with
        | nil => simp [cmpMs] at h2
        | cons z d =>
          have t1 := good_Mk.tr x y z; have e1 := good_Mk.eq x y; have e2 := good_Mk.eq y z; have a1 := good_Mk.anti x y; rw [cmpMs] at h1 h2 ⊢
          by_cases k1 : cmpMk x y = 0
          · rw [if_neg (by simp [k1])] at h1
            have q1 := e1.1 k1; subst q1
            by_cases k2 : cmpMk x z = 0
            · rw [if_neg (by simp [k2])] at h2 ⊢
              exact ih b d h1 h2
            · rw [if_pos k2] at h2 ⊢
              exact h2
          · rw [if_pos k1] at h1
            by_cases k2 : cmpMk y z = 0
            · have q2 := e2.1 k2
              subst q2; rw [if_pos k1]; exact h1
            · rw [if_pos k2] at h2
              have h5 := t1 h1 h2; rw [if_pos (by omega)]; exact h5
theorem good_L : Good cmpL := by
  have h := good_map (α := Lst) (fun l => (l.1, ((l.2.length : Nat) : Int), l.2)) (good_prod good_I (good_prod good_I good_Ms)) (fun a b e => by
    simp only [Prod.mk.injEq] at e
    exact Prod.ext e.1 e.2.2)
  have e : cmpL = fun a b : Lst => (fun a b : Int × Int × List Mk => if ¬ cmpI a.1 b.1 = 0 then cmpI a.1 b.1 else (fun a b : Int × List Mk => if ¬ cmpI a.1 b.1 = 0 then cmpI a.1 b.1 else cmpMs a.2 b.2) a.2 b.2) (a.1, ((a.2.length : Nat) : Int), a.2) (b.1, ((b.2.length : Nat) : Int), b.2) := by
    funext a b
    rw [cmpL, orL3]
  rw [e]; exact h
theorem beforeR_eq {a b : Mk} (h : ¬ a = b) : beforeR a b = decide (cmpMk a b < 0) := by
  rw [cmpMk, orL3, beforeR]; have i1 : ∀ x y : Int, ¬ x = y → ¬ cmpI x y = 0 := fun x y h h0 => h ((good_I.eq x y).1 h0); have i2 : ∀ x y : Int, (x < y) = (cmpI x y < 0) := fun x y => by apply propext; unfold cmpI; split <;> (try split) <;> omega
  by_cases h1 : a.2.1 = b.2.1
  · rw [if_neg (not_not_intro h1), if_neg (not_not_intro ((good_I.eq _ _).2 h1))]
    by_cases h2 : a.1 = b.1
    · rw [if_neg (not_not_intro h2), if_neg (not_not_intro ((good_I.eq _ _).2 h2))]
      rw [cmpS_eq, bytesLess_eq]
      apply decide_eq_decide.2
      split
      · rename_i h; simp [h]
      · rename_i h; split <;> simp [h]
    · rw [if_pos h2, if_pos (i1 _ _ h2)]
      exact decide_eq_decide.2 (by rw [i2])
  · rw [if_pos h1, if_pos (i1 _ _ h1)]
    exact decide_eq_decide.2 (by rw [i2])
theorem lexR_eq : ∀ {a b : List Mk}, a.length = b.length → lexR a b = decide (cmpMs a b < 0)
  | [], [], _ => by simp [lexR, cmpMs]
  | [], _ :: _, h => by simp at h
  | _ :: _, [], h => by simp at h
  | a :: l, b :: l', h => by
    rw [lexR, cmpMs]
    by_cases h1 : a = b
    · rw [if_neg (not_not_intro h1), if_neg (not_not_intro ((good_Mk.eq _ _).2 h1))]
      exact lexR_eq (by simpa using h)
    · rw [if_pos h1, if_pos (fun h0 => h1 ((good_Mk.eq _ _).1 h0)), beforeR_eq h1]
abbrev cL (l : List Mk) : Lst := ((costM l : Int), l)
theorem betterR_eq (a b : List Mk) : betterR a b = decide (cmpL (cL a) (cL b) < 0) := by
  have i1 : ∀ x y : Int, ¬ x = y → ¬ cmpI x y = 0 := fun x y h h0 => h ((good_I.eq x y).1 h0); have i2 : ∀ x y : Int, (x < y) = (cmpI x y < 0) := fun x y => by apply propext; unfold cmpI; split <;> (try split) <;> omega
  rw [betterR, cmpL, orL3]
  by_cases h1 : (costM a : Int) = costM b
  · rw [if_neg (not_not_intro h1), if_neg (not_not_intro ((good_I.eq _ _).2 h1))]
    by_cases h2 : (a.length : Int) = b.length
    · rw [if_neg (not_not_intro h2), if_neg (not_not_intro ((good_I.eq _ _).2 h2))]
      exact lexR_eq (by omega)
    · rw [if_pos h2, if_pos (i1 _ _ h2)]
      exact decide_eq_decide.2 (by rw [i2])
  · rw [if_pos h1, if_pos (i1 _ _ h1)]
    exact decide_eq_decide.2 (by rw [i2])
def Bt (a b : List Mk) : Prop := cmpL (cL a) (cL b) < 0
theorem Bt.of {a b : List Mk} : betterR a b = true ↔ Bt a b := by rw [betterR_eq, decide_eq_true_iff]; rfl
theorem Bt.irr (a : List Mk) : ¬ Bt a a := good_L.irr _
theorem Bt.trans {a b c : List Mk} (h : Bt a b) (h2 : Bt b c) : Bt a c := good_L.tr _ _ _ h h2
structure Best (S : List (List Mk)) (b : List Mk) : Prop where
  mem : b ∈ S
  le : ∀ x ∈ S, ¬ Bt x b
def BestO (S : List (List Mk)) (o : Option (List Mk)) : Prop := (S = [] ∧ o = none) ∨ ∃ b, o = some b ∧ Best S b
theorem BestO.pick {S : List (List Mk)} {o : Option (List Mk)} (h : BestO S o) (l : List Mk) : BestO (S ++ [l]) (pickR o l) := by
  rcases h with ⟨rfl, rfl⟩ | ⟨b, rfl, hb⟩
  · exact .inr ⟨l, rfl, by simp, fun x hx => by simp at hx; subst hx; exact Bt.irr _⟩
  · right
    unfold pickR
    simp only
    split
    · rename_i hlt
      have hlt := Bt.of.1 hlt; refine ⟨l, rfl, by simp, fun x hx => ?_⟩
      rcases List.mem_append.1 hx with hx | hx
      · exact fun h => hb.le x hx (h.trans hlt)
      · simp at hx; subst hx; exact Bt.irr _
    · rename_i hlt
      refine ⟨b, rfl, by simp [hb.mem], fun x hx => ?_⟩
      rcases List.mem_append.1 hx with hx | hx
      · exact hb.le x hx
      · simp at hx; subst hx; exact fun h => hlt (Bt.of.2 h)
end Go.Proofs.Ytpfbbggmcbhboaa
end
section
namespace Go.Proofs.Ytpfbbggmcbhboaa
open Go Go.W
set_option maxRecDepth 20000
attribute [local irreducible] HL HC HQ HB Row Rows2 Blk Facts
/-! ### What marks make -/
def Asc : List Mk → Prop
  | [] => True
  | m :: l => (∀ b ∈ l, m.2.1 < b.2.1 ∨ (m.2.1 = b.2.1 ∧ m.1 = 1)) ∧ Asc l
theorem Asc.filter {l : List Mk} (h : Asc l) (q : Mk → Bool) : Asc (l.filter q) := by
  induction l with
  | nil => exact h
  | cons m l ih =>
    by_cases hq : q m = true
    · rw [List.filter_cons_of_pos hq]
      exact ⟨fun b hb => h.1 b ((List.mem_filter.1 hb).1), ih h.2⟩
    · rw [List.filter_cons_of_neg hq]
      exact ih h.2
def finR (st : List Str × Str × Bool) : List Str := if st.2.2 = true then st.1 ++ [st.2.1] else st.1
theorem asc_of {l : List Mk} (h : ∀ k, k + 1 < l.length → okNext (l.getD k default) (l.getD (k + 1) default)) : Asc l := by
  induction l with
  | nil => trivial
  | cons m l ih =>
    have h2 : Asc l := ih fun k hk => by
      have := h (k + 1) (by simpa using hk)
      simpa [List.getD_eq_getElem?_getD] using this
    refine ⟨?_, h2⟩
    cases l with
    | nil => intro b hb; simp at hb
    | cons b l =>
      have h0 : okNext m b := by simpa [List.getD_eq_getElem?_getD] using h 0 (by simp)
      intro c hc
      rcases List.mem_cons.1 hc with rfl | hc
      · exact h0
      · have h3 := h2.1 c hc
        rcases h0 with h4 | ⟨h4, h5⟩ <;> rcases h3 with h6 | ⟨h6, h7⟩
        · exact .inl (by omega)
        · exact .inl (by omega)
        · exact .inl (by omega)
        · exact .inr ⟨by omega, h5⟩
theorem marks_asc {n : Nat} {l : List Mk} (h : marksErr n l = 0) : Asc l := by
  refine asc_of fun k hk => ?_; unfold marksErr at h
  split at h
  · omega
  · have := firstErr_zero h (k + 1) (by simpa using hk)
    unfold markErr at this; rw [Nat.add_sub_cancel] at this; generalize l.getD k default = b at *; generalize l.getD (k + 1) default = m at *; unfold mErr at this; unfold okNext
    split at this
    · omega
    · split at this
      · omega
      · split at this
        · first | omega | (rename_i h1; exact absurd this h1)
        · split at this
          · omega
          · split at this
            · omega
            · split at this
              · rename_i h3; omega
              · split at this <;> omega
end Go.Proofs.Ytpfbbggmcbhboaa
end
section
namespace Go.Proofs.Ytpfbbggmcbhboaa
open Go Go.W
set_option maxRecDepth 20000
attribute [local irreducible] HL HC HQ HB Row Rows2 Blk Facts
theorem insM_eq (xs : List Mk) (k : Int) : (insAt xs k).map (lineM k) = insM xs k := by
  unfold insAt insM; rw [List.map_map]
  have e : (fun m : Mk => decide (m.1 = 1 ∧ m.2.1 = k)) = fun m => decide (m.2.1 = k ∧ m.1 = 1) := by
    funext m; exact decide_eq_decide.2 and_comm
  rw [e]
  induction xs with
  | nil => rfl
  | cons m xs ih =>
    by_cases h : m.2.1 = k ∧ m.1 = 1
    · rw [List.filter_cons_of_pos (by simpa using h), List.map_cons, ih]
      congr 1
      obtain ⟨a, b, t⟩ := m; obtain ⟨h1, h2⟩ := h; simp only at h1 h2; subst h1 h2
      rfl
    · rw [List.filter_cons_of_neg (by simpa using h), ih]
theorem lineM_inj {k : Int} {a b : Str} (h : lineM k a = lineM k b) : a = b := congrArg (fun m : Mk => m.2.2) h
theorem moreM_eq (xs ys : List Mk) (k : Int) : (moreA xs ys k).map (lineM k) = moreR (insM xs k) (insM ys k) := by
  rw [← insM_eq, ← insM_eq]; unfold moreA moreR; generalize insAt xs k = ws
  induction insAt ys k with
  | nil => rfl
  | cons v vs ih =>
    have hm : lineM k v ∈ ws.map (lineM k) ↔ v ∈ ws := ⟨fun h => by
      obtain ⟨a, ha, e⟩ := List.mem_map.1 h
      rw [← lineM_inj e]; exact ha, fun h => List.mem_map.2 ⟨v, h, rfl⟩⟩
    rw [List.map_cons]
    by_cases h : v ∈ ws
    · rw [List.filter_cons_of_neg (by simp [h]), List.filter_cons_of_neg (by simp only [Bool.not_eq_true', decide_eq_false_iff_not, Classical.not_not, Bool.not_eq_true]; simpa using hm.2 h), ih]
    · rw [List.filter_cons_of_pos (by simp [h]), List.filter_cons_of_pos (by simpa using fun hh => h (hm.1 hh)), List.map_cons, ih]
theorem othM_last (xs : List Mk) (k : Int) : lastAt xs k = (othM xs k).getLast? := by
  unfold lastAt othM
  congr 1
  have e : (fun m : Mk => decide (m.1 ≠ 1 ∧ m.2.1 = k)) = fun m => decide (m.2.1 = k ∧ m.1 ≠ 1) := by
    funext m; exact decide_eq_decide.2 and_comm
  rw [e]
theorem othM_one {xs : List Mk} (h : Asc xs) (k : Int) : (othM xs k).length ≤ 1 := by
  unfold othM
  induction xs with
  | nil => simp
  | cons m xs ih =>
    have ih := ih h.2
    by_cases e : m.2.1 = k ∧ m.1 ≠ 1
    · have hn : xs.filter (fun m => decide (m.2.1 = k ∧ m.1 ≠ 1)) = [] := by
        rw [List.filter_eq_nil_iff]; intro b hb hbk; have hbk : b.2.1 = k ∧ b.1 ≠ 1 := by simpa using hbk
        rcases h.1 b hb with h1 | ⟨_, h1⟩
        · omega
        · exact e.2 h1
      rw [List.filter_cons_of_pos (by simpa using e), hn]
      simp
    · rw [List.filter_cons_of_neg (by simpa using e)]
      exact ih
theorem last_cases {xs : List Mk} (h : Asc xs) (k : Int) : (othM xs k = [] ∧ lastAt xs k = none) ∨ ∃ m, othM xs k = [m] ∧ lastAt xs k = some m := by
  have h1 := othM_one h k; rw [othM_last]
  match he : othM xs k with
  | [] => exact .inl ⟨rfl, rfl⟩
  | [m] => exact .inr ⟨m, rfl, rfl⟩
  | a :: b :: l => rw [he] at h1; simp at h1
theorem lastLR {xs ys : List Mk} (hx : Asc xs) (hy : Asc ys) (k : Int) : lastL xs ys k = lastR xs ys k := by
  unfold lastL lastR
  rcases last_cases hx k with ⟨h1, h2⟩ | ⟨m, h1, h2⟩
  · rw [h1, h2]
    rcases last_cases hy k with ⟨h3, h4⟩ | ⟨m', h3, h4⟩ <;> rw [h3, h4] <;> rfl
  · rw [h1, h2]; rfl
theorem clashAR {xs ys : List Mk} (hx : Asc xs) (hy : Asc ys) (k : Int) : clashA xs ys k = clashR xs ys k := by
  unfold clashA clashR
  rcases last_cases hx k with ⟨h1, h2⟩ | ⟨m, h1, h2⟩
  · rw [h1, h2]; simp
  · rw [h1, h2]
    rcases last_cases hy k with ⟨h3, h4⟩ | ⟨m', h3, h4⟩
    · rw [h3, h4]; simp
    · rw [h3, h4]; simp
theorem mergeOQ {xs ys : List Mk} (hx : Asc xs) (hy : Asc ys) : ∀ n, mergeO xs ys n = mergeQ xs ys n
  | 0 => rfl
  | n + 1 => by
    rw [mergeO, mergeQ, mergeOQ hx hy n]
    cases mergeQ xs ys n with
    | none => rfl
    | some out =>
      simp only [clashAR hx hy]
      have : lineA xs ys n = lineRef xs ys n := by
        unfold lineA lineRef; rw [insM_eq, moreM_eq, lastLR hx hy]
      rw [this]
theorem merge_same (p : List Str) (xs ys : List Mk) : mergeP p xs ys = mergeR p xs ys := by
  unfold mergeP mergeR
  by_cases h1 : pageErr p = 0
  · have e : checkErr p xs = marksErr p.length xs := by rw [checkErr, if_pos h1]
    by_cases h2 : marksErr p.length xs = 0
    · by_cases h3 : marksErr p.length ys = 0
      · simp only [e, h1, h2, h3, not_true_eq_false, if_false, mergeOQ (marks_asc h2) (marks_asc h3)]
        cases mergeQ xs ys (p.length + 1) <;> rfl
      · simp only [e, h1, h2, h3, not_true_eq_false, not_false_eq_true, if_false, if_true]
    · simp only [e, h1, h2, not_true_eq_false, not_false_eq_true, if_false, if_true]
  · have e : checkErr p xs = pageErr p := by rw [checkErr, if_neg h1]
    simp only [e, h1, not_false_eq_true, if_true]
end Go.Proofs.Ytpfbbggmcbhboaa
end
