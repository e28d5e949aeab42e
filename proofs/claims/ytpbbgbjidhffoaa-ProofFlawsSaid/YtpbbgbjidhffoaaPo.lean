/- Walks of copies and comparisons of years, of Common, and of small functions of the statements. -/
import Derived.Test.YtpbbgbjidhffoaaPn
namespace Go.Proofs.Ytpbbgbjidhffoaa
open Go Go.W
set_option linter.unusedVariables false
set_option linter.unusedSimpArgs false
set_option maxRecDepth 20000
attribute [local irreducible] HL HC HQ HB Row Rows2 Blk Facts

def longP (p : List Str) : Bool := (p.any fun s => decide (30 < s.length)) || decide (20 < p.length)
def manyP (l : List Mk) : Bool := (l.any fun m => decide (30 < m.2.2.length)) || decide (20 < l.length)
def oldP (ys : List (List Str)) : Bool := (ys.any longP) || decide (20 < ys.length)
theorem longP_false {p : List Str} (h : longP p = false) : p.length ≤ 20 ∧ ∀ s ∈ p, s.length ≤ 30 := by
  simp only [longP, Bool.or_eq_false_iff, List.any_eq_false, decide_eq_false_iff_not, decide_eq_true_eq] at h
  exact ⟨by omega, fun s hs => by have := h.1 s hs; omega⟩
theorem manyP_false {l : List Mk} (h : manyP l = false) : l.length ≤ 20 := by
  simp only [manyP, Bool.or_eq_false_iff, decide_eq_false_iff_not] at h
  omega
theorem oldP_false {ys : List (List Str)} (h : oldP ys = false) : ys.length ≤ 20 ∧ ∀ p ∈ ys, p.length ≤ 20 := by
  simp only [oldP, Bool.or_eq_false_iff, decide_eq_false_iff_not, List.any_eq_false] at h
  exact ⟨by omega, fun p hp => (longP_false (Bool.eq_false_iff.2 (h.1 p hp))).1⟩
theorem any_take2 {α : Type} [Inhabited α] {f : α → Bool} {l : List α} {k : Nat} (hk : k < l.length) (h : (l.take k).any f = false) (h1 : f (l.getD k default) = false) : (l.take (k + 1)).any f = false := by
  rw [take_succ_getD l k hk, List.any_append, h]; simp only [List.any_cons, List.any_nil, h1, Bool.or_false]
theorem any_at2 {α : Type} [Inhabited α] {f : α → Bool} {l : List α} {k : Nat} (hk : k < l.length) (h1 : f (l.getD k default) = true) : l.any f = true := List.any_eq_true.2 ⟨_, getD_mem hk, h1⟩


theorem law07_long_meets {A : Option Addr} {c : Nat} (l : List Str) (hl : l.length ≤ 9223372036854775807) : Meets Try.prog F.law07_long [.slice A l.length c] { LI := [Row A (rows l)], val := fun _ : Unit => .bool (longP l) } := by
 refine meets_intro F.law07_long_f rfl (Nat.le_of_ble_eq_true rfl) fun w0 => ?_
 refine hc_seq ?_
 refine hc_region ?_
 refine r_assign rfl rfl ?_
 refine hl_nil ?_
 refine then_n ?_
 refine hc_seq ?_
 refine hc_seq ?_
 refine hc_region ?_
 refine r_assign rfl rfl ?_
 refine hl_nil ?_
 refine then_n ?_
 refine hc_block ?_
 refine hc_loop (β := Nat) ⟨fun k => k ≤ l.length ∧ (l.take k).any (fun s => decide (30 < s.length)) = false, fun k => [(0, .slice A l.length c), (3, int k)], fun _ => [], fun _ => [Row A (rows l)]⟩ (fun k => l.length - k) 0 ⟨Nat.zero_le _, rfl⟩ ⟨rfl, rfl, trivial⟩ (.refl _) ⟨m0, trivial⟩ fun k hk => ?_
 obtain ⟨hk, ht⟩ := hk
 refine hc_seq ?_
 refine hc_seq ?_
 refine hc_region ?_
 refine r_move rfl rfl ?_
 refine r_move rfl rfl ?_
 refine r_len_sl rfl T.u_strs rfl ?_
 refine r_lss rfl rfl rfl ?_
 refine hl_nil ?_
 refine then_n ?_
 first | refine c_dec rfl (fun hb1 => ?_) (fun hb1 => ?_) | refine hc_cond rfl (fun hb1 => ?_) (fun hb1 => ?_)
 ·have hb1' := hb1; try simp at hb1'
  have hk2 : k < l.length := by omega
  refine hc_skip ?_
  refine then_n ?_
  refine hc_seq ?_
  refine hc_block ?_
  refine hc_seq ?_
  refine hc_region ?_
  refine r_move rfl rfl ?_
  refine r_move rfl rfl ?_
  refine r_elem (α := Str) _ _ rfl T.u_strs T.sz_string rfl rfl rfl (by repeat constructor) rfl (by omega) (by decide) ?_
  refine r_load rfl T.cell_string rfl (cell_row (by repeat constructor) (rows_get0 (by omega) rfl)) ?_
  refine r_len_str rfl T.u_string rfl ?_
  refine r_gtr rfl rfl rfl ?_
  refine hl_nil ?_
  refine then_n ?_
  first | refine c_dec rfl (fun hb2 => ?_) (fun hb2 => ?_) | refine hc_cond rfl (fun hb2 => ?_) (fun hb2 => ?_)
  ·have hb2' := hb2; try simp at hb2'
   have h1 := any_at2 (f := fun s => decide (30 < s.length)) hk2 (decide_eq_true (p := 30 < (l.getD k default).length) (by omega))
   refine hc_seq ?_
   refine hc_region ?_
   refine r_assign rfl rfl ?_
   refine hl_nil ?_
   refine then_n ?_
   refine hc_ret ?_
   refine inb_ret ?_
   refine then_ret ?_
   refine then_ret ?_
   refine inb_ret ?_
   refine then_ret ?_
   exact ret1 () rfl (congrArg (fun b => some (Value.bool b)) (by rw [longP, h1]; rfl)) rfl trivial (List.nil_sublist _) trivial
  ·have hb2' := hb2; try simp at hb2'
   have h1 : (fun s => decide (30 < s.length)) (l.getD k default) = false := decide_eq_false (p := 30 < (l.getD k default).length) (by omega)
   refine hc_skip ?_
   refine inb_n ?_
   refine then_n ?_
   refine hc_region ?_
   refine r_move rfl rfl ?_
   refine r_add _ rfl rfl rfl rfl (by unfold I64; omega) ?_
   refine r_assign rfl rfl ?_
   refine hl_nil ?_
   exact again _ (k + 1) ⟨by omega, any_take2 hk2 ht h1⟩ (by show l.length - (k + 1) < l.length - k; omega) ⟨rfl, rfl, trivial⟩ (.refl _) ⟨m0, trivial⟩
 ·have hb1' := hb1; try simp at hb1'
  have hk2 : k = l.length := by omega
  subst hk2
  rw [List.take_length] at ht
  refine hc_exit ?_
  refine then_exit ?_
  refine then_exit ?_
  refine inb_hit ?_
  refine then_n ?_
  refine hc_seq ?_
  refine hc_region ?_
  refine r_move rfl rfl ?_
  refine r_len_sl rfl T.u_strs rfl ?_
  refine r_gtr rfl rfl rfl ?_
  refine r_assign rfl rfl ?_
  refine hl_nil ?_
  refine then_n ?_
  refine hc_ret ?_
  exact ret1 () rfl (congrArg (fun b => some (Value.bool b)) (by rw [longP, ht, Bool.false_or]; exact decide_eq_decide.2 (by omega))) rfl trivial (List.nil_sublist _) trivial

theorem law07_many_meets {A : Option Addr} {c : Nat} (l : List Mk) (hl : l.length ≤ 9223372036854775807) : Meets Try.prog F.law07_many [.slice A l.length c] { LI := [Row A (rows l)], val := fun _ : Unit => .bool (manyP l) } := by
 refine meets_intro F.law07_many_f rfl (Nat.le_of_ble_eq_true rfl) fun w0 => ?_
 refine hc_seq ?_
 refine hc_region ?_
 refine r_assign rfl rfl ?_
 refine hl_nil ?_
 refine then_n ?_
 refine hc_seq ?_
 refine hc_seq ?_
 refine hc_region ?_
 refine r_assign rfl rfl ?_
 refine hl_nil ?_
 refine then_n ?_
 refine hc_block ?_
 refine hc_loop (β := Nat) ⟨fun k => k ≤ l.length ∧ (l.take k).any (fun m => decide (30 < m.2.2.length)) = false, fun k => [(0, .slice A l.length c), (3, int k)], fun _ => [], fun _ => [Row A (rows l)]⟩ (fun k => l.length - k) 0 ⟨Nat.zero_le _, rfl⟩ ⟨rfl, rfl, trivial⟩ (.refl _) ⟨m0, trivial⟩ fun k hk => ?_
 obtain ⟨hk, ht⟩ := hk
 refine hc_seq ?_
 refine hc_seq ?_
 refine hc_region ?_
 refine r_move rfl rfl ?_
 refine r_move rfl rfl ?_
 refine r_len_sl rfl T.u_L_api_Mark rfl ?_
 refine r_lss rfl rfl rfl ?_
 refine hl_nil ?_
 refine then_n ?_
 first | refine c_dec rfl (fun hb1 => ?_) (fun hb1 => ?_) | refine hc_cond rfl (fun hb1 => ?_) (fun hb1 => ?_)
 ·have hb1' := hb1; try simp at hb1'
  have hk2 : k < l.length := by omega
  refine hc_skip ?_
  refine then_n ?_
  refine hc_seq ?_
  refine hc_block ?_
  refine hc_seq ?_
  refine hc_region ?_
  refine r_move rfl rfl ?_
  refine r_move rfl rfl ?_
  refine r_elem (α := Mk) _ _ rfl T.u_L_api_Mark T.sz_api_Mark rfl rfl rfl (by repeat constructor) rfl (by omega) (by decide) ?_
  first | refine r_fieldAddr ⟨_, 2, none⟩ rfl rfl T.fa_api_Mark_2 rfl ?_ | refine r_fieldAddr _ rfl rfl T.fa_api_Mark_2 rfl ?_
  refine r_load rfl T.cell_string rfl (cell_row_f (by repeat constructor) (rows_get (by omega) rfl)) ?_
  refine r_len_str rfl T.u_string rfl ?_
  refine r_gtr rfl rfl rfl ?_
  refine hl_nil ?_
  refine then_n ?_
  first | refine c_dec rfl (fun hb2 => ?_) (fun hb2 => ?_) | refine hc_cond rfl (fun hb2 => ?_) (fun hb2 => ?_)
  ·have hb2' := hb2; try simp at hb2'
   have h1 := any_at2 (f := fun m => decide (30 < m.2.2.length)) hk2 (decide_eq_true (p := 30 < (l.getD k default).2.2.length) (by omega))
   refine hc_seq ?_
   refine hc_region ?_
   refine r_assign rfl rfl ?_
   refine hl_nil ?_
   refine then_n ?_
   refine hc_ret ?_
   refine inb_ret ?_
   refine then_ret ?_
   refine then_ret ?_
   refine inb_ret ?_
   refine then_ret ?_
   exact ret1 () rfl (congrArg (fun b => some (Value.bool b)) (by rw [manyP, h1]; rfl)) rfl trivial (List.nil_sublist _) trivial
  ·have hb2' := hb2; try simp at hb2'
   have h1 : (fun m => decide (30 < m.2.2.length)) (l.getD k default) = false := decide_eq_false (p := 30 < (l.getD k default).2.2.length) (by omega)
   refine hc_skip ?_
   refine inb_n ?_
   refine then_n ?_
   refine hc_region ?_
   refine r_move rfl rfl ?_
   refine r_add _ rfl rfl rfl rfl (by unfold I64; omega) ?_
   refine r_assign rfl rfl ?_
   refine hl_nil ?_
   exact again _ (k + 1) ⟨by omega, any_take2 hk2 ht h1⟩ (by show l.length - (k + 1) < l.length - k; omega) ⟨rfl, rfl, trivial⟩ (.refl _) ⟨m0, trivial⟩
 ·have hb1' := hb1; try simp at hb1'
  have hk2 : k = l.length := by omega
  subst hk2
  rw [List.take_length] at ht
  refine hc_exit ?_
  refine then_exit ?_
  refine then_exit ?_
  refine inb_hit ?_
  refine then_n ?_
  refine hc_seq ?_
  refine hc_region ?_
  refine r_move rfl rfl ?_
  refine r_len_sl rfl T.u_L_api_Mark rfl ?_
  refine r_gtr rfl rfl rfl ?_
  refine r_assign rfl rfl ?_
  refine hl_nil ?_
  refine then_n ?_
  refine hc_ret ?_
  exact ret1 () rfl (congrArg (fun b => some (Value.bool b)) (by rw [manyP, ht, Bool.false_or]; exact decide_eq_decide.2 (by omega))) rfl trivial (List.nil_sublist _) trivial

theorem any_years {f : List Str → Bool} {ps : List (Sl Str)} {k : Nat} (hk : k < ps.length) (h : (years (ps.take k)).any f = false) (h1 : f (ps.getD k default).l = false) : (years (ps.take (k + 1))).any f = false := by
  rw [take_succ_getD ps k hk]
  show (List.map _ (ps.take k ++ [_])).any f = false
  rw [List.map_append, List.any_append]
  have : (List.map (fun x : Sl Str => x.l) (ps.take k)).any f = false := h
  rw [this]; simp only [List.map_cons, List.map_nil, List.any_cons, List.any_nil, h1, Bool.or_false]
theorem any_years_at {f : List Str → Bool} {ps : List (Sl Str)} {k : Nat} (hk : k < ps.length) (h1 : f (ps.getD k default).l = true) : (years ps).any f = true := List.any_eq_true.2 ⟨_, List.mem_map.2 ⟨_, getD_mem hk, rfl⟩, h1⟩

theorem law07_old_meets {A : Option Addr} {c : Nat} (ps : List (Sl Str)) (hl : ps.length ≤ 9223372036854775807) (hp : ∀ p ∈ ps, p.l.length ≤ 9223372036854775807) : Meets Try.prog F.law07_old [.slice A ps.length c] { LI := [Rows2 A ps], val := fun _ : Unit => .bool (oldP (years ps)) } := by
 refine meets_intro F.law07_old_f rfl (Nat.le_of_ble_eq_true rfl) fun w0 => ?_
 refine hc_seq ?_
 refine hc_outer m0 ?_
 refine hc_region ?_
 refine r_assign rfl rfl ?_
 refine hl_nil ?_
 refine then_n ?_
 refine hc_seq ?_
 refine hc_seq ?_
 refine hc_region ?_
 refine r_assign rfl rfl ?_
 refine hl_nil ?_
 refine then_n ?_
 refine hc_block ?_
 refine hc_loop (β := Nat) ⟨fun k => k ≤ ps.length ∧ (years (ps.take k)).any longP = false, fun k => [(0, .slice A ps.length c), (3, int k)], fun _ => [], fun _ => [Row A (rows ps), Rows2 A ps]⟩ (fun k => ps.length - k) 0 ⟨Nat.zero_le _, rfl⟩ ⟨rfl, rfl, trivial⟩ (.refl _) ⟨m0, m1, trivial⟩ fun k hk => ?_
 obtain ⟨hk, ht⟩ := hk
 refine hc_seq ?_
 refine hc_seq ?_
 refine hc_region ?_
 refine r_move rfl rfl ?_
 refine r_move rfl rfl ?_
 refine r_len_sl rfl T.u_pages rfl ?_
 refine r_lss rfl rfl rfl ?_
 refine hl_nil ?_
 refine then_n ?_
 first | refine c_dec rfl (fun hb1 => ?_) (fun hb1 => ?_) | refine hc_cond rfl (fun hb1 => ?_) (fun hb1 => ?_)
 ·have hb1' := hb1; try simp at hb1'
  have hk2 : k < ps.length := by omega
  have hmem := getD_mem hk2
  refine hc_skip ?_
  refine then_n ?_
  refine hc_seq ?_
  refine hc_block ?_
  refine hc_seq ?_
  refine hc_region ?_
  refine r_move rfl rfl ?_
  refine r_move rfl rfl ?_
  refine r_elem (α := (Sl Str)) _ _ rfl T.u_pages T.sz_strs rfl rfl rfl (by repeat constructor) rfl (by omega) (by decide) ?_
  refine r_load rfl T.cell_strs rfl (cell_row (by repeat constructor) (rows_get0 (by omega) rfl)) ?_
  refine hl_inner (p := ps.getD k default) m1 hmem ?_
  refine hl_call F.law07_long_cb rfl rfl (law07_long_meets (ps.getD k default).l (hp _ hmem)) (List.Perm.refl _) ⟨m0, trivial⟩ fun _ _ => ?_
  refine hl_nil ?_
  refine then_n ?_
  first | refine c_dec rfl (fun hb2 => ?_) (fun hb2 => ?_) | refine hc_cond rfl (fun hb2 => ?_) (fun hb2 => ?_)
  ·have hb2' := hb2; try simp at hb2'
   refine hc_seq ?_
   refine hc_region ?_
   refine r_assign rfl rfl ?_
   refine hl_nil ?_
   refine then_n ?_
   refine hc_ret ?_
   refine inb_ret ?_
   refine then_ret ?_
   refine then_ret ?_
   refine inb_ret ?_
   refine then_ret ?_
   exact ret1 () rfl (congrArg (fun b => some (Value.bool b)) (by rw [oldP, any_years_at hk2 hb2]; rfl)) rfl trivial (List.nil_sublist _) trivial
  ·have hb2' := hb2; try simp at hb2'
   refine hc_skip ?_
   refine inb_n ?_
   refine then_n ?_
   refine hc_region ?_
   refine r_move rfl rfl ?_
   refine r_add _ rfl rfl rfl rfl (by unfold I64; omega) ?_
   refine r_assign rfl rfl ?_
   refine hl_nil ?_
   exact again _ (k + 1) ⟨by omega, any_years hk2 ht hb2⟩ (by show ps.length - (k + 1) < ps.length - k; omega) ⟨rfl, rfl, trivial⟩ (.refl _) ⟨m1, m2, trivial⟩
 ·have hb1' := hb1; try simp at hb1'
  have hk2 : k = ps.length := by omega
  subst hk2
  rw [List.take_length] at ht
  refine hc_exit ?_
  refine then_exit ?_
  refine then_exit ?_
  refine inb_hit ?_
  refine then_n ?_
  refine hc_seq ?_
  refine hc_region ?_
  refine r_move rfl rfl ?_
  refine r_len_sl rfl T.u_pages rfl ?_
  refine r_gtr rfl rfl rfl ?_
  refine r_assign rfl rfl ?_
  refine hl_nil ?_
  refine then_n ?_
  refine hc_ret ?_
  exact ret1 () rfl (congrArg (fun b => some (Value.bool b)) (by rw [oldP, ht, Bool.false_or]; exact decide_eq_decide.2 (by rw [List.length_map]; omega))) rfl trivial (List.nil_sublist _) trivial

theorem law07_on_meets {A : Option Addr} {c : Nat} (l : List Str) (s : Str) (hl : l.length ≤ 1000000) : Meets Try.prog F.law07_on [.slice A l.length c, str s] { LI := [Row A (rows l)], val := fun _ : Unit => .bool (decide (s ∈ l)) } := by
 refine meets_intro F.law07_on_f rfl (Nat.le_of_ble_eq_true rfl) fun w0 => ?_
 refine hc_seq ?_
 refine hc_region ?_
 refine r_assign rfl rfl ?_
 refine hl_nil ?_
 refine then_n ?_
 refine hc_seq ?_
 refine hc_seq ?_
 refine hc_region ?_
 refine r_assign rfl rfl ?_
 refine hl_nil ?_
 refine then_n ?_
 refine hc_block ?_
 refine hc_loop (β := Nat) ⟨fun k => k ≤ l.length ∧ s ∉ l.take k, fun k => [(0, .slice A l.length c), (1, str s), (5, int k)], fun _ => [], fun _ => [Row A (rows l)]⟩ (fun k => l.length - k) 0 ⟨Nat.zero_le _, by simp⟩ ⟨rfl, rfl, rfl, trivial⟩ (.refl _) ⟨m0, trivial⟩ fun k hk => ?_
 obtain ⟨hk, ht⟩ := hk
 refine hc_seq ?_
 refine hc_seq ?_
 refine hc_region ?_
 refine r_move rfl rfl ?_
 refine r_move rfl rfl ?_
 refine r_len_sl rfl T.u_strs rfl ?_
 refine r_lss rfl rfl rfl ?_
 refine hl_nil ?_
 refine then_n ?_
 first | refine c_dec rfl (fun hb1 => ?_) (fun hb1 => ?_) | refine hc_cond rfl (fun hb1 => ?_) (fun hb1 => ?_)
 ·have hb1' := hb1; try simp at hb1'
  have hk2 : k < l.length := by omega
  refine hc_skip ?_
  refine then_n ?_
  refine hc_seq ?_
  refine hc_block ?_
  refine hc_seq ?_
  refine hc_region ?_
  refine r_move rfl rfl ?_
  refine r_move rfl rfl ?_
  refine r_elem (α := Str) _ _ rfl T.u_strs T.sz_string rfl rfl rfl (by repeat constructor) rfl (by omega) (by decide) ?_
  refine r_load rfl T.cell_string rfl (cell_row (by repeat constructor) (rows_get0 (by omega) rfl)) ?_
  refine r_move rfl rfl ?_
  refine r_seql rfl rfl rfl ?_
  refine hl_nil ?_
  refine then_n ?_
  first | refine c_dec rfl (fun hb2 => ?_) (fun hb2 => ?_) | refine hc_cond rfl (fun hb2 => ?_) (fun hb2 => ?_)
  ·have hb2' := hb2; try simp at hb2'
   refine hc_seq ?_
   refine hc_region ?_
   refine r_assign rfl rfl ?_
   refine hl_nil ?_
   refine then_n ?_
   refine hc_ret ?_
   refine inb_ret ?_
   refine then_ret ?_
   refine then_ret ?_
   refine inb_ret ?_
   refine then_ret ?_
   exact ret1 () rfl (congrArg (fun b => some (Value.bool b)) (by rw [decide_eq_true]; rw [← hb2]; exact getD_mem hk2)) rfl trivial (List.nil_sublist _) trivial
  ·have hb2' := hb2; try simp at hb2'
   refine hc_skip ?_
   refine inb_n ?_
   refine then_n ?_
   refine hc_region ?_
   refine r_move rfl rfl ?_
   refine r_add _ rfl rfl rfl rfl (by unfold I64; omega) ?_
   refine r_assign rfl rfl ?_
   refine hl_nil ?_
   exact again _ (k + 1) ⟨by omega, not_mem_take hk2 ht (fun e => hb2 e.symm)⟩ (by show l.length - (k + 1) < l.length - k; omega) ⟨rfl, rfl, rfl, trivial⟩ (.refl _) ⟨m0, trivial⟩
 ·have hb1' := hb1; try simp at hb1'
  have hk2 : k = l.length := by omega
  subst hk2
  rw [List.take_length] at ht
  refine hc_exit ?_
  refine then_exit ?_
  refine then_exit ?_
  refine inb_hit ?_
  refine then_n ?_
  refine hc_seq ?_
  refine hc_region ?_
  refine r_assign rfl rfl ?_
  refine hl_nil ?_
  refine then_n ?_
  refine hc_ret ?_
  exact ret1 () rfl (congrArg (fun b => some (Value.bool b)) (by rw [decide_eq_false ht])) rfl trivial (List.nil_sublist _) trivial

theorem kit_Index_meets {A : Option Addr} {c : Nat} (l : List Int) (s : Int) (hl : l.length ≤ 1000000) : Meets Try.prog F.kit_Index [.slice A l.length c, int s] { LI := [Row A (rows l)], inv := fun z : Int => (0 ≤ z ↔ s ∈ l), val := fun z => int z } := by
 refine meets_intro F.kit_Index_f rfl (Nat.le_of_ble_eq_true rfl) fun w0 => ?_
 refine hc_seq ?_
 refine hc_region ?_
 refine r_assign rfl rfl ?_
 refine hl_nil ?_
 refine then_n ?_
 refine hc_seq ?_
 refine hc_seq ?_
 refine hc_region ?_
 refine r_assign rfl rfl ?_
 refine hl_nil ?_
 refine then_n ?_
 refine hc_block ?_
 refine hc_loop (β := Nat) ⟨fun k => k ≤ l.length ∧ s ∉ l.take k, fun k => [(0, .slice A l.length c), (1, int s), (5, int k)], fun _ => [], fun _ => [Row A (rows l)]⟩ (fun k => l.length - k) 0 ⟨Nat.zero_le _, by simp⟩ ⟨rfl, rfl, rfl, trivial⟩ (.refl _) ⟨m0, trivial⟩ fun k hk => ?_
 obtain ⟨hk, ht⟩ := hk
 refine hc_seq ?_
 refine hc_seq ?_
 refine hc_region ?_
 refine r_move rfl rfl ?_
 refine r_move rfl rfl ?_
 refine r_len_sl rfl T.u_ints rfl ?_
 refine r_lss rfl rfl rfl ?_
 refine hl_nil ?_
 refine then_n ?_
 first | refine c_dec rfl (fun hb1 => ?_) (fun hb1 => ?_) | refine hc_cond rfl (fun hb1 => ?_) (fun hb1 => ?_)
 ·have hb1' := hb1; try simp at hb1'
  have hk2 : k < l.length := by omega
  refine hc_skip ?_
  refine then_n ?_
  refine hc_seq ?_
  refine hc_block ?_
  refine hc_seq ?_
  refine hc_region ?_
  refine r_move rfl rfl ?_
  refine r_move rfl rfl ?_
  refine r_elem (α := Int) _ _ rfl T.u_ints T.sz_int rfl rfl rfl (by repeat constructor) rfl (by omega) (by decide) ?_
  refine r_load rfl T.cell_int rfl (cell_row (by repeat constructor) (rows_get0 (by omega) rfl)) ?_
  refine r_move rfl rfl ?_
  refine r_eql rfl rfl rfl ?_
  refine hl_nil ?_
  refine then_n ?_
  first | refine c_dec rfl (fun hb2 => ?_) (fun hb2 => ?_) | refine hc_cond rfl (fun hb2 => ?_) (fun hb2 => ?_)
  ·have hb2' := hb2; try simp at hb2'
   refine hc_seq ?_
   refine hc_region ?_
   refine r_move rfl rfl ?_
   refine r_assign rfl rfl ?_
   refine hl_nil ?_
   refine then_n ?_
   refine hc_ret ?_
   refine inb_ret ?_
   refine then_ret ?_
   refine then_ret ?_
   refine inb_ret ?_
   refine then_ret ?_
   exact ret1 (k : Int) rfl rfl rfl ⟨fun _ => by rw [← hb2]; exact getD_mem hk2, fun _ => by omega⟩ (.refl _) trivial
  ·have hb2' := hb2; try simp at hb2'
   refine hc_skip ?_
   refine inb_n ?_
   refine then_n ?_
   refine hc_region ?_
   refine r_move rfl rfl ?_
   refine r_add _ rfl rfl rfl rfl (by unfold I64; omega) ?_
   refine r_assign rfl rfl ?_
   refine hl_nil ?_
   exact again _ (k + 1) ⟨by omega, not_mem_take hk2 ht (fun e => hb2 e.symm)⟩ (by show l.length - (k + 1) < l.length - k; omega) ⟨rfl, rfl, rfl, trivial⟩ (.refl _) ⟨m0, trivial⟩
 ·have hb1' := hb1; try simp at hb1'
  have hk2 : k = l.length := by omega
  subst hk2
  rw [List.take_length] at ht
  refine hc_exit ?_
  refine then_exit ?_
  refine then_exit ?_
  refine inb_hit ?_
  refine then_n ?_
  refine hc_seq ?_
  refine hc_region ?_
  refine r_assign rfl rfl ?_
  refine hl_nil ?_
  refine then_n ?_
  refine hc_ret ?_
  exact ret1 (-1) rfl rfl rfl ⟨fun h => by omega, fun h => absurd h ht⟩ (.refl _) trivial

abbrev CapOK (ps : List (Sl Str)) : Prop := ∀ p ∈ ps, p.l.length ≤ p.c
theorem years_take_succ {ps : List (Sl Str)} {k : Nat} (hk : k < ps.length) : (years ps).take (k + 1) = (years ps).take k ++ [(ps.getD k default).l] := by
  have h1 : k < (years ps).length := by simpa using hk
  rw [List.take_succ_eq_append_getElem h1, getD_at hk]
  simp
theorem CapOK.snoc {ps : List (Sl Str)} {p : Sl Str} (h : CapOK ps) (hp : p.l.length ≤ p.c) : CapOK (ps ++ [p]) := fun q hq => by
  rcases List.mem_append.1 hq with hq | hq
  · exact h q hq
  · simp at hq; subst hq; exact hp
theorem years_len (ps : List (Sl Str)) : (years ps).length = ps.length := List.length_map ..

theorem kit_DupYears_meets {A : Option Addr} {c : Nat} (ps : List (Sl Str)) (hl : ps.length ≤ 1000000) (hp : ∀ p ∈ ps, p.l.length ≤ 1000000) : Meets Try.prog F.kit_DupYears [.slice A ps.length c] { LI := [Rows2 A ps], inv := fun x : List (Sl Str) × OutC => years x.1 = years ps ∧ CapOK x.1 ∧ x.1.length ≤ x.2.2, val := fun x => .slice x.2.1 x.1.length x.2.2, LO := fun x => [Rows2 x.2.1 x.1] } := by
 refine meets_intro F.kit_DupYears_f rfl (Nat.le_of_ble_eq_true rfl) fun w0 => ?_
 refine hc_seq ?_
 refine hc_outer m0 ?_
 refine hc_facts (Fs := ([] : List (Sl Str)).map fun p => Row p.a (rows p.l)) (by intro F hF; simp at hF) ?_
 refine hc_region ?_
 refine r_assign rfl rfl ?_
 refine hl_nil ?_
 refine then_n ?_
 refine hc_seq ?_
 refine hc_region ?_
 refine r_assign rfl rfl ?_
 refine hl_nil ?_
 refine then_n ?_
 refine hc_seq ?_
 refine hc_seq ?_
 refine hc_region ?_
 refine r_assign rfl rfl ?_
 refine hl_nil ?_
 refine then_n ?_
 refine hc_block ?_
 refine hc_loop (β := List (Sl Str) × OutC × Hp) ⟨fun ⟨qs, o, og⟩ => GrowS2 o qs og ∧ qs.length ≤ ps.length ∧ years qs = (years ps).take qs.length ∧ CapOK qs, fun ⟨qs, o, og⟩ => [(0, .slice A ps.length c), (3, .slice o.1 qs.length o.2), (4, int qs.length)], fun ⟨qs, o, og⟩ => og, fun ⟨qs, o, og⟩ => [inner qs, Row A (rows ps), Rows2 A ps]⟩
   (fun x => ps.length - x.1.length) ([], (none, 0), []) ⟨Grow.nil _ _, Nat.zero_le _, rfl, by intro p hp; simp at hp⟩ ⟨rfl, rfl, rfl, trivial⟩ (.refl _) ⟨m0, m1, m2, trivial⟩ fun x hx => ?_
 obtain ⟨qs, o, og⟩ := x
 obtain ⟨hG, hlen, hy, hc⟩ := hx
 refine hc_seq ?_
 refine hc_seq ?_
 refine hc_region ?_
 refine r_move rfl rfl ?_
 refine r_move rfl rfl ?_
 refine r_len_sl rfl T.u_pages rfl ?_
 refine r_lss rfl rfl rfl ?_
 refine hl_nil ?_
 refine then_n ?_
 first | refine c_dec rfl (fun hb1 => ?_) (fun hb1 => ?_) | refine hc_cond rfl (fun hb1 => ?_) (fun hb1 => ?_)
 ·have hb1' := hb1; try simp at hb1'
  have hk2 : qs.length < ps.length := by omega
  have hmem := getD_mem hk2
  refine hc_skip ?_
  refine then_n ?_
  refine hc_seq ?_
  refine hc_block ?_
  refine hc_region ?_
  refine r_move rfl rfl ?_
  refine r_move rfl rfl ?_
  refine r_move rfl rfl ?_
  refine r_elem (α := Sl Str) ps qs.length rfl T.u_pages T.sz_strs rfl rfl rfl m1 rfl (by omega) (by decide) ?_
  refine r_load rfl T.cell_strs rfl (cell_row (by repeat constructor) (rows_get0 (by omega) rfl)) ?_
  refine hl_inner (p := ps.getD qs.length default) m2 hmem ?_
  refine hl_call F.kit_DupStrings_cb rfl rfl (kit_DupStrings_meets (ps.getD qs.length default).l (hp _ hmem)) (List.Perm.refl _) ⟨m0, trivial⟩ fun x hx => ?_
  have hx : (ps.getD qs.length default).l.length ≤ x.2 := hx
  refine r_buildSlice _ rfl rfl (fun _ => T.bs_pages_1 ..) fun gS => ?_
  refine r_append (qs.length + 1) (rows (qs ++ [(⟨x.1, x.2, (ps.getD qs.length default).l⟩ : Sl Str)])) T.el_pages rfl rfl rfl hG (List.perm_append_comm (l₁ := [_])) (Src.own (cs := #[.slice x.1 (ps.getD qs.length default).l.length x.2]) (m := 1) (List.mem_append_right _ m0) rfl rfl) rfl (rows_append qs [(⟨x.1, x.2, (ps.getD qs.length default).l⟩ : Sl Str)]).symm (by unfold maxLen; omega) (by omega) fun A' c' og' hG' => ?_
  refine r_assign rfl rfl ?_
  refine hl_facts (inner_snoc (ps := qs) (p := (⟨x.1, x.2, (ps.getD qs.length default).l⟩ : Sl Str)) (by repeat constructor) (by repeat constructor)) ?_
  refine hl_nil ?_
  refine inb_n ?_
  refine then_n ?_
  refine hc_region ?_
  refine r_move rfl rfl ?_
  refine r_add _ rfl rfl rfl rfl (by unfold I64; omega) ?_
  refine r_assign rfl rfl ?_
  refine hl_nil ?_
  refine again _ (qs ++ [(⟨x.1, x.2, (ps.getD qs.length default).l⟩ : Sl Str)], (A', c'), og') ⟨by unfold GrowS2; rw [len_snoc]; exact hG', by rw [len_snoc]; omega, ?_, hc.snoc hx⟩ (by show ps.length - (qs ++ [_]).length < ps.length - qs.length; rw [len_snoc]; omega) ⟨rfl, by rw [len_snoc]; rfl, by rw [len_snoc]; rfl, trivial⟩ (List.sublist_append_left _ _) ⟨m0, (by repeat constructor), (by repeat constructor), trivial⟩
  show years (qs ++ [_]) = _
  rw [len_snoc, years_take_succ hk2, ← hy]
  simp
 ·have hb1' := hb1; try simp at hb1'
  have hk2 : qs.length = ps.length := by omega
  refine hc_exit ?_
  refine then_exit ?_
  refine then_exit ?_
  refine inb_hit ?_
  refine then_n ?_
  refine hc_seq ?_
  refine hc_region ?_
  refine r_move rfl rfl ?_
  refine r_assign rfl rfl ?_
  refine hl_nil ?_
  refine then_n ?_
  refine hc_ret ?_
  have hy2 : years qs = years ps := by rw [hy, hk2, ← years_len ps, List.take_length]
  refine hq_grown0 hG ?_
  refine hq_rows2F m0 m1 ?_
  exact ret1 (qs, o) rfl rfl rfl ⟨hy2, hc, hG.le⟩ (.refl _) ⟨m0, trivial⟩

theorem years_at {ps : List (Sl Str)} {k : Nat} : (years ps).getD k [] = (ps.getD k default).l := by
  unfold years
  by_cases h : k < ps.length
  · simp [List.getD_eq_getElem?_getD, h]
  · simp [List.getD_eq_getElem?_getD, List.getElem?_eq_none (Nat.le_of_not_lt h)]; rfl

theorem kit_EqYears_meets {A B : Option Addr} {ca cb : Nat} (a b : List (Sl Str)) (ha : a.length ≤ 1000000) (hla : ∀ p ∈ a, p.l.length ≤ 1000000) :
    Meets Try.prog F.kit_EqYears [.slice A a.length ca, .slice B b.length cb] { LI := [Rows2 A a, Rows2 B b], val := fun _ : Unit => .bool (decide (years a = years b)) } := by
 refine meets_intro F.kit_EqYears_f rfl (Nat.le_of_ble_eq_true rfl) fun w0 => ?_
 refine hc_seq ?_
 refine hc_region ?_
 refine r_assign rfl rfl ?_
 refine hl_nil ?_
 refine then_n ?_
 refine hc_seq ?_
 refine hc_seq ?_
 refine hc_region ?_
 refine r_move rfl rfl ?_
 refine r_len_sl rfl T.u_pages rfl ?_
 refine r_move rfl rfl ?_
 refine r_len_sl rfl T.u_pages rfl ?_
 refine r_neq rfl rfl rfl ?_
 refine hl_nil ?_
 refine then_n ?_
 first | refine c_dec rfl (fun hb1 => ?_) (fun hb1 => ?_) | refine hc_cond rfl (fun hb1 => ?_) (fun hb1 => ?_)
 ·have hb1' := hb1; try simp at hb1'
  have hb1 : ¬ years a = years b := fun e => by have := congrArg List.length e; rw [years_len, years_len] at this; omega
  refine hc_seq ?_
  refine hc_region ?_
  refine r_assign rfl rfl ?_
  refine hl_nil ?_
  refine then_n ?_
  refine hc_ret ?_
  refine then_ret ?_
  exact ret1 () rfl (by rw [decide_eq_false hb1]; rfl) rfl trivial (.refl _) trivial
 ·have hb1' := hb1; try simp at hb1'
  have hb1 : a.length = b.length := by omega
  refine hc_outer (A := A) (ps := a) m0 ?_
  refine hc_outer (A := B) (ps := b) m2 ?_
  refine hc_skip ?_
  refine then_n ?_
  refine hc_seq ?_
  refine hc_seq ?_
  refine hc_region ?_
  refine r_assign rfl rfl ?_
  refine hl_nil ?_
  refine then_n ?_
  refine hc_block ?_
  refine hc_loop (β := Nat) ⟨fun k => k ≤ a.length ∧ (years a).take k = (years b).take k, fun k => [(0, .slice A a.length ca), (1, .slice B b.length cb), (5, int k)], fun _ => [], fun _ => [Row B (rows b), Row A (rows a), Rows2 A a, Rows2 B b]⟩ (fun k => a.length - k) 0 ⟨Nat.zero_le _, rfl⟩ ⟨rfl, rfl, rfl, trivial⟩ (.refl _) ⟨m0, m1, m2, m3, trivial⟩ fun k hk => ?_
  obtain ⟨hk, ht⟩ := hk
  refine hc_seq ?_
  refine hc_seq ?_
  refine hc_region ?_
  refine r_move rfl rfl ?_
  refine r_move rfl rfl ?_
  refine r_len_sl rfl T.u_pages rfl ?_
  refine r_lss rfl rfl rfl ?_
  refine hl_nil ?_
  refine then_n ?_
  first | refine c_dec rfl (fun hb2 => ?_) (fun hb2 => ?_) | refine hc_cond rfl (fun hb2 => ?_) (fun hb2 => ?_)
  ·have hb2' := hb2; try simp at hb2'
   have hk2 : k < a.length := by omega
   have hma := getD_mem hk2
   have hmb := getD_mem (l := b) (k := k) (by omega)
   refine hc_skip ?_
   refine then_n ?_
   refine hc_seq ?_
   refine hc_block ?_
   refine hc_seq ?_
   refine hc_draw 8 mixed (by decide) (by decide) rfl rfl ?_
   apply hb_ex _ rfl rfl rfl
   ·intro w1
    refine r_move rfl rfl ?_
    refine hl_nil ?_
    exact qe_done rfl
   apply hb_ex _ rfl rfl rfl
   ·intro w1
    refine r_move rfl rfl ?_
    refine hl_nil ?_
    exact qe_done rfl
   apply hb_ex _ rfl rfl rfl
   ·intro w1
    refine r_elem (α := (Sl Str)) _ _ rfl T.u_pages T.sz_strs rfl rfl rfl (by repeat constructor) rfl (by omega) (by decide) ?_
    refine hl_nil ?_
    exact qe_done rfl
   apply hb_ex _ rfl rfl rfl
   ·intro w1
    refine r_load rfl T.cell_strs rfl (cell_row (by repeat constructor) (rows_get0 (by omega) rfl)) ?_
    refine hl_nil ?_
    exact qe_done rfl
   apply hb_ex _ rfl rfl rfl
   ·intro w1
    refine r_move rfl rfl ?_
    refine hl_nil ?_
    exact qe_done rfl
   apply hb_ex _ rfl rfl rfl
   ·intro w1
    refine r_move rfl rfl ?_
    refine hl_nil ?_
    exact qe_done rfl
   apply hb_ex _ rfl rfl rfl
   ·intro w1
    refine r_elem (α := (Sl Str)) _ _ rfl T.u_pages T.sz_strs rfl rfl rfl (by repeat constructor) rfl (by omega) (by decide) ?_
    refine hl_nil ?_
    exact qe_done rfl
   apply hb_ex _ rfl rfl rfl
   ·intro w1
    refine r_load rfl T.cell_strs rfl (cell_row (by repeat constructor) (rows_get0 (by omega) rfl)) ?_
    refine hl_nil ?_
    exact qe_done rfl
   refine hb_nil ⟨rfl, ?_⟩
   refine hl_inner (A := A) (ps := a) (p := a.getD k default) (by repeat constructor) hma ?_
   refine hl_inner (A := B) (ps := b) (p := b.getD k default) (by repeat constructor) hmb ?_
   refine hl_call F.kit_EqStrings_cb rfl rfl (kit_EqStrings_meets (a.getD k default).l (b.getD k default).l (by have := hla _ hma; omega)) (List.Perm.refl _) ⟨m1, m0, trivial⟩ fun _ _ => ?_
   refine r_not rfl rfl ?_
   refine hl_nil ?_
   refine then_n ?_
   first | refine c_dec rfl (fun hb3 => ?_) (fun hb3 => ?_) | refine hc_cond rfl (fun hb3 => ?_) (fun hb3 => ?_)
   ·have hb3' := hb3; try simp at hb3'
    have hne : ¬ (a.getD k default).l = (b.getD k default).l := by simpa using hb3'
    have hb3 : ¬ years a = years b := fun e => hne (by rw [← years_at, ← years_at, e])
    refine hc_seq ?_
    refine hc_region ?_
    refine r_assign rfl rfl ?_
    refine hl_nil ?_
    refine then_n ?_
    refine hc_ret ?_
    refine inb_ret ?_
    refine then_ret ?_
    refine then_ret ?_
    refine inb_ret ?_
    refine then_ret ?_
    exact ret1 () rfl (by rw [decide_eq_false hb3]; rfl) rfl trivial (.refl _) trivial
   ·have hb3' := hb3; try simp at hb3'
    have hq : (a.getD k default).l = (b.getD k default).l := by simpa using hb3'
    refine hc_skip ?_
    refine inb_n ?_
    refine then_n ?_
    refine hc_region ?_
    refine r_move rfl rfl ?_
    refine r_add _ rfl rfl rfl rfl (by unfold I64; omega) ?_
    refine r_assign rfl rfl ?_
    refine hl_nil ?_
    exact again _ (k + 1) ⟨by omega, by rw [years_take_succ hk2, years_take_succ (by omega), ht, hq]⟩ (by show a.length - (k + 1) < a.length - k; omega) ⟨rfl, rfl, rfl, trivial⟩ (.refl _) ⟨(by repeat constructor), (by repeat constructor), (by repeat constructor), (by repeat constructor), trivial⟩
  ·have hb2' := hb2; try simp at hb2'
   have hk2 : k = a.length := by omega
   refine hc_exit ?_
   refine then_exit ?_
   refine then_exit ?_
   refine inb_hit ?_
   refine then_n ?_
   refine hc_seq ?_
   refine hc_region ?_
   refine r_assign rfl rfl ?_
   refine hl_nil ?_
   refine then_n ?_
   refine hc_ret ?_
   exact ret1 () rfl (by rw [decide_eq_true (eq_of_takes ht (by rw [years_len]; omega) (by rw [years_len]; omega))]; rfl) rfl trivial (.refl _) trivial

end Go.Proofs.Ytpbbgbjidhffoaa
