/- Texts. -/

import Derived.Test.YtpfbbggmcbhboaaAAh
import Derived.Test.YtpfbbggmcbhboaaAAf
set_option linter.unusedVariables false
set_option linter.unusedSimpArgs false
section
namespace Go.Proofs.Ytpfbbggmcbhboaa
open Go Go.W
set_option maxRecDepth 20000
attribute [local irreducible] HL HC HQ HB Row Rows2 Blk Facts
theorem take_succ_getD {α : Type} [Inhabited α] (l : List α) (k : Nat) (h : k < l.length) : l.take (k + 1) = l.take k ++ [l.getD k default] := by
  rw [List.take_succ_eq_append_getElem h]
  simp [List.getD_eq_getElem?_getD, h]
theorem eq_of_takes {α : Type} {a b : List α} {k : Nat} (h : a.take k = b.take k) (ha : a.length ≤ k) (hb : b.length ≤ k) : a = b := by
  rwa [List.take_of_length_le ha, List.take_of_length_le hb] at h
theorem ne_at {α : Type} [Inhabited α] {a b : List α} {k : Nat} (h : ¬ a.getD k default = b.getD k default) : ¬ a = b := fun e => h (by rw [e])
theorem kit_EqStrings_meets {A B : Option Addr} {ca cb : Nat} (a b : List Str) (ha : a.length ≤ 9223372036854775806) :
    Meets Try.prog F.kit_EqStrings [.slice A a.length ca, .slice B b.length cb] { LI := [Row A (rows a), Row B (rows b)], val := fun _ : Unit => .bool (decide (a = b)) } := by
 refine meets_intro F.kit_EqStrings_f rfl (Nat.le_of_ble_eq_true rfl) fun w0 => ?_; refine hc_seq (hc_region (r_assign rfl rfl (hl_nil (then_n (hc_seq (hc_seq (hc_region (r_move rfl rfl ?_)))))))); refine r_len_sl rfl T.u_strs rfl ?_; refine r_move rfl rfl ?_; refine r_len_sl rfl T.u_strs rfl ?_; refine r_neq rfl rfl rfl (hl_nil (then_n ?_))
 first | refine c_dec rfl (fun hb1 => ?_) (fun hb1 => ?_) | refine hc_cond rfl (fun hb1 => ?_) (fun hb1 => ?_)
 ·have hb1' := hb1; try simp at hb1'
  have hb1 : ¬ a = b := fun e => by subst e; exact hb1 rfl
  refine hc_seq (hc_region (r_assign rfl rfl (hl_nil (then_n (hc_ret (then_ret ?_)))))); exact ret1 () rfl (by rw [decide_eq_false hb1]; rfl) rfl trivial (.refl _) trivial
 ·have hb1' := hb1; try simp at hb1'
  have hb1 : a.length = b.length := by omega
  refine hc_skip (then_n (hc_seq (hc_seq (hc_region (r_assign rfl rfl (hl_nil (then_n (hc_block ?_)))))))); refine hc_loop (β := Nat) ⟨fun k => k ≤ a.length ∧ a.take k = b.take k, fun k => [(0, .slice A a.length ca), (1, .slice B b.length cb), (5, int k)], fun _ => [], fun _ => [Row A (rows a), Row B (rows b)]⟩ (fun k => a.length - k) 0 ⟨Nat.zero_le _, rfl⟩ ⟨rfl, rfl, rfl, trivial⟩ (.refl _) ⟨m0, m1, trivial⟩ fun k hk => ?_; obtain ⟨hk, ht⟩ := hk; refine hc_seq (hc_seq (hc_region (r_move rfl rfl (r_move rfl rfl ?_)))); refine r_len_sl rfl T.u_strs rfl ?_; refine r_lss rfl rfl rfl (hl_nil (then_n ?_))
  first | refine c_dec rfl (fun hb2 => ?_) (fun hb2 => ?_) | refine hc_cond rfl (fun hb2 => ?_) (fun hb2 => ?_)
  ·have hb2' := hb2; try simp at hb2'
   have hb2 : k < a.length := by omega
   refine hc_skip (then_n (hc_seq (hc_block (hc_seq ?_)))); refine hc_draw 8 mixed (by decide) (by decide) rfl rfl ?_; refine hb_ex _ rfl rfl rfl (fun w1 => r_move rfl rfl (hl_nil (qe_done rfl))) ?_; refine hb_ex _ rfl rfl rfl (fun w1 => r_move rfl rfl (hl_nil (qe_done rfl))) ?_; refine hb_ex _ rfl rfl rfl (fun w1 => r_elem (α := Str) _ _ rfl T.u_strs T.sz_string rfl rfl rfl mB rfl (by omega) (by decide) (hl_nil (qe_done rfl))) ?_; refine hb_ex _ rfl rfl rfl (fun w1 => r_load rfl T.cell_string rfl (cell_row mB (rows_get0 (by omega) rfl)) (hl_nil (qe_done rfl))) ?_; refine hb_ex _ rfl rfl rfl (fun w1 => r_move rfl rfl (hl_nil (qe_done rfl))) ?_; refine hb_ex _ rfl rfl rfl (fun w1 => r_move rfl rfl (hl_nil (qe_done rfl))) ?_; refine hb_ex _ rfl rfl rfl (fun w1 => r_elem (α := Str) _ _ rfl T.u_strs T.sz_string rfl rfl rfl mB rfl (by omega) (by decide) (hl_nil (qe_done rfl))) ?_; refine hb_ex _ rfl rfl rfl (fun w1 => r_load rfl T.cell_string rfl (cell_row mB (rows_get0 (by omega) rfl)) (hl_nil (qe_done rfl))) ?_; refine hb_nil ⟨rfl, ?_⟩; refine r_sneq rfl rfl rfl (hl_nil (then_n ?_))
   first | refine c_dec rfl (fun hb3 => ?_) (fun hb3 => ?_) | refine hc_cond rfl (fun hb3 => ?_) (fun hb3 => ?_)
   ·have hb3' := hb3; try simp at hb3'
    have hb3 : ¬ a = b := ne_at (a := a) (b := b) (k := k) hb3; refine hc_seq (hc_region (r_assign rfl rfl (hl_nil (then_n (hc_ret (inb_ret (then_ret (then_ret (inb_ret (then_ret ?_)))))))))); exact ret1 () rfl (by rw [decide_eq_false hb3]; rfl) rfl trivial (.refl _) trivial
   ·have hb3' := hb3; try simp at hb3'
    have hb3 : a.getD k default = b.getD k default := Classical.not_not.1 hb3; refine hc_skip (inb_n (then_n (hc_region (r_move rfl rfl ?_)))); refine r_add _ rfl rfl rfl rfl (by unfold I64; omega) ?_; refine r_assign rfl rfl (hl_nil ?_); exact again _ (k + 1) ⟨by omega, by rw [take_succ_getD a k hb2, take_succ_getD b k (by omega), ht, hb3]⟩ (by first | omega | (simp only; omega)) ⟨rfl, rfl, rfl, trivial⟩ (.refl _) ⟨m0, m1, trivial⟩
  ·have hb2' := hb2; try simp at hb2'
   have hb2 : k = a.length := by omega
   refine hc_exit (then_exit (then_exit (inb_hit (then_n (hc_seq (hc_region (r_assign rfl rfl (hl_nil (then_n (hc_ret ?_)))))))))); exact ret1 () rfl (by rw [decide_eq_true (eq_of_takes ht (by omega) (by omega))]; rfl) rfl trivial (.refl _) trivial
theorem kit_EqInts_meets {A B : Option Addr} {ca cb : Nat} (a b : List Int) (ha : a.length ≤ 9223372036854775806) :
    Meets Try.prog F.kit_EqInts [.slice A a.length ca, .slice B b.length cb] { LI := [Row A (rows a), Row B (rows b)], val := fun _ : Unit => .bool (decide (a = b)) } := by
 refine meets_intro F.kit_EqInts_f rfl (Nat.le_of_ble_eq_true rfl) fun w0 => ?_; refine hc_seq (hc_region (r_assign rfl rfl (hl_nil (then_n (hc_seq (hc_seq (hc_region (r_move rfl rfl ?_)))))))); refine r_len_sl rfl T.u_ints rfl ?_; refine r_move rfl rfl ?_; refine r_len_sl rfl T.u_ints rfl ?_; refine r_neq rfl rfl rfl (hl_nil (then_n ?_))
 first | refine c_dec rfl (fun hb1 => ?_) (fun hb1 => ?_) | refine hc_cond rfl (fun hb1 => ?_) (fun hb1 => ?_)
 ·have hb1' := hb1; try simp at hb1'
  have hb1 : ¬ a = b := fun e => by subst e; exact hb1 rfl
  refine hc_seq (hc_region (r_assign rfl rfl (hl_nil (then_n (hc_ret (then_ret ?_)))))); exact ret1 () rfl (by rw [decide_eq_false hb1]; rfl) rfl trivial (.refl _) trivial
 ·have hb1' := hb1; try simp at hb1'
  have hb1 : a.length = b.length := by omega
  refine hc_skip (then_n (hc_seq (hc_seq (hc_region (r_assign rfl rfl (hl_nil (then_n (hc_block ?_)))))))); refine hc_loop (β := Nat) ⟨fun k => k ≤ a.length ∧ a.take k = b.take k, fun k => [(0, .slice A a.length ca), (1, .slice B b.length cb), (5, int k)], fun _ => [], fun _ => [Row A (rows a), Row B (rows b)]⟩ (fun k => a.length - k) 0 ⟨Nat.zero_le _, rfl⟩ ⟨rfl, rfl, rfl, trivial⟩ (.refl _) ⟨m0, m1, trivial⟩ fun k hk => ?_; obtain ⟨hk, ht⟩ := hk; refine hc_seq (hc_seq (hc_region (r_move rfl rfl (r_move rfl rfl ?_)))); refine r_len_sl rfl T.u_ints rfl ?_; refine r_lss rfl rfl rfl (hl_nil (then_n ?_))
  first | refine c_dec rfl (fun hb2 => ?_) (fun hb2 => ?_) | refine hc_cond rfl (fun hb2 => ?_) (fun hb2 => ?_)
  ·have hb2' := hb2; try simp at hb2'
   have hb2 : k < a.length := by omega
   refine hc_skip (then_n (hc_seq (hc_block (hc_seq ?_)))); refine hc_draw 8 mixed (by decide) (by decide) rfl rfl ?_; refine hb_ex _ rfl rfl rfl (fun w1 => r_move rfl rfl (hl_nil (qe_done rfl))) ?_; refine hb_ex _ rfl rfl rfl (fun w1 => r_move rfl rfl (hl_nil (qe_done rfl))) ?_; refine hb_ex _ rfl rfl rfl (fun w1 => r_elem (α := Int) _ _ rfl T.u_ints T.sz_int rfl rfl rfl mB rfl (by omega) (by decide) (hl_nil (qe_done rfl))) ?_; refine hb_ex _ rfl rfl rfl (fun w1 => r_load rfl T.cell_int rfl (cell_row mB (rows_get0 (by omega) rfl)) (hl_nil (qe_done rfl))) ?_; refine hb_ex _ rfl rfl rfl (fun w1 => r_move rfl rfl (hl_nil (qe_done rfl))) ?_; refine hb_ex _ rfl rfl rfl (fun w1 => r_move rfl rfl (hl_nil (qe_done rfl))) ?_; refine hb_ex _ rfl rfl rfl (fun w1 => r_elem (α := Int) _ _ rfl T.u_ints T.sz_int rfl rfl rfl mB rfl (by omega) (by decide) (hl_nil (qe_done rfl))) ?_; refine hb_ex _ rfl rfl rfl (fun w1 => r_load rfl T.cell_int rfl (cell_row mB (rows_get0 (by omega) rfl)) (hl_nil (qe_done rfl))) ?_; refine hb_nil ⟨rfl, ?_⟩; refine r_neq rfl rfl rfl (hl_nil (then_n ?_))
   first | refine c_dec rfl (fun hb3 => ?_) (fun hb3 => ?_) | refine hc_cond rfl (fun hb3 => ?_) (fun hb3 => ?_)
   ·have hb3' := hb3; try simp at hb3'
    have hb3 : ¬ a = b := ne_at (a := a) (b := b) (k := k) hb3; refine hc_seq (hc_region (r_assign rfl rfl (hl_nil (then_n (hc_ret (inb_ret (then_ret (then_ret (inb_ret (then_ret ?_)))))))))); exact ret1 () rfl (by rw [decide_eq_false hb3]; rfl) rfl trivial (.refl _) trivial
   ·have hb3' := hb3; try simp at hb3'
    have hb3 : a.getD k default = b.getD k default := Classical.not_not.1 hb3; refine hc_skip (inb_n (then_n (hc_region (r_move rfl rfl ?_)))); refine r_add _ rfl rfl rfl rfl (by unfold I64; omega) ?_; refine r_assign rfl rfl (hl_nil ?_); exact again _ (k + 1) ⟨by omega, by rw [take_succ_getD a k hb2, take_succ_getD b k (by omega), ht, hb3]⟩ (by first | omega | (simp only; omega)) ⟨rfl, rfl, rfl, trivial⟩ (.refl _) ⟨m0, m1, trivial⟩
  ·have hb2' := hb2; try simp at hb2'
   have hb2 : k = a.length := by omega
   refine hc_exit (then_exit (then_exit (inb_hit (then_n (hc_seq (hc_region (r_assign rfl rfl (hl_nil (then_n (hc_ret ?_)))))))))); exact ret1 () rfl (by rw [decide_eq_true (eq_of_takes ht (by omega) (by omega))]; rfl) rfl trivial (.refl _) trivial
theorem kit_EqMarks_meets {A B : Option Addr} {ca cb : Nat} (a b : List Mk) (ha : a.length ≤ 9223372036854775806) :
    Meets Try.prog F.kit_EqMarks [.slice A a.length ca, .slice B b.length cb] { LI := [Row A (rows a), Row B (rows b)], val := fun _ : Unit => .bool (decide (a = b)) } := by
 refine meets_intro F.kit_EqMarks_f rfl (Nat.le_of_ble_eq_true rfl) fun w0 => ?_; refine hc_seq (hc_region (r_assign rfl rfl (hl_nil (then_n (hc_seq (hc_seq (hc_region (r_move rfl rfl ?_)))))))); refine r_len_sl rfl T.u_L_api_Mark rfl ?_; refine r_move rfl rfl ?_; refine r_len_sl rfl T.u_L_api_Mark rfl ?_; refine r_neq rfl rfl rfl (hl_nil (then_n ?_))
 first | refine c_dec rfl (fun hb1 => ?_) (fun hb1 => ?_) | refine hc_cond rfl (fun hb1 => ?_) (fun hb1 => ?_)
 ·have hb1' := hb1; try simp at hb1'
  have hb1 : ¬ a = b := fun e => by subst e; exact hb1 rfl
  refine hc_seq (hc_region (r_assign rfl rfl (hl_nil (then_n (hc_ret (then_ret ?_)))))); exact ret1 () rfl (by rw [decide_eq_false hb1]; rfl) rfl trivial (.refl _) trivial
 ·have hb1' := hb1; try simp at hb1'
  have hb1 : a.length = b.length := by omega
  refine hc_skip (then_n (hc_seq (hc_seq (hc_region (r_assign rfl rfl (hl_nil (then_n (hc_block ?_)))))))); refine hc_loop (β := Nat) ⟨fun k => k ≤ a.length ∧ a.take k = b.take k, fun k => [(0, .slice A a.length ca), (1, .slice B b.length cb), (5, int k)], fun _ => [], fun _ => [Row A (rows a), Row B (rows b)]⟩ (fun k => a.length - k) 0 ⟨Nat.zero_le _, rfl⟩ ⟨rfl, rfl, rfl, trivial⟩ (.refl _) ⟨m0, m1, trivial⟩ fun k hk => ?_; obtain ⟨hk, ht⟩ := hk; refine hc_seq (hc_seq (hc_region (r_move rfl rfl (r_move rfl rfl ?_)))); refine r_len_sl rfl T.u_L_api_Mark rfl ?_; refine r_lss rfl rfl rfl (hl_nil (then_n ?_))
  first | refine c_dec rfl (fun hb2 => ?_) (fun hb2 => ?_) | refine hc_cond rfl (fun hb2 => ?_) (fun hb2 => ?_)
  ·have hb2' := hb2; try simp at hb2'
   have hb2 : k < a.length := by omega
   refine hc_skip (then_n (hc_seq (hc_block (hc_seq ?_)))); refine hc_draw 8 mixed (by decide) (by decide) rfl rfl ?_; refine hb_ex _ rfl rfl rfl (fun w1 => r_move rfl rfl (hl_nil (qe_done rfl))) ?_; refine hb_ex _ rfl rfl rfl (fun w1 => r_move rfl rfl (hl_nil (qe_done rfl))) ?_; refine hb_ex _ rfl rfl rfl (fun w1 => r_elem (α := Mk) _ _ rfl T.u_L_api_Mark T.sz_api_Mark rfl rfl rfl mB rfl (by omega) (by decide) (hl_nil (qe_done rfl))) ?_; refine hb_ex _ rfl rfl rfl (fun w1 => r_loadS rfl T.row_api_Mark T.sz_api_Mark rfl rfl (cells_row mB (rows_all (by omega))) (hl_nil (qe_done rfl))) ?_; refine hb_ex _ rfl rfl rfl (fun w1 => r_move rfl rfl (hl_nil (qe_done rfl))) ?_; refine hb_ex _ rfl rfl rfl (fun w1 => r_move rfl rfl (hl_nil (qe_done rfl))) ?_; refine hb_ex _ rfl rfl rfl (fun w1 => r_elem (α := Mk) _ _ rfl T.u_L_api_Mark T.sz_api_Mark rfl rfl rfl mB rfl (by omega) (by decide) (hl_nil (qe_done rfl))) ?_; refine hb_ex _ rfl rfl rfl (fun w1 => r_loadS rfl T.row_api_Mark T.sz_api_Mark rfl rfl (cells_row mB (rows_all (by omega))) (hl_nil (qe_done rfl))) ?_; refine hb_nil ⟨rfl, ?_⟩; refine r_bin _ rfl rfl rfl (fun _ => T.eqg_api_Mark ..) (fun _ => T.neq_api_Mark ..) ?_; refine hl_nil (then_n ?_)
   first | refine c_dec rfl (fun hb3 => ?_) (fun hb3 => ?_) | refine hc_cond rfl (fun hb3 => ?_) (fun hb3 => ?_)
   ·have hb3' := hb3; try simp at hb3'
    have hb3 : ¬ a = b := ne_at (a := a) (b := b) (k := k) hb3; refine hc_seq (hc_region (r_assign rfl rfl (hl_nil (then_n (hc_ret (inb_ret (then_ret (then_ret (inb_ret (then_ret ?_)))))))))); exact ret1 () rfl (by rw [decide_eq_false hb3]; rfl) rfl trivial (.refl _) trivial
   ·have hb3' := hb3; try simp at hb3'
    have hb3 : a.getD k default = b.getD k default := Classical.not_not.1 hb3; refine hc_skip (inb_n (then_n (hc_region (r_move rfl rfl ?_)))); refine r_add _ rfl rfl rfl rfl (by unfold I64; omega) ?_; refine r_assign rfl rfl (hl_nil ?_); exact again _ (k + 1) ⟨by omega, by rw [take_succ_getD a k hb2, take_succ_getD b k (by omega), ht, hb3]⟩ (by first | omega | (simp only; omega)) ⟨rfl, rfl, rfl, trivial⟩ (.refl _) ⟨m0, m1, trivial⟩
  ·have hb2' := hb2; try simp at hb2'
   have hb2 : k = a.length := by omega
   refine hc_exit (then_exit (then_exit (inb_hit (then_n (hc_seq (hc_region (r_assign rfl rfl (hl_nil (then_n (hc_ret ?_)))))))))); exact ret1 () rfl (by rw [decide_eq_true (eq_of_takes ht (by omega) (by omega))]; rfl) rfl trivial (.refl _) trivial
abbrev OutC := Option Addr × Nat
def outSl {α : Type} [El α] (l : List α) : Con OutC := { inv := fun x => l.length ≤ x.2, val := fun x => .slice x.1 l.length x.2, LO := fun x => [Row x.1 (rows l)] }
theorem kit_DupStrings_meets {A : Option Addr} {c : Nat} (l : List Str) (hl : l.length ≤ 1000000) :
    Meets Try.prog F.kit_DupStrings [.slice A l.length c] { outSl l with LI := [Row A (rows l)] } := by
 refine meets_intro F.kit_DupStrings_f rfl (Nat.le_of_ble_eq_true rfl) fun w0 => ?_; refine hc_seq (hc_region (r_assign rfl rfl (hl_nil (then_n (hc_seq (hc_region ?_)))))); refine r_buildSlice _ rfl rfl (fun _ => T.bs_strs_0 ..) fun gS => ?_; refine r_move rfl rfl ?_; refine r_append l.length (rows l) T.el_strs rfl rfl rfl (Grow.new (cs := #[]) (n := 0) rfl (Nat.zero_le _)) (.refl _) (Src.row m0 (rows_len l) (rows_one l) (by decide)) (by omega) rfl (by unfold maxLen; omega) (by omega) fun A' c' og' hG => ?_; refine r_assign rfl rfl (hl_nil (then_n (hc_ret (hq_grown hG ?_)))); exact ret1 (A', c') rfl rfl rfl hG.le (.refl _) ⟨m0, trivial⟩
end Go.Proofs.Ytpfbbggmcbhboaa
end
section
namespace Go.Proofs.Ytpfbbggmcbhboaa
open Go Go.W
set_option maxRecDepth 20000
attribute [local irreducible] HL HC HQ HB Row Rows2 Blk Facts
def dice (g : Nat) (A : Option Addr) (c : Nat) (nums : List Int) (s : Int × Int) : Nat × Obj := (g, .cells #[.slice A nums.length c, int s.1, .int .u64 s.2] T.wayzgoosekit_Dice (0, 0))
def DOK (nums : List Int) (s : Int × Int) : Prop := 0 ≤ s.1 ∧ s.1 ≤ nums.length ∧ 0 ≤ s.2 ∧ s.2 < 18446744073709551616
def diceCon {β : Type} (g : Nat) (A : Option Addr) (c : Nat) (nums : List Int) (s : Int × Int) (inv : β → Prop) (val : β → Value) (LO : β → List Fact) : Con ((Int × Int) × β) :=
  { hpI := [dice g A c nums s], LI := [Row A (rows nums)], inv := fun x => DOK nums x.1 ∧ inv x.2, val := fun x => val x.2, hpO := fun x => [dice g A c nums x.1], LO := fun x => LO x.2 }
theorem kit_Dice_raw_meets {g : Nat} {A : Option Addr} {c : Nat} {nums : List Int} {s : Int × Int} (hn : nums.length ≤ 9223372036854775807) (hs : DOK nums s) :
    Meets Try.prog F.kit_Dice_raw [.pointer (some ⟨g, 0, none⟩)] (diceCon g A c nums s (fun z : Int => 0 ≤ z ∧ z < 18446744073709551616) (fun z => .int .u64 z) (fun _ => [])) := by
 obtain ⟨p, q⟩ := s; obtain ⟨h1, h2, h3, h4⟩ := hs; simp only at h1 h2 h3 h4; obtain ⟨pn, rfl⟩ := Int.eq_ofNat_of_zero_le h1; refine meets_intro F.kit_Dice_raw_f rfl (Nat.le_of_ble_eq_true rfl) fun w0 => ?_; refine hc_seq (hc_region (r_assign rfl rfl (hl_nil (then_n (hc_seq ?_))))); refine hc_draw 11 mixed (by decide) (by decide) rfl rfl ?_; refine hb_ex _ rfl rfl rfl (fun w1 => r_move rfl rfl (hl_nil (qe_done rfl))) ?_; refine hb_ex _ rfl rfl rfl (fun w1 => r_move rfl rfl (hl_nil (qe_done rfl))) ?_; refine hb_ex _ rfl rfl rfl (fun w1 => r_nilCheck rfl rfl (hl_nil (qe_done rfl))) ?_
 apply hb_ex _ rfl rfl rfl
 ·intro w1
  first | refine r_fieldAddr ⟨_, 2, none⟩ rfl rfl T.fa_wayzgoosekit_Dice_2 rfl ?_ | refine r_fieldAddr _ rfl rfl T.fa_wayzgoosekit_Dice_2 rfl ?_
  refine hl_nil ?_; exact qe_done rfl
 apply hb_ex _ rfl rfl rfl
 ·intro w1
  first | refine r_load rfl T.cell_u64 rfl (cell_blk mB rfl) ?_ | refine r_load rfl T.cell_u64 rfl (cell_own mB rfl) ?_ | refine r_load rfl T.cell_u64 rfl (cell_row mB (rows_get0 (by omega) rfl)) ?_ | refine r_load rfl T.cell_u64 rfl (cell_row_f mB (rows_get (by omega) rfl)) ?_
  refine hl_nil ?_; exact qe_done rfl
 refine hb_ex _ rfl rfl rfl (fun w1 => r_move rfl rfl (hl_nil (qe_done rfl))) ?_; refine hb_ex _ rfl rfl rfl (fun w1 => r_nilCheck rfl rfl (hl_nil (qe_done rfl))) ?_
 apply hb_ex _ rfl rfl rfl
 ·intro w1
  first | refine r_fieldAddr ⟨_, 2, none⟩ rfl rfl T.fa_wayzgoosekit_Dice_2 rfl ?_ | refine r_fieldAddr _ rfl rfl T.fa_wayzgoosekit_Dice_2 rfl ?_
  refine hl_nil ?_; exact qe_done rfl
 apply hb_ex _ rfl rfl rfl
 ·intro w1
  first | refine r_load rfl T.cell_u64 rfl (cell_blk mB rfl) ?_ | refine r_load rfl T.cell_u64 rfl (cell_own mB rfl) ?_ | refine r_load rfl T.cell_u64 rfl (cell_row mB (rows_get0 (by omega) rfl)) ?_ | refine r_load rfl T.cell_u64 rfl (cell_row_f mB (rows_get (by omega) rfl)) ?_
  refine hl_nil ?_; exact qe_done rfl
 refine hb_ex _ rfl rfl rfl (fun w1 => r_bin _ rfl rfl rfl (fun _ => rfl) (fun _ => rfl) (hl_nil (qe_done rfl))) ?_; refine hb_ex _ rfl rfl rfl (fun w1 => r_bin _ rfl rfl rfl (fun _ => rfl) (fun _ => rfl) (hl_nil (qe_done rfl))) ?_; refine hb_nil ⟨rfl, ?_⟩; refine r_nilCheck rfl rfl ?_
 first | refine r_fieldAddr ⟨_, 2, none⟩ rfl rfl T.fa_wayzgoosekit_Dice_2 rfl ?_ | refine r_fieldAddr _ rfl rfl T.fa_wayzgoosekit_Dice_2 rfl ?_
 refine r_store rfl rfl (by first | exact .refl _ | exact perm2 _ _ _ | exact perm3 _ _ _ _ | exact perm4 _ _ _ _ _) T.sz_u64 (by rfl) (by rfl) ?_; refine hl_nil (then_n (hc_seq ?_)); refine hc_draw 11 mixed (by decide) (by decide) rfl rfl ?_; refine hb_ex _ rfl rfl rfl (fun w1 => r_move rfl rfl (hl_nil (qe_done rfl))) ?_; refine hb_ex _ rfl rfl rfl (fun w1 => r_move rfl rfl (hl_nil (qe_done rfl))) ?_; refine hb_ex _ rfl rfl rfl (fun w1 => r_nilCheck rfl rfl (hl_nil (qe_done rfl))) ?_
 apply hb_ex _ rfl rfl rfl
 ·intro w1
  first | refine r_fieldAddr ⟨_, 2, none⟩ rfl rfl T.fa_wayzgoosekit_Dice_2 rfl ?_ | refine r_fieldAddr _ rfl rfl T.fa_wayzgoosekit_Dice_2 rfl ?_
  refine hl_nil ?_; exact qe_done rfl
 apply hb_ex _ rfl rfl rfl
 ·intro w1
  first | refine r_load rfl T.cell_u64 rfl (cell_blk mB rfl) ?_ | refine r_load rfl T.cell_u64 rfl (cell_own mB rfl) ?_ | refine r_load rfl T.cell_u64 rfl (cell_row mB (rows_get0 (by omega) rfl)) ?_ | refine r_load rfl T.cell_u64 rfl (cell_row_f mB (rows_get (by omega) rfl)) ?_
  refine hl_nil ?_; exact qe_done rfl
 refine hb_ex _ rfl rfl rfl (fun w1 => r_move rfl rfl (hl_nil (qe_done rfl))) ?_; refine hb_ex _ rfl rfl rfl (fun w1 => r_nilCheck rfl rfl (hl_nil (qe_done rfl))) ?_
 apply hb_ex _ rfl rfl rfl
 ·intro w1
  first | refine r_fieldAddr ⟨_, 2, none⟩ rfl rfl T.fa_wayzgoosekit_Dice_2 rfl ?_ | refine r_fieldAddr _ rfl rfl T.fa_wayzgoosekit_Dice_2 rfl ?_
  refine hl_nil ?_; exact qe_done rfl
 apply hb_ex _ rfl rfl rfl
 ·intro w1
  first | refine r_load rfl T.cell_u64 rfl (cell_blk mB rfl) ?_ | refine r_load rfl T.cell_u64 rfl (cell_own mB rfl) ?_ | refine r_load rfl T.cell_u64 rfl (cell_row mB (rows_get0 (by omega) rfl)) ?_ | refine r_load rfl T.cell_u64 rfl (cell_row_f mB (rows_get (by omega) rfl)) ?_
  refine hl_nil ?_; exact qe_done rfl
 refine hb_ex _ rfl rfl rfl (fun w1 => r_bin _ rfl rfl rfl (fun _ => rfl) (fun _ => rfl) (hl_nil (qe_done rfl))) ?_; refine hb_ex _ rfl rfl rfl (fun w1 => r_bin _ rfl rfl rfl (fun _ => rfl) (fun _ => rfl) (hl_nil (qe_done rfl))) ?_; refine hb_nil ⟨rfl, ?_⟩; refine r_nilCheck rfl rfl ?_
 first | refine r_fieldAddr ⟨_, 2, none⟩ rfl rfl T.fa_wayzgoosekit_Dice_2 rfl ?_ | refine r_fieldAddr _ rfl rfl T.fa_wayzgoosekit_Dice_2 rfl ?_
 refine r_store rfl rfl (by first | exact .refl _ | exact perm2 _ _ _ | exact perm3 _ _ _ _ | exact perm4 _ _ _ _ _) T.sz_u64 (by rfl) (by rfl) ?_; refine hl_nil (then_n (hc_seq ?_)); refine hc_draw 11 mixed (by decide) (by decide) rfl rfl ?_; refine hb_ex _ rfl rfl rfl (fun w1 => r_move rfl rfl (hl_nil (qe_done rfl))) ?_; refine hb_ex _ rfl rfl rfl (fun w1 => r_move rfl rfl (hl_nil (qe_done rfl))) ?_; refine hb_ex _ rfl rfl rfl (fun w1 => r_nilCheck rfl rfl (hl_nil (qe_done rfl))) ?_
 apply hb_ex _ rfl rfl rfl
 ·intro w1
  first | refine r_fieldAddr ⟨_, 2, none⟩ rfl rfl T.fa_wayzgoosekit_Dice_2 rfl ?_ | refine r_fieldAddr _ rfl rfl T.fa_wayzgoosekit_Dice_2 rfl ?_
  refine hl_nil ?_; exact qe_done rfl
 apply hb_ex _ rfl rfl rfl
 ·intro w1
  first | refine r_load rfl T.cell_u64 rfl (cell_blk mB rfl) ?_ | refine r_load rfl T.cell_u64 rfl (cell_own mB rfl) ?_ | refine r_load rfl T.cell_u64 rfl (cell_row mB (rows_get0 (by omega) rfl)) ?_ | refine r_load rfl T.cell_u64 rfl (cell_row_f mB (rows_get (by omega) rfl)) ?_
  refine hl_nil ?_; exact qe_done rfl
 refine hb_ex _ rfl rfl rfl (fun w1 => r_move rfl rfl (hl_nil (qe_done rfl))) ?_; refine hb_ex _ rfl rfl rfl (fun w1 => r_nilCheck rfl rfl (hl_nil (qe_done rfl))) ?_
 apply hb_ex _ rfl rfl rfl
 ·intro w1
  first | refine r_fieldAddr ⟨_, 2, none⟩ rfl rfl T.fa_wayzgoosekit_Dice_2 rfl ?_ | refine r_fieldAddr _ rfl rfl T.fa_wayzgoosekit_Dice_2 rfl ?_
  refine hl_nil ?_; exact qe_done rfl
 apply hb_ex _ rfl rfl rfl
 ·intro w1
  first | refine r_load rfl T.cell_u64 rfl (cell_blk mB rfl) ?_ | refine r_load rfl T.cell_u64 rfl (cell_own mB rfl) ?_ | refine r_load rfl T.cell_u64 rfl (cell_row mB (rows_get0 (by omega) rfl)) ?_ | refine r_load rfl T.cell_u64 rfl (cell_row_f mB (rows_get (by omega) rfl)) ?_
  refine hl_nil ?_; exact qe_done rfl
 refine hb_ex _ rfl rfl rfl (fun w1 => r_bin _ rfl rfl rfl (fun _ => rfl) (fun _ => rfl) (hl_nil (qe_done rfl))) ?_; refine hb_ex _ rfl rfl rfl (fun w1 => r_bin _ rfl rfl rfl (fun _ => rfl) (fun _ => rfl) (hl_nil (qe_done rfl))) ?_; refine hb_nil ⟨rfl, ?_⟩; refine r_nilCheck rfl rfl ?_
 first | refine r_fieldAddr ⟨_, 2, none⟩ rfl rfl T.fa_wayzgoosekit_Dice_2 rfl ?_ | refine r_fieldAddr _ rfl rfl T.fa_wayzgoosekit_Dice_2 rfl ?_
 refine r_store rfl rfl (by first | exact .refl _ | exact perm2 _ _ _ | exact perm3 _ _ _ _ | exact perm4 _ _ _ _ _) T.sz_u64 (by rfl) (by rfl) ?_; refine hl_nil (then_n (hc_seq (hc_seq ?_))); refine hc_draw 9 mixed (by decide) (by decide) rfl rfl ?_; refine hb_ex _ rfl rfl rfl (fun w1 => r_move rfl rfl (hl_nil (qe_done rfl))) ?_; refine hb_ex _ rfl rfl rfl (fun w1 => r_nilCheck rfl rfl (hl_nil (qe_done rfl))) ?_
 apply hb_ex _ rfl rfl rfl
 ·intro w1
  first | refine r_fieldAddr ⟨_, 1, none⟩ rfl rfl T.fa_wayzgoosekit_Dice_1 rfl ?_ | refine r_fieldAddr _ rfl rfl T.fa_wayzgoosekit_Dice_1 rfl ?_
  refine hl_nil ?_; exact qe_done rfl
 apply hb_ex _ rfl rfl rfl
 ·intro w1
  first | refine r_load rfl T.cell_int rfl (cell_blk mB rfl) ?_ | refine r_load rfl T.cell_int rfl (cell_own mB rfl) ?_ | refine r_load rfl T.cell_int rfl (cell_row mB (rows_get0 (by omega) rfl)) ?_ | refine r_load rfl T.cell_int rfl (cell_row_f mB (rows_get (by omega) rfl)) ?_
  refine hl_nil ?_; exact qe_done rfl
 refine hb_ex _ rfl rfl rfl (fun w1 => r_move rfl rfl (hl_nil (qe_done rfl))) ?_; refine hb_ex _ rfl rfl rfl (fun w1 => r_nilCheck rfl rfl (hl_nil (qe_done rfl))) ?_
 apply hb_ex _ rfl rfl rfl
 ·intro w1
  first | refine r_fieldAddr ⟨_, 0, none⟩ rfl rfl T.fa_wayzgoosekit_Dice_0 rfl ?_ | refine r_fieldAddr _ rfl rfl T.fa_wayzgoosekit_Dice_0 rfl ?_
  refine hl_nil ?_; exact qe_done rfl
 apply hb_ex _ rfl rfl rfl
 ·intro w1
  first | refine r_load rfl T.cell_ints rfl (cell_blk mB rfl) ?_ | refine r_load rfl T.cell_ints rfl (cell_own mB rfl) ?_ | refine r_load rfl T.cell_ints rfl (cell_row mB (rows_get0 (by omega) rfl)) ?_ | refine r_load rfl T.cell_ints rfl (cell_row_f mB (rows_get (by omega) rfl)) ?_
  refine hl_nil ?_; exact qe_done rfl
 refine hb_ex _ rfl rfl rfl (fun w1 => r_len_sl rfl T.u_ints rfl (hl_nil (qe_done rfl))) ?_; refine hb_nil ⟨rfl, ?_⟩; refine r_lss rfl rfl rfl (hl_nil (then_n ?_))
 first | refine c_dec rfl (fun hb1 => ?_) (fun hb1 => ?_) | refine hc_cond rfl (fun hb1 => ?_) (fun hb1 => ?_)
 ·have hb1' := hb1; try simp at hb1'
  refine hc_seq ?_; refine hc_draw 18 mixed (by decide) (by decide) rfl rfl ?_; refine hb_ex _ rfl rfl rfl (fun w1 => r_move rfl rfl (hl_nil (qe_done rfl))) ?_; refine hb_ex _ rfl rfl rfl (fun w1 => r_move rfl rfl (hl_nil (qe_done rfl))) ?_; refine hb_ex _ rfl rfl rfl (fun w1 => r_nilCheck rfl rfl (hl_nil (qe_done rfl))) ?_
  apply hb_ex _ rfl rfl rfl
  ·intro w1
   first | refine r_fieldAddr ⟨_, 2, none⟩ rfl rfl T.fa_wayzgoosekit_Dice_2 rfl ?_ | refine r_fieldAddr _ rfl rfl T.fa_wayzgoosekit_Dice_2 rfl ?_
   refine hl_nil ?_; exact qe_done rfl
  apply hb_ex _ rfl rfl rfl
  ·intro w1
   first | refine r_load rfl T.cell_u64 rfl (cell_blk mB rfl) ?_ | refine r_load rfl T.cell_u64 rfl (cell_own mB rfl) ?_ | refine r_load rfl T.cell_u64 rfl (cell_row mB (rows_get0 (by omega) rfl)) ?_ | refine r_load rfl T.cell_u64 rfl (cell_row_f mB (rows_get (by omega) rfl)) ?_
   refine hl_nil ?_; exact qe_done rfl
  refine hb_ex _ rfl rfl rfl (fun w1 => r_move rfl rfl (hl_nil (qe_done rfl))) ?_; refine hb_ex _ rfl rfl rfl (fun w1 => r_nilCheck rfl rfl (hl_nil (qe_done rfl))) ?_
  apply hb_ex _ rfl rfl rfl
  ·intro w1
   first | refine r_fieldAddr ⟨_, 0, none⟩ rfl rfl T.fa_wayzgoosekit_Dice_0 rfl ?_ | refine r_fieldAddr _ rfl rfl T.fa_wayzgoosekit_Dice_0 rfl ?_
   refine hl_nil ?_; exact qe_done rfl
  apply hb_ex _ rfl rfl rfl
  ·intro w1
   first | refine r_load rfl T.cell_ints rfl (cell_blk mB rfl) ?_ | refine r_load rfl T.cell_ints rfl (cell_own mB rfl) ?_ | refine r_load rfl T.cell_ints rfl (cell_row mB (rows_get0 (by omega) rfl)) ?_ | refine r_load rfl T.cell_ints rfl (cell_row_f mB (rows_get (by omega) rfl)) ?_
   refine hl_nil ?_; exact qe_done rfl
  refine hb_ex _ rfl rfl rfl (fun w1 => r_move rfl rfl (hl_nil (qe_done rfl))) ?_; refine hb_ex _ rfl rfl rfl (fun w1 => r_nilCheck rfl rfl (hl_nil (qe_done rfl))) ?_
  apply hb_ex _ rfl rfl rfl
  ·intro w1
   first | refine r_fieldAddr ⟨_, 1, none⟩ rfl rfl T.fa_wayzgoosekit_Dice_1 rfl ?_ | refine r_fieldAddr _ rfl rfl T.fa_wayzgoosekit_Dice_1 rfl ?_
   refine hl_nil ?_; exact qe_done rfl
  apply hb_ex _ rfl rfl rfl
  ·intro w1
   first | refine r_load rfl T.cell_int rfl (cell_blk mB rfl) ?_ | refine r_load rfl T.cell_int rfl (cell_own mB rfl) ?_ | refine r_load rfl T.cell_int rfl (cell_row mB (rows_get0 (by omega) rfl)) ?_ | refine r_load rfl T.cell_int rfl (cell_row_f mB (rows_get (by omega) rfl)) ?_
   refine hl_nil ?_; exact qe_done rfl
  refine hb_ex _ rfl rfl rfl (fun w1 => r_elem (α := Int) _ pn rfl T.u_ints T.sz_int rfl rfl rfl m1 rfl (by omega) (by decide) (hl_nil (qe_done rfl))) ?_; refine hb_ex _ rfl rfl rfl (fun w1 => r_load rfl T.cell_int rfl (cell_row mB (rows_get0 (by omega) rfl)) (hl_nil (qe_done rfl))) ?_; refine hb_ex _ rfl rfl rfl (fun w1 => r_conv _ rfl T.u_int T.u_u64 rfl rfl (hl_nil (qe_done rfl))) ?_; refine hb_ex _ rfl rfl rfl (fun w1 => r_bin _ rfl rfl rfl (fun _ => rfl) (fun _ => rfl) (hl_nil (qe_done rfl))) ?_; refine hb_ex _ rfl rfl rfl (fun w1 => r_bin _ rfl rfl rfl (fun _ => rfl) (fun _ => rfl) (hl_nil (qe_done rfl))) ?_; refine hb_nil ⟨rfl, ?_⟩; refine r_nilCheck rfl rfl ?_
  first | refine r_fieldAddr ⟨_, 2, none⟩ rfl rfl T.fa_wayzgoosekit_Dice_2 rfl ?_ | refine r_fieldAddr _ rfl rfl T.fa_wayzgoosekit_Dice_2 rfl ?_
  refine r_store rfl rfl (by first | exact .refl _ | exact perm2 _ _ _ | exact perm3 _ _ _ _ | exact perm4 _ _ _ _ _) T.sz_u64 (by rfl) (by rfl) ?_; refine hl_nil (then_n (hc_region (r_move rfl rfl (r_nilCheck rfl rfl ?_))))
  first | refine r_fieldAddr ⟨_, 1, none⟩ rfl rfl T.fa_wayzgoosekit_Dice_1 rfl ?_ | refine r_fieldAddr _ rfl rfl T.fa_wayzgoosekit_Dice_1 rfl ?_
  first | refine r_load rfl T.cell_int rfl (cell_own mB rfl) ?_ | refine r_load rfl T.cell_int rfl (cell_blk mB rfl) ?_ | refine r_load rfl T.cell_int rfl (cell_row mB (rows_get0 (by omega) rfl)) ?_ | refine r_load rfl T.cell_int rfl (cell_row_f mB (rows_get (by omega) rfl)) ?_
  refine r_add _ rfl rfl rfl rfl (by unfold I64; omega) ?_; refine r_nilCheck rfl rfl ?_
  first | refine r_fieldAddr ⟨_, 1, none⟩ rfl rfl T.fa_wayzgoosekit_Dice_1 rfl ?_ | refine r_fieldAddr _ rfl rfl T.fa_wayzgoosekit_Dice_1 rfl ?_
  refine r_store rfl rfl (by first | exact .refl _ | exact perm2 _ _ _ | exact perm3 _ _ _ _ | exact perm4 _ _ _ _ _) T.sz_int (by rfl) (by rfl) ?_; refine hl_nil (then_n (hc_seq (hc_region (r_move rfl rfl (r_nilCheck rfl rfl ?_)))))
  first | refine r_fieldAddr ⟨_, 2, none⟩ rfl rfl T.fa_wayzgoosekit_Dice_2 rfl ?_ | refine r_fieldAddr _ rfl rfl T.fa_wayzgoosekit_Dice_2 rfl ?_
  first | refine r_load rfl T.cell_u64 rfl (cell_own mB rfl) ?_ | refine r_load rfl T.cell_u64 rfl (cell_blk mB rfl) ?_ | refine r_load rfl T.cell_u64 rfl (cell_row mB (rows_get0 (by omega) rfl)) ?_ | refine r_load rfl T.cell_u64 rfl (cell_row_f mB (rows_get (by omega) rfl)) ?_
  refine r_assign rfl rfl (hl_nil (then_n (hc_seq (hc_region (r_move rfl rfl (r_move rfl rfl ?_)))))); refine r_bin _ rfl rfl rfl (fun _ => rfl) (fun _ => rfl) ?_; refine r_bin _ rfl rfl rfl (fun _ => rfl) (fun _ => rfl) ?_; refine r_bin _ rfl rfl rfl (fun _ => rfl) (fun _ => rfl) ?_; refine r_assign rfl rfl (hl_nil (then_n (hc_seq (hc_region (r_move rfl rfl (r_move rfl rfl ?_)))))); refine r_bin _ rfl rfl rfl (fun _ => rfl) (fun _ => rfl) ?_; refine r_bin _ rfl rfl rfl (fun _ => rfl) (fun _ => rfl) ?_; refine r_assign rfl rfl (hl_nil (then_n (hc_ret ?_))); exact ret1 ((_, _), _) rfl rfl rfl ⟨⟨by simp only; omega, by simp only; omega, (wrapU _).1, (wrapU _).2⟩, wrapU _⟩ (.refl _) trivial
 ·have hb1' := hb1; try simp at hb1'
  refine hc_skip (then_n (hc_seq (hc_region (r_move rfl rfl (r_nilCheck rfl rfl ?_)))))
  first | refine r_fieldAddr ⟨_, 2, none⟩ rfl rfl T.fa_wayzgoosekit_Dice_2 rfl ?_ | refine r_fieldAddr _ rfl rfl T.fa_wayzgoosekit_Dice_2 rfl ?_
  first | refine r_load rfl T.cell_u64 rfl (cell_own mB rfl) ?_ | refine r_load rfl T.cell_u64 rfl (cell_blk mB rfl) ?_ | refine r_load rfl T.cell_u64 rfl (cell_row mB (rows_get0 (by omega) rfl)) ?_ | refine r_load rfl T.cell_u64 rfl (cell_row_f mB (rows_get (by omega) rfl)) ?_
  refine r_assign rfl rfl (hl_nil (then_n (hc_seq (hc_region (r_move rfl rfl (r_move rfl rfl ?_)))))); refine r_bin _ rfl rfl rfl (fun _ => rfl) (fun _ => rfl) ?_; refine r_bin _ rfl rfl rfl (fun _ => rfl) (fun _ => rfl) ?_; refine r_bin _ rfl rfl rfl (fun _ => rfl) (fun _ => rfl) ?_; refine r_assign rfl rfl (hl_nil (then_n (hc_seq (hc_region (r_move rfl rfl (r_move rfl rfl ?_)))))); refine r_bin _ rfl rfl rfl (fun _ => rfl) (fun _ => rfl) ?_; refine r_bin _ rfl rfl rfl (fun _ => rfl) (fun _ => rfl) ?_; refine r_assign rfl rfl (hl_nil (then_n (hc_ret ?_))); exact ret1 ((_, _), _) rfl rfl rfl ⟨⟨by simp only; omega, by simp only; omega, (wrapU _).1, (wrapU _).2⟩, wrapU _⟩ (.refl _) trivial
theorem mod_range {z n : Int} (hz : 0 ≤ z) (hn : 0 ≤ n) : 0 ≤ z.tmod (n + 1) ∧ z.tmod (n + 1) ≤ n := by
  have h1 := Int.tmod_nonneg (n + 1) hz; have h2 := Int.tmod_lt_of_pos z (show 0 < n + 1 by omega)
  omega
def ToInv (n z : Int) : Prop := 0 ≤ z ∧ (1 ≤ n → z ≤ n) ∧ (n < 1 → z = 0)
theorem kit_Dice_To_meets {g : Nat} {A : Option Addr} {c : Nat} {nums : List Int} {s : Int × Int} (n : Int) (hn : nums.length ≤ 9223372036854775807) (hs : DOK nums s) (hI : n ≤ 9223372036854775806) :
    Meets Try.prog F.kit_Dice_To [.pointer (some ⟨g, 0, none⟩), int n] (diceCon g A c nums s (ToInv n) (fun z => int z) (fun _ => [])) := by
 refine meets_intro F.kit_Dice_To_f rfl (Nat.le_of_ble_eq_true rfl) fun w0 => ?_; refine hc_seq (hc_region (r_assign rfl rfl (hl_nil (then_n (hc_seq (hc_seq (hc_region (r_move rfl rfl (r_lss rfl rfl rfl (hl_nil (then_n ?_)))))))))))
 first | refine c_dec rfl (fun hb1 => ?_) (fun hb1 => ?_) | refine hc_cond rfl (fun hb1 => ?_) (fun hb1 => ?_)
 ·have hb1' := hb1; try simp at hb1'
  refine hc_seq (hc_region (r_assign rfl rfl (hl_nil (then_n (hc_ret (then_ret ?_)))))); exact ret1 (s, 0) rfl rfl rfl ⟨hs, by omega, by intro; omega, by intro; rfl⟩ (.refl _) trivial
 ·have hb1' := hb1; try simp at hb1'
  refine hc_skip (then_n (hc_seq (hc_region (r_move rfl rfl ?_)))); refine hl_call F.kit_Dice_raw_cb rfl rfl (kit_Dice_raw_meets hn hs) (.refl _) ⟨m0, trivial⟩ fun x hx => ?_; obtain ⟨s1, z⟩ := x; obtain ⟨hs1, hz⟩ := hx; simp only at hz; refine r_bin _ rfl rfl rfl (fun _ => rfl) (fun _ => rfl) ?_; refine r_move rfl rfl ?_; refine r_add _ rfl rfl rfl rfl (by unfold I64; omega) ?_; refine r_conv (n + 1) rfl T.u_int T.u_u64 rfl (IntWalk.u64_in _ (by omega)) ?_; refine r_rem rfl rfl rfl (by omega) ?_; have hm := mod_range (z := z.fdiv (2 ^ min (Int.toNat 16) IntKind.u64.bits)) (n := n) (Int.fdiv_nonneg hz.1 (by decide)) (by omega); refine r_conv ((z.fdiv (2 ^ min (Int.toNat 16) IntKind.u64.bits)).tmod (n + 1)) rfl T.u_u64 T.u_int rfl (IntWalk.i64_in ((z.fdiv (2 ^ min (Int.toNat 16) IntKind.u64.bits)).tmod (n + 1)) (by omega)) ?_; refine r_assign rfl rfl (hl_nil (then_n (hc_ret ?_))); exact ret1 (s1, _) rfl rfl rfl ⟨hs1, hm.1, fun _ => hm.2, fun h => by omega⟩ (.refl _) trivial
theorem kit_Dice_Once_meets {g : Nat} {A : Option Addr} {c : Nat} {nums : List Int} {s : Int × Int} (n : Int) (hn : nums.length ≤ 9223372036854775807) (hs : DOK nums s) (hI : 0 ≤ n ∧ n ≤ 9223372036854775806) :
    Meets Try.prog F.kit_Dice_Once [.pointer (some ⟨g, 0, none⟩), int n] (diceCon g A c nums s (fun _ : Bool => True) (fun z => .bool z) (fun _ => [])) := by
 refine meets_intro F.kit_Dice_Once_f rfl (Nat.le_of_ble_eq_true rfl) fun w0 => ?_; refine hc_seq (hc_region (r_assign rfl rfl (hl_nil (then_n (hc_seq (hc_region (r_move rfl rfl (r_move rfl rfl ?_)))))))); refine r_sub _ rfl rfl rfl rfl (by unfold I64; omega) ?_; refine hl_call F.kit_Dice_To_cb rfl rfl (kit_Dice_To_meets (n - 1) hn hs (by omega)) (.refl _) ⟨m0, trivial⟩ fun x hx => ?_; obtain ⟨s1, z⟩ := x; obtain ⟨hs1, hz⟩ := hx; simp only [ToInv] at hz; refine r_eql rfl rfl rfl (r_assign rfl rfl (hl_nil (then_n (hc_ret ?_)))); exact ret1 (s1, _) rfl rfl rfl ⟨hs1, trivial⟩ (.refl _) trivial
theorem kit_Dice_Word_meets {g : Nat} {A B : Option Addr} {c cb : Nat} {nums : List Int} {s : Int × Int} (l : List Str) (hn : nums.length ≤ 9223372036854775807) (hs : DOK nums s) (hl : 0 < l.length) (hl2 : l.length ≤ 1000) :
    Meets Try.prog F.kit_Dice_Word [.pointer (some ⟨g, 0, none⟩), .slice B l.length cb] { diceCon g A c nums s (fun x : Str => x ∈ l) (fun z => str z) (fun _ => []) with LI := [Row A (rows nums), Row B (rows l)] } := by
 refine meets_intro F.kit_Dice_Word_f rfl (Nat.le_of_ble_eq_true rfl) fun w0 => ?_; refine hc_seq (hc_region (r_assign rfl rfl (hl_nil (then_n (hc_seq (hc_region (r_move rfl rfl (r_move rfl rfl (r_move rfl rfl ?_))))))))); refine r_len_sl rfl T.u_strs rfl ?_; refine r_sub _ rfl rfl rfl rfl (by unfold I64; omega) ?_; refine hl_call F.kit_Dice_To_cb rfl rfl (kit_Dice_To_meets ((l.length : Int) - 1) hn hs (by omega)) (.refl _) ⟨m0, trivial⟩ fun x hx => ?_; obtain ⟨s1, z⟩ := x; obtain ⟨hs1, hz⟩ := hx; simp only [ToInv] at hz; obtain ⟨zn, rfl⟩ := Int.eq_ofNat_of_zero_le hz.1
 have hzl : zn < l.length := by
   by_cases h1 : 1 ≤ (l.length : Int) - 1
   · have := hz.2.1 h1; omega
   · have := hz.2.2 (by omega); omega
 refine r_elem (α := Str) _ _ rfl T.u_strs T.sz_string rfl rfl rfl mB rfl (by omega) (by decide) ?_; refine r_load rfl T.cell_string rfl (cell_row mB (rows_get0 (by omega) rfl)) ?_; refine r_assign rfl rfl (hl_nil (then_n (hc_ret ?_))); exact ret1 (s1, l.getD zn default) rfl rfl rfl ⟨hs1, by simp [List.getD_eq_getElem?_getD, hzl]⟩ (.refl _) trivial
def lineWords : List Str := [[97], [98], [99], [97, 110, 32, 49], [98, 101, 110], [99, 121, 100, 32, 49, 50]]
def PageOK (l : List Str) : Prop := ∀ s ∈ l, s ∈ lineWords
theorem kit_LineOf_meets {g : Nat} {A : Option Addr} {c : Nat} {nums : List Int} {s : Int × Int} (hn : nums.length ≤ 9223372036854775807) (hs : DOK nums s) :
    Meets Try.prog F.kit_LineOf [.pointer (some ⟨g, 0, none⟩)] (diceCon g A c nums s (fun x : Str => x ∈ lineWords) (fun z => str z) (fun _ => [])) := by
 refine meets_intro F.kit_LineOf_f rfl (Nat.le_of_ble_eq_true rfl) fun w0 => ?_; refine hc_seq (hc_region (r_assign rfl rfl (hl_nil (then_n (hc_seq (hc_region (r_move rfl rfl ?_))))))); refine r_buildSlice _ rfl rfl (fun _ => T.bs_strs_6 ..) fun gS => ?_; refine hl_letgo (rows lineWords) (List.prefix_refl _) ?_; refine hl_call F.kit_Dice_Word_cb rfl rfl (kit_Dice_Word_meets lineWords hn hs (by decide) (by decide)) (.refl _) ⟨m1, m0, trivial⟩ fun x hx => ?_; obtain ⟨s1, z⟩ := x; obtain ⟨hs1, hz⟩ := hx; refine r_assign rfl rfl (hl_nil (then_n (hc_ret ?_))); exact ret1 (s1, z) rfl rfl rfl ⟨hs1, hz⟩ (.refl _) trivial
theorem kit_PageOf_meets {g : Nat} {A : Option Addr} {c : Nat} {nums : List Int} {s : Int × Int} (most : Int) (hn : nums.length ≤ 9223372036854775807) (hs : DOK nums s) (hI : most ≤ 100) :
    Meets Try.prog F.kit_PageOf [.pointer (some ⟨g, 0, none⟩), int most] (diceCon g A c nums s (fun x : List Str × OutC => x.1.length ≤ most.toNat ∧ PageOK x.1 ∧ x.1.length ≤ x.2.2) (fun x => .slice x.2.1 x.1.length x.2.2) (fun x => [Row x.2.1 (rows x.1)])) := by
 refine meets_intro F.kit_PageOf_f rfl (Nat.le_of_ble_eq_true rfl) fun w0 => ?_; refine hc_seq (hc_region (r_assign rfl rfl (hl_nil (then_n (hc_seq (hc_region (r_assign rfl rfl (hl_nil (then_n (hc_seq (hc_seq ?_))))))))))); refine hc_region (r_move rfl rfl (r_move rfl rfl ?_)); refine hl_call F.kit_Dice_To_cb rfl rfl (kit_Dice_To_meets (most) hn hs (by omega)) (.refl _) ⟨m0, trivial⟩ fun x hx => ?_; obtain ⟨s1, z⟩ := x; obtain ⟨hs1, hz⟩ := hx; simp only [ToInv] at hz; obtain ⟨zn, rfl⟩ := Int.eq_ofNat_of_zero_le hz.1
 have hzl : zn ≤ most.toNat := by
   by_cases h1 : 1 ≤ most
   · have := hz.2.1 h1; omega
   · have := hz.2.2 (by omega); omega
 refine r_assign rfl rfl (hl_nil (then_n (hc_block ?_)))
 refine hc_loop (β := List Str × OutC × Hp × Nat × (Int × Int)) ⟨fun ⟨l, o, og, i, s⟩ => Grow T.string 1 o.1 l.length o.2 (rows l) og ∧ l.length + i ≤ most.toNat ∧ PageOK l ∧ DOK nums s,
   fun ⟨l, o, og, i, s⟩ => [(0, .pointer (some ⟨g, 0, none⟩)), (5, .slice o.1 l.length o.2), (6, int i)], fun ⟨l, o, og, i, s⟩ => og ++ [dice g A c nums s], fun _ => [Row A (rows nums)]⟩
   (fun ⟨l, o, og, i, s⟩ => i) ([], (none, 0), [], zn, s1) ⟨Grow.nil _ _, by simp only [List.length_nil]; omega, by intro s h; simp at h, hs1⟩ ⟨rfl, rfl, rfl, trivial⟩ (.refl _) ⟨m0, trivial⟩ fun z hz => ?_
 obtain ⟨l, o, og, i, s⟩ := z; obtain ⟨hG, hli, hok, hs⟩ := hz; refine hc_seq (hc_seq (hc_region (r_move rfl rfl (r_gtr rfl rfl rfl (hl_nil (then_n ?_))))))
 first | refine c_dec rfl (fun hb1 => ?_) (fun hb1 => ?_) | refine hc_cond rfl (fun hb1 => ?_) (fun hb1 => ?_)
 ·have hb1' := hb1; try simp at hb1'
  refine hc_skip (then_n (hc_seq (hc_block (hc_region (r_move rfl rfl (r_move rfl rfl ?_)))))); refine hl_call F.kit_LineOf_cb rfl rfl (kit_LineOf_meets hn hs) (List.perm_append_comm) ⟨m0, trivial⟩ fun x hx => ?_; obtain ⟨s1, z⟩ := x; obtain ⟨hs1, hz⟩ := hx; refine r_buildSlice _ rfl rfl (fun _ => T.bs_strs_1 ..) fun gS => ?_; refine r_append (l.length + 1) (rows (l ++ [z])) T.el_strs rfl rfl rfl hG (List.perm_append_comm (l₁ := [_, _])) (Src.own (cs := #[str z]) (m := 1) (List.mem_append_right _ m0) rfl rfl) rfl (rows_append l [z]).symm (by unfold maxLen; omega) (by omega) fun A' c' og' hG' => ?_; refine r_assign rfl rfl (hl_nil (inb_n (then_n (hc_region (r_move rfl rfl ?_))))); refine r_sub ((i - 1 : Nat) : Int) rfl rfl rfl (by omega) (by unfold I64; omega) ?_; refine r_assign rfl rfl (hl_nil ?_); have e1 : (l ++ [z]).length = l.length + 1 := by simp
  refine again _ (l ++ [z], (A', c'), og', i - 1, s1) ?_ ?_ ?_ ?_ ?_
  · refine ⟨by rw [e1]; exact hG', by rw [e1]; omega, ?_, hs1⟩
    intro x hx
    rcases List.mem_append.1 hx with h | h
    · exact hok x h
    · simp at h; subst h; exact hz
  · show i - 1 < i
    omega
  · exact ⟨rfl, by rw [e1]; rfl, rfl, trivial⟩
  · exact (List.Sublist.refl og').append (.cons _ (.refl _))
  · exact ⟨m0, trivial⟩
 ·have hb1' := hb1; try simp at hb1'
  refine hc_exit (then_exit (then_exit (inb_hit (then_n (hc_seq (hc_region (r_move rfl rfl (r_assign rfl rfl (hl_nil (then_n (hc_ret ?_))))))))))); refine hq_grown hG ?_; exact ret1 (s, l, o) rfl rfl rfl ⟨hs, by simp only; omega, hok, hG.le⟩ (.refl _) ⟨m0, trivial⟩
end Go.Proofs.Ytpfbbggmcbhboaa
end
