/- Equal lists of lists. -/
import Derived.Test.YtlpgheniajdkfaaPal
namespace Go.Proofs.Ytlpgheniajdkfaa
open Go Go.W
set_option linter.unusedVariables false
set_option linter.unusedSimpArgs false
set_option maxRecDepth 20000
attribute [local irreducible] HL HC HQ HB Row Rows2 Blk Facts

abbrev lsts (ps : List (Sl Int)) : List (List Int) := ps.map (·.l)
theorem lsts_len (ps : List (Sl Int)) : (lsts ps).length = ps.length := List.length_map ..
theorem lsts_take_succ {ps : List (Sl Int)} {k : Nat} (hk : k < ps.length) : (lsts ps).take (k + 1) = (lsts ps).take k ++ [(ps.getD k default).l] := by
  have h1 : k < (lsts ps).length := by simpa using hk
  rw [List.take_succ_eq_append_getElem h1, getD_at hk]
  simp
theorem lsts_at (ps : List (Sl Int)) {k : Nat} (hk : k < ps.length) : (lsts ps).getD k [] = (ps.getD k default).l := by
  rw [getD_at hk]
  simp [List.getD_eq_getElem?_getD, hk]

theorem kit_EqLists_meets {A B : Option Addr} {ca cb : Nat} (a b : List (Sl Int)) (ha : a.length ≤ 1000000) (hla : ∀ p ∈ a, p.l.length ≤ 1000000) :
    Meets Try.prog F.kit_EqLists [.slice A a.length ca, .slice B b.length cb] { LI := [Rows2 A a, Rows2 B b], val := fun _ : Unit => .bool (decide (lsts a = lsts b)) } := by
 refine meets_intro F.kit_EqLists_f rfl (Nat.le_of_ble_eq_true rfl) fun w0 => ?_
 refine hc_seq ?_
 refine hc_region ?_
 refine r_assign rfl rfl ?_
 refine hl_nil ?_
 refine then_n ?_
 refine hc_seq ?_
 refine hc_seq ?_
 refine hc_region ?_
 refine r_move rfl rfl ?_
 refine r_len_sl rfl T.u_intss rfl ?_
 refine r_move rfl rfl ?_
 refine r_len_sl rfl T.u_intss rfl ?_
 refine r_neq rfl rfl rfl ?_
 refine hl_nil ?_
 refine then_n ?_
 first | refine c_dec rfl (fun hb1 => ?_) (fun hb1 => ?_) | refine hc_cond rfl (fun hb1 => ?_) (fun hb1 => ?_)
 ·have hb1' := hb1; try simp at hb1'
  have hb1 : ¬ lsts a = lsts b := fun e => by have := congrArg List.length e; rw [lsts_len, lsts_len] at this; omega
  refine hc_seq ?_
  refine hc_region ?_
  refine r_assign rfl rfl ?_
  refine hl_nil ?_
  refine then_n ?_
  refine hc_ret ?_
  refine then_ret ?_
  exact ret1 () rfl (by rw [decide_eq_false hb1]; rfl) rfl trivial (.refl _) trivial
 ·have hb1' := hb1; try simp at hb1'
  have hb1 : a.length = b.length := by omega
  refine hc_outer (A := A) (ps := a) m0 ?_
  refine hc_outer (A := B) (ps := b) m2 ?_
  refine hc_skip ?_
  refine then_n ?_
  refine hc_seq ?_
  refine hc_seq ?_
  refine hc_region ?_
  refine r_assign rfl rfl ?_
  refine hl_nil ?_
  refine then_n ?_
  refine hc_block ?_
  refine hc_loop (β := Nat) ⟨fun k => k ≤ a.length ∧ (lsts a).take k = (lsts b).take k, fun k => [(0, .slice A a.length ca), (1, .slice B b.length cb), (5, int k)], fun _ => [], fun _ => [Row B (rows b), Row A (rows a), Rows2 A a, Rows2 B b]⟩ (fun k => a.length - k) 0 ⟨Nat.zero_le _, rfl⟩ ⟨rfl, rfl, rfl, trivial⟩ (.refl _) ⟨m0, m1, m2, m3, trivial⟩ fun k hk => ?_
  obtain ⟨hk, ht⟩ := hk
  refine hc_seq ?_
  refine hc_seq ?_
  refine hc_region ?_
  refine r_move rfl rfl ?_
  refine r_move rfl rfl ?_
  refine r_len_sl rfl T.u_intss rfl ?_
  refine r_lss rfl rfl rfl ?_
  refine hl_nil ?_
  refine then_n ?_
  first | refine c_dec rfl (fun hb2 => ?_) (fun hb2 => ?_) | refine hc_cond rfl (fun hb2 => ?_) (fun hb2 => ?_)
  ·have hb2' := hb2; try simp at hb2'
   have hk2 : k < a.length := by omega
   have hma := getD_mem hk2
   have hmb := getD_mem (l := b) (k := k) (by omega)
   refine hc_skip ?_
   refine then_n ?_
   refine hc_seq ?_
   refine hc_block ?_
   refine hc_seq ?_
   refine hc_draw 8 mixed (by decide) (by decide) rfl rfl ?_
   apply hb_ex _ rfl rfl rfl
   ·intro w1
    refine r_move rfl rfl ?_
    refine hl_nil ?_
    exact qe_done rfl
   apply hb_ex _ rfl rfl rfl
   ·intro w1
    refine r_move rfl rfl ?_
    refine hl_nil ?_
    exact qe_done rfl
   apply hb_ex _ rfl rfl rfl
   ·intro w1
    refine r_elem (α := (Sl Int)) _ _ rfl T.u_intss T.sz_ints rfl rfl rfl (by repeat constructor) rfl (by omega) (by decide) ?_
    refine hl_nil ?_
    exact qe_done rfl
   apply hb_ex _ rfl rfl rfl
   ·intro w1
    refine r_load rfl T.cell_ints rfl (cell_row (by repeat constructor) (rows_get0 (by omega) rfl)) ?_
    refine hl_nil ?_
    exact qe_done rfl
   apply hb_ex _ rfl rfl rfl
   ·intro w1
    refine r_move rfl rfl ?_
    refine hl_nil ?_
    exact qe_done rfl
   apply hb_ex _ rfl rfl rfl
   ·intro w1
    refine r_move rfl rfl ?_
    refine hl_nil ?_
    exact qe_done rfl
   apply hb_ex _ rfl rfl rfl
   ·intro w1
    refine r_elem (α := (Sl Int)) _ _ rfl T.u_intss T.sz_ints rfl rfl rfl (by repeat constructor) rfl (by omega) (by decide) ?_
    refine hl_nil ?_
    exact qe_done rfl
   apply hb_ex _ rfl rfl rfl
   ·intro w1
    refine r_load rfl T.cell_ints rfl (cell_row (by repeat constructor) (rows_get0 (by omega) rfl)) ?_
    refine hl_nil ?_
    exact qe_done rfl
   refine hb_nil ⟨rfl, ?_⟩
   refine hl_inner (A := A) (ps := a) (p := a.getD k default) (by repeat constructor) hma ?_
   refine hl_inner (A := B) (ps := b) (p := b.getD k default) (by repeat constructor) hmb ?_
   refine hl_call F.kit_EqInts_cb rfl rfl (kit_EqInts_meets (a.getD k default).l (b.getD k default).l (by have := hla _ hma; omega)) (List.Perm.refl _) ⟨m1, m0, trivial⟩ fun _ _ => ?_
   refine r_not rfl rfl ?_
   refine hl_nil ?_
   refine then_n ?_
   first | refine c_dec rfl (fun hb3 => ?_) (fun hb3 => ?_) | refine hc_cond rfl (fun hb3 => ?_) (fun hb3 => ?_)
   ·have hb3' := hb3; try simp at hb3'
    have hne : ¬ (a.getD k default).l = (b.getD k default).l := by simpa using hb3'
    have hb3 : ¬ lsts a = lsts b := fun e => hne (by rw [← lsts_at a hk2, ← lsts_at b (by omega), e])
    refine hc_seq ?_
    refine hc_region ?_
    refine r_assign rfl rfl ?_
    refine hl_nil ?_
    refine then_n ?_
    refine hc_ret ?_
    refine inb_ret ?_
    refine then_ret ?_
    refine then_ret ?_
    refine inb_ret ?_
    refine then_ret ?_
    exact ret1 () rfl (by rw [decide_eq_false hb3]; rfl) rfl trivial (.refl _) trivial
   ·have hb3' := hb3; try simp at hb3'
    have hq : (a.getD k default).l = (b.getD k default).l := by simpa using hb3'
    refine hc_skip ?_
    refine inb_n ?_
    refine then_n ?_
    refine hc_region ?_
    refine r_move rfl rfl ?_
    refine r_add _ rfl rfl rfl rfl (by unfold I64; omega) ?_
    refine r_assign rfl rfl ?_
    refine hl_nil ?_
    exact again _ (k + 1) ⟨by omega, by rw [lsts_take_succ hk2, lsts_take_succ (by omega), ht, hq]⟩ (by show a.length - (k + 1) < a.length - k; omega) ⟨rfl, rfl, rfl, trivial⟩ (.refl _) ⟨(by repeat constructor), (by repeat constructor), (by repeat constructor), (by repeat constructor), trivial⟩
  ·have hb2' := hb2; try simp at hb2'
   have hk2 : k = a.length := by omega
   refine hc_exit ?_
   refine then_exit ?_
   refine then_exit ?_
   refine inb_hit ?_
   refine then_n ?_
   refine hc_seq ?_
   refine hc_region ?_
   refine r_assign rfl rfl ?_
   refine hl_nil ?_
   refine then_n ?_
   refine hc_ret ?_
   exact ret1 () rfl (by rw [decide_eq_true (eq_of_takes ht (by rw [lsts_len]; omega) (by rw [lsts_len]; omega))]; rfl) rfl trivial (.refl _) trivial

theorem kit_DupInts_meets {A : Option Addr} {c : Nat} (l : List Int) (hl : l.length ≤ 1000000) :
    Meets Try.prog F.kit_DupInts [.slice A l.length c] { outSl l with LI := [Row A (rows l)] } := by
 refine meets_intro F.kit_DupInts_f rfl (Nat.le_of_ble_eq_true rfl) fun w0 => ?_
 refine hc_seq ?_
 refine hc_region ?_
 refine r_assign rfl rfl ?_
 refine hl_nil ?_
 refine then_n ?_
 refine hc_seq ?_
 refine hc_region ?_
 refine r_buildSlice _ rfl rfl (fun _ => T.bs_ints_0 ..) fun gS => ?_
 refine r_move rfl rfl ?_
 refine r_append l.length (rows l) T.el_ints rfl rfl rfl (Grow.new (cs := #[]) (n := 0) rfl (Nat.zero_le _)) (.refl _) (Src.row m0 (rows_len l) (rows_one l) (by decide)) (by omega) rfl (by unfold maxLen; omega) (by omega) fun A' c' og' hG => ?_
 refine r_assign rfl rfl ?_
 refine hl_nil ?_
 refine then_n ?_
 refine hc_ret ?_
 refine hq_grown hG ?_
 exact ret1 (A', c') rfl rfl rfl hG.le (.refl _) ⟨m0, trivial⟩

theorem law04_word_meets {A B : Option Addr} {ca cb : Nat} (cs : List Cl) (hs : List Hd) (s : Str) (hl : hs.length ≤ 1000000) : Meets Try.prog F.law04_word [.agg #[.slice A cs.length ca, .slice B hs.length cb], str s] { LI := [Row B (rows hs)], inv := fun z : Int => (∃ k : Nat, z = k ∧ k < hs.length ∧ (hs.getD k default).1 = s) ∨ (z = -1 ∧ s ∉ hs.map (·.1)), val := fun z => int z } := by
 refine meets_intro F.law04_word_f rfl (Nat.le_of_ble_eq_true rfl) fun w0 => ?_
 refine hc_seq ?_
 refine hc_region ?_
 refine r_box rfl rfl fun gB => ?_
 refine r_assign rfl rfl ?_
 refine hl_nil ?_
 refine then_n ?_
 refine hc_seq ?_
 refine hc_seq ?_
 refine hc_region ?_
 refine r_assign rfl rfl ?_
 refine hl_nil ?_
 refine then_n ?_
 refine hc_block ?_
 refine hc_loop (β := Nat) ⟨fun k => k ≤ hs.length ∧ s ∉ (hs.take k).map (·.1), fun k => [(1, str s), (2, .pointer (some ⟨gB, 0, none⟩)), (5, int k)], fun _ => [(gB, .cells #[.slice A cs.length ca, .slice B hs.length cb] T.api_Trades (0, 0))], fun _ => [Row B (rows hs)]⟩ (fun k => hs.length - k) 0 ⟨Nat.zero_le _, by simp⟩ ⟨rfl, rfl, rfl, trivial⟩ (List.Sublist.refl _) ⟨(by repeat constructor), trivial⟩ fun k hk => ?_
 obtain ⟨hk, ht⟩ := hk
 refine hc_seq ?_
 refine hc_seq ?_
 refine hc_region ?_
 refine r_move rfl rfl ?_
 first | refine r_fieldAddr ⟨_, 1, none⟩ rfl rfl T.fa_api_Trades_1 rfl ?_ | refine r_fieldAddr _ rfl rfl T.fa_api_Trades_1 rfl ?_
 first | refine r_load rfl T.cell_L_api_Head rfl (cell_own (by repeat constructor) rfl) ?_ | refine r_load rfl T.cell_L_api_Head rfl (cell_blk (by repeat constructor) rfl) ?_ | refine r_load rfl T.cell_L_api_Head rfl (cell_row (by repeat constructor) (rows_get0 (by omega) rfl)) ?_ | refine r_load rfl T.cell_L_api_Head rfl (cell_row_f (by repeat constructor) (rows_get (by omega) rfl)) ?_ | refine r_load rfl T.cell_L_api_Head rfl (cell_rowg (by repeat constructor) rfl) ?_
 refine r_len_sl rfl T.u_L_api_Head rfl ?_
 refine r_lss rfl rfl rfl ?_
 refine hl_nil ?_
 refine then_n ?_
 first | refine c_dec rfl (fun hb1 => ?_) (fun hb1 => ?_) | refine hc_cond rfl (fun hb1 => ?_) (fun hb1 => ?_)
 ·have hb1' := hb1; try simp at hb1'
  have hk2 : k < hs.length := by omega
  refine hc_skip ?_
  refine then_n ?_
  refine hc_seq ?_
  refine hc_block ?_
  refine hc_seq ?_
  refine hc_region ?_
  first | refine r_fieldAddr ⟨_, 1, none⟩ rfl rfl T.fa_api_Trades_1 rfl ?_ | refine r_fieldAddr _ rfl rfl T.fa_api_Trades_1 rfl ?_
  first | refine r_load rfl T.cell_L_api_Head rfl (cell_own (by repeat constructor) rfl) ?_ | refine r_load rfl T.cell_L_api_Head rfl (cell_blk (by repeat constructor) rfl) ?_ | refine r_load rfl T.cell_L_api_Head rfl (cell_row (by repeat constructor) (rows_get0 (by omega) rfl)) ?_ | refine r_load rfl T.cell_L_api_Head rfl (cell_row_f (by repeat constructor) (rows_get (by omega) rfl)) ?_ | refine r_load rfl T.cell_L_api_Head rfl (cell_rowg (by repeat constructor) rfl) ?_
  refine r_move rfl rfl ?_
  refine r_elem (α := Hd) _ _ rfl T.u_L_api_Head T.sz_api_Head rfl rfl rfl (by repeat constructor) rfl (by omega) (by decide) ?_
  first | refine r_fieldAddr ⟨_, 0, none⟩ rfl rfl T.fa_api_Head_0 rfl ?_ | refine r_fieldAddr _ rfl rfl T.fa_api_Head_0 rfl ?_
  refine r_load rfl T.cell_string rfl (cell_row (by repeat constructor) (rows_get0 (by omega) rfl)) ?_
  refine r_move rfl rfl ?_
  refine r_seql rfl rfl rfl ?_
  refine hl_nil ?_
  refine then_n ?_
  first | refine c_dec rfl (fun hb2 => ?_) (fun hb2 => ?_) | refine hc_cond rfl (fun hb2 => ?_) (fun hb2 => ?_)
  ·have hb2' := hb2; try simp at hb2'
   refine hc_seq ?_
   refine hc_region ?_
   refine r_move rfl rfl ?_
   refine r_assign rfl rfl ?_
   refine hl_nil ?_
   refine then_n ?_
   refine hc_ret ?_
   refine inb_ret ?_
   refine then_ret ?_
   refine then_ret ?_
   refine inb_ret ?_
   refine then_ret ?_
   exact ret1 (k : Int) rfl rfl rfl (.inl ⟨k, rfl, hk2, hb2⟩) (List.nil_sublist _) trivial
  ·have hb2' := hb2; try simp at hb2'
   refine hc_skip ?_
   refine inb_n ?_
   refine then_n ?_
   refine hc_region ?_
   refine r_move rfl rfl ?_
   refine r_add _ rfl rfl rfl rfl (by unfold I64; omega) ?_
   refine r_assign rfl rfl ?_
   refine hl_nil ?_
   exact again _ (k + 1) ⟨by omega, idx_next (·.1) hk2 ht hb2⟩ (by show hs.length - (k + 1) < hs.length - k; omega) ⟨rfl, rfl, rfl, trivial⟩ (List.Sublist.refl _) ⟨(by repeat constructor), trivial⟩
 ·have hb1' := hb1; try simp at hb1'
  have hk2 : k = hs.length := by omega
  subst hk2
  rw [List.take_length] at ht
  refine hc_exit ?_
  refine then_exit ?_
  refine then_exit ?_
  refine inb_hit ?_
  refine then_n ?_
  refine hc_seq ?_
  refine hc_region ?_
  refine r_assign rfl rfl ?_
  refine hl_nil ?_
  refine then_n ?_
  refine hc_ret ?_
  exact ret1 (-1) rfl rfl rfl (.inr ⟨rfl, ht⟩) (List.nil_sublist _) trivial

end Go.Proofs.Ytlpgheniajdkfaa
