/- The walk of the document's marks from page to page. -/
import Derived.Test.YtpbbgbjidhffoaaPh
namespace Go.Proofs.Ytpbbgbjidhffoaa
open Go Go.W
set_option linter.unusedVariables false
set_option linter.unusedSimpArgs false
set_option maxRecDepth 20000
attribute [local irreducible] HL HC HQ HB Row Rows2 Blk Facts

def pickR (s : Option (List Mk)) (l : List Mk) : Option (List Mk) :=
  match s with
  | none => some l
  | some b => if betterR l b = true then some l else some b
def diffR (old page : List Str) (i k : Nat) : List Mk :=
  if i = old.length ∧ k = page.length then [] else
  (if h : i < old.length then pickR
    (if h : i < old.length ∧ k < page.length then pickR
      (if h : k < page.length then pickR
        (if h : i < old.length ∧ k < page.length ∧ old.getD i default = page.getD k default then some (diffR old page (i + 1) (k + 1)) else none)
        ((1, (i : Int), page.getD k default) :: diffR old page i (k + 1)) else
        (if h : i < old.length ∧ k < page.length ∧ old.getD i default = page.getD k default then some (diffR old page (i + 1) (k + 1)) else none))
      ((2, (i : Int), page.getD k default) :: diffR old page (i + 1) (k + 1)) else
      (if h : k < page.length then pickR
        (if h : i < old.length ∧ k < page.length ∧ old.getD i default = page.getD k default then some (diffR old page (i + 1) (k + 1)) else none)
        ((1, (i : Int), page.getD k default) :: diffR old page i (k + 1)) else
        (if h : i < old.length ∧ k < page.length ∧ old.getD i default = page.getD k default then some (diffR old page (i + 1) (k + 1)) else none)))
    ((3, (i : Int), []) :: diffR old page (i + 1) k) else
    (if h : i < old.length ∧ k < page.length then pickR
      (if h : k < page.length then pickR
        (if h : i < old.length ∧ k < page.length ∧ old.getD i default = page.getD k default then some (diffR old page (i + 1) (k + 1)) else none)
        ((1, (i : Int), page.getD k default) :: diffR old page i (k + 1)) else
        (if h : i < old.length ∧ k < page.length ∧ old.getD i default = page.getD k default then some (diffR old page (i + 1) (k + 1)) else none))
      ((2, (i : Int), page.getD k default) :: diffR old page (i + 1) (k + 1)) else
      (if h : k < page.length then pickR
        (if h : i < old.length ∧ k < page.length ∧ old.getD i default = page.getD k default then some (diffR old page (i + 1) (k + 1)) else none)
        ((1, (i : Int), page.getD k default) :: diffR old page i (k + 1)) else
        (if h : i < old.length ∧ k < page.length ∧ old.getD i default = page.getD k default then some (diffR old page (i + 1) (k + 1)) else none)))).getD []
termination_by (old.length - i) + (page.length - k)
decreasing_by all_goals omega
def dr0 (old page : List Str) (i k : Nat) : Option (List Mk) := if i < old.length ∧ k < page.length ∧ old.getD i default = page.getD k default then some (diffR old page (i + 1) (k + 1)) else none
def dr1 (old page : List Str) (i k : Nat) : Option (List Mk) := if k < page.length then pickR (dr0 old page i k) ((1, (i : Int), page.getD k default) :: diffR old page i (k + 1)) else dr0 old page i k
def dr2 (old page : List Str) (i k : Nat) : Option (List Mk) := if i < old.length ∧ k < page.length then pickR (dr1 old page i k) ((2, (i : Int), page.getD k default) :: diffR old page (i + 1) (k + 1)) else dr1 old page i k
def dr3 (old page : List Str) (i k : Nat) : Option (List Mk) := if i < old.length then pickR (dr2 old page i k) ((3, (i : Int), []) :: diffR old page (i + 1) k) else dr2 old page i k
theorem diffR_eq (old page : List Str) (i k : Nat) : diffR old page i k = if i = old.length ∧ k = page.length then [] else (dr3 old page i k).getD [] := by
  rw [diffR]
  simp only [dite_eq_ite, dr3, dr2, dr1, dr0]
theorem pickR_or (s : Option (List Mk)) (l : List Mk) : pickR s l = some l ∨ (pickR s l = s) := by
  unfold pickR
  cases s with
  | none => exact .inl rfl
  | some b => simp only; split <;> simp
def Bd (N : Nat) (s : Option (List Mk)) : Prop := ∀ b, s = some b → b.length ≤ N
theorem Bd.pick {N : Nat} {s : Option (List Mk)} {l : List Mk} (h : Bd N s) (hl : l.length ≤ N) : Bd N (pickR s l) := by
  intro b hb
  rcases pickR_or s l with h1 | h1
  · rw [h1] at hb; cases hb; exact hl
  · rw [h1] at hb; exact h b hb
theorem diffR_len (old page : List Str) : ∀ (d i k : Nat), (old.length - i) + (page.length - k) ≤ d → (diffR old page i k).length ≤ (old.length - i) + (page.length - k) := by
  intro d
  induction d with
  | zero =>
    intro i k h
    have h1 : ¬ i < old.length := by omega
    have h2 : ¬ k < page.length := by omega
    rw [diffR_eq]
    simp [dr3, dr2, dr1, dr0, h1, h2]
  | succ d ih =>
    intro i k h
    have b0 : Bd ((old.length - i) + (page.length - k)) (dr0 old page i k) := by
      intro b hb
      unfold dr0 at hb
      split at hb
      · cases hb; have := ih (i + 1) (k + 1) (by omega); omega
      · cases hb
    have b1 : Bd ((old.length - i) + (page.length - k)) (dr1 old page i k) := by
      unfold dr1
      split
      · exact b0.pick (by have := ih i (k + 1) (by omega); simp only [List.length_cons]; omega)
      · exact b0
    have b2 : Bd ((old.length - i) + (page.length - k)) (dr2 old page i k) := by
      unfold dr2
      split
      · exact b1.pick (by have := ih (i + 1) (k + 1) (by omega); simp only [List.length_cons]; omega)
      · exact b1
    have b3 : Bd ((old.length - i) + (page.length - k)) (dr3 old page i k) := by
      unfold dr3
      split
      · exact b2.pick (by have := ih (i + 1) k (by omega); simp only [List.length_cons]; omega)
      · exact b2
    rw [diffR_eq]
    split
    · simp
    · cases h3 : dr3 old page i k with
      | none => simp
      | some b => exact b3 b h3

structure RSt where
  s : Option (List Mk)
  o : OutC
abbrev rSta (A B : Option Addr) (ca cb : Nat) (old page : List Str) (i k : Nat) (r : Option (List Mk)) : Sta RSt :=
  { inv := fun x => x.s = r
    fr := fun x => [(0, .slice A old.length ca), (1, .slice B page.length cb), (2, int i), (3, int k), (9, .slice x.o.1 (x.s.getD []).length x.o.2), (10, .bool x.s.isSome)]
    hp := fun _ => []
    L := fun x => [Row x.o.1 (rows (x.s.getD [])), Row A (rows old), Row B (rows page)] }
theorem dr_len {old page : List Str} {i k : Nat} (hd : (old.length - i) + (page.length - k) ≤ 2000) : ∀ b, (dr0 old page i k = some b ∨ dr1 old page i k = some b ∨ dr2 old page i k = some b) → b.length ≤ 2000 := by
  have L := fun a b => diffR_len old page _ a b (Nat.le_refl _)
  have b0 : Bd 2000 (dr0 old page i k) := by
    intro b hb
    unfold dr0 at hb
    split at hb
    · cases hb; have := L (i + 1) (k + 1); omega
    · cases hb
  have b1 : Bd 2000 (dr1 old page i k) := by
    unfold dr1
    split
    · exact b0.pick (by have := L i (k + 1); simp only [List.length_cons]; omega)
    · exact b0
  have b2 : Bd 2000 (dr2 old page i k) := by
    unfold dr2
    split
    · exact b1.pick (by have := L (i + 1) (k + 1); simp only [List.length_cons]; omega)
    · exact b1
  intro b hb
  rcases hb with hb | hb | hb
  · exact b0 b hb
  · exact b1 b hb
  · exact b2 b hb

theorem pickR_some {s : Option (List Mk)} {l : List Mk} (h : s.isSome = true) : pickR s l = if betterR l (s.getD []) = true then some l else s := by
  cases s with
  | none => cases h
  | some b => rfl
theorem pickR_none {s : Option (List Mk)} {l : List Mk} (h : s.isSome = false) : pickR s l = some l := by
  cases s with
  | none => rfl
  | some b => cases h
theorem not_bool {b : Bool} (h : ((!b) == false) = true) : b = true := by cases b <;> simp_all
theorem not_bool2 {b : Bool} (h : ((!b) == false) = false) : b = false := by cases b <;> simp_all

theorem ref07_diff_meets {A B : Option Addr} {ca cb : Nat} {old page : List Str} (ho : old.length ≤ 1000) (hpl : page.length ≤ 1000) (d : Nat) : ∀ (i k : Nat), (old.length - i) + (page.length - k) < d → i ≤ old.length → k ≤ page.length →
    Meets Try.prog F.ref07_diff [.slice A old.length ca, .slice B page.length cb, int i, int k] { outV (diffR old page i k) with LI := [Row A (rows old), Row B (rows page)] } := by
 induction d
 case zero => intro i k hd; omega
 rename_i d ih
 intro i k hd hi hk
 refine meets_intro F.ref07_diff_f rfl (Nat.le_of_ble_eq_true rfl) fun w0 => ?_
 refine hc_seq ?_
 refine hc_region ?_
 refine r_assign rfl rfl ?_
 refine hl_nil ?_
 refine then_n ?_
 refine hc_seq ?_
 refine hc_region ?_
 refine r_assign rfl rfl ?_
 refine hl_nil ?_
 refine then_n ?_
 refine hc_seq ?_
 refine hc_region ?_
 refine r_assign rfl rfl ?_
 refine hl_nil ?_
 refine then_n ?_
 refine hc_cut ⟨fun _ : Unit => ¬ (i = old.length ∧ k = page.length), fun _ => [(0, .slice A old.length ca), (1, .slice B page.length cb), (2, int i), (3, int k), (9, .slice none 0 0), (10, .bool false)], fun _ => [], fun _ => [Row A (rows old), Row B (rows page)]⟩ ?_ ?_
 ·skip
  refine hc_seq ?_
  refine hc_region ?_
  refine r_move rfl rfl ?_
  refine r_move rfl rfl ?_
  refine r_len_sl rfl T.u_strs rfl ?_
  refine r_eql rfl rfl rfl ?_
  refine r_move rfl rfl ?_
  refine g_split rfl rfl ?_ ?_
  ·intro hg1; have hg1' := hg1; try simp at hg1'
   refine g_yes rfl rfl hg1 ?_
   refine r_move rfl rfl ?_
   refine g_yes rfl rfl hg1 ?_
   refine r_move rfl rfl ?_
   refine g_yes rfl rfl hg1 ?_
   refine r_len_sl rfl T.u_strs rfl ?_
   refine g_yes rfl rfl hg1 ?_
   refine r_eql rfl rfl rfl ?_
   refine p_t rfl rfl (bt1 hg1) rfl ?_
   refine hl_nil ?_
   refine then_n ?_
   first | refine c_dec rfl (fun hb1 => ?_) (fun hb1 => ?_) | refine hc_cond rfl (fun hb1 => ?_) (fun hb1 => ?_)
   ·have hb1' := hb1; try simp at hb1'
    have h0 : i = old.length ∧ k = page.length := by omega
    have e : diffR old page i k = [] := by rw [diffR_eq, if_pos h0]
    rw [e]
    refine hc_seq ?_
    refine hc_region ?_
    refine r_assign rfl rfl ?_
    refine hl_nil ?_
    refine then_n ?_
    refine hc_ret ?_
    refine then_ret ?_
    refine hq_nil0 ?_
    exact ret1 (none, 0) rfl rfl rfl trivial (.refl _) ⟨m0, trivial⟩
   ·have hb1' := hb1; try simp at hb1'
    refine hc_skip ?_
    exact cut_n _ () (by show ¬ (i = old.length ∧ k = page.length); omega) ⟨rfl, rfl, rfl, rfl, rfl, rfl, trivial⟩ (.refl _) ⟨m0, m1, trivial⟩
  ·intro hg1; have hg1' := hg1; try simp at hg1'
   refine g_no rfl rfl rfl rfl rfl hg1 ?_
   refine g_no rfl rfl rfl rfl rfl hg1 ?_
   refine g_no rfl rfl rfl rfl rfl hg1 ?_
   refine g_no rfl rfl rfl rfl rfl hg1 ?_
   refine p_f rfl rfl (bf2 hg1) rfl ?_
   refine hl_nil ?_
   refine then_n ?_
   refine c_f rfl rfl ?_
   refine hc_skip ?_
   exact cut_n _ () (by show ¬ (i = old.length ∧ k = page.length); omega) ⟨rfl, rfl, rfl, rfl, rfl, rfl, trivial⟩ (.refl _) ⟨m0, m1, trivial⟩
 ·refine fun _ h0 => ?_
  have h0 : ¬ (i = old.length ∧ k = page.length) := h0
  refine hc_cut (rSta A B ca cb old page i k (dr0 old page i k)) ?_ ?_
  ·skip
   refine hc_seq ?_
   refine hc_draw 19 mixed (by decide) (by decide) rfl rfl ?_
   apply hb_ex _ rfl rfl rfl
   ·intro w1
    refine r_move rfl rfl ?_
    refine hl_nil ?_
    exact qe_done rfl
   apply hb_ex _ rfl rfl rfl
   ·intro w1
    refine r_move rfl rfl ?_
    refine hl_nil ?_
    exact qe_done rfl
   apply hb_ex _ rfl rfl rfl
   ·intro w1
    refine r_len_sl rfl T.u_strs rfl ?_
    refine hl_nil ?_
    exact qe_done rfl
   apply hb_ex _ rfl rfl rfl
   ·intro w1
    refine r_lss rfl rfl rfl ?_
    refine hl_nil ?_
    exact qe_done rfl
   apply hb_ex _ rfl rfl rfl
   ·intro w1
    refine r_move rfl rfl ?_
    refine hl_nil ?_
    exact qe_done rfl
   refine hb_split (t := 28) (want := true) rfl ?_ ?_
   ·intro hg2; have hg2' := hg2; try simp at hg2'
    apply hb_ex _ rfl rfl rfl
    ·intro w1
     refine g_yes rfl rfl hg2 ?_
     refine r_move rfl rfl ?_
     refine hl_nil ?_
     exact qe_done rfl
    apply hb_ex _ rfl rfl rfl
    ·intro w1
     refine g_yes rfl rfl hg2 ?_
     refine r_move rfl rfl ?_
     refine hl_nil ?_
     exact qe_done rfl
    apply hb_ex _ rfl rfl rfl
    ·intro w1
     refine g_yes rfl rfl hg2 ?_
     refine r_len_sl rfl T.u_strs rfl ?_
     refine hl_nil ?_
     exact qe_done rfl
    apply hb_ex _ rfl rfl rfl
    ·intro w1
     refine g_yes rfl rfl hg2 ?_
     refine r_lss rfl rfl rfl ?_
     refine hl_nil ?_
     exact qe_done rfl
    apply hb_ex _ rfl rfl rfl
    ·intro w1
     refine p_t rfl rfl (bt1 hg2) rfl ?_
     refine hl_nil ?_
     exact qe_done rfl
    apply hb_ex _ rfl rfl rfl
    ·intro w1
     refine r_move rfl rfl ?_
     refine hl_nil ?_
     exact qe_done rfl
    refine hb_split (t := 34) (want := true) rfl ?_ ?_
    ·intro hg3; have hg3' := hg3; try simp at hg3'
     apply hb_ex _ rfl rfl rfl
     ·intro w1
      refine g_yes rfl rfl hg3 ?_
      refine r_move rfl rfl ?_
      refine hl_nil ?_
      exact qe_done rfl
     apply hb_ex _ rfl rfl rfl
     ·intro w1
      refine g_yes rfl rfl hg3 ?_
      refine r_move rfl rfl ?_
      refine hl_nil ?_
      exact qe_done rfl
     apply hb_ex _ rfl rfl rfl
     ·intro w1
      refine g_yes rfl rfl hg3 ?_
      refine r_elem (α := Str) _ _ rfl T.u_strs T.sz_string rfl rfl rfl (by repeat constructor) rfl (by omega) (by decide) ?_
      refine hl_nil ?_
      exact qe_done rfl
     apply hb_ex _ rfl rfl rfl
     ·intro w1
      refine g_yes rfl rfl hg3 ?_
      refine r_load rfl T.cell_string rfl (cell_row (by repeat constructor) (rows_get0 (by omega) rfl)) ?_
      refine hl_nil ?_
      exact qe_done rfl
     apply hb_ex _ rfl rfl rfl
     ·intro w1
      refine g_yes rfl rfl hg3 ?_
      refine r_move rfl rfl ?_
      refine hl_nil ?_
      exact qe_done rfl
     apply hb_ex _ rfl rfl rfl
     ·intro w1
      refine g_yes rfl rfl hg3 ?_
      refine r_move rfl rfl ?_
      refine hl_nil ?_
      exact qe_done rfl
     apply hb_ex _ rfl rfl rfl
     ·intro w1
      refine g_yes rfl rfl hg3 ?_
      refine r_elem (α := Str) _ _ rfl T.u_strs T.sz_string rfl rfl rfl (by repeat constructor) rfl (by omega) (by decide) ?_
      refine hl_nil ?_
      exact qe_done rfl
     apply hb_ex _ rfl rfl rfl
     ·intro w1
      refine g_yes rfl rfl hg3 ?_
      refine r_load rfl T.cell_string rfl (cell_row (by repeat constructor) (rows_get0 (by omega) rfl)) ?_
      refine hl_nil ?_
      exact qe_done rfl
     refine hb_nil ⟨rfl, ?_⟩
     refine g_yes rfl rfl hg3 ?_
     refine r_seql rfl rfl rfl ?_
     refine p_t rfl rfl (bt1 hg3) rfl ?_
     refine hl_nil ?_
     refine then_n ?_
     first | refine c_dec rfl (fun hb2 => ?_) (fun hb2 => ?_) | refine hc_cond rfl (fun hb2 => ?_) (fun hb2 => ?_)
     ·have hb2' := hb2; try simp at hb2'
      have hs0 := hb2
      refine hc_region ?_
      refine r_move rfl rfl ?_
      refine r_move rfl rfl ?_
      refine r_move rfl rfl ?_
      refine r_add ((i + 1 : Nat) : Int) rfl rfl rfl (by omega) (by unfold I64; omega) ?_
      refine r_move rfl rfl ?_
      refine r_add ((k + 1 : Nat) : Int) rfl rfl rfl (by omega) (by unfold I64; omega) ?_
      refine hl_call (vs := [.slice A old.length ca, .slice B page.length cb, int ((i + 1 : Nat) : Int), int ((k + 1 : Nat) : Int)]) F.ref07_diff_cb rfl rfl (ih (i + 1) (k + 1) (by omega) (by omega) (by omega)) (List.Perm.refl _) ⟨m0, m1, trivial⟩ fun x hx => ?_
      refine r_assign rfl rfl ?_
      refine r_assign rfl rfl ?_
      refine hl_nil ?_
      exact cut_c _ ⟨some (diffR old page (i + 1) (k + 1)), x⟩ (by show some _ = _; rw [dr0, if_pos ⟨by omega, by omega, hb2⟩]) ⟨rfl, rfl, rfl, rfl, rfl, rfl, trivial⟩ (fun p => Nat.zero_le _) ⟨m0, m1, m2, trivial⟩
     ·have hb2' := hb2; try simp at hb2'
      refine hc_skip ?_
      refine hq_nil0 ?_
      exact cut_c _ ⟨none, (none, 0)⟩ (by show none = _; rw [dr0, if_neg (fun h => hb2 h.2.2)]) ⟨rfl, rfl, rfl, rfl, rfl, rfl, trivial⟩ (fun p => Nat.zero_le _) ⟨m0, m1, m2, trivial⟩
    ·intro hg3; have hg3' := hg3; try simp at hg3'
     apply hb_ex _ rfl rfl rfl
     ·intro w1
      refine g_no rfl rfl rfl rfl rfl hg3 ?_
      refine hl_nil ?_
      exact qe_done rfl
     apply hb_ex _ rfl rfl rfl
     ·intro w1
      refine g_no rfl rfl rfl rfl rfl hg3 ?_
      refine hl_nil ?_
      exact qe_done rfl
     apply hb_ex _ rfl rfl rfl
     ·intro w1
      refine g_no rfl rfl rfl rfl rfl hg3 ?_
      refine hl_nil ?_
      exact qe_done rfl
     apply hb_ex _ rfl rfl rfl
     ·intro w1
      refine g_no rfl rfl rfl rfl rfl hg3 ?_
      refine hl_nil ?_
      exact qe_done rfl
     apply hb_ex _ rfl rfl rfl
     ·intro w1
      refine g_no rfl rfl rfl rfl rfl hg3 ?_
      refine hl_nil ?_
      exact qe_done rfl
     apply hb_ex _ rfl rfl rfl
     ·intro w1
      refine g_no rfl rfl rfl rfl rfl hg3 ?_
      refine hl_nil ?_
      exact qe_done rfl
     apply hb_ex _ rfl rfl rfl
     ·intro w1
      refine g_no rfl rfl rfl rfl rfl hg3 ?_
      refine hl_nil ?_
      exact qe_done rfl
     apply hb_ex _ rfl rfl rfl
     ·intro w1
      refine g_no rfl rfl rfl rfl rfl hg3 ?_
      refine hl_nil ?_
      exact qe_done rfl
     refine hb_nil ⟨rfl, ?_⟩
     refine g_no rfl rfl rfl rfl rfl hg3 ?_
     refine p_f rfl rfl (bf2 hg3) rfl ?_
     refine hl_nil ?_
     refine then_n ?_
     refine c_f rfl rfl ?_
     refine hc_skip ?_
     refine hq_nil0 ?_
     exact cut_c _ ⟨none, (none, 0)⟩ (by show none = _; rw [dr0, if_neg (fun h => by have := h.2.1; omega)]) ⟨rfl, rfl, rfl, rfl, rfl, rfl, trivial⟩ (fun p => Nat.zero_le _) ⟨m0, m1, m2, trivial⟩
   ·intro hg2; have hg2' := hg2; try simp at hg2'
    apply hb_ex _ rfl rfl rfl
    ·intro w1
     refine g_no rfl rfl rfl rfl rfl hg2 ?_
     refine hl_nil ?_
     exact qe_done rfl
    apply hb_ex _ rfl rfl rfl
    ·intro w1
     refine g_no rfl rfl rfl rfl rfl hg2 ?_
     refine hl_nil ?_
     exact qe_done rfl
    apply hb_ex _ rfl rfl rfl
    ·intro w1
     refine g_no rfl rfl rfl rfl rfl hg2 ?_
     refine hl_nil ?_
     exact qe_done rfl
    apply hb_ex _ rfl rfl rfl
    ·intro w1
     refine g_no rfl rfl rfl rfl rfl hg2 ?_
     refine hl_nil ?_
     exact qe_done rfl
    apply hb_ex _ rfl rfl rfl
    ·intro w1
     refine p_f rfl rfl (bf2 hg2) rfl ?_
     refine hl_nil ?_
     exact qe_done rfl
    apply hb_ex _ rfl rfl rfl
    ·intro w1
     refine r_move rfl rfl ?_
     refine hl_nil ?_
     exact qe_done rfl
    apply hb_ex _ rfl rfl rfl
    ·intro w1
     refine g_no rfl rfl rfl rfl rfl rfl ?_
     refine hl_nil ?_
     exact qe_done rfl
    apply hb_ex _ rfl rfl rfl
    ·intro w1
     refine g_no rfl rfl rfl rfl rfl rfl ?_
     refine hl_nil ?_
     exact qe_done rfl
    apply hb_ex _ rfl rfl rfl
    ·intro w1
     refine g_no rfl rfl rfl rfl rfl rfl ?_
     refine hl_nil ?_
     exact qe_done rfl
    apply hb_ex _ rfl rfl rfl
    ·intro w1
     refine g_no rfl rfl rfl rfl rfl rfl ?_
     refine hl_nil ?_
     exact qe_done rfl
    apply hb_ex _ rfl rfl rfl
    ·intro w1
     refine g_no rfl rfl rfl rfl rfl rfl ?_
     refine hl_nil ?_
     exact qe_done rfl
    apply hb_ex _ rfl rfl rfl
    ·intro w1
     refine g_no rfl rfl rfl rfl rfl rfl ?_
     refine hl_nil ?_
     exact qe_done rfl
    apply hb_ex _ rfl rfl rfl
    ·intro w1
     refine g_no rfl rfl rfl rfl rfl rfl ?_
     refine hl_nil ?_
     exact qe_done rfl
    apply hb_ex _ rfl rfl rfl
    ·intro w1
     refine g_no rfl rfl rfl rfl rfl rfl ?_
     refine hl_nil ?_
     exact qe_done rfl
    refine hb_nil ⟨rfl, ?_⟩
    refine g_no rfl rfl rfl rfl rfl rfl ?_
    refine p_f rfl rfl rfl rfl ?_
    refine hl_nil ?_
    refine then_n ?_
    refine c_f rfl rfl ?_
    refine hc_skip ?_
    refine hq_nil0 ?_
    exact cut_c _ ⟨none, (none, 0)⟩ (by show none = _; rw [dr0, if_neg (fun h => by have := h.1; omega)]) ⟨rfl, rfl, rfl, rfl, rfl, rfl, trivial⟩ (fun p => Nat.zero_le _) ⟨m0, m1, m2, trivial⟩
  ·refine fun x hx => ?_
   obtain ⟨s, o⟩ := x
   have hs : s = _ := hx
   refine hc_cut (rSta A B ca cb old page i k (dr1 old page i k)) ?_ ?_
   ·skip
    refine hc_seq ?_
    refine hc_region ?_
    refine r_move rfl rfl ?_
    refine r_move rfl rfl ?_
    refine r_len_sl rfl T.u_strs rfl ?_
    refine r_lss rfl rfl rfl ?_
    refine hl_nil ?_
    refine then_n ?_
    first | refine c_dec rfl (fun hb3 => ?_) (fun hb3 => ?_) | refine hc_cond rfl (fun hb3 => ?_) (fun hb3 => ?_)
    ·have hb3' := hb3; try simp at hb3'
     refine hc_seq ?_
     have hL := diffR_len old page _ (i) (k + 1) (Nat.le_refl _)
     have hB : (s.getD []).length ≤ 1000000 := by
       cases s with
       | none => simp
       | some b => have := dr_len (old := old) (page := page) (i := i) (k := k) (by omega) b (by simp [hs]); simp; omega
     refine hc_draw 13 mixed (by decide) (by decide) rfl rfl ?_
     apply hb_ex _ rfl rfl rfl
     ·intro w1
      refine r_move rfl rfl ?_
      refine hl_nil ?_
      exact qe_done rfl
     apply hb_ex _ rfl rfl rfl
     ·intro w1
      refine r_move rfl rfl ?_
      refine hl_nil ?_
      exact qe_done rfl
     apply hb_ex _ rfl rfl rfl
     ·intro w1
      refine r_move rfl rfl ?_
      refine hl_nil ?_
      exact qe_done rfl
     apply hb_ex _ rfl rfl rfl
     ·intro w1
      refine r_elem (α := Str) _ _ rfl T.u_strs T.sz_string rfl rfl rfl (by repeat constructor) rfl (by omega) (by decide) ?_
      refine hl_nil ?_
      exact qe_done rfl
     apply hb_ex _ rfl rfl rfl
     ·intro w1
      refine r_load rfl T.cell_string rfl (cell_row (by repeat constructor) (rows_get0 (by omega) rfl)) ?_
      refine hl_nil ?_
      exact qe_done rfl
     apply hb_ex _ rfl rfl rfl
     ·intro w1
      refine r_build _ rfl rfl (fun _ => T.bd_api_Mark_0_1_2 ..) ?_
      refine hl_nil ?_
      exact qe_done rfl
     refine hb_vs ⟨Nat, fun _ => True, fun g => .slice (some ⟨g, 0, none⟩) 1 1, fun g => [Row (some ⟨g, 0, none⟩) (rows [(((1 : Int), (i : Int), page.getD k default) : Mk)])]⟩ rfl rfl rfl ?_ ?_
     ·intro w1
      refine r_buildSlice _ rfl rfl (fun _ => T.bs_L_api_Mark_1 ..) fun gS => ?_
      refine hl_nil ?_
      refine hq_letgo (rows [(((1 : Int), (i : Int), page.getD k default) : Mk)]) ⟨[], List.append_nil _⟩ ?_
      exact qv_done gS trivial rfl ⟨m0, trivial⟩
     apply hb_ex _ rfl rfl rfl
     ·intro w1
      refine r_move rfl rfl ?_
      refine hl_nil ?_
      exact qe_done rfl
     apply hb_ex _ rfl rfl rfl
     ·intro w1
      refine r_move rfl rfl ?_
      refine hl_nil ?_
      exact qe_done rfl
     apply hb_ex _ rfl rfl rfl
     ·intro w1
      refine r_move rfl rfl ?_
      refine hl_nil ?_
      exact qe_done rfl
     apply hb_ex _ rfl rfl rfl
     ·intro w1
      refine r_move rfl rfl ?_
      refine hl_nil ?_
      exact qe_done rfl
     apply hb_ex _ rfl rfl rfl
     ·intro w1
      refine r_add ((k + 1 : Nat) : Int) rfl rfl rfl (by omega) (by unfold I64; omega) ?_
      refine hl_nil ?_
      exact qe_done rfl
     refine hb_vs ⟨OutC, fun _ => True, fun x => .slice x.1 (diffR old page (i) (k + 1)).length x.2, fun x => [Row x.1 (rows (diffR old page (i) (k + 1)))]⟩ rfl rfl rfl ?_ ?_
     ·intro w1
      refine hl_call (vs := [.slice A old.length ca, .slice B page.length cb, int ((i : Nat) : Int), int ((k + 1 : Nat) : Int)]) F.ref07_diff_cb rfl rfl (ih (i) (k + 1) (by omega) (by omega) (by omega)) (List.Perm.refl _) ⟨m1, m2, trivial⟩ fun x hx => ?_
      refine hl_nil ?_
      exact qv_done x trivial rfl ⟨m0, trivial⟩
     refine hb_nil ⟨rfl, ?_⟩
     intro g1 _ x1 _
     refine r_append_full ((diffR old page (i) (k + 1)).length + 1) (rows (((1 : Int), (i : Int), page.getD k default) :: diffR old page (i) (k + 1))) T.el_L_api_Mark rfl rfl rfl m1 (rows_len [(((1 : Int), (i : Int), page.getD k default) : Mk)]) (Src.row (news := rows (diffR old page (i) (k + 1))) m0 (rows_len _) (rows_one _) (by decide)) (by omega) rfl (by unfold maxLen; omega) (by omega) fun A' c' hc' => ?_
     refine r_assign rfl rfl ?_
     refine hl_nil ?_
     refine then_n ?_
     refine hc_seq ?_
     refine hc_region ?_
     refine r_move rfl rfl ?_
     refine r_not rfl rfl ?_
     refine r_move rfl rfl ?_
     refine g_split rfl rfl ?_ ?_
     ·intro hg4; have hg4' := hg4; try simp at hg4'
      have hsome := not_bool (by assumption)
      refine g_yes rfl rfl hg4 ?_
      refine r_move rfl rfl ?_
      refine g_yes rfl rfl hg4 ?_
      refine r_move rfl rfl ?_
      refine g_yes rfl rfl hg4 ?_
      refine hl_call (vs := [.slice A' (((1 : Int), (i : Int), page.getD k default) :: diffR old page (i) (k + 1)).length c', .slice o.1 (s.getD []).length o.2]) F.ref07_Better_cb rfl rfl (ref07_Better_meets (((1 : Int), (i : Int), page.getD k default) :: diffR old page (i) (k + 1)) (s.getD []) (by rw [List.length_cons]; omega) hB) (List.Perm.refl _) ⟨m0, m3, trivial⟩ fun _ _ => ?_
      refine p_f rfl rfl (bf1 hg4) rfl ?_
      refine hl_nil ?_
      refine then_n ?_
      first | refine c_dec rfl (fun hb4 => ?_) (fun hb4 => ?_) | refine hc_cond rfl (fun hb4 => ?_) (fun hb4 => ?_)
      ·have hb4' := hb4; try simp at hb4'
       refine hc_region ?_
       refine r_move rfl rfl ?_
       refine r_assign rfl rfl ?_
       refine r_assign rfl rfl ?_
       refine hl_nil ?_
       exact cut_c _ ⟨some (((1 : Int), (i : Int), page.getD k default) :: diffR old page (i) (k + 1)), (A', c')⟩ (by show some _ = _; rw [dr1, if_pos (by omega), ← hs, pickR_some hsome, if_pos hb4]) ⟨rfl, rfl, rfl, rfl, rfl, rfl, trivial⟩ (fun p => Nat.zero_le _) ⟨m0, m4, m5, trivial⟩
      ·have hb4' := hb4; try simp at hb4'
       refine hc_skip ?_
       exact cut_c _ ⟨s, o⟩ (by show s = _; rw [dr1, if_pos (by omega), ← hs, pickR_some hsome, if_neg (by rw [hb4]; decide)]) ⟨rfl, rfl, rfl, rfl, rfl, rfl, trivial⟩ (fun p => Nat.zero_le _) ⟨m3, m4, m5, trivial⟩
     ·intro hg4; have hg4' := hg4; try simp at hg4'
      have hnone := not_bool2 (by assumption)
      refine g_no rfl rfl rfl rfl rfl hg4 ?_
      refine g_no rfl rfl rfl rfl rfl hg4 ?_
      refine g_no rfl rfl rfl rfl rfl hg4 ?_
      refine p_t rfl rfl (bt2 hg4) rfl ?_
      refine hl_nil ?_
      refine then_n ?_
      refine c_t rfl rfl ?_
      refine hc_region ?_
      refine r_move rfl rfl ?_
      refine r_assign rfl rfl ?_
      refine r_assign rfl rfl ?_
      refine hl_nil ?_
      exact cut_c _ ⟨some (((1 : Int), (i : Int), page.getD k default) :: diffR old page (i) (k + 1)), (A', c')⟩ (by show some _ = _; rw [dr1, if_pos (by omega), ← hs, pickR_none hnone]) ⟨rfl, rfl, rfl, rfl, rfl, rfl, trivial⟩ (fun p => Nat.zero_le _) ⟨m0, m4, m5, trivial⟩
    ·have hb3' := hb3; try simp at hb3'
     refine hc_skip ?_
     exact cut_c _ ⟨s, o⟩ (by show s = _; rw [dr1, if_neg (by omega), hs]) ⟨rfl, rfl, rfl, rfl, rfl, rfl, trivial⟩ (fun p => Nat.zero_le _) ⟨m0, m1, m2, trivial⟩
   ·refine fun x hx => ?_
    obtain ⟨s, o⟩ := x
    have hs : s = _ := hx
    refine hc_cut (rSta A B ca cb old page i k (dr2 old page i k)) ?_ ?_
    ·skip
     refine hc_seq ?_
     refine hc_region ?_
     refine r_move rfl rfl ?_
     refine r_move rfl rfl ?_
     refine r_len_sl rfl T.u_strs rfl ?_
     refine r_lss rfl rfl rfl ?_
     refine r_move rfl rfl ?_
     refine g_split rfl rfl ?_ ?_
     ·intro hg5; have hg5' := hg5; try simp at hg5'
      refine g_yes rfl rfl hg5 ?_
      refine r_move rfl rfl ?_
      refine g_yes rfl rfl hg5 ?_
      refine r_move rfl rfl ?_
      refine g_yes rfl rfl hg5 ?_
      refine r_len_sl rfl T.u_strs rfl ?_
      refine g_yes rfl rfl hg5 ?_
      refine r_lss rfl rfl rfl ?_
      refine p_t rfl rfl (bt1 hg5) rfl ?_
      refine hl_nil ?_
      refine then_n ?_
      first | refine c_dec rfl (fun hb5 => ?_) (fun hb5 => ?_) | refine hc_cond rfl (fun hb5 => ?_) (fun hb5 => ?_)
      ·have hb5' := hb5; try simp at hb5'
       refine hc_seq ?_
       have hL := diffR_len old page _ (i + 1) (k + 1) (Nat.le_refl _)
       have hB : (s.getD []).length ≤ 1000000 := by
         cases s with
         | none => simp
         | some b => have := dr_len (old := old) (page := page) (i := i) (k := k) (by omega) b (by simp [hs]); simp; omega
       refine hc_draw 14 mixed (by decide) (by decide) rfl rfl ?_
       apply hb_ex _ rfl rfl rfl
       ·intro w1
        refine r_move rfl rfl ?_
        refine hl_nil ?_
        exact qe_done rfl
       apply hb_ex _ rfl rfl rfl
       ·intro w1
        refine r_move rfl rfl ?_
        refine hl_nil ?_
        exact qe_done rfl
       apply hb_ex _ rfl rfl rfl
       ·intro w1
        refine r_move rfl rfl ?_
        refine hl_nil ?_
        exact qe_done rfl
       apply hb_ex _ rfl rfl rfl
       ·intro w1
        refine r_elem (α := Str) _ _ rfl T.u_strs T.sz_string rfl rfl rfl (by repeat constructor) rfl (by omega) (by decide) ?_
        refine hl_nil ?_
        exact qe_done rfl
       apply hb_ex _ rfl rfl rfl
       ·intro w1
        refine r_load rfl T.cell_string rfl (cell_row (by repeat constructor) (rows_get0 (by omega) rfl)) ?_
        refine hl_nil ?_
        exact qe_done rfl
       apply hb_ex _ rfl rfl rfl
       ·intro w1
        refine r_build _ rfl rfl (fun _ => T.bd_api_Mark_0_1_2 ..) ?_
        refine hl_nil ?_
        exact qe_done rfl
       refine hb_vs ⟨Nat, fun _ => True, fun g => .slice (some ⟨g, 0, none⟩) 1 1, fun g => [Row (some ⟨g, 0, none⟩) (rows [(((2 : Int), (i : Int), page.getD k default) : Mk)])]⟩ rfl rfl rfl ?_ ?_
       ·intro w1
        refine r_buildSlice _ rfl rfl (fun _ => T.bs_L_api_Mark_1 ..) fun gS => ?_
        refine hl_nil ?_
        refine hq_letgo (rows [(((2 : Int), (i : Int), page.getD k default) : Mk)]) ⟨[], List.append_nil _⟩ ?_
        exact qv_done gS trivial rfl ⟨m0, trivial⟩
       apply hb_ex _ rfl rfl rfl
       ·intro w1
        refine r_move rfl rfl ?_
        refine hl_nil ?_
        exact qe_done rfl
       apply hb_ex _ rfl rfl rfl
       ·intro w1
        refine r_move rfl rfl ?_
        refine hl_nil ?_
        exact qe_done rfl
       apply hb_ex _ rfl rfl rfl
       ·intro w1
        refine r_move rfl rfl ?_
        refine hl_nil ?_
        exact qe_done rfl
       apply hb_ex _ rfl rfl rfl
       ·intro w1
        refine r_add ((i + 1 : Nat) : Int) rfl rfl rfl (by omega) (by unfold I64; omega) ?_
        refine hl_nil ?_
        exact qe_done rfl
       apply hb_ex _ rfl rfl rfl
       ·intro w1
        refine r_move rfl rfl ?_
        refine hl_nil ?_
        exact qe_done rfl
       apply hb_ex _ rfl rfl rfl
       ·intro w1
        refine r_add ((k + 1 : Nat) : Int) rfl rfl rfl (by omega) (by unfold I64; omega) ?_
        refine hl_nil ?_
        exact qe_done rfl
       refine hb_vs ⟨OutC, fun _ => True, fun x => .slice x.1 (diffR old page (i + 1) (k + 1)).length x.2, fun x => [Row x.1 (rows (diffR old page (i + 1) (k + 1)))]⟩ rfl rfl rfl ?_ ?_
       ·intro w1
        refine hl_call (vs := [.slice A old.length ca, .slice B page.length cb, int ((i + 1 : Nat) : Int), int ((k + 1 : Nat) : Int)]) F.ref07_diff_cb rfl rfl (ih (i + 1) (k + 1) (by omega) (by omega) (by omega)) (List.Perm.refl _) ⟨m1, m2, trivial⟩ fun x hx => ?_
        refine hl_nil ?_
        exact qv_done x trivial rfl ⟨m0, trivial⟩
       refine hb_nil ⟨rfl, ?_⟩
       intro g1 _ x1 _
       refine r_append_full ((diffR old page (i + 1) (k + 1)).length + 1) (rows (((2 : Int), (i : Int), page.getD k default) :: diffR old page (i + 1) (k + 1))) T.el_L_api_Mark rfl rfl rfl m1 (rows_len [(((2 : Int), (i : Int), page.getD k default) : Mk)]) (Src.row (news := rows (diffR old page (i + 1) (k + 1))) m0 (rows_len _) (rows_one _) (by decide)) (by omega) rfl (by unfold maxLen; omega) (by omega) fun A' c' hc' => ?_
       refine r_assign rfl rfl ?_
       refine hl_nil ?_
       refine then_n ?_
       refine hc_seq ?_
       refine hc_region ?_
       refine r_move rfl rfl ?_
       refine r_not rfl rfl ?_
       refine r_move rfl rfl ?_
       refine g_split rfl rfl ?_ ?_
       ·intro hg6; have hg6' := hg6; try simp at hg6'
        have hsome := not_bool (by assumption)
        refine g_yes rfl rfl hg6 ?_
        refine r_move rfl rfl ?_
        refine g_yes rfl rfl hg6 ?_
        refine r_move rfl rfl ?_
        refine g_yes rfl rfl hg6 ?_
        refine hl_call (vs := [.slice A' (((2 : Int), (i : Int), page.getD k default) :: diffR old page (i + 1) (k + 1)).length c', .slice o.1 (s.getD []).length o.2]) F.ref07_Better_cb rfl rfl (ref07_Better_meets (((2 : Int), (i : Int), page.getD k default) :: diffR old page (i + 1) (k + 1)) (s.getD []) (by rw [List.length_cons]; omega) hB) (List.Perm.refl _) ⟨m0, m3, trivial⟩ fun _ _ => ?_
        refine p_f rfl rfl (bf1 hg6) rfl ?_
        refine hl_nil ?_
        refine then_n ?_
        first | refine c_dec rfl (fun hb6 => ?_) (fun hb6 => ?_) | refine hc_cond rfl (fun hb6 => ?_) (fun hb6 => ?_)
        ·have hb6' := hb6; try simp at hb6'
         refine hc_region ?_
         refine r_move rfl rfl ?_
         refine r_assign rfl rfl ?_
         refine r_assign rfl rfl ?_
         refine hl_nil ?_
         exact cut_c _ ⟨some (((2 : Int), (i : Int), page.getD k default) :: diffR old page (i + 1) (k + 1)), (A', c')⟩ (by show some _ = _; rw [dr2, if_pos (by omega), ← hs, pickR_some hsome, if_pos hb6]) ⟨rfl, rfl, rfl, rfl, rfl, rfl, trivial⟩ (fun p => Nat.zero_le _) ⟨m0, m4, m5, trivial⟩
        ·have hb6' := hb6; try simp at hb6'
         refine hc_skip ?_
         exact cut_c _ ⟨s, o⟩ (by show s = _; rw [dr2, if_pos (by omega), ← hs, pickR_some hsome, if_neg (by rw [hb6]; decide)]) ⟨rfl, rfl, rfl, rfl, rfl, rfl, trivial⟩ (fun p => Nat.zero_le _) ⟨m3, m4, m5, trivial⟩
       ·intro hg6; have hg6' := hg6; try simp at hg6'
        have hnone := not_bool2 (by assumption)
        refine g_no rfl rfl rfl rfl rfl hg6 ?_
        refine g_no rfl rfl rfl rfl rfl hg6 ?_
        refine g_no rfl rfl rfl rfl rfl hg6 ?_
        refine p_t rfl rfl (bt2 hg6) rfl ?_
        refine hl_nil ?_
        refine then_n ?_
        refine c_t rfl rfl ?_
        refine hc_region ?_
        refine r_move rfl rfl ?_
        refine r_assign rfl rfl ?_
        refine r_assign rfl rfl ?_
        refine hl_nil ?_
        exact cut_c _ ⟨some (((2 : Int), (i : Int), page.getD k default) :: diffR old page (i + 1) (k + 1)), (A', c')⟩ (by show some _ = _; rw [dr2, if_pos (by omega), ← hs, pickR_none hnone]) ⟨rfl, rfl, rfl, rfl, rfl, rfl, trivial⟩ (fun p => Nat.zero_le _) ⟨m0, m4, m5, trivial⟩
      ·have hb5' := hb5; try simp at hb5'
       refine hc_skip ?_
       exact cut_c _ ⟨s, o⟩ (by show s = _; rw [dr2, if_neg (by omega), hs]) ⟨rfl, rfl, rfl, rfl, rfl, rfl, trivial⟩ (fun p => Nat.zero_le _) ⟨m0, m1, m2, trivial⟩
     ·intro hg5; have hg5' := hg5; try simp at hg5'
      refine g_no rfl rfl rfl rfl rfl hg5 ?_
      refine g_no rfl rfl rfl rfl rfl hg5 ?_
      refine g_no rfl rfl rfl rfl rfl hg5 ?_
      refine g_no rfl rfl rfl rfl rfl hg5 ?_
      refine p_f rfl rfl (bf2 hg5) rfl ?_
      refine hl_nil ?_
      refine then_n ?_
      refine c_f rfl rfl ?_
      refine hc_skip ?_
      exact cut_c _ ⟨s, o⟩ (by show s = _; rw [dr2, if_neg (by omega), hs]) ⟨rfl, rfl, rfl, rfl, rfl, rfl, trivial⟩ (fun p => Nat.zero_le _) ⟨m0, m1, m2, trivial⟩
    ·refine fun x hx => ?_
     obtain ⟨s, o⟩ := x
     have hs : s = _ := hx
     refine hc_cut (rSta A B ca cb old page i k (dr3 old page i k)) ?_ ?_
     ·skip
      refine hc_seq ?_
      refine hc_region ?_
      refine r_move rfl rfl ?_
      refine r_move rfl rfl ?_
      refine r_len_sl rfl T.u_strs rfl ?_
      refine r_lss rfl rfl rfl ?_
      refine hl_nil ?_
      refine then_n ?_
      first | refine c_dec rfl (fun hb7 => ?_) (fun hb7 => ?_) | refine hc_cond rfl (fun hb7 => ?_) (fun hb7 => ?_)
      ·have hb7' := hb7; try simp at hb7'
       refine hc_seq ?_
       have hL := diffR_len old page _ (i + 1) (k) (Nat.le_refl _)
       have hB : (s.getD []).length ≤ 1000000 := by
         cases s with
         | none => simp
         | some b => have := dr_len (old := old) (page := page) (i := i) (k := k) (by omega) b (by simp [hs]); simp; omega
       refine hc_region ?_
       refine r_move rfl rfl ?_
       refine r_build _ rfl rfl (fun _ => T.bd_api_Mark_0_1 ..) ?_
       refine r_buildSlice _ rfl rfl (fun _ => T.bs_L_api_Mark_1 ..) fun gS => ?_
       refine hl_letgo (rows [(((3 : Int), (i : Int), []) : Mk)]) ⟨[], List.append_nil _⟩ ?_
       refine r_move rfl rfl ?_
       refine r_move rfl rfl ?_
       refine r_move rfl rfl ?_
       refine r_add ((i + 1 : Nat) : Int) rfl rfl rfl (by omega) (by unfold I64; omega) ?_
       refine r_move rfl rfl ?_
       refine hl_call (vs := [.slice A old.length ca, .slice B page.length cb, int ((i + 1 : Nat) : Int), int ((k : Nat) : Int)]) F.ref07_diff_cb rfl rfl (ih (i + 1) (k) (by omega) (by omega) (by omega)) (List.Perm.refl _) ⟨m2, m3, trivial⟩ fun x hx => ?_
       refine r_append_full ((diffR old page (i + 1) (k)).length + 1) (rows (((3 : Int), (i : Int), []) :: diffR old page (i + 1) (k))) T.el_L_api_Mark rfl rfl rfl m1 (rows_len [(((3 : Int), (i : Int), []) : Mk)]) (Src.row (news := rows (diffR old page (i + 1) (k))) m0 (rows_len _) (rows_one _) (by decide)) (by omega) rfl (by unfold maxLen; omega) (by omega) fun A' c' hc' => ?_
       refine r_assign rfl rfl ?_
       refine hl_nil ?_
       refine then_n ?_
       refine hc_seq ?_
       refine hc_region ?_
       refine r_move rfl rfl ?_
       refine r_not rfl rfl ?_
       refine r_move rfl rfl ?_
       refine g_split rfl rfl ?_ ?_
       ·intro hg7; have hg7' := hg7; try simp at hg7'
        have hsome := not_bool (by assumption)
        refine g_yes rfl rfl hg7 ?_
        refine r_move rfl rfl ?_
        refine g_yes rfl rfl hg7 ?_
        refine r_move rfl rfl ?_
        refine g_yes rfl rfl hg7 ?_
        refine hl_call (vs := [.slice A' (((3 : Int), (i : Int), []) :: diffR old page (i + 1) (k)).length c', .slice o.1 (s.getD []).length o.2]) F.ref07_Better_cb rfl rfl (ref07_Better_meets (((3 : Int), (i : Int), []) :: diffR old page (i + 1) (k)) (s.getD []) (by rw [List.length_cons]; omega) hB) (List.Perm.refl _) ⟨m0, m3, trivial⟩ fun _ _ => ?_
        refine p_f rfl rfl (bf1 hg7) rfl ?_
        refine hl_nil ?_
        refine then_n ?_
        first | refine c_dec rfl (fun hb8 => ?_) (fun hb8 => ?_) | refine hc_cond rfl (fun hb8 => ?_) (fun hb8 => ?_)
        ·have hb8' := hb8; try simp at hb8'
         refine hc_region ?_
         refine r_move rfl rfl ?_
         refine r_assign rfl rfl ?_
         refine r_assign rfl rfl ?_
         refine hl_nil ?_
         exact cut_c _ ⟨some (((3 : Int), (i : Int), []) :: diffR old page (i + 1) (k)), (A', c')⟩ (by show some _ = _; rw [dr3, if_pos (by omega), ← hs, pickR_some hsome, if_pos hb8]) ⟨rfl, rfl, rfl, rfl, rfl, rfl, trivial⟩ (fun p => Nat.zero_le _) ⟨m0, m4, m5, trivial⟩
        ·have hb8' := hb8; try simp at hb8'
         refine hc_skip ?_
         exact cut_c _ ⟨s, o⟩ (by show s = _; rw [dr3, if_pos (by omega), ← hs, pickR_some hsome, if_neg (by rw [hb8]; decide)]) ⟨rfl, rfl, rfl, rfl, rfl, rfl, trivial⟩ (fun p => Nat.zero_le _) ⟨m3, m4, m5, trivial⟩
       ·intro hg7; have hg7' := hg7; try simp at hg7'
        have hnone := not_bool2 (by assumption)
        refine g_no rfl rfl rfl rfl rfl hg7 ?_
        refine g_no rfl rfl rfl rfl rfl hg7 ?_
        refine g_no rfl rfl rfl rfl rfl hg7 ?_
        refine p_t rfl rfl (bt2 hg7) rfl ?_
        refine hl_nil ?_
        refine then_n ?_
        refine c_t rfl rfl ?_
        refine hc_region ?_
        refine r_move rfl rfl ?_
        refine r_assign rfl rfl ?_
        refine r_assign rfl rfl ?_
        refine hl_nil ?_
        exact cut_c _ ⟨some (((3 : Int), (i : Int), []) :: diffR old page (i + 1) (k)), (A', c')⟩ (by show some _ = _; rw [dr3, if_pos (by omega), ← hs, pickR_none hnone]) ⟨rfl, rfl, rfl, rfl, rfl, rfl, trivial⟩ (fun p => Nat.zero_le _) ⟨m0, m4, m5, trivial⟩
      ·have hb7' := hb7; try simp at hb7'
       refine hc_skip ?_
       exact cut_c _ ⟨s, o⟩ (by show s = _; rw [dr3, if_neg (by omega), hs]) ⟨rfl, rfl, rfl, rfl, rfl, rfl, trivial⟩ (fun p => Nat.zero_le _) ⟨m0, m1, m2, trivial⟩
     ·refine fun x hx => ?_
      obtain ⟨s, o⟩ := x
      have hs : s = _ := hx
      refine hc_seq ?_
      refine hc_region ?_
      refine r_move rfl rfl ?_
      refine r_assign rfl rfl ?_
      refine hl_nil ?_
      refine then_n ?_
      refine hc_ret ?_
      have e : diffR old page i k = s.getD [] := by rw [diffR_eq, if_neg h0, hs]
      rw [e]
      exact ret1 o rfl rfl rfl trivial (.refl _) ⟨m0, trivial⟩

theorem ref07_Diff_meets {A B : Option Addr} {ca cb : Nat} (old page : List Str) : Meets Try.prog F.ref07_Diff [.slice A old.length ca, .slice B page.length cb] { outE (diffE old page (diffR old page 0 0)) with LI := [Row A (rows old), Row B (rows page)] } := by
 refine meets_intro F.ref07_Diff_f rfl (Nat.le_of_ble_eq_true rfl) fun w0 => ?_
 refine hc_seq ?_
 refine hc_region ?_
 refine r_assign rfl rfl ?_
 refine r_assign rfl rfl ?_
 refine hl_nil ?_
 refine then_n ?_
 refine hc_seq ?_
 refine hc_seq ?_
 refine hc_region ?_
 refine r_move rfl rfl ?_
 refine hl_call F.ref07_Check_cb rfl rfl (ref07_Check_meets old) (.refl _) ⟨m0, trivial⟩ fun _ _ => ?_
 refine r_assign rfl rfl ?_
 refine hl_nil ?_
 refine then_n ?_
 refine hc_seq ?_
 refine hc_region ?_
 refine r_move rfl rfl ?_
 refine r_neq rfl rfl rfl ?_
 refine hl_nil ?_
 refine then_n ?_
 first | refine c_dec rfl (fun hb1 => ?_) (fun hb1 => ?_) | refine hc_cond rfl (fun hb1 => ?_) (fun hb1 => ?_)
 ·have hb1' := hb1; try simp at hb1'
  have e : diffE old page (diffR old page 0 0) = ([], pageErr old) := by rw [diffE, if_pos hb1]
  rw [e]
  refine hc_seq ?_
  refine hc_region ?_
  refine r_move rfl rfl ?_
  refine r_assign rfl rfl ?_
  refine r_assign rfl rfl ?_
  refine hl_nil ?_
  refine then_n ?_
  refine hc_ret ?_
  refine then_ret ?_
  refine hq_nil0 ?_
  exact ret2 (none, 0) rfl rfl rfl rfl rfl trivial (.refl _) ⟨m0, trivial⟩
 ·have hb1' := hb1; try simp at hb1'
  refine hc_skip ?_
  refine then_n ?_
  refine hc_seq ?_
  refine hc_seq ?_
  refine hc_region ?_
  refine r_move rfl rfl ?_
  refine hl_call F.ref07_Check_cb rfl rfl (ref07_Check_meets page) (.refl _) ⟨m1, trivial⟩ fun _ _ => ?_
  refine r_assign rfl rfl ?_
  refine hl_nil ?_
  refine then_n ?_
  refine hc_seq ?_
  refine hc_region ?_
  refine r_move rfl rfl ?_
  refine r_neq rfl rfl rfl ?_
  refine hl_nil ?_
  refine then_n ?_
  first | refine c_dec rfl (fun hb2 => ?_) (fun hb2 => ?_) | refine hc_cond rfl (fun hb2 => ?_) (fun hb2 => ?_)
  ·have hb2' := hb2; try simp at hb2'
   have e : diffE old page (diffR old page 0 0) = ([], pageErr page) := by rw [diffE, if_neg hb1, if_pos hb2]
   rw [e]
   refine hc_seq ?_
   refine hc_region ?_
   refine r_move rfl rfl ?_
   refine r_assign rfl rfl ?_
   refine r_assign rfl rfl ?_
   refine hl_nil ?_
   refine then_n ?_
   refine hc_ret ?_
   refine then_ret ?_
   refine hq_nil0 ?_
   exact ret2 (none, 0) rfl rfl rfl rfl rfl trivial (.refl _) ⟨m0, trivial⟩
  ·have hb2' := hb2; try simp at hb2'
   have e : diffE old page (diffR old page 0 0) = ((diffR old page 0 0), 0) := by rw [diffE, if_neg hb1, if_neg hb2]
   rw [e]
   have h1 := pageErr_zero (Classical.not_not.1 hb1)
   have h2 := pageErr_zero (Classical.not_not.1 hb2)
   refine hc_skip ?_
   refine then_n ?_
   refine hc_seq ?_
   refine hc_region ?_
   refine r_move rfl rfl ?_
   refine r_move rfl rfl ?_
   refine hl_call F.ref07_diff_cb rfl rfl (ref07_diff_meets (by omega) (by omega) _ 0 0 (Nat.lt_succ_self _) (Nat.zero_le _) (Nat.zero_le _)) (.refl _) ⟨m0, m1, trivial⟩ fun x hx => ?_
   refine r_assign rfl rfl ?_
   refine r_assign rfl rfl ?_
   refine hl_nil ?_
   refine then_n ?_
   refine hc_ret ?_
   exact ret2 x rfl rfl rfl rfl rfl trivial (.refl _) ⟨m0, trivial⟩

end Go.Proofs.Ytpbbgbjidhffoaa
