/- Texts. -/

import Derived.Test.YtcdopfjiadifhaaGreatDoorBAq
set_option linter.unusedVariables false
set_option linter.unusedSimpArgs false
section
namespace Go.Proofs.YtcdopfjiadifhaaGreatDoor
open Go Go.W Tryz T F
set_option maxRecDepth 20000
attribute [local irreducible] HL HC HQ HB Row Rows2 Blk Facts
def chgB (c : Ch) : Bool := decide (0 ≤ c.1 ∧ c.1 ≤ 999) && decide (0 ≤ c.2.1 ∧ c.2.1 ≤ 999) && decide (0 ≤ c.2.2.1 ∧ c.2.2.1 ≤ 999) && decide (0 ≤ c.2.2.2.1 ∧ c.2.2.2.1 ≤ 999) && decide (0 ≤ c.2.2.2.2.1 ∧ c.2.2.2.2.1 ≤ 50) && decide (1 ≤ c.2.2.2.2.2 ∧ c.2.2.2.2.2 ≤ 5)
theorem vD (c : Ch) (ss : List Int) (xs : List Ad) : chkS c ss xs = if chgB c = false then 1 else if ss.length = 0 then 7 else if 5 < ss.length then 6 else if ¬ ∀ s ∈ ss, 0 ≤ s ∧ s ≤ 9 then 1 else if 8 < xs.length then 6 else firstE ss.length xs := by
  unfold chkS
  by_cases h1 : ∀ v ∈ chQ c, 0 ≤ v ∧ v ≤ 999
  · rw [if_neg (Classical.not_not.2 h1)]
    have q1 := h1 c.1 (by simp [chQ]); have q2 := h1 c.2.1 (by simp [chQ]); have q3 := h1 c.2.2.1 (by simp [chQ]); have q4 := h1 c.2.2.2.1 (by simp [chQ])
    by_cases h2 : ¬ (0 ≤ c.2.2.2.2.1 ∧ c.2.2.2.2.1 ≤ 50) ∨ ¬ (1 ≤ c.2.2.2.2.2 ∧ c.2.2.2.2.2 ≤ 5)
    · rw [if_pos h2, if_pos]
      unfold chgB; rw [decide_eq_true q1, decide_eq_true q2, decide_eq_true q3, decide_eq_true q4]
      rcases h2 with h2 | h2
      · rw [decide_eq_false h2]; simp
      rw [decide_eq_false h2]; simp
    rw [if_neg h2]; have h3 : (0 ≤ c.2.2.2.2.1 ∧ c.2.2.2.2.1 ≤ 50) ∧ (1 ≤ c.2.2.2.2.2 ∧ c.2.2.2.2.2 ≤ 5) := by omega
    have hc : ¬ chgB c = false := by
      unfold chgB; rw [decide_eq_true q1, decide_eq_true q2, decide_eq_true q3, decide_eq_true q4, decide_eq_true h3.1, decide_eq_true h3.2]
      decide
    rw [if_neg hc]
  rw [if_pos h1, if_pos]; unfold chgB; refine Bool.eq_false_iff.2 fun e => h1 fun v hv => ?_; simp only [Bool.and_eq_true, decide_eq_true_eq] at e; simp only [chQ, List.mem_cons, List.not_mem_nil, or_false] at hv
  rcases hv with rfl | rfl | rfl | rfl <;> omega
def bilL (c : Ch) (ss : List Int) (xs : List Ad) (k : Nat) : List Int := (List.range k).map (bilN c ss xs)
theorem qS (c : Ch) : Meets prog aK [chV c] { val := fun _ : Unit => int (if chgB c = false then 1 else 0) } := by
 refine j3 tG rfl t8 fun w0 => d9 (J5 rfl rfl fun gB => ?_); refine c7 rfl (d8 (i7 ?_)); refine kE ⟨fun x : Bool => x = !chgB c, fun x => [(36, .bool x)], fun _ => [], fun _ => []⟩ ?_ ?_
 ·skip
  refine j0 ?_
  first | refine a9 ⟨_, 0, none⟩ rfl rfl N7 rfl ?_ | refine a9 _ rfl rfl N7 rfl ?_
  first | refine c8 rfl b9 rfl (m3 mB rfl) ?_ | refine c8 rfl b9 rfl (l4 mB rfl) ?_ | refine c8 rfl b9 rfl (k9 mB (j9 (by omega) rfl)) ?_ | refine c8 rfl b9 rfl (G1 mB (rows_get (by omega) rfl)) ?_ | refine c8 rfl b9 rfl (u7 mB rfl) ?_
  refine j5 H1 rfl rfl (H0 _ _ _) p6 tK fun _ _ => ?_; refine K6 rfl rfl (b8 rfl ?_); refine t7 rfl rfl ?_ ?_
  ·intro hg1; have hg1' := hg1; try simp at hg1'
   refine l9 hg1 ?_
   first | refine a9 ⟨_, 1, none⟩ rfl rfl N6 rfl ?_ | refine a9 _ rfl rfl N6 rfl ?_
   refine l9 hg1 ?_
   first | refine c8 rfl b9 rfl (m3 mB rfl) ?_ | refine c8 rfl b9 rfl (l4 mB rfl) ?_ | refine c8 rfl b9 rfl (k9 mB (j9 (by omega) rfl)) ?_ | refine c8 rfl b9 rfl (G1 mB (rows_get (by omega) rfl)) ?_ | refine c8 rfl b9 rfl (u7 mB rfl) ?_
   refine l9 hg1 (j5 H1 rfl rfl (H0 _ _ _) p6 tK fun _ _ => ?_); refine l9 hg1 (K6 rfl rfl ?_); refine p_f rfl rfl (bf1 hg1) rfl (b8 rfl ?_); refine t7 rfl rfl ?_ ?_
   ·intro hg2; have hg2' := hg2; try simp at hg2'
    refine l9 hg2 ?_
    first | refine a9 ⟨_, 2, none⟩ rfl rfl N5 rfl ?_ | refine a9 _ rfl rfl N5 rfl ?_
    refine l9 hg2 ?_
    first | refine c8 rfl b9 rfl (m3 mB rfl) ?_ | refine c8 rfl b9 rfl (l4 mB rfl) ?_ | refine c8 rfl b9 rfl (k9 mB (j9 (by omega) rfl)) ?_ | refine c8 rfl b9 rfl (G1 mB (rows_get (by omega) rfl)) ?_ | refine c8 rfl b9 rfl (u7 mB rfl) ?_
    refine l9 hg2 (j5 H1 rfl rfl (H0 _ _ _) p6 tK fun _ _ => ?_); refine l9 hg2 (K6 rfl rfl ?_); refine p_f rfl rfl (bf1 hg2) rfl (b8 rfl ?_); refine t7 rfl rfl ?_ ?_
    ·intro hg3; have hg3' := hg3; try simp at hg3'
     refine l9 hg3 ?_
     first | refine a9 ⟨_, 3, none⟩ rfl rfl N4 rfl ?_ | refine a9 _ rfl rfl N4 rfl ?_
     refine l9 hg3 ?_
     first | refine c8 rfl b9 rfl (m3 mB rfl) ?_ | refine c8 rfl b9 rfl (l4 mB rfl) ?_ | refine c8 rfl b9 rfl (k9 mB (j9 (by omega) rfl)) ?_ | refine c8 rfl b9 rfl (G1 mB (rows_get (by omega) rfl)) ?_ | refine c8 rfl b9 rfl (u7 mB rfl) ?_
     refine l9 hg3 (j5 H1 rfl rfl (H0 _ _ _) p6 tK fun _ _ => ?_); refine l9 hg3 (K6 rfl rfl ?_); refine p_f rfl rfl (bf1 hg3) rfl (b8 rfl ?_); refine t7 rfl rfl ?_ ?_
     ·intro hg4; have hg4' := hg4; try simp at hg4'
      refine l9 hg4 ?_
      first | refine a9 ⟨_, 4, none⟩ rfl rfl N3 rfl ?_ | refine a9 _ rfl rfl N3 rfl ?_
      refine l9 hg4 ?_
      first | refine c8 rfl b9 rfl (m3 mB rfl) ?_ | refine c8 rfl b9 rfl (l4 mB rfl) ?_ | refine c8 rfl b9 rfl (k9 mB (j9 (by omega) rfl)) ?_ | refine c8 rfl b9 rfl (G1 mB (rows_get (by omega) rfl)) ?_ | refine c8 rfl b9 rfl (u7 mB rfl) ?_
      refine l9 hg4 (j5 H1 rfl rfl (H0 _ _ _) p6 tK fun _ _ => ?_); refine l9 hg4 (K6 rfl rfl ?_); refine p_f rfl rfl (bf1 hg4) rfl (b8 rfl ?_); refine t7 rfl rfl ?_ ?_
      ·intro hg5; have hg5' := hg5; try simp at hg5'
       refine l9 hg5 ?_
       first | refine a9 ⟨_, 5, none⟩ rfl rfl N2 rfl ?_ | refine a9 _ rfl rfl N2 rfl ?_
       refine l9 hg5 ?_
       first | refine c8 rfl b9 rfl (m3 mB rfl) ?_ | refine c8 rfl b9 rfl (l4 mB rfl) ?_ | refine c8 rfl b9 rfl (k9 mB (j9 (by omega) rfl)) ?_ | refine c8 rfl b9 rfl (G1 mB (rows_get (by omega) rfl)) ?_ | refine c8 rfl b9 rfl (u7 mB rfl) ?_
       refine l9 hg5 ?_; refine j5 H1 rfl rfl (H0 _ _ _) p6 tK fun _ _ => ?_; refine l9 hg5 (K6 rfl rfl ?_); refine p_f rfl rfl (bf1 hg5) rfl ?_; refine j4 ?_; exact P5 _ _ (by simp_all [chgB] <;> omega) ⟨rfl, True.intro⟩ nK tK
      intro hg5; have hg5' := hg5; try simp at hg5'
      refine q7 hg5 (q7 hg5 (q7 hg5 (q7 hg5 ?_))); refine p_t rfl rfl (bt2 hg5) rfl ?_; refine j4 ?_; exact P5 _ _ (by simp_all [chgB] <;> omega) ⟨rfl, True.intro⟩ nK tK
     intro hg4; have hg4' := hg4; try simp at hg4'
     refine q7 hg4 (q7 hg4 (q7 hg4 (q7 hg4 ?_))); refine p_t rfl rfl (bt2 hg4) rfl ?_; refine b8 rfl (E2 rfl rfl rfl rfl rfl rfl (E2 rfl rfl rfl rfl rfl rfl (E2 rfl rfl rfl rfl rfl rfl (E2 rfl rfl rfl rfl rfl rfl (p_t rfl rfl rfl rfl (j4 ?_)))))); exact P5 _ _ (by simp_all [chgB] <;> omega) ⟨rfl, True.intro⟩ nK tK
    intro hg3; have hg3' := hg3; try simp at hg3'
    refine q7 hg3 (q7 hg3 (q7 hg3 (q7 hg3 ?_))); refine p_t rfl rfl (bt2 hg3) rfl ?_; refine b8 rfl (E2 rfl rfl rfl rfl rfl rfl (E2 rfl rfl rfl rfl rfl rfl (E2 rfl rfl rfl rfl rfl rfl (E2 rfl rfl rfl rfl rfl rfl (p_t rfl rfl rfl rfl (b8 rfl (E2 rfl rfl rfl rfl rfl rfl (E2 rfl rfl rfl rfl rfl rfl (E2 rfl rfl rfl rfl rfl rfl (E2 rfl rfl rfl rfl rfl rfl (p_t rfl rfl rfl rfl ?_))))))))))); refine j4 ?_; exact P5 _ _ (by simp_all [chgB] <;> omega) ⟨rfl, True.intro⟩ nK tK
   intro hg2; have hg2' := hg2; try simp at hg2'
   refine q7 hg2 (q7 hg2 (q7 hg2 (q7 hg2 ?_))); refine p_t rfl rfl (bt2 hg2) rfl ?_; refine b8 rfl (E2 rfl rfl rfl rfl rfl rfl (E2 rfl rfl rfl rfl rfl rfl (E2 rfl rfl rfl rfl rfl rfl (E2 rfl rfl rfl rfl rfl rfl (p_t rfl rfl rfl rfl (b8 rfl (E2 rfl rfl rfl rfl rfl rfl (E2 rfl rfl rfl rfl rfl rfl (E2 rfl rfl rfl rfl rfl rfl (E2 rfl rfl rfl rfl rfl rfl (p_t rfl rfl rfl rfl ?_))))))))))); refine b8 rfl (E2 rfl rfl rfl rfl rfl rfl (E2 rfl rfl rfl rfl rfl rfl (E2 rfl rfl rfl rfl rfl rfl (E2 rfl rfl rfl rfl rfl rfl (p_t rfl rfl rfl rfl (j4 ?_)))))); exact P5 _ _ (by simp_all [chgB] <;> omega) ⟨rfl, True.intro⟩ nK tK
  intro hg1; have hg1' := hg1; try simp at hg1'
  refine q7 hg1 (q7 hg1 (q7 hg1 (q7 hg1 ?_))); refine p_t rfl rfl (bt2 hg1) rfl ?_; refine b8 rfl (E2 rfl rfl rfl rfl rfl rfl (E2 rfl rfl rfl rfl rfl rfl (E2 rfl rfl rfl rfl rfl rfl (E2 rfl rfl rfl rfl rfl rfl (p_t rfl rfl rfl rfl (b8 rfl (E2 rfl rfl rfl rfl rfl rfl (E2 rfl rfl rfl rfl rfl rfl (E2 rfl rfl rfl rfl rfl rfl (E2 rfl rfl rfl rfl rfl rfl (p_t rfl rfl rfl rfl ?_))))))))))); refine b8 rfl (E2 rfl rfl rfl rfl rfl rfl (E2 rfl rfl rfl rfl rfl rfl (E2 rfl rfl rfl rfl rfl rfl (E2 rfl rfl rfl rfl rfl rfl (p_t rfl rfl rfl rfl (b8 rfl (E2 rfl rfl rfl rfl rfl rfl (E2 rfl rfl rfl rfl rfl rfl (E2 rfl rfl rfl rfl rfl rfl (E2 rfl rfl rfl rfl rfl rfl (p_t rfl rfl rfl rfl ?_))))))))))); refine j4 ?_; exact P5 _ _ (by simp_all [chgB] <;> omega) ⟨rfl, True.intro⟩ nK tK
 rintro x rfl
 first | refine m6 rfl (fun hb1 => ?_) (fun hb1 => ?_) | refine D0 rfl (fun hb1 => ?_) (fun hb1 => ?_)
 ·have hb1' := hb1; try simp at hb1'
  refine d9 (c7 rfl (d8 (J4 ?_))); exact ret1 () rfl (by show some _ = some (int (if chgB c = false then 1 else 0)); have hf : chgB c = false := (by simpa using hb1); rw [if_pos hf]) rfl tK nK tK
 have hb1' := hb1; try simp at hb1'
 refine j6 (i8 (d9 (c7 rfl (d8 (k5 ?_))))); exact ret1 () rfl (by show some _ = some (int (if chgB c = false then 1 else 0)); have hf : chgB c = true := (by simpa using hb1); rw [if_neg (by rw [hf]; decide)]) rfl tK nK tK
theorem sJ (c : Ch) (ps : Sl Int) (qs : Sl Ad) (x : Ad) (hn : ps.l.length ≤ 1000000) : Meets prog bF [saV c ps qs, adV x] { LI := saL ps qs, val := fun _ : Unit => int (adErr ps.l.length x) } := by
 refine j3 uT rfl t8 fun w0 => d9 (J5 rfl rfl fun gB => J5 rfl rfl fun gC => ?_); refine c7 rfl (d8 (i7 (d9 ?_)))
 first | refine a9 ⟨_, 0, none⟩ rfl rfl I6 rfl ?_ | refine a9 _ rfl rfl I6 rfl ?_
 first | refine c8 rfl b9 rfl (m3 mB rfl) ?_ | refine c8 rfl b9 rfl (l4 mB rfl) ?_ | refine c8 rfl b9 rfl (k9 mB (j9 (by omega) rfl)) ?_ | refine c8 rfl b9 rfl (G1 mB (rows_get (by omega) rfl)) ?_ | refine c8 rfl b9 rfl (u7 mB rfl) ?_
 first | refine a9 ⟨_, 6, none⟩ rfl rfl q9 rfl ?_ | refine a9 _ rfl rfl q9 rfl ?_
 first | refine c8 rfl k8 rfl (m3 mB rfl) ?_ | refine c8 rfl k8 rfl (l4 mB rfl) ?_ | refine c8 rfl k8 rfl (k9 mB (j9 (by omega) rfl)) ?_ | refine c8 rfl k8 rfl (G1 mB (rows_get (by omega) rfl)) ?_ | refine c8 rfl k8 rfl (u7 mB rfl) ?_
 refine l7 rfl l8 rfl (W9 _ rfl rfl rfl rfl r6 (j5 H1 rfl rfl (H0 _ _ _) p6 tK fun _ _ => ?_)); refine K6 rfl rfl (d8 ?_)
 first | refine m6 rfl (fun hb1 => ?_) (fun hb1 => ?_) | refine D0 rfl (fun hb1 => ?_) (fun hb1 => ?_)
 ·have hb1' := hb1; try simp at hb1'
  refine d9 (c7 rfl (d8 (J4 ?_))); exact ret1 () rfl (by show some _ = some (int (adErr ps.l.length x)); unfold adErr; rw [if_pos (by omega)]) rfl tK nK tK
 have hb1' := hb1; try simp at hb1'
 refine j6 (i8 (i7 (d9 ?_)))
 first | refine a9 ⟨_, 1, none⟩ rfl rfl A9 rfl ?_ | refine a9 _ rfl rfl A9 rfl ?_
 first | refine c8 rfl b9 rfl (m3 mB rfl) ?_ | refine c8 rfl b9 rfl (l4 mB rfl) ?_ | refine c8 rfl b9 rfl (k9 mB (j9 (by omega) rfl)) ?_ | refine c8 rfl b9 rfl (G1 mB (rows_get (by omega) rfl)) ?_ | refine c8 rfl b9 rfl (u7 mB rfl) ?_
 refine j5 H1 rfl rfl (H0 _ _ _) p6 tK fun _ _ => ?_; refine K6 rfl rfl (d8 ?_)
 first | refine m6 rfl (fun hb2 => ?_) (fun hb2 => ?_) | refine D0 rfl (fun hb2 => ?_) (fun hb2 => ?_)
 ·have hb2' := hb2; try simp at hb2'
  refine d9 (c7 rfl (d8 (J4 ?_))); exact ret1 () rfl (by show some _ = some (int (adErr ps.l.length x)); unfold adErr; rw [if_neg (by omega), if_pos (by omega)]) rfl tK nK tK
 have hb2' := hb2; try simp at hb2'
 refine j6 (i8 (i7 (d9 ?_)))
 first | refine a9 ⟨_, 2, none⟩ rfl rfl z9 rfl ?_ | refine a9 _ rfl rfl z9 rfl ?_
 first | refine c8 rfl b9 rfl (m3 mB rfl) ?_ | refine c8 rfl b9 rfl (l4 mB rfl) ?_ | refine c8 rfl b9 rfl (k9 mB (j9 (by omega) rfl)) ?_ | refine c8 rfl b9 rfl (G1 mB (rows_get (by omega) rfl)) ?_ | refine c8 rfl b9 rfl (u7 mB rfl) ?_
 refine j5 H1 rfl rfl (H0 _ _ _) p6 tK fun _ _ => ?_; refine K6 rfl rfl (b8 rfl ?_); refine t7 rfl rfl ?_ ?_
 ·intro hg1; have hg1' := hg1; try simp at hg1'
  refine l9 hg1 ?_
  first | refine a9 ⟨_, 1, none⟩ rfl rfl A9 rfl ?_ | refine a9 _ rfl rfl A9 rfl ?_
  refine l9 hg1 ?_
  first | refine c8 rfl b9 rfl (m3 mB rfl) ?_ | refine c8 rfl b9 rfl (l4 mB rfl) ?_ | refine c8 rfl b9 rfl (k9 mB (j9 (by omega) rfl)) ?_ | refine c8 rfl b9 rfl (G1 mB (rows_get (by omega) rfl)) ?_ | refine c8 rfl b9 rfl (u7 mB rfl) ?_
  refine l9 hg1 (G2 rfl rfl rfl (l9 hg1 (b8 rfl ?_))); refine t7 rfl rfl ?_ ?_
  ·intro hg2; have hg2' := hg2; try simp at hg2'
   refine l9 hg2 ?_
   first | refine a9 ⟨_, 2, none⟩ rfl rfl z9 rfl ?_ | refine a9 _ rfl rfl z9 rfl ?_
   refine l9 hg2 ?_
   first | refine c8 rfl b9 rfl (m3 mB rfl) ?_ | refine c8 rfl b9 rfl (l4 mB rfl) ?_ | refine c8 rfl b9 rfl (k9 mB (j9 (by omega) rfl)) ?_ | refine c8 rfl b9 rfl (G1 mB (rows_get (by omega) rfl)) ?_ | refine c8 rfl b9 rfl (u7 mB rfl) ?_
   refine l9 hg2 (P9 rfl rfl rfl (l9 hg1 ?_)); refine p_t rfl rfl (bt1 hg2) rfl (p_f rfl rfl (bf1 hg1) rfl (d8 ?_))
   first | refine m6 rfl (fun hb3 => ?_) (fun hb3 => ?_) | refine D0 rfl (fun hb3 => ?_) (fun hb3 => ?_)
   ·have hb3' := hb3; try simp at hb3'
    refine d9 (c7 rfl (d8 (J4 ?_))); exact ret1 () rfl (by show some _ = some (int (adErr ps.l.length x)); unfold adErr; rw [if_neg (by omega), if_neg (by omega), if_pos (by omega)]) rfl tK nK tK
   have hb3' := hb3; try simp at hb3'
   refine j6 (i8 (d9 (c7 rfl (d8 (k5 ?_))))); exact ret1 () rfl (by show some _ = some (int (adErr ps.l.length x)); unfold adErr; rw [if_neg (by omega), if_neg (by omega), if_neg (by omega)]) rfl tK nK tK
  intro hg2; have hg2' := hg2; try simp at hg2'
  refine q7 hg2 (q7 hg2 (q7 hg2 (l9 hg1 ?_))); refine p_f rfl rfl (bf2 hg2) rfl (p_f rfl rfl (bf1 hg1) rfl ?_); refine d8 (c_f rfl rfl (j6 (i8 (d9 (c7 rfl (d8 (k5 ?_))))))); exact ret1 () rfl (by show some _ = some (int (adErr ps.l.length x)); unfold adErr; rw [if_neg (by omega), if_neg (by omega), if_neg (by omega)]) rfl tK nK tK
 intro hg1; have hg1' := hg1; try simp at hg1'
 refine q7 hg1 (q7 hg1 (q7 hg1 (q7 hg1 (M4 rfl rfl rfl rfl rfl rfl (M4 rfl rfl rfl rfl rfl rfl (M4 rfl rfl rfl rfl rfl rfl (q7 hg1 ?_))))))); refine p_t rfl rfl (bt2 hg1) rfl ?_; refine d8 (c_t rfl rfl (d9 (c7 rfl (d8 (J4 ?_))))); exact ret1 () rfl (by show some _ = some (int (adErr ps.l.length x)); unfold adErr; rw [if_neg (by omega), if_neg (by omega), if_pos (by omega)]) rfl tK nK tK
theorem pV (c : Ch) (ps : Sl Int) (qs : Sl Ad) (hn : ps.l.length ≤ 1000000) (hm : qs.l.length ≤ 1000000) : Meets prog nJ [saV c ps qs] { LI := saL ps qs, val := fun _ : Unit => int (chkS c ps.l qs.l) } := by
 refine j3 hj9 rfl t8 fun w0 => d9 (J5 rfl rfl fun gB => ?_); refine c7 rfl (d8 (i7 (d9 ?_)))
 first | refine a9 ⟨_, 0, none⟩ rfl rfl E9 rfl ?_ | refine a9 _ rfl rfl E9 rfl ?_
 refine I0 (cs := [int c.1, int c.2.1, int c.2.2.1, int c.2.2.2.1, int c.2.2.2.2.1, int c.2.2.2.2.2]) rfl C2 u3 rfl rfl (dV (o := 0) mB (jH rfl)) (j5 rG rfl rfl (qS c) p6 tK fun _ _ => ?_); refine c7 rfl (k6 (b8 rfl (P9 rfl rfl rfl (d8 ?_))))
 first | refine m6 rfl (fun hb1 => ?_) (fun hb1 => ?_) | refine D0 rfl (fun hb1 => ?_) (fun hb1 => ?_)
 ·have hb1' := hb1; try simp at hb1'
  have hch : chgB c = false := Classical.byContradiction fun e => hb1 (if_neg e); refine d9 (b8 rfl (c7 rfl (d8 (J4 ?_)))); exact ret1 () rfl (by show some _ = some (int (chkS c ps.l qs.l)); rw [vD]; rw [if_pos hch, if_pos hch]) rfl tK nK tK
 have hb1' := hb1; try simp at hb1'
 have hch : ¬ chgB c = false := fun e => by rw [if_pos e] at hb1; exact hb1 (by decide)
 refine j6 (i8 (i7 (d9 ?_)))
 first | refine a9 ⟨_, 6, none⟩ rfl rfl q9 rfl ?_ | refine a9 _ rfl rfl q9 rfl ?_
 first | refine c8 rfl k8 rfl (m3 mB rfl) ?_ | refine c8 rfl k8 rfl (l4 mB rfl) ?_ | refine c8 rfl k8 rfl (k9 mB (j9 (by omega) rfl)) ?_ | refine c8 rfl k8 rfl (G1 mB (rows_get (by omega) rfl)) ?_ | refine c8 rfl k8 rfl (u7 mB rfl) ?_
 refine l7 rfl l8 rfl ?_; refine G2 rfl rfl rfl (d8 ?_)
 first | refine m6 rfl (fun hb2 => ?_) (fun hb2 => ?_) | refine D0 rfl (fun hb2 => ?_) (fun hb2 => ?_)
 ·have hb2' := hb2; try simp at hb2'
  refine d9 (c7 rfl (d8 (J4 ?_))); exact ret1 () rfl (by show some _ = some (int (chkS c ps.l qs.l)); rw [vD]; rw [if_neg hch, if_pos (by omega)]) rfl tK nK tK
 have hb2' := hb2; try simp at hb2'
 refine j6 (i8 (i7 (d9 ?_)))
 first | refine a9 ⟨_, 6, none⟩ rfl rfl q9 rfl ?_ | refine a9 _ rfl rfl q9 rfl ?_
 first | refine c8 rfl k8 rfl (m3 mB rfl) ?_ | refine c8 rfl k8 rfl (l4 mB rfl) ?_ | refine c8 rfl k8 rfl (k9 mB (j9 (by omega) rfl)) ?_ | refine c8 rfl k8 rfl (G1 mB (rows_get (by omega) rfl)) ?_ | refine c8 rfl k8 rfl (u7 mB rfl) ?_
 refine l7 rfl l8 rfl ?_; refine P4 rfl rfl rfl (d8 ?_)
 first | refine m6 rfl (fun hb3 => ?_) (fun hb3 => ?_) | refine D0 rfl (fun hb3 => ?_) (fun hb3 => ?_)
 ·have hb3' := hb3; try simp at hb3'
  refine d9 (c7 rfl (d8 (J4 ?_))); exact ret1 () rfl (by show some _ = some (int (chkS c ps.l qs.l)); rw [vD]; rw [if_neg hch, if_neg (by omega), if_pos (by omega)]) rfl tK nK tK
 have hb3' := hb3; try simp at hb3'
 refine j6 (i8 (i7 (d9 (c7 rfl (d8 (j8 ?_)))))); refine y8 (β := Nat) ⟨fun k => k ≤ ps.l.length ∧ ∀ j, j < k → (fun v : Int => 0 ≤ v ∧ v ≤ 9) (ps.l.getD j default), fun k => [(1, .pointer (d6 gB)), (4, int k)], fun _ => [(gB, Obj.cells (saC c ps qs) r7 (0, 0))], fun _ => saL ps qs⟩ (fun k => ps.l.length - k) 0 ⟨Nat.zero_le _, fun j hj => absurd hj (Nat.not_lt_zero j)⟩ mC (.refl _) mC fun k hk => ?_; obtain ⟨hk, hq3⟩ := hk; refine i7 (d9 (b8 rfl ?_))
 first | refine a9 ⟨_, 6, none⟩ rfl rfl q9 rfl ?_ | refine a9 _ rfl rfl q9 rfl ?_
 first | refine c8 rfl k8 rfl (m3 mB rfl) ?_ | refine c8 rfl k8 rfl (l4 mB rfl) ?_ | refine c8 rfl k8 rfl (k9 mB (j9 (by omega) rfl)) ?_ | refine c8 rfl k8 rfl (G1 mB (rows_get (by omega) rfl)) ?_ | refine c8 rfl k8 rfl (u7 mB rfl) ?_
 refine l7 rfl l8 rfl ?_; refine C4 rfl rfl rfl (d8 ?_)
 first | refine m6 rfl (fun hb4 => ?_) (fun hb4 => ?_) | refine D0 rfl (fun hb4 => ?_) (fun hb4 => ?_)
 ·have hb4' := hb4; try simp at hb4'
  have hk6 : k < ps.l.length := by omega
  refine j6 (i8 (i7 (j8 (d9 ?_))))
  first | refine a9 ⟨_, 6, none⟩ rfl rfl q9 rfl ?_ | refine a9 _ rfl rfl q9 rfl ?_
  first | refine c8 rfl k8 rfl (m3 mB rfl) ?_ | refine c8 rfl k8 rfl (l4 mB rfl) ?_ | refine c8 rfl k8 rfl (k9 mB (j9 (by omega) rfl)) ?_ | refine c8 rfl k8 rfl (G1 mB (rows_get (by omega) rfl)) ?_ | refine c8 rfl k8 rfl (u7 mB rfl) ?_
  refine b8 rfl (r8 (α := Int) ps.l k rfl l8 m9 rfl rfl rfl mB rfl (hk6) (by decide) (c8 (v := int (ps.l.getD k default)) rfl b9 rfl (k9 mB (j9 (hk6) rfl)) (j5 H1 rfl rfl (H0 _ _ _) p6 tK fun _ _ => ?_))); refine K6 rfl rfl (d8 ?_)
  first | refine m6 rfl (fun hb5 => ?_) (fun hb5 => ?_) | refine D0 rfl (fun hb5 => ?_) (fun hb5 => ?_)
  ·have hb5' := hb5; try simp at hb5'
   refine d9 (c7 rfl (d8 (k5 (G6 (C5 (G6 ?_)))))); exact ret1 () rfl (by show some _ = some (int (chkS c ps.l qs.l)); rw [vD]; rw [if_neg hch, if_neg (by omega), if_neg (by omega), if_pos (uE (p := fun v : Int => 0 ≤ v ∧ v ≤ 9) hk6 (nbt hb5))]) rfl tK nK tK
  have hb5' := hb5; try simp at hb5'
  refine j6 (w9 (i8 (j0 (b8 rfl ?_)))); refine v8 _ rfl rfl rfl rfl r6 ?_; refine c7 rfl (j4 ?_); exact again _ (k + 1) ⟨by show k + 1 ≤ ps.l.length; omega, fun j hj => (Nat.lt_succ_iff_lt_or_eq.1 hj).elim (hq3 j) fun e => by subst e; exact nbf hb5⟩ (C8 (by omega)) mC (.refl _) mC
 have hb4' := hb4; try simp at hb4'
 obtain rfl : k = ps.l.length := by omega
 have hq3 := jZ (l := ps.l) (p := fun v : Int => 0 ≤ v ∧ v ≤ 9) hq3; refine w8 (E4 (w6 (i8 (i7 (d9 ?_)))))
 first | refine a9 ⟨_, 7, none⟩ rfl rfl m5 rfl ?_ | refine a9 _ rfl rfl m5 rfl ?_
 first | refine c8 rfl k4 rfl (m3 mB rfl) ?_ | refine c8 rfl k4 rfl (l4 mB rfl) ?_ | refine c8 rfl k4 rfl (k9 mB (j9 (by omega) rfl)) ?_ | refine c8 rfl k4 rfl (G1 mB (rows_get (by omega) rfl)) ?_ | refine c8 rfl k4 rfl (u7 mB rfl) ?_
 refine l7 rfl u0 rfl ?_; refine P4 rfl rfl rfl (d8 ?_)
 first | refine m6 rfl (fun hb6 => ?_) (fun hb6 => ?_) | refine D0 rfl (fun hb6 => ?_) (fun hb6 => ?_)
 ·have hb6' := hb6; try simp at hb6'
  refine d9 (c7 rfl (d8 (J4 ?_))); exact ret1 () rfl (by show some _ = some (int (chkS c ps.l qs.l)); rw [vD]; rw [if_neg hch, if_neg (by omega), if_neg (by omega), if_neg (Classical.not_not.2 hq3), if_pos (by omega)]) rfl tK nK tK
 have hb6' := hb6; try simp at hb6'
 refine j6 (i8 (i7 (d9 (c7 rfl (d8 (j8 ?_)))))); refine y8 (β := Nat) ⟨fun k => k ≤ qs.l.length ∧ firstE ps.l.length qs.l = firstE ps.l.length (qs.l.drop k), fun k => [(1, .pointer (d6 gB)), (5, int k)], fun _ => [(gB, Obj.cells (saC c ps qs) r7 (0, 0))], fun _ => saL ps qs⟩ (fun k => qs.l.length - k) 0 ⟨Nat.zero_le _, rfl⟩ mC (.refl _) mC fun k hk => ?_; obtain ⟨hk, hfe⟩ := hk; refine i7 (d9 (b8 rfl ?_))
 first | refine a9 ⟨_, 7, none⟩ rfl rfl m5 rfl ?_ | refine a9 _ rfl rfl m5 rfl ?_
 first | refine c8 rfl k4 rfl (m3 mB rfl) ?_ | refine c8 rfl k4 rfl (l4 mB rfl) ?_ | refine c8 rfl k4 rfl (k9 mB (j9 (by omega) rfl)) ?_ | refine c8 rfl k4 rfl (G1 mB (rows_get (by omega) rfl)) ?_ | refine c8 rfl k4 rfl (u7 mB rfl) ?_
 refine l7 rfl u0 rfl ?_; refine C4 rfl rfl rfl (d8 ?_)
 first | refine m6 rfl (fun hb7 => ?_) (fun hb7 => ?_) | refine D0 rfl (fun hb7 => ?_) (fun hb7 => ?_)
 ·have hb7' := hb7; try simp at hb7'
  have hk9 : k < qs.l.length := by omega
  refine j6 (i8 (i7 (j8 (i7 ?_)))); refine J0 6 mixed (by decide) (by decide) rfl rfl ?_
  apply V6 _ rfl rfl rfl
  ·intro w1
   first | refine B8 rfl l6 j7 rfl mB (by rfl) ?_ | refine R9 rfl l6 j7 rfl mB (by rfl) ?_ | refine I0 rfl l6 j7 rfl rfl (H5 mB (K2 (by omega))) ?_
   refine j4 ?_; exact I7 rfl
  apply V6 _ rfl rfl rfl
  ·intro w1
   first | refine a9 ⟨_, 7, none⟩ rfl rfl m5 rfl ?_ | refine a9 _ rfl rfl m5 rfl ?_
   refine j4 ?_; exact I7 rfl
  apply V6 _ rfl rfl rfl
  ·intro w1
   first | refine c8 rfl k4 rfl (l4 mB rfl) ?_ | refine c8 rfl k4 rfl (m3 mB rfl) ?_ | refine c8 rfl k4 rfl (k9 mB (j9 (by omega) rfl)) ?_ | refine c8 rfl k4 rfl (G1 mB (rows_get (by omega) rfl)) ?_ | refine c8 rfl k4 rfl (u7 mB rfl) ?_
   refine j4 ?_; exact I7 rfl
  refine u4 rfl (k7 (fun w1 => r8 (α := Ad) qs.l k rfl u0 d7 rfl rfl rfl mB rfl (hk9) (by decide) (q_z rfl)) (k7 (fun w1 => I0 rfl i9 d7 rfl rfl (H5 mB (K2 (by omega))) (q_z rfl)) ?_)); refine E1 ⟨rfl, ?_⟩; refine j5 tH rfl rfl (sJ c ps qs (qs.l.getD k default) hn) p6 mC fun _ _ => ?_; refine c7 rfl (k6 (b8 rfl (P9 rfl rfl rfl (d8 ?_))))
  first | refine m6 rfl (fun hb8 => ?_) (fun hb8 => ?_) | refine D0 rfl (fun hb8 => ?_) (fun hb8 => ?_)
  ·have hb8' := hb8; try simp at hb8'
   refine d9 (b8 rfl (c7 rfl (d8 (k5 (G6 (C5 (G6 ?_))))))); exact ret1 () rfl (by show some _ = some (int (chkS c ps.l qs.l)); rw [vD]; rw [if_neg hch, if_neg (by omega), if_neg (by omega), if_neg (Classical.not_not.2 hq3), if_neg (by omega), hfe, qH _ hk9, if_pos hb8]) rfl tK nK tK
  have hb8' := hb8; try simp at hb8'
  refine j6 (w9 (i8 (j0 (b8 rfl ?_)))); refine v8 _ rfl rfl rfl rfl r6 ?_; refine c7 rfl (j4 ?_); exact again _ (k + 1) ⟨by show k + 1 ≤ qs.l.length; omega, by rw [hfe, qH _ hk9, if_neg hb8]⟩ (C8 (by omega)) mC (.refl _) mC
 have hb7' := hb7; try simp at hb7'
 obtain rfl : k = qs.l.length := by omega
 refine w8 (E4 (w6 (i8 (d9 (c7 rfl (d8 (k5 ?_))))))); exact ret1 () rfl (by show some _ = some (int (chkS c ps.l qs.l)); rw [vD]; rw [if_neg hch, if_neg (by omega), if_neg (by omega), if_neg (Classical.not_not.2 hq3), if_neg (by omega), hfe, List.drop_length]; rfl) rfl tK nK tK
theorem cz9 (c : Ch) (ps : Sl Int) (qs : Sl Ad) : Meets prog nN [saV c ps qs] { LI := saL ps qs, val := fun _ : Unit => .bool (decide (20 < ps.l.length ∨ 20 < qs.l.length)) } := by
 refine j3 hq9 rfl t8 fun w0 => d9 (J5 rfl rfl fun gB => ?_); refine c7 rfl (k6 ?_)
 first | refine a9 ⟨_, 6, none⟩ rfl rfl q9 rfl ?_ | refine a9 _ rfl rfl q9 rfl ?_
 first | refine c8 rfl k8 rfl (m3 mB rfl) ?_ | refine c8 rfl k8 rfl (l4 mB rfl) ?_ | refine c8 rfl k8 rfl (k9 mB (j9 (by omega) rfl)) ?_ | refine c8 rfl k8 rfl (G1 mB (rows_get (by omega) rfl)) ?_ | refine c8 rfl k8 rfl (u7 mB rfl) ?_
 refine l7 rfl l8 rfl ?_; refine P4 rfl rfl rfl (b8 rfl ?_); refine t7 rfl rfl ?_ ?_
 ·intro hg1; have hg1' := hg1; try simp at hg1'
  refine l9 hg1 ?_
  first | refine a9 ⟨_, 7, none⟩ rfl rfl m5 rfl ?_ | refine a9 _ rfl rfl m5 rfl ?_
  refine l9 hg1 ?_
  first | refine c8 rfl k4 rfl (m3 mB rfl) ?_ | refine c8 rfl k4 rfl (l4 mB rfl) ?_ | refine c8 rfl k4 rfl (k9 mB (j9 (by omega) rfl)) ?_ | refine c8 rfl k4 rfl (G1 mB (rows_get (by omega) rfl)) ?_ | refine c8 rfl k4 rfl (u7 mB rfl) ?_
  refine l9 hg1 (l7 rfl u0 rfl ?_); refine l9 hg1 (P4 rfl rfl rfl ?_); refine p_f rfl rfl (bf1 hg1) rfl ?_; refine c7 rfl (d8 (k5 ?_)); exact ret1 () rfl (congrArg (fun b => some (Value.bool b)) (decide_eq_decide.2 (by omega))) rfl tK nK tK
 intro hg1; have hg1' := hg1; try simp at hg1'
 refine q7 hg1 (q7 hg1 (q7 hg1 (q7 hg1 ?_))); refine p_t rfl rfl (bt2 hg1) rfl ?_; refine c7 rfl (d8 (k5 ?_)); exact ret1 () rfl (congrArg (fun b => some (Value.bool b)) (decide_eq_true (by omega)).symm) rfl tK nK tK
set_option maxHeartbeats 2000000 in
theorem cq9 (c : Ch) (ps : Sl Int) (qs : Sl Ad) (hn : ps.l.length ≤ 1000000) (hm : qs.l.length ≤ 1000000) : Meets prog nI [saV c ps qs] { LI := TAB :: saL ps qs, val := fun _ : Unit => .tuple #[str (wrB (c, ps.l, qs.l)).1, int (wrB (c, ps.l, qs.l)).2] } := by
 have i1 := G0 c.1; have i2 := G0 c.2.1; have i3 := G0 c.2.2.1; have i4 := G0 c.2.2.2.1; have i5 := G0 c.2.2.2.2.1; have i6 := G0 c.2.2.2.2.2; have e1 : taW.length = 7 := rfl; have e2 : spW.length = 1 := rfl; have e3 : ofW.length = 5 := rfl; have e4 : frW.length = 6 := rfl; have e5 : stW.length = 8 := rfl; have e6 : nlW.length = 1 := rfl; have e7 : soW.length = 5 := rfl; have e8 : plW.length = 6 := rfl; have e9 : bdW.length = 6 := rfl; have e10 : cdW.length = 6 := rfl; have hlen := kz5 c; refine j3 hj7 rfl t8 fun w0 => d9 (J5 rfl rfl fun gB => ?_); refine c7 rfl (c7 rfl (d8 (dj7 (Y3 (j0 ?_))))); refine R9 rfl l6 j7 rfl mB (by rfl) (j5 qE rfl rfl (pV c ps qs hn hm) p6 mC fun _ _ => ?_); refine c7 rfl (k6 (b8 rfl (P9 rfl rfl rfl (d8 ?_)))); refine m6 rfl (fun hb1 => ?_) (fun hb1 => ?_)
 ·have h0 : ¬ chkT (c, ps.l, qs.l) = 0 := hb1; refine d9 (b8 rfl (c7 rfl (c7 rfl (d8 (J4 ?_))))); have hR : wrB (c, ps.l, qs.l) = ([], chkT (c, ps.l, qs.l)) := by rw [wrB, if_neg h0]
  rw [hR]; exact ret2 () rfl rfl rfl rfl rfl tK nK tK
 have h0 : chkS c ps.l qs.l = 0 := Classical.not_not.1 hb1; obtain ⟨⟨hc1, hc2, hc3, hc4, hc5, hc6⟩, hp, hq⟩ := wr_ok h0; have hR : wrB (c, ps.l, qs.l) = (wrE c ps.l qs.l, 0) := by rw [wrB, if_pos (show chkT (c, ps.l, qs.l) = 0 from h0)]
 rw [hR]; refine j6 (i8 (d9 ?_)); refine a9 ⟨_, 0, none⟩ rfl rfl E9 rfl (I0 (cs := [int c.1, int c.2.1, int c.2.2.1, int c.2.2.2.1, int c.2.2.2.2.1, int c.2.2.2.2.2]) rfl C2 u3 rfl rfl (lZ (o := 0) mB (jH rfl)) (B3 rfl (fun _ => aO _) fun gA => t6 (cs := #[int c.1, int c.2.1, int c.2.2.1, int c.2.2.2.1, int c.2.2.2.2.1, int c.2.2.2.2.2]) rfl rfl (.refl _) u3 (by rfl) (by rfl) ?_)); refine d8 (i7 (Y3 ?_)); refine J0 28 mixed (by decide) (by decide) rfl rfl (k7 (fun w1 => a9 ⟨_, 0, none⟩ rfl rfl N7 rfl (q_z rfl)) (k7 (fun w1 => c8 rfl b9 rfl (l4 mB rfl) (q_z rfl)) ?_)); refine k7 (fun w1 => j5 u6 rfl rfl (G4 (c.1) hc1) p6 mC fun _ _ => (q_z rfl)) ?_; refine k7 (fun w1 => D5 (x' := taW) rfl p9 rfl S6 (q_z rfl)) (k7 (fun w1 => D5 (y' := spW) rfl rfl p9 S6 (q_z rfl)) (k7 (fun w1 => a9 ⟨_, 1, none⟩ rfl rfl N6 rfl (q_z rfl)) (k7 (fun w1 => c8 rfl b9 rfl (l4 mB rfl) (q_z rfl)) ?_))); refine k7 (fun w1 => j5 u6 rfl rfl (G4 (c.2.1) hc2) p6 mC fun _ _ => (q_z rfl)) ?_; refine k7 (fun w1 => D5 rfl rfl rfl S6 (q_z rfl)) (k7 (fun w1 => D5 (y' := spW) rfl rfl p9 S6 (q_z rfl)) (k7 (fun w1 => a9 ⟨_, 2, none⟩ rfl rfl N5 rfl (q_z rfl)) (k7 (fun w1 => c8 rfl b9 rfl (l4 mB rfl) (q_z rfl)) ?_))); refine k7 (fun w1 => j5 u6 rfl rfl (G4 (c.2.2.1) hc3) p6 mC fun _ _ => (q_z rfl)) ?_; refine k7 (fun w1 => D5 rfl rfl rfl S6 (q_z rfl)) (k7 (fun w1 => D5 (y' := spW) rfl rfl p9 S6 (q_z rfl)) (k7 (fun w1 => a9 ⟨_, 3, none⟩ rfl rfl N4 rfl (q_z rfl)) (k7 (fun w1 => c8 rfl b9 rfl (l4 mB rfl) (q_z rfl)) ?_))); refine k7 (fun w1 => j5 u6 rfl rfl (G4 (c.2.2.2.1) hc4) p6 mC fun _ _ => (q_z rfl)) ?_; refine k7 (fun w1 => D5 rfl rfl rfl S6 (q_z rfl)) (k7 (fun w1 => D5 (y' := ofW) rfl rfl p9 S6 (q_z rfl)) (k7 (fun w1 => a9 ⟨_, 4, none⟩ rfl rfl N3 rfl (q_z rfl)) (k7 (fun w1 => c8 rfl b9 rfl (l4 mB rfl) (q_z rfl)) ?_))); refine k7 (fun w1 => j5 u6 rfl rfl (G4 (c.2.2.2.2.1) hc5) p6 mC fun _ _ => (q_z rfl)) ?_; refine k7 (fun w1 => D5 rfl rfl rfl S6 (q_z rfl)) (k7 (fun w1 => D5 (y' := frW) rfl rfl p9 S6 (q_z rfl)) (k7 (fun w1 => a9 ⟨_, 5, none⟩ rfl rfl N2 rfl (q_z rfl)) (k7 (fun w1 => c8 rfl b9 rfl (l4 mB rfl) (q_z rfl)) ?_))); refine k7 (fun w1 => j5 u6 rfl rfl (G4 (c.2.2.2.2.2) hc6) p6 mC fun _ _ => (q_z rfl)) ?_; refine E1 ⟨rfl, ?_⟩; refine D5 rfl rfl rfl S6 (D5 (y' := stW) rfl rfl p9 S6 ?_); refine c7 rfl (d8 (i7 (d9 (c7 rfl (d8 (j8 ?_)))))); refine y8 (β := Nat) ⟨fun k => k ≤ ps.l.length, fun k => [(1, .pointer (d6 gB)), (6, str (accP c (ps.l.take k).reverse)), (7, int k)], fun _ => [], fun _ => Blk gB (Obj.cells (saC c ps qs) r7 (0, 0)) :: TAB :: saL ps qs⟩ (fun k => ps.l.length - k) 0 (Nat.zero_le _) mC (.refl _) mC fun k hk => ?_; simp only at hk; have hl1 := lx6 c (ps.l.take k).reverse; rw [List.length_reverse, List.length_take] at hl1; refine i7 (d9 (b8 rfl ?_)); refine a9 ⟨_, 6, none⟩ rfl rfl q9 rfl (c8 rfl k8 rfl (l4 mB rfl) (l7 rfl l8 rfl ?_)); refine C4 rfl rfl rfl (d8 ?_); refine m6 rfl (fun hb2 => ?_) (fun hb2 => ?_)
 ·have hk2 : k < ps.l.length := by omega
  have hpk := hp _ (A3 hk2); have hi0 := G0 (ps.l.getD k default); refine j6 (i8 (i7 (j8 (j0 (b8 rfl ?_))))); refine D5 (y' := spW) rfl rfl p9 S6 (a9 ⟨_, 6, none⟩ rfl rfl q9 rfl (c8 rfl k8 rfl (l4 mB rfl) (b8 rfl (r8 (α := Int) ps.l k rfl l8 m9 rfl rfl rfl mB rfl (hk2) (by decide) (c8 (v := int ((ps.l.getD k default))) rfl b9 rfl (k9 mB (j9 (hk2) rfl)) (j5 u6 rfl rfl (G4 ((ps.l.getD k default)) hpk) p6 mC fun _ _ => D5 rfl rfl rfl S6 ?_)))))); refine c7 rfl (j4 (w9 (i8 (j0 (b8 rfl ?_))))); refine v8 _ rfl rfl rfl rfl r6 ?_; refine c7 rfl (j4 ?_); have hacc : accP c (ps.l.take (k + 1)).reverse = ((accP c (ps.l.take k).reverse) ++ spW) ++ itoaZ (ps.l.getD k default) := by rw [sI hk2, accP, List.append_assoc]
  exact again _ (k + 1) (by show k + 1 ≤ ps.l.length; omega) (C8 (by omega)) ⟨rfl, by rw [hacc]; rfl, rfl, tK⟩ (.refl _) mC
 obtain rfl : k = ps.l.length := by omega
 refine w8 (E4 (w6 (i8 (d9 (b8 rfl ?_))))); refine D5 (y' := nlW) rfl rfl p9 S6 ?_; refine c7 rfl (d8 (i7 (d9 (c7 rfl (d8 (j8 ?_)))))); refine y8 (β := Nat) ⟨fun k => k ≤ qs.l.length, fun k => [(1, .pointer (d6 gB)), (6, str (accQ (accP c (ps.l.take ps.l.length).reverse) (qs.l.take k).reverse)), (8, int k)], fun _ => [], fun _ => Blk gB (Obj.cells (saC c ps qs) r7 (0, 0)) :: TAB :: saL ps qs⟩ (fun k => qs.l.length - k) 0 (Nat.zero_le _) mC nK mC fun k hk => ?_; simp only at hk; have hl2 := lx5 (accP c (ps.l.take ps.l.length).reverse) (qs.l.take k).reverse; rw [List.length_reverse, List.length_take] at hl2; refine i7 (d9 (b8 rfl ?_)); refine a9 ⟨_, 7, none⟩ rfl rfl m5 rfl (c8 rfl k4 rfl (l4 mB rfl) (l7 rfl u0 rfl ?_)); refine C4 rfl rfl rfl (d8 ?_); refine m6 rfl (fun hb3 => ?_) (fun hb3 => ?_)
 ·have hk3 : k < qs.l.length := by omega
  have hqk := hq _ (A3 hk3); have hi1 := G0 (qs.l.getD k default).1; have hi2 := G0 (qs.l.getD k default).2.2; refine j6 (i8 (i7 (j8 (d9 ?_)))); refine a9 ⟨_, 7, none⟩ rfl rfl m5 rfl (c8 rfl k4 rfl (l4 mB rfl) (b8 rfl (r8 (α := Ad) qs.l k rfl u0 d7 rfl rfl rfl mB rfl (hk3) (by decide) (I0 (cs := El.cells (qs.l.getD k default)) rfl i9 d7 rfl rfl (H5 mB (K2 hk3)) (B3 rfl (fun _ => J2 _) fun gX => t6 (cs := #[int (qs.l.getD k default).1, int (qs.l.getD k default).2.1, int (qs.l.getD k default).2.2]) rfl rfl (.refl _) d7 (by rfl) (by rfl) ?_))))); refine d8 (i7 (Y3 (j0 (b8 rfl ?_)))); refine a9 ⟨_, 0, none⟩ rfl rfl I6 rfl (c8 rfl b9 rfl (l4 mB rfl) (j5 u6 rfl rfl (G4 ((qs.l.getD k default).1) hqk.1) p6 mC fun _ _ => D5 rfl rfl rfl S6 ?_)); refine c7 rfl (d8 (i7 (d9 ?_))); refine a9 ⟨_, 1, none⟩ rfl rfl A9 rfl (c8 rfl b9 rfl (l4 mB rfl) ?_); refine d8 (j8 (d9 (G2 rfl rfl rfl (c7 rfl (d8 ?_))))); refine m6 rfl (fun hb4 => ?_) (fun hb4 => ?_)
  ·have hacc : accQ (accP c (ps.l.take ps.l.length).reverse) (qs.l.take (k + 1)).reverse = ((accQ (accP c (ps.l.take ps.l.length).reverse) (qs.l.take k).reverse) ++ itoaZ (qs.l.getD k default).1) ++ plW ++ nlW := by rw [sI hk3, accQ, wordE, if_pos hb4]; simp only [List.append_assoc]
   refine j0 (b8 rfl ?_); refine D5 (y' := plW) rfl rfl p9 S6 ?_; refine c7 rfl (j4 (w9 (i8 (j0 (b8 rfl ?_))))); refine D5 (y' := nlW) rfl rfl p9 S6 ?_; refine c7 rfl (j4 (w9 (i8 (j0 (b8 rfl ?_))))); refine v8 _ rfl rfl rfl rfl r6 ?_; refine c7 rfl (j4 ?_); exact again _ (k + 1) (by show k + 1 ≤ qs.l.length; omega) (C8 (by omega)) ⟨rfl, by rw [hacc]; rfl, rfl, tK⟩ nK mC
  refine d9 (G2 rfl rfl rfl (c7 rfl (d8 ?_))); refine m6 rfl (fun hb5 => ?_) (fun hb5 => ?_)
  ·have hacc : accQ (accP c (ps.l.take ps.l.length).reverse) (qs.l.take (k + 1)).reverse = (((accQ (accP c (ps.l.take ps.l.length).reverse) (qs.l.take k).reverse) ++ itoaZ (qs.l.getD k default).1) ++ bdW ++ itoaZ (qs.l.getD k default).2.2) ++ nlW := by rw [sI hk3, accQ, wordE, if_neg hb4, if_pos hb5]; simp only [List.append_assoc]
   refine j0 (b8 rfl ?_); refine D5 (y' := bdW) rfl rfl p9 S6 (a9 ⟨_, 2, none⟩ rfl rfl z9 rfl (c8 rfl b9 rfl (l4 mB rfl) (j5 u6 rfl rfl (G4 ((qs.l.getD k default).2.2) hqk.2) p6 mC fun _ _ => D5 rfl rfl rfl S6 ?_))); refine c7 rfl (j4 (w9 (i8 (j0 (b8 rfl ?_))))); refine D5 (y' := nlW) rfl rfl p9 S6 ?_; refine c7 rfl (j4 (w9 (i8 (j0 (b8 rfl ?_))))); refine v8 _ rfl rfl rfl rfl r6 ?_; refine c7 rfl (j4 ?_); exact again _ (k + 1) (by show k + 1 ≤ qs.l.length; omega) (C8 (by omega)) ⟨rfl, by rw [hacc]; rfl, rfl, tK⟩ nK mC
  have hacc : accQ (accP c (ps.l.take ps.l.length).reverse) (qs.l.take (k + 1)).reverse = (((accQ (accP c (ps.l.take ps.l.length).reverse) (qs.l.take k).reverse) ++ itoaZ (qs.l.getD k default).1) ++ cdW ++ itoaZ (qs.l.getD k default).2.2) ++ nlW := by rw [sI hk3, accQ, wordE, if_neg hb4, if_neg hb5]; simp only [List.append_assoc]
  refine j0 (b8 rfl ?_); refine D5 (y' := cdW) rfl rfl p9 S6 (a9 ⟨_, 2, none⟩ rfl rfl z9 rfl (c8 rfl b9 rfl (l4 mB rfl) (j5 u6 rfl rfl (G4 ((qs.l.getD k default).2.2) hqk.2) p6 mC fun _ _ => D5 rfl rfl rfl S6 ?_))); refine c7 rfl (j4 (w9 (i8 (j0 (b8 rfl ?_))))); refine D5 (y' := nlW) rfl rfl p9 S6 ?_; refine c7 rfl (j4 (w9 (i8 (j0 (b8 rfl ?_))))); refine v8 _ rfl rfl rfl rfl r6 ?_; refine c7 rfl (j4 ?_); exact again _ (k + 1) (by show k + 1 ≤ qs.l.length; omega) (C8 (by omega)) ⟨rfl, by rw [hacc]; rfl, rfl, tK⟩ nK mC
 obtain rfl : k = qs.l.length := by omega
 refine w8 (E4 (w6 (i8 (d9 (b8 rfl ?_))))); refine D5 (y' := soW) rfl rfl p9 S6 ?_; refine c7 rfl (c7 rfl (d8 (k5 ?_))); exact ret2 () rfl rfl rfl (by rw [List.take_length, List.take_length]; rfl) rfl tK nK tK
theorem tj2 {b : UInt8} : ∀ {p : Str} (q : Str), b ∉ p → cutB b (p ++ b :: q) = (p, q, true)
  | [], q, _ => by simp [cutB]
  | x :: p, q, h => by
    simp only [List.mem_cons, not_or] at h; have hx : ¬ x = b := fun e => h.1 e.symm
    simp [cutB, hx, tj2 q h.2]
theorem xj9 {b : UInt8} {s : Str} (h : ¬ (cutB b s).2.2 = false) : ∃ l r, b ∉ l ∧ s = l ++ b :: r := by
  rcases uG b s with ⟨_, h2, _⟩ | ⟨i, _, h1, h2, h3, h5⟩
  · rw [h2] at h; exact absurd rfl h
  rw [List.getElem?_eq_getElem h1] at h3; have h4 : b :: s.drop (i + 1) = s.drop i := by rw [← Option.some.inj h3]; exact (List.drop_eq_getElem_cons h1).symm
  exact ⟨s.take i, s.drop (i + 1), h5, by rw [h4, List.take_append_drop]⟩
def joinB (b : UInt8) : List Str → Str
  | [] => []
  | [a] => a
  | a :: c :: r => a ++ b :: joinB b (c :: r)
theorem kz0 (b : UInt8) : ∀ s : Str, joinB b (splitB b s) = s
  | [] => rfl
  | x :: r => by
    have ih := kz0 b r; have hl := bN b r; rw [splitB]
    cases hs : splitB b r with
    | nil => rw [hs] at hl; cases hl
    | cons a t =>
      rw [hs] at ih
      split
      · rename_i h; rw [joinB, ih, h]; rfl
      cases t with
      | nil => rw [joinB] at ih ⊢; rw [ih]
      | cons c t => rw [joinB] at ih ⊢; rw [List.cons_append, ih]
def NB (z : Int) : Prop := 0 ≤ z ∧ z < 1000
def w0 (c : Ch) : List Str := [tariffS, itoaZ c.1, itoaZ c.2.1, itoaZ c.2.2.1, itoaZ c.2.2.2.1, offS0, itoaZ c.2.2.2.2.1, fromS, itoaZ c.2.2.2.2.2]
def w1 (ss : List Int) : List Str := streetsS :: ss.map itoaZ
def wA (x : Ad) : List Str := if x.2.1 = 1 then [itoaZ x.1, plainS] else if x.2.1 = 2 then [itoaZ x.1, boldS, itoaZ x.2.2] else [itoaZ x.1, cardS, itoaZ x.2.2]
def advT : List Ad → Str
  | [] => soldS ++ [10]
  | x :: r => joinB 32 (wA x) ++ 10 :: advT r
def textB (s : SaT) : Str := joinB 32 (w0 s.1) ++ 10 :: (joinB 32 (w1 s.2.1) ++ 10 :: advT s.2.2)
def WOK (w : Str) : Prop := (32 : UInt8) ∉ w ∧ (10 : UInt8) ∉ w
def AOK (x : Ad) : Prop := NB x.1 ∧ NB x.2.2 ∧ (1 ≤ x.2.1 ∧ x.2.1 ≤ 3) ∧ (x.2.1 = 1 → x.2.2 = 1)
def COK (c : Ch) : Prop := NB c.1 ∧ NB c.2.1 ∧ NB c.2.2.1 ∧ NB c.2.2.2.1 ∧ NB c.2.2.2.2.1 ∧ NB c.2.2.2.2.2
theorem nz {z : Int} (h : NB z) : numS (itoaZ z) = some z := (wj7 h.1 h.2).1
def SOK (s : SaT) : Prop := COK s.1 ∧ s.2.1 ≠ [] ∧ (∀ v ∈ s.2.1, NB v) ∧ ∀ x ∈ s.2.2, AOK x
theorem yN {w ns : List Str} (h : formB w ns = true) {k : Nat} (hk : k < ns.length) (h1 : ¬ ns.getD k default = []) : w.getD k default = ns.getD k default := by
  refine Classical.byContradiction fun h2 => ?_; rw [sz8 hk h1 (fun e => h2 e.symm)] at h
  cases h
theorem lq8 {b : Bx} {hp : Hp} {L : List Fact} {g : Nat} {l : Str} (h : Row (d6 g) (rows l) ∈ L) : Cells b hp L ⟨g, 0, none⟩ (rows l) := by
  have := H5 (b := b) (hp := hp) (j := 0) (us := rows l) h (fun i u hu => by rw [Nat.zero_add]; exact hu); exact this
theorem lq9 {b : Bx} {hp : Hp} {L : List Fact} {g : Nat} {l : Str} {t : TypeId} {fz : Nat × Nat} (h : (g, Obj.cells (rows l).toArray t fz) ∈ hp) : Cells b hp L ⟨g, 0, none⟩ (rows l) :=
  dV h (fun i u hu => by rw [Nat.zero_add]; simpa using hu)
theorem tmod_bd (n m : Int) (hm : 0 < m) : -m < n.tmod m ∧ n.tmod m < m := ⟨Int.lt_tmod_of_pos n hm, Int.tmod_lt_of_pos n hm⟩
theorem qV (n m : Int) (hm : 0 < m ∧ m ≤ 1000000) : Meets prog bq0 [int n, int m] { val := fun z : Int => int z, inv := fun z => 0 ≤ z ∧ z < m } := by
 refine j3 pj4 rfl t8 fun w0 => ?_; refine d9 (c7 rfl (k6 (b8 rfl (b8 rfl ?_)))); refine vx9 rfl rfl rfl (by omega) ?_; have hbd := tmod_bd n m hm.1; refine c7 rfl (d8 (i7 (d9 (b8 rfl (C4 rfl rfl rfl (d8 ?_)))))); refine m6 rfl (fun hb1 => ?_) (fun hb1 => ?_)
 ·refine j0 (b8 rfl (b8 rfl ?_)); refine v8 _ rfl rfl rfl rfl r6 ?_; refine c7 rfl (k6 (b8 rfl (c7 rfl (d8 (k5 ?_))))); exact ret1 (n.tmod m + m) rfl rfl rfl ⟨by omega, by omega⟩ nK tK
 refine j6 (i8 (d9 (b8 rfl (c7 rfl (d8 (k5 ?_)))))); exact ret1 (n.tmod m) rfl rfl rfl ⟨by omega, by omega⟩ nK tK
set_option maxHeartbeats 1000000 in
theorem dj2 (s : Str) (a h : Int) (b : UInt8) (hs : s.length ≤ 100000) : Meets prog nP [str s, int a, int h, .int .u8 b.toNat] { val := fun z : Str => str z, inv := fun z => z.length ≤ s.length + 1 } := by
 refine j3 hx4 rfl t8 fun w0 => ?_; refine d9 (c7 rfl (d8 (i7 (d9 (b8 rfl ?_))))); refine C7 rfl l5 rfl ?_; refine G2 rfl rfl rfl (d8 ?_); refine m6 rfl (fun hb1 => ?_) (fun hb1 => ?_)
 ·refine d9 (b8 rfl ?_); refine p7 _ rfl rfl (fun _ => kB ..) fun gS => mO (l := [b]) rfl K7 aM l5 rfl (lq9 (l := [b]) m0) ?_; refine c7 rfl (d8 (J4 ?_)); exact ret1 [b] rfl rfl rfl (by simp) nK tK
 refine j6 (i8 (d9 (b8 rfl (b8 rfl ?_)))); refine C7 rfl l5 rfl (j5 rJ rfl rfl (qV a s.length ⟨by omega, by omega⟩) p6 tK fun zi hzi => ?_); obtain ⟨i, rfl⟩ : ∃ i : Nat, zi = i := ⟨zi.toNat, by have := hzi.1; omega⟩; have hi : i < s.length := by have := hzi.2; omega
 refine c7 rfl (d8 (i7 (d9 (b8 rfl ?_)))); refine j5 rJ rfl rfl (qV h 3 (by omega)) p6 tK fun zh _ => ?_; refine d8 (j8 (d9 (G2 rfl rfl rfl (c7 rfl (d8 ?_))))); refine m6 rfl (fun hb2 => ?_) (fun hb2 => ?_)
 ·refine i7 (J0 11 mixed (by decide) (by decide) rfl rfl (u4 rfl (u4 rfl (k7 (fun w1 => jQ (s := s) i rfl l5 rfl rfl rfl (by omega) (q_z rfl)) (u4 rfl ?_))))); refine U5 ⟨Nat, fun _ => True, fun g1 => .slice (d6 g1) 1 1, fun g1 => [Row (d6 g1) (rows [b])]⟩ rfl rfl rfl ?_ ?_
  ·intro w1; refine p7 _ rfl rfl (fun _ => kB ..) fun gS => j4 (H6 (rows [b]) (List.prefix_refl _) ?_); exact I9 gS tK rfl ⟨m0, tK⟩
  apply V6 _ rfl rfl rfl
  ·intro g1 _; intro w1; refine mO (l := [b]) (cap := 1) rfl K7 aM l5 rfl (lq8 (by first | exact m0 | simp)) ?_; refine j4 ?_; exact I7 rfl
  refine k7 (fun w1 => D5 (x' := (s.take i)) (y' := [b]) rfl rfl rfl (by simp only [List.length_append, List.length_cons, List.length_nil, List.length_take, List.length_drop]; omega) (q_z rfl)) ?_; refine u4 rfl (u4 rfl (k7 (fun w1 => v8 _ rfl rfl rfl rfl r6 (q_z rfl)) (k7 (fun w1 => dR (s := s) (i + 1) rfl l5 rfl rfl rfl (by omega) (q_z rfl)) ?_))); refine E1 ⟨rfl, ?_⟩; intro g1 _; refine D5 (x' := (s.take i) ++ [b]) (y' := s.drop (i + 1)) rfl rfl rfl (by simp only [List.length_append, List.length_cons, List.length_nil, List.length_take, List.length_drop]; omega) ?_; refine c7 rfl (d8 (k5 (G6 ?_))); exact ret1 (((s.take i) ++ [b]) ++ s.drop (i + 1)) rfl rfl rfl (by show (((s.take i) ++ [b]) ++ s.drop (i + 1)).length ≤ s.length + 1; simp only [List.length_append, List.length_cons, List.length_nil, List.length_take, List.length_drop]; omega) nK tK
 refine d9 (G2 rfl rfl rfl (c7 rfl (d8 ?_))); refine m6 rfl (fun hb3 => ?_) (fun hb3 => ?_)
 ·refine i7 (J0 7 mixed (by decide) (by decide) rfl rfl (u4 rfl (u4 rfl (k7 (fun w1 => jQ (s := s) i rfl l5 rfl rfl rfl (by omega) (q_z rfl)) (u4 rfl (u4 rfl (k7 (fun w1 => v8 _ rfl rfl rfl rfl r6 (q_z rfl)) (k7 (fun w1 => dR (s := s) (i + 1) rfl l5 rfl rfl rfl (by omega) (q_z rfl)) ?_)))))))); refine E1 ⟨rfl, ?_⟩; refine D5 (x' := (s.take i)) (y' := s.drop (i + 1)) rfl rfl rfl (by simp only [List.length_append, List.length_cons, List.length_nil, List.length_take, List.length_drop]; omega) ?_; refine c7 rfl (d8 (k5 (G6 ?_))); exact ret1 ((s.take i) ++ s.drop (i + 1)) rfl rfl rfl (by show ((s.take i) ++ s.drop (i + 1)).length ≤ s.length + 1; simp only [List.length_append, List.length_cons, List.length_nil, List.length_take, List.length_drop]; omega) nK tK
 refine j6 (w9 (i8 (i7 ?_))); refine J0 10 mixed (by decide) (by decide) rfl rfl (u4 rfl (u4 rfl (k7 (fun w1 => jQ (s := s) i rfl l5 rfl rfl rfl (by omega) (q_z rfl)) (u4 rfl ?_)))); refine U5 ⟨Nat, fun _ => True, fun g1 => .slice (d6 g1) 1 1, fun g1 => [Row (d6 g1) (rows [b])]⟩ rfl rfl rfl ?_ ?_
 ·intro w1; refine p7 _ rfl rfl (fun _ => kB ..) fun gS => j4 (H6 (rows [b]) (List.prefix_refl _) ?_); exact I9 gS tK rfl ⟨m0, tK⟩
 apply V6 _ rfl rfl rfl
 ·intro g1 _; intro w1; refine mO (l := [b]) (cap := 1) rfl K7 aM l5 rfl (lq8 (by first | exact m0 | simp)) ?_; refine j4 ?_; exact I7 rfl
 refine k7 (fun w1 => D5 (x' := (s.take i)) (y' := [b]) rfl rfl rfl (by simp only [List.length_append, List.length_cons, List.length_nil, List.length_take, List.length_drop]; omega) (q_z rfl)) ?_; refine u4 rfl (u4 rfl (k7 (fun w1 => dR (s := s) i rfl l5 rfl rfl rfl (by omega) (q_z rfl)) ?_)); refine E1 ⟨rfl, ?_⟩; intro g1 _; refine D5 (x' := (s.take i) ++ [b]) (y' := s.drop i) rfl rfl rfl (by simp only [List.length_append, List.length_cons, List.length_nil, List.length_take, List.length_drop]; omega) ?_; refine c7 rfl (d8 (k5 ?_)); exact ret1 (((s.take i) ++ [b]) ++ s.drop i) rfl rfl rfl (by show (((s.take i) ++ [b]) ++ s.drop i).length ≤ s.length + 1; simp only [List.length_append, List.length_cons, List.length_nil, List.length_take, List.length_drop]; omega) nK tK
theorem nj4 {p : UInt8 → Bool} {s : Str} {k : Nat} (hk : k < s.length) (h : (s.take k).all p = true) (h1 : p s[k] = true) : (s.take (k + 1)).all p = true := by
  rw [List.take_succ_eq_append_getElem hk, List.all_append, h]; simp [h1]
theorem kj3 {p : UInt8 → Bool} {s : Str} {k : Nat} (hk : k < s.length) (h : p s[k] = false) : ¬ s.all p = true := fun h1 => by
  rw [List.all_eq_true.1 h1 _ (List.getElem_mem hk)] at h; cases h
theorem sz9 {c : UInt8} (h : ¬ (c.toNat : Int) < 48) (h2 : ¬ 57 < (c.toNat : Int)) : isDig c = true := by
  unfold isDig; simp; omega
theorem xj3 {c : UInt8} (h : (c.toNat : Int) < 48) : isDig c = false := by unfold isDig; simp; omega
theorem xj4 {c : UInt8} (h : 57 < (c.toNat : Int)) : isDig c = false := by unfold isDig; simp; omega
theorem K3 (s : Str) (hl : s.length ≤ 1000000) : Meets prog kL [str s] { val := fun z : Int × Bool => .tuple #[int z.1, .bool z.2], inv := fun z => numS s = if z.2 = true then some z.1 else none } := by
 refine j3 dq8 rfl t8 fun w0 => ?_; refine d9 (c7 rfl (c7 rfl (d8 (i7 (d9 (b8 rfl ?_)))))); refine C7 rfl l5 rfl ?_; refine C4 rfl rfl rfl (b8 rfl ?_); refine t7 rfl rfl ?_ ?_
 ·intro hg1; have hg1' := hg1; try simp at hg1'
  refine l9 hg1 (b8 rfl (l9 hg1 ?_)); refine C7 rfl l5 rfl ?_; refine l9 hg1 (P4 rfl rfl rfl ?_); refine p_f rfl rfl (bf1 hg1) rfl (b8 rfl ?_); refine t7 rfl rfl ?_ ?_
  ·intro hg2; have hg2' := hg2; try simp at hg2'
   refine l9 hg2 (b8 rfl (l9 hg2 ?_)); refine E5 0 rfl l5 rfl rfl rfl (List.getElem?_eq_getElem (by first | omega | exact List.length_pos_iff.2 (by assumption))) ?_; refine l9 hg2 (G2 rfl rfl rfl (l9 hg2 (b8 rfl ?_))); refine t7 rfl rfl ?_ ?_
   ·intro hg3; have hg3' := hg3; try simp at hg3'
    refine l9 hg3 (b8 rfl (l9 hg3 ?_)); refine C7 rfl l5 rfl ?_; refine l9 hg3 (P4 rfl rfl rfl (l9 hg2 ?_)); refine p_t rfl rfl (bt1 hg3) rfl (p_f rfl rfl (bf1 hg2) rfl (d8 ?_)); refine m6 rfl (fun hb1 => ?_) (fun hb1 => ?_)
    ·have hb1' := hb1; try simp at hb1'
     refine d9 (c7 rfl (c7 rfl (d8 (J4 ?_)))); exact ret2 (0, false) rfl rfl rfl rfl rfl (lV (by omega) (by omega)) nK tK
    have hb1' := hb1; try simp at hb1'
    refine j6 (i8 (d9 (c7 rfl (d8 (i7 (d9 (c7 rfl (j4 ?_)))))))); refine i8 (j8 ?_); refine y8 (β := Nat) ⟨fun k => k ≤ s.length ∧ (s.take k).all isDig = true, fun k => [(0, str s), (4, int (numV (s.take k))), (5, int k)], fun _ => [], fun _ => []⟩ (fun k => s.length - k) 0 ⟨Nat.zero_le _, rfl⟩ mC nK tK fun k hk => ?_; obtain ⟨hk0, hall⟩ := hk; have hbd := cz3 hall (by rw [List.length_take]; omega); refine i7 (d9 (b8 rfl (b8 rfl ?_))); refine C7 rfl l5 rfl ?_; refine C4 rfl rfl rfl (d8 ?_); refine m6 rfl (fun hb2 => ?_) (fun hb2 => ?_)
    ·have hb2' := hb2; try simp at hb2'
     have hk1 : k < s.length := by omega
     refine j6 (i8 (i7 (j8 (i7 (d9 (b8 rfl (b8 rfl ?_))))))); refine E5 k rfl l5 rfl rfl rfl (List.getElem?_eq_getElem hk1) ?_; refine C4 rfl rfl rfl (b8 rfl ?_); refine t7 rfl rfl ?_ ?_
     ·intro hg4; have hg4' := hg4; try simp at hg4'
      refine l9 hg4 (b8 rfl (l9 hg4 (b8 rfl (l9 hg4 ?_)))); refine E5 k rfl l5 rfl rfl rfl (List.getElem?_eq_getElem hk1) ?_; refine l9 hg4 (P4 rfl rfl rfl ?_); refine p_f rfl rfl (bf1 hg4) rfl (d8 ?_); refine m6 rfl (fun hb3 => ?_) (fun hb3 => ?_)
      ·refine d9 (c7 rfl (c7 rfl (d8 (J4 (G6 (C5 (cU ?_))))))); refine C5 ?_; exact ret2 (0, false) rfl rfl rfl rfl rfl (bP (kj3 hk1 (xj4 (by omega)))) nK tK
      have hb3' := hb3; try simp at hb3'
      have hall2 : (s.take (k + 1)).all isDig = true := nj4 hk1 hall (sz9 (by omega) (by omega)); refine j6 (i8 (j0 (b8 rfl ?_))); refine cx2 (numV (s.take k) * 10) rfl rfl rfl (by omega) r6 ?_; refine b8 rfl (b8 rfl ?_); refine E5 k rfl l5 rfl rfl rfl (List.getElem?_eq_getElem hk1) ?_; refine q8 (.int .u8 ((s[k].toNat : Int) - 48)) rfl rfl rfl (fun _ => rfl) (fun w => by show Result.ok (Value.int .u8 (IntKind.u8.wrap ((s[k].toNat : Int) - 48))) w = _; rw [IntWalk.u8_in _ (by omega)]) ?_; refine aH ((s[k].toNat : Int) - 48) rfl aM X8 rfl (IntWalk.i64_in _ (by omega)) ?_; refine v8 (numV (s.take (k + 1))) rfl rfl rfl (gz2 hk1).symm (by have := cz3 hall2 (by rw [List.length_take]; omega); unfold I64; omega) ?_; refine c7 rfl (j4 (w9 (i8 (j0 (b8 rfl ?_))))); refine v8 _ rfl rfl rfl rfl r6 ?_; refine c7 rfl (j4 ?_); exact again _ (k + 1) ⟨by show k + 1 ≤ s.length; omega, hall2⟩ (C8 (by omega)) mC nK tK
     intro hg4; have hg4' := hg4; try simp at hg4'
     refine q7 hg4 (q7 hg4 (q7 hg4 (q7 hg4 ?_))); refine p_t rfl rfl (bt2 hg4) rfl ?_; refine d8 (c_t rfl rfl (d9 (c7 rfl (c7 rfl (d8 (J4 (cU ?_))))))); refine tr_tr (G6 ?_); exact ret2 (0, false) rfl rfl rfl rfl rfl (bP (kj3 hk1 (xj3 (by omega)))) nK tK
    have hb2' := hb2; try simp at hb2'
    have hk1 : k = s.length := by omega
    rw [hk1, List.take_length] at hall; refine w8 (E4 (w6 (i8 (d9 (b8 rfl (c7 rfl (c7 rfl (d8 ?_)))))))); refine k5 ?_; exact ret2 (numV s, true) rfl (by rw [hk1, List.take_length]; rfl) rfl rfl rfl (cz1 (by omega) (by omega) (fun h => by omega) hall) nK tK
   intro hg3; have hg3' := hg3; try simp at hg3'
   refine q7 hg3 (q7 hg3 (q7 hg3 (l9 hg2 ?_))); refine p_f rfl rfl (bf2 hg3) rfl (p_f rfl rfl (bf1 hg2) rfl ?_); refine d8 (c_f rfl rfl (j6 (i8 (d9 (c7 rfl (d8 (dj7 ?_))))))); refine j0 (c7 rfl (d8 (j8 ?_))); refine y8 (β := Nat) ⟨fun k => k ≤ s.length ∧ (s.take k).all isDig = true, fun k => [(0, str s), (4, int (numV (s.take k))), (5, int k)], fun _ => [], fun _ => []⟩ (fun k => s.length - k) 0 ⟨Nat.zero_le _, rfl⟩ mC nK tK fun k hk => ?_; obtain ⟨hk0, hall⟩ := hk; have hbd := cz3 hall (by rw [List.length_take]; omega); refine i7 (d9 (b8 rfl (b8 rfl ?_))); refine C7 rfl l5 rfl ?_; refine C4 rfl rfl rfl (d8 ?_); refine m6 rfl (fun hb2 => ?_) (fun hb2 => ?_)
   ·have hb2' := hb2; try simp at hb2'
    have hk1 : k < s.length := by omega
    refine j6 (i8 (i7 (j8 (i7 (d9 (b8 rfl (b8 rfl ?_))))))); refine E5 k rfl l5 rfl rfl rfl (List.getElem?_eq_getElem hk1) ?_; refine C4 rfl rfl rfl (b8 rfl ?_); refine t7 rfl rfl ?_ ?_
    ·intro hg5; have hg5' := hg5; try simp at hg5'
     refine l9 hg5 (b8 rfl (l9 hg5 (b8 rfl (l9 hg5 ?_)))); refine E5 k rfl l5 rfl rfl rfl (List.getElem?_eq_getElem hk1) ?_; refine l9 hg5 (P4 rfl rfl rfl ?_); refine p_f rfl rfl (bf1 hg5) rfl (d8 ?_); refine m6 rfl (fun hb3 => ?_) (fun hb3 => ?_)
     ·refine d9 (c7 rfl (c7 rfl (d8 (J4 (G6 (C5 (cU ?_))))))); refine C5 ?_; exact ret2 (0, false) rfl rfl rfl rfl rfl (bP (kj3 hk1 (xj4 (by omega)))) nK tK
     have hb3' := hb3; try simp at hb3'
     have hall2 : (s.take (k + 1)).all isDig = true := nj4 hk1 hall (sz9 (by omega) (by omega)); refine j6 (i8 (j0 (b8 rfl ?_))); refine cx2 (numV (s.take k) * 10) rfl rfl rfl (by omega) r6 ?_; refine b8 rfl (b8 rfl ?_); refine E5 k rfl l5 rfl rfl rfl (List.getElem?_eq_getElem hk1) ?_; refine q8 (.int .u8 ((s[k].toNat : Int) - 48)) rfl rfl rfl (fun _ => rfl) (fun w => by show Result.ok (Value.int .u8 (IntKind.u8.wrap ((s[k].toNat : Int) - 48))) w = _; rw [IntWalk.u8_in _ (by omega)]) ?_; refine aH ((s[k].toNat : Int) - 48) rfl aM X8 rfl (IntWalk.i64_in _ (by omega)) ?_; refine v8 (numV (s.take (k + 1))) rfl rfl rfl (gz2 hk1).symm (by have := cz3 hall2 (by rw [List.length_take]; omega); unfold I64; omega) ?_; refine c7 rfl (j4 (w9 (i8 (j0 (b8 rfl ?_))))); refine v8 _ rfl rfl rfl rfl r6 ?_; refine c7 rfl (j4 ?_); exact again _ (k + 1) ⟨by show k + 1 ≤ s.length; omega, hall2⟩ (C8 (by omega)) mC nK tK
    intro hg5; have hg5' := hg5; try simp at hg5'
    refine q7 hg5 (q7 hg5 (q7 hg5 (q7 hg5 ?_))); refine p_t rfl rfl (bt2 hg5) rfl ?_; refine d8 (c_t rfl rfl (d9 (c7 rfl (c7 rfl (d8 (J4 (cU ?_))))))); refine tr_tr (G6 ?_); exact ret2 (0, false) rfl rfl rfl rfl rfl (bP (kj3 hk1 (xj3 (by omega)))) nK tK
   have hb2' := hb2; try simp at hb2'
   have hk1 : k = s.length := by omega
   rw [hk1, List.take_length] at hall; refine w8 (E4 (w6 (i8 (d9 (b8 rfl (c7 rfl (c7 rfl (d8 ?_)))))))); refine k5 ?_; exact ret2 (numV s, true) rfl (by rw [hk1, List.take_length]; rfl) rfl rfl rfl (cz1 (by omega) (by omega) (fun h => by omega) hall) nK tK
  intro hg2; have hg2' := hg2; try simp at hg2'
  refine q7 hg2 (q7 hg2 (q7 hg2 (q7 hg2 (M4 rfl rfl rfl rfl rfl rfl (M4 rfl rfl rfl rfl rfl rfl (M4 rfl rfl rfl rfl rfl rfl (q7 hg2 ?_))))))); refine p_t rfl rfl (bt2 hg2) rfl ?_; refine d8 (c_t rfl rfl (d9 (c7 rfl (c7 rfl (d8 (J4 ?_)))))); exact ret2 (0, false) rfl rfl rfl rfl rfl (V1 (by omega)) nK tK
 intro hg1; have hg1' := hg1; try simp at hg1'
 refine q7 hg1 (q7 hg1 (q7 hg1 ?_)); refine p_t rfl rfl (bt2 hg1) rfl ?_; refine b8 rfl (E2 rfl rfl rfl rfl rfl rfl (E2 rfl rfl rfl rfl rfl rfl (E2 rfl rfl rfl rfl rfl rfl (E2 rfl rfl rfl rfl rfl rfl (M4 rfl rfl rfl rfl rfl rfl (M4 rfl rfl rfl rfl rfl rfl (M4 rfl rfl rfl rfl rfl rfl (E2 rfl rfl rfl rfl rfl rfl (p_t rfl rfl rfl rfl (d8 ?_)))))))))); refine c_t rfl rfl (d9 (c7 rfl (c7 rfl (d8 (J4 ?_))))); exact ret2 (0, false) rfl rfl rfl rfl rfl (V1 (by omega)) nK tK
theorem rz8 {s : Str} {f i : Nat} (h1 : f ≤ i) (h2 : i < s.length) : s.drop f = (s.drop f).take (i - f) ++ s[i] :: s.drop (i + 1) := by
  have e : s[i] :: s.drop (i + 1) = (s.drop f).drop (i - f) := by
    rw [List.drop_drop, show f + (i - f) = i by omega]; exact (List.drop_eq_getElem_cons h2).symm
  rw [e, List.take_append_drop]
def SpI (b : UInt8) (s : Str) (i f : Nat) (done : List Str) : Prop := done.length ≤ i ∧ ((i ≤ s.length ∧ f ≤ i ∧ splitB b s = done ++ splitB b (s.drop f) ∧ b ∉ (s.drop f).take (i - f)) ∨ (i = s.length + 1 ∧ f = s.length + 1 ∧ done = splitB b s))
theorem sp_end {b : UInt8} {s : Str} {f : Nat} {done : List Str} (h : SpI b s s.length f done) : SpI b s (s.length + 1) (s.length + 1) (done ++ [(s.drop f).take (s.length - f)]) := by
  obtain ⟨h0, ⟨h1, h2, h3, h4⟩ | ⟨h1, _⟩⟩ := h
  · refine ⟨by rw [List.length_append, List.length_singleton]; omega, .inr ⟨rfl, rfl, ?_⟩⟩
    have e : (s.drop f).take (s.length - f) = s.drop f := List.take_of_length_le (by rw [List.length_drop]; omega); rw [e] at h4 ⊢; rw [h3, cq7 h4]
  omega
theorem nx2 {b : UInt8} {s : Str} {i f : Nat} {done : List Str} (hi : i = s.length) (h : SpI b s i f done) : SpI b s (i + 1) (i + 1) (done ++ [(s.drop f).take (i - f)]) := by
  subst hi; exact sp_end h
theorem vq5 {b : UInt8} {s : Str} {i f : Nat} {done : List Str} (h : SpI b s i f done) (hi : i < s.length) (hb : s[i] = b) : SpI b s (i + 1) (i + 1) (done ++ [(s.drop f).take (i - f)]) := by
  obtain ⟨h0, ⟨h1, h2, h3, h4⟩ | ⟨h1, _⟩⟩ := h
  · refine ⟨by rw [List.length_append, List.length_singleton]; omega, .inl ⟨hi, Nat.le_refl _, ?_, by simp⟩⟩
    have e := rz8 h2 hi; rw [hb] at e
    have e2 : splitB b (s.drop f) = (s.drop f).take (i - f) :: splitB b (s.drop (i + 1)) := by
      conv => lhs; rw [e]
      exact cq8 _ h4
    rw [h3, e2, List.append_assoc]
    rfl
  omega
theorem vq4 {b : UInt8} {s : Str} {i f : Nat} {done : List Str} (h : SpI b s i f done) (hi : i < s.length) (hb : ¬ s[i] = b) : SpI b s (i + 1) f done := by
  obtain ⟨h0, ⟨h1, h2, h3, h4⟩ | ⟨h1, _⟩⟩ := h
  · refine ⟨by omega, .inl ⟨hi, by omega, h3, ?_⟩⟩
    have hl : i - f < (s.drop f).length := by rw [List.length_drop]; omega
    rw [show i + 1 - f = i - f + 1 by omega, List.take_succ_eq_append_getElem hl]; intro hm
    rcases List.mem_append.1 hm with hm | hm
    · exact h4 hm
    rw [List.mem_singleton, List.getElem_drop] at hm
    apply hb
    rw [hm]
    congr 1
    omega
  omega
set_option maxHeartbeats 1000000 in
theorem pU (s : Str) (b : UInt8) (hs : s.length ≤ 100000) : Meets prog nH [str s, .int .u8 b.toNat] { inv := fun x : OutC => (splitB b s).length ≤ x.2, val := fun x => .slice x.1 (splitB b s).length x.2, LO := fun x => [Row x.1 (rows (splitB b s))] } := by
 refine j3 hj6 rfl t8 fun w0 => ?_; refine d9 (c7 rfl (k6 (c7 rfl (k6 ?_)))); refine c7 rfl (d8 (i7 (d9 (c7 rfl (d8 (j8 ?_)))))); refine y8 (β := Nat × Nat × List Str × OutC × Hp) ⟨fun z => SpI b s z.1 z.2.1 z.2.2.1 ∧ Grow aD 1 z.2.2.2.1.1 z.2.2.1.length z.2.2.2.1.2 (rows z.2.2.1) z.2.2.2.2, fun z => [(0, str s), (1, .int .u8 b.toNat), (5, .slice z.2.2.2.1.1 z.2.2.1.length z.2.2.2.1.2), (6, int z.2.1), (7, int z.1)], fun z => z.2.2.2.2, fun _ => []⟩ (fun z => s.length + 1 - z.1) (0, 0, [], (none, 0), []) ⟨⟨Nat.le_refl _, .inl ⟨Nat.zero_le _, Nat.le_refl _, rfl, by simp⟩⟩, Grow.nil _ _⟩ mC (.refl _) tK fun z hz => ?_; obtain ⟨i, f, done, o, og⟩ := z; obtain ⟨hI, hG⟩ := hz; simp only at hI hG; have hdl := hI.1; refine i7 (d9 (b8 rfl (b8 rfl ?_))); refine C7 rfl l5 rfl ?_; refine xT rfl rfl rfl (d8 ?_); refine m6 rfl (fun hb1 => ?_) (fun hb1 => ?_)
 ·have hi : i ≤ s.length := by simp at hb1; omega
  have hfi : f ≤ i := by
    rcases hI.2 with ⟨_, h, _⟩ | ⟨h, _⟩ <;> omega
  refine j6 (i8 (i7 (j8 (d9 (b8 rfl (b8 rfl ?_)))))); refine C7 rfl l5 rfl ?_; refine G2 rfl rfl rfl (b8 rfl ?_); refine t7 rfl rfl ?_ ?_
  ·intro hg1; have hlt : i < s.length := by simp at hg1; omega
   refine l9 hg1 (b8 rfl (l9 hg1 (b8 rfl (l9 hg1 ?_)))); refine E5 i rfl l5 rfl rfl rfl (List.getElem?_eq_getElem hlt) ?_; refine l9 hg1 (b8 rfl (l9 hg1 (G2 rfl rfl rfl ?_))); refine p_f rfl rfl (bf1 hg1) rfl (d8 ?_); refine m6 rfl (fun hb2 => ?_) (fun hb2 => ?_)
   ·have hsb : s[i] = b := by first | exact UInt8.toNat_inj.1 (by omega) | (simp at hb2; exact UInt8.toNat_inj.1 (by omega))
    refine d9 (b8 rfl (b8 rfl (b8 rfl (b8 rfl ?_)))); refine jP (s := s) f i rfl l5 rfl rfl rfl rfl rfl (by omega) (by omega) (p7 _ rfl rfl (fun _ => lF ..) fun gS => E0 (rows [((s.drop f).take (i - f) : Str)]) (List.prefix_refl _) ?_); refine M2 (done.length + 1) (rows (done ++ [((s.drop f).take (i - f) : Str)])) tU rfl rfl rfl hG (hp' := []) (by rw [List.append_nil]) (Src.row (news := rows [((s.drop f).take (i - f) : Str)]) (m := 1) m0 rfl (M1 _) (by decide)) rfl (C9 done [((s.drop f).take (i - f) : Str)]).symm (by unfold maxLen; omega) (by omega) fun A4 c4 og4 hG4 => ?_; refine c7 rfl (d8 (j0 (b8 rfl ?_))); refine v8 _ rfl rfl rfl rfl r6 ?_; refine c7 rfl (j4 (w9 (i8 (j0 (b8 rfl ?_))))); refine v8 _ rfl rfl rfl rfl r6 ?_; refine c7 rfl (j4 ?_)
    first
    | exact again _ (i + 1, i + 1, done ++ [(s.drop f).take (i - f)], (A4, c4), og4) ⟨vq5 hI hlt hsb, by show Grow _ _ _ (done ++ [_]).length _ _ _; rw [List.length_append]; exact hG4⟩ (C8 (by omega)) ⟨rfl, rfl, by show some _ = some (Value.slice _ (done ++ [_]).length _); rw [List.length_append]; rfl, rfl, rfl, tK⟩ (by rw [List.append_nil]; exact .refl _) tK
    | exact again _ (i + 1, f, done, o, og) ⟨vq4 hI hlt hsb, hG⟩ (C8 (by omega)) mC (.refl _) tK
    | exact again _ (i + 1, i + 1, done ++ [(s.drop f).take (i - f)], (A4, c4), og4) ⟨nx2 hie hI, by show Grow _ _ _ (done ++ [_]).length _ _ _; rw [List.length_append]; exact hG4⟩ (C8 (by omega)) ⟨rfl, rfl, by show some _ = some (Value.slice _ (done ++ [_]).length _); rw [List.length_append]; rfl, rfl, rfl, tK⟩ (by rw [List.append_nil]; exact .refl _) tK
   have hsb : ¬ s[i] = b := fun e => by rw [e] at hb2; simp at hb2
   refine j6 (w9 (i8 (j0 (b8 rfl ?_)))); refine v8 _ rfl rfl rfl rfl r6 ?_; refine c7 rfl (j4 ?_)
   first
   | exact again _ (i + 1, i + 1, done ++ [(s.drop f).take (i - f)], (A4, c4), og4) ⟨vq5 hI hlt hsb, by show Grow _ _ _ (done ++ [_]).length _ _ _; rw [List.length_append]; exact hG4⟩ (C8 (by omega)) ⟨rfl, rfl, by show some _ = some (Value.slice _ (done ++ [_]).length _); rw [List.length_append]; rfl, rfl, rfl, tK⟩ (by rw [List.append_nil]; exact .refl _) tK
   | exact again _ (i + 1, f, done, o, og) ⟨vq4 hI hlt hsb, hG⟩ (C8 (by omega)) mC (.refl _) tK
   | exact again _ (i + 1, i + 1, done ++ [(s.drop f).take (i - f)], (A4, c4), og4) ⟨nx2 hie hI, by show Grow _ _ _ (done ++ [_]).length _ _ _; rw [List.length_append]; exact hG4⟩ (C8 (by omega)) ⟨rfl, rfl, by show some _ = some (Value.slice _ (done ++ [_]).length _); rw [List.length_append]; rfl, rfl, rfl, tK⟩ (by rw [List.append_nil]; exact .refl _) tK
  intro hg1; have hie : i = s.length := by simp at hg1; omega
  refine q7 hg1 (q7 hg1 (q7 hg1 (q7 hg1 (q7 hg1 ?_)))); refine p_t rfl rfl (bt2 hg1) rfl ?_; refine d8 (c_t rfl rfl (d9 (b8 rfl (b8 rfl (b8 rfl (b8 rfl ?_)))))); refine jP (s := s) f i rfl l5 rfl rfl rfl rfl rfl (by omega) (by omega) (p7 _ rfl rfl (fun _ => lF ..) fun gS => E0 (rows [((s.drop f).take (i - f) : Str)]) (List.prefix_refl _) ?_); refine M2 (done.length + 1) (rows (done ++ [((s.drop f).take (i - f) : Str)])) tU rfl rfl rfl hG (hp' := []) (by rw [List.append_nil]) (Src.row (news := rows [((s.drop f).take (i - f) : Str)]) (m := 1) m0 rfl (M1 _) (by decide)) rfl (C9 done [((s.drop f).take (i - f) : Str)]).symm (by unfold maxLen; omega) (by omega) fun A4 c4 og4 hG4 => ?_; refine c7 rfl (d8 (j0 (b8 rfl ?_))); refine v8 _ rfl rfl rfl rfl r6 ?_; refine c7 rfl (j4 (w9 (i8 (j0 (b8 rfl ?_))))); refine v8 _ rfl rfl rfl rfl r6 ?_; refine c7 rfl (j4 ?_)
  first
  | exact again _ (i + 1, i + 1, done ++ [(s.drop f).take (i - f)], (A4, c4), og4) ⟨vq5 hI hlt hsb, by show Grow _ _ _ (done ++ [_]).length _ _ _; rw [List.length_append]; exact hG4⟩ (C8 (by omega)) ⟨rfl, rfl, by show some _ = some (Value.slice _ (done ++ [_]).length _); rw [List.length_append]; rfl, rfl, rfl, tK⟩ (by rw [List.append_nil]; exact .refl _) tK
  | exact again _ (i + 1, f, done, o, og) ⟨vq4 hI hlt hsb, hG⟩ (C8 (by omega)) mC (.refl _) tK
  | exact again _ (i + 1, i + 1, done ++ [(s.drop f).take (i - f)], (A4, c4), og4) ⟨nx2 hie hI, by show Grow _ _ _ (done ++ [_]).length _ _ _; rw [List.length_append]; exact hG4⟩ (C8 (by omega)) ⟨rfl, rfl, by show some _ = some (Value.slice _ (done ++ [_]).length _); rw [List.length_append]; rfl, rfl, rfl, tK⟩ (by rw [List.append_nil]; exact .refl _) tK
 have hdn : done = splitB b s := by
   rcases hI.2 with ⟨h, _⟩ | ⟨_, _, h⟩
   · simp at hb1; omega
   exact h
 subst hdn; refine w8 (E4 (w6 (i8 (d9 (b8 rfl (c7 rfl (d8 (k5 ?_)))))))); refine gz4 hG ?_; exact ret1 o rfl rfl rfl hG.le nK ⟨m0, tK⟩
def numsR (l : List Str) : List Int × Bool := match numsS l with
  | some r => (r, true)
  | none => ([], false)
set_option maxHeartbeats 1000000 in
theorem cA {A : Option Addr} {ca : Nat} (l : List Str) (hn : l.length ≤ 100000) (hl : ∀ t ∈ l, t.length ≤ 1000000) : Meets prog bQ [.slice A l.length ca] { LI := [Row A (rows l)], val := fun x : OutC => .tuple #[.slice x.1 (numsR l).1.length x.2, .bool (numsR l).2], LO := fun x => [Row x.1 (rows (numsR l).1)] } := by
 refine j3 bj6 rfl t8 fun w0 => ?_; refine d9 (c7 rfl (c7 rfl (k6 (c7 rfl (d8 (i7 ?_)))))); refine d9 (c7 rfl (d8 (j8 ?_))); refine y8 (β := Nat × List Int × OutC × Hp) ⟨fun z => z.1 ≤ l.length ∧ numsS (l.take z.1) = some z.2.1 ∧ Grow H8 1 z.2.2.1.1 z.2.1.length z.2.2.1.2 (rows z.2.1) z.2.2.2, fun z => [(0, .slice A l.length ca), (4, .slice z.2.2.1.1 z.2.1.length z.2.2.1.2), (5, int z.1)], fun z => z.2.2.2, fun _ => [Row A (rows l)]⟩ (fun z => l.length - z.1) (0, [], (none, 0), []) ⟨Nat.zero_le _, rfl, Grow.nil _ _⟩ mC (.refl _) mC fun z hz => ?_; obtain ⟨k, r, o, og⟩ := z; obtain ⟨hk0, hr, hG⟩ := hz; simp only at hk0 hr hG; have hrl := sR hr; rw [List.length_take] at hrl; refine i7 (d9 (b8 rfl (b8 rfl ?_))); refine l7 rfl p8 rfl ?_; refine C4 rfl rfl rfl (d8 ?_); refine m6 rfl (fun hb1 => ?_) (fun hb1 => ?_)
 ·have hk : k < l.length := by simp at hb1; omega
  refine j6 (i8 (i7 (j8 (d9 (b8 rfl (b8 rfl ?_)))))); refine r8 (α := Str) l k rfl p8 m7 rfl rfl rfl mB rfl hk (by decide) (c8 (v := str (l.getD k default)) rfl l3 rfl (k9 mB (j9 hk rfl)) (j5 K4 rfl rfl (K3 (l.getD k default) (hl _ (A3 hk))) (hpR := og) (.refl _) tK fun z hz => ?_)); obtain ⟨z, bz⟩ := z; simp only at hz; refine b8 rfl (m4 rfl rfl rfl (m4 rfl rfl rfl (c7 rfl (c7 rfl (d8 (i7 (d9 (b8 rfl (K6 rfl rfl ?_))))))))); refine d8 ?_; refine D0 rfl (fun hb2 => ?_) (fun hb2 => ?_)
  ·have hno : numS (l.getD k default) = none := by rw [hz]; cases bz <;> simp_all
   have hR : numsR l = ([], false) := by rw [numsR, sQ (A3 hk) hno]
   rw [hR]; refine d9 (c7 rfl (c7 rfl (d8 (J4 (G6 (C5 (cU ?_))))))); refine C5 (B5 (α := Int) ?_); exact ret2 (none, 0) rfl rfl rfl rfl rfl tK nK ⟨m0, tK⟩
  have hyes : numS (l.getD k default) = some z := by rw [hz]; cases bz <;> simp_all
  refine j6 (i8 (j0 (b8 rfl (b8 rfl ?_)))); refine p7 _ rfl rfl (fun _ => R8 ..) fun gS => E0 (rows [(z : Int)]) (List.prefix_refl _) ?_; refine M2 (r.length + 1) (rows (r ++ [z])) mG rfl rfl rfl hG (hp' := []) (by rw [List.append_nil]; exact .refl _) (Src.row (news := rows [z]) (m := 1) m0 rfl (M1 _) (by decide)) rfl (C9 r [z]).symm (by unfold maxLen; omega) (by omega) fun A4 c4 og4 hG4 => ?_; refine c7 rfl (j4 (w9 (i8 (j0 (b8 rfl ?_))))); refine v8 _ rfl rfl rfl rfl r6 ?_; refine c7 rfl (j4 ?_); have hr2 : numsS (l.take (k + 1)) = some (r ++ [z]) := by rw [P8 _ k hk]; exact gz1 hr hyes
  exact again _ (k + 1, r ++ [z], (A4, c4), og4) ⟨hk, hr2, by show Grow _ _ _ (r ++ [_]).length _ _ _; rw [List.length_append]; exact hG4⟩ (C8 (by omega)) ⟨rfl, by show some _ = some (Value.slice _ (r ++ [_]).length _); rw [List.length_append]; rfl, rfl, tK⟩ (by rw [List.append_nil]; exact .refl _) mC
 have hk : k = l.length := by simp at hb1; omega
 subst hk; rw [List.take_length] at hr; have hR : numsR l = (r, true) := by rw [numsR, hr]
 rw [hR]; refine w8 (E4 (w6 (i8 (d9 (b8 rfl (c7 rfl (c7 rfl (d8 ?_)))))))); refine k5 (gz4 hG ?_); exact ret2 o rfl rfl rfl rfl rfl tK nK ⟨m0, tK⟩
end Go.Proofs.YtcdopfjiadifhaaGreatDoor
end
