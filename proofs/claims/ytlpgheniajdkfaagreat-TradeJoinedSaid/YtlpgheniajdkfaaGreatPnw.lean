/- Joins of the document: the walk of Join. -/
import Derived.Test.YtlpgheniajdkfaaGreatPnv
namespace Go.Proofs.YtlpgheniajdkfaaGreat
open Go Go.W
set_option linter.unusedVariables false
set_option linter.unusedSimpArgs false
set_option maxRecDepth 20000
attribute [local irreducible] HL HC HQ HB Row Rows2 Blk Facts

def frJ (t : Tr) (i k : Nat) : List Rf := frK t i ++ (if (t.hs.getD i default).2.2.1 = -1 then frI t i k else [])
theorem frJ_zero (t : Tr) (i : Nat) : frJ t i 0 = frK t i := by
  unfold frJ
  split
  · exact List.append_nil _
  · exact List.append_nil _
theorem frJ_end (t : Tr) (i : Nat) : frJ t i t.hs.length = frK t (i + 1) := (frK_succ t i).symm
theorem frJ_len (t : Tr) (i k : Nat) : (frJ t i k).length ≤ i * t.hs.length + k := by
  unfold frJ
  have h1 := frK_len t i
  have h2 := frI_len t i k
  rw [List.length_append]
  split
  · omega
  · simp only [List.length_nil]; omega
theorem frJ_yes {cs : List Cl} {hs : List Hd} {i k : Nat} (hse : -1 ≤ (hs.getD i default).2.2.1) (hf : FreeP hs i k) : frJ (trOf cs hs) i (k + 1) = frJ (trOf cs hs) i k ++ [((i : Int), (k : Int))] := by
  have h1 := hf.s
  have h3 : (trOf cs hs).hs.getD i default = (hs.getD i default).p := hd_get hf.il
  have h2 : ((trOf cs hs).hs.getD i default).2.2.1 = -1 := by
    rw [h3]
    show (hs.getD i default).2.2.1 = -1
    omega
  unfold frJ
  rw [if_pos h2, if_pos h2, frI_succ, if_pos, List.append_assoc]
  rw [Bool.and_eq_true, decide_eq_true_eq, Bool.not_eq_true']
  refine ⟨fun e => hf.ne e.symm, ?_⟩
  unfold nextB
  rw [h3, Bool.or_eq_false_iff, decide_eq_false_iff_not, decide_eq_false_iff_not]
  exact ⟨fun e => by have e2 : (hs.getD i default).2.2.1 = (k : Int) := e; omega, hf.a⟩
theorem frJ_no {cs : List Cl} {hs : List Hd} {i k : Nat} (hi : i < hs.length) (h : i = k ∨ ¬ (hs.getD i default).2.2.1 < 0 ∨ (k : Int) ∈ (hs.getD i default).2.2.2.l) : frJ (trOf cs hs) i (k + 1) = frJ (trOf cs hs) i k := by
  have h3 : (trOf cs hs).hs.getD i default = (hs.getD i default).p := hd_get hi
  unfold frJ
  by_cases h2 : ((trOf cs hs).hs.getD i default).2.2.1 = -1
  · rw [if_pos h2, if_pos h2, frI_succ, if_neg]
    rw [Bool.and_eq_true, decide_eq_true_eq, Bool.not_eq_true']
    rintro ⟨h4, h5⟩
    unfold nextB at h5
    rw [h3, Bool.or_eq_false_iff, decide_eq_false_iff_not, decide_eq_false_iff_not] at h5
    rw [h3] at h2
    have h6 : (hs.getD i default).2.2.1 = -1 := h2
    rcases h with h | h | h
    · exact h4 h.symm
    · omega
    · exact h5.2 h
  · rw [if_neg h2, if_neg h2]


end Go.Proofs.YtlpgheniajdkfaaGreat
