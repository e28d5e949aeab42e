/- Plain laws for ProofWay. -/
import Derived.Test.YtpbbgbjidhffoaaPqf
namespace Go.Proofs.Ytpbbgbjidhffoaa
open Go Go.W
set_option linter.unusedVariables false

theorem LCS.symm {α : Type} {a b : List α} {n : Nat} (h : LCS a b n) : LCS b a n := by
  obtain ⟨s, s1, s2, s3⟩ := h.ex
  exact ⟨⟨s, s2, s1, s3⟩, fun t t1 t2 => h.le t t2 t1⟩
theorem common_symm (a b : List Str) : commonI a b = commonI b a := by
  obtain ⟨n, e, l⟩ := common_lcs a b
  obtain ⟨m, e2, l2⟩ := common_lcs b a
  rw [e, e2, l.uniq l2.symm]
theorem way_tri (a b c : List Str) : (c.length : Int) - commonI a c ≤ ((b.length : Int) - commonI a b) + ((c.length : Int) - commonI b c) := by
  obtain ⟨n, e, l⟩ := common_lcs a b
  obtain ⟨m, e2, l2⟩ := common_lcs b c
  obtain ⟨k, e3, l3⟩ := common_lcs a c
  have := l.tri l2 l3
  omega
theorem way_zero (a b : List Str) : ((b.length : Int) - commonI a b = 0) ↔ commonI b a = b.length := by
  rw [common_symm b a]
  omega
theorem common_bd (a b : List Str) : 0 ≤ commonI a b ∧ commonI a b ≤ a.length ∧ commonI a b ≤ b.length := by
  obtain ⟨n, e, l⟩ := common_lcs a b
  obtain ⟨s, s1, s2, s3⟩ := l.ex
  have := s1.length_le
  have := s2.length_le
  omega


end Go.Proofs.Ytpbbgbjidhffoaa
