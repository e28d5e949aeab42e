/- Joins of the document: the walk of first. -/
import Derived.Test.YtlpgheniajdkfaaGreatPnu
import Derived.Test.YtlpgheniajdkfaaGreatWs
namespace Go.Proofs.YtlpgheniajdkfaaGreat
open Go Go.W
set_option linter.unusedVariables false
set_option linter.unusedSimpArgs false
set_option maxRecDepth 20000
attribute [local irreducible] HL HC HQ HB Row Rows2 Blk Facts

theorem ps_len {ps : List (Sl Int)} {l : List Rf} (h : lsts ps = pairsOf l) : ps.length = l.length := by
  have h1 := congrArg List.length h
  rw [lsts_len, pairsOf, List.length_map] at h1
  exact h1
theorem ps_at {ps : List (Sl Int)} {l : List Rf} (h : lsts ps = pairsOf l) {k : Nat} (hk : k < l.length) : (ps.getD k default).l = [(l.getD k default).1, (l.getD k default).2] := by
  rw [← lsts_at ps (by rw [ps_len h]; exact hk), h, List.getD_eq_getElem?_getD]
  unfold pairsOf
  rw [List.getElem?_map, List.getElem?_eq_getElem hk, getD_at hk]
  rfl
theorem not_in {l : List Rf} (hn : l.Nodup) {k : Nat} (hk : k < l.length) {b : List Rf} (hb : ∀ r ∈ b, r ∈ l.take k) : l.getD k default ∉ b := fun hm => by
  have h1 := List.nodup_append.1 (by rw [← take_succ_getD l k hk]; exact hn.sublist (List.take_sublist _ _) : (l.take k ++ [l.getD k default]).Nodup)
  exact h1.2.2 _ (hb _ hm) _ (List.mem_singleton.2 rfl) rfl


end Go.Proofs.YtlpgheniajdkfaaGreat
