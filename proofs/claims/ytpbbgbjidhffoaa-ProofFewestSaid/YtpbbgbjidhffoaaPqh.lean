/- Plain laws for ProofFewest: the best of all lists of marks is the document's. -/
import Derived.Test.YtpbbgbjidhffoaaPqa
namespace Go.Proofs.Ytpbbgbjidhffoaa
open Go Go.W
set_option linter.unusedVariables false
set_option linter.unusedSimpArgs false
set_option maxRecDepth 20000
attribute [local irreducible] HL HC HQ HB Row Rows2 Blk Facts

/-- All marks that make a page's end out of an old one's. -/
def allL (a b : List Str) : Nat → Nat → Nat → List (List Mk)
  | 0, i, k => [[]]
  | d + 1, i, k => if i = a.length ∧ k = b.length then [[]] else
    (if i < a.length ∧ k < b.length ∧ a.getD i default = b.getD k default then allL a b d (i + 1) (k + 1) else []) ++
    ((if k < b.length then (allL a b d i (k + 1)).map ((1, (i : Int), b.getD k default) :: ·) else []) ++
    ((if i < a.length then (allL a b d (i + 1) k).map ((3, (i : Int), []) :: ·) else []) ++
    (if i < a.length ∧ k < b.length then (allL a b d (i + 1) (k + 1)).map ((2, (i : Int), b.getD k default) :: ·) else [])))
def pickAll (begun : List Mk) (U : List (List Mk)) (o : Option (List Mk)) : Option (List Mk) := (U.map (begun ++ ·)).foldl pickR o
theorem pickAll_nil (g : List Mk) (o : Option (List Mk)) : pickAll g [] o = o := rfl
theorem pickAll_one (g : List Mk) (o : Option (List Mk)) : pickAll g [[]] o = pickR o g := by simp [pickAll]
theorem pickAll_append (g : List Mk) (U V : List (List Mk)) (o : Option (List Mk)) : pickAll g (U ++ V) o = pickAll g V (pickAll g U o) := by simp [pickAll]
theorem pickAll_map (g : List Mk) (m : Mk) (U : List (List Mk)) (o : Option (List Mk)) : pickAll g (U.map (m :: ·)) o = pickAll (g ++ [m]) U o := by
  unfold pickAll
  rw [List.map_map]
  congr 1
  apply List.map_congr_left
  intro x _
  simp
theorem BestO.all {S : List (List Mk)} {o : Option (List Mk)} (h : BestO S o) : ∀ U : List (List Mk), BestO (S ++ U) (U.foldl pickR o)
  | [] => by simpa using h
  | l :: U => by
    have := (h.pick l).all U
    rw [List.append_assoc] at this
    exact this
theorem cons_map_ne (m : Mk) (x y : List Mk) : Bt (m :: x) (m :: y) ↔ Bt x y := by
  unfold Bt
  have e : ∀ l : List Mk, cL (m :: l) = ((costM l : Int) + (if m.1 = 3 then 0 else 1), m :: l) := by
    intro l
    rw [← behindP_cL]
    unfold behindP
    split <;> simp
  rw [e, e, cmpL, cmpL, orL3, orL3]
  have h1 : ∀ a b c : Int, cmpI (a + c) (b + c) = cmpI a b := by
    intro a b c
    unfold cmpI
    split <;> split <;> (try split) <;> (try split) <;> omega
  have h2 : cmpMs (m :: x) (m :: y) = cmpMs x y := by
    rw [cmpMs, if_neg (by rw [(good_Mk.eq m m).2 rfl]; decide)]
  simp only [List.length_cons, Int.natCast_add, h1, h2]
theorem Bt.chain {x g b : List Mk} (h : ¬ Bt x g) (h2 : ¬ Bt g b) : ¬ Bt x b := by
  intro hx
  by_cases h3 : Bt g x
  · exact h2 (h3.trans hx)
  · have := Bt.tri h h3
    subst this
    exact h2 hx
/-- Bests of parts make the best of all. -/
theorem Best.parts {S U : List (List Mk)} {b : List Mk} (h : Best S b) (h1 : ∀ g ∈ S, g ∈ U) (h2 : ∀ x ∈ U, ∃ g ∈ S, ¬ Bt x g) : Best U b where
  mem := h1 b h.mem
  le x hx := by
    obtain ⟨g, hg, hn⟩ := h2 x hx
    exact Bt.chain hn (h.le g hg)
theorem dr3_best (a b : List Str) (i k : Nat) : BestO ((if i < a.length ∧ k < b.length ∧ a.getD i default = b.getD k default then [diffR a b (i + 1) (k + 1)] else []) ++ (if k < b.length then [(1, (i : Int), b.getD k default) :: diffR a b i (k + 1)] else []) ++ (if i < a.length ∧ k < b.length then [(2, (i : Int), b.getD k default) :: diffR a b (i + 1) (k + 1)] else []) ++ (if i < a.length then [(3, (i : Int), ([] : Str)) :: diffR a b (i + 1) k] else [])) (dr3 a b i k) := by
  have b0 : BestO (if i < a.length ∧ k < b.length ∧ a.getD i default = b.getD k default then [diffR a b (i + 1) (k + 1)] else []) (dr0 a b i k) := by
    unfold dr0
    split
    · exact .inr ⟨_, rfl, by simp, fun x hx => by simp at hx; subst hx; exact Bt.irr _⟩
    · exact .inl ⟨rfl, rfl⟩
  generalize (if i < a.length ∧ k < b.length ∧ a.getD i default = b.getD k default then [diffR a b (i + 1) (k + 1)] else []) = S0 at *
  have b1 : BestO (S0 ++ (if k < b.length then [(1, (i : Int), b.getD k default) :: diffR a b i (k + 1)] else [])) (dr1 a b i k) := by
    unfold dr1
    split
    · exact b0.pick _
    · simpa using b0
  generalize S0 ++ (if k < b.length then [(1, (i : Int), b.getD k default) :: diffR a b i (k + 1)] else []) = S1 at *
  have b2 : BestO (S1 ++ (if i < a.length ∧ k < b.length then [(2, (i : Int), b.getD k default) :: diffR a b (i + 1) (k + 1)] else [])) (dr2 a b i k) := by
    unfold dr2
    split
    · exact b1.pick _
    · simpa using b1
  generalize S1 ++ (if i < a.length ∧ k < b.length then [(2, (i : Int), b.getD k default) :: diffR a b (i + 1) (k + 1)] else []) = S2 at *
  unfold dr3
  split
  · exact b2.pick _
  · simpa using b2
theorem all_best (a b : List Str) : ∀ (d i k : Nat), (a.length - i) + (b.length - k) ≤ d → i ≤ a.length → k ≤ b.length → Best (allL a b d i k) (diffR a b i k) := by
  intro d
  induction d with
  | zero =>
    intro i k h hi hk
    rw [diffR_eq, if_pos ⟨by omega, by omega⟩]
    exact ⟨by simp [allL], fun x hx => by simp [allL] at hx; subst hx; exact Bt.irr _⟩
  | succ d ih =>
    intro i k h hi hk
    by_cases he : i = a.length ∧ k = b.length
    · rw [diffR_eq, if_pos he, allL, if_pos he]
      exact ⟨by simp, fun x hx => by simp at hx; subst hx; exact Bt.irr _⟩
    · rw [diffR_eq, if_neg he, allL, if_neg he]
      rcases dr3_best a b i k with ⟨h0, _⟩ | ⟨g, hg, hB⟩
      · exfalso
        by_cases hk2 : k < b.length
        · simp [hk2] at h0
        · have hi2 : i < a.length := by omega
          simp [hi2] at h0
      · rw [hg]
        refine hB.parts ?_ ?_
        · intro x hx
          simp only [List.mem_append] at hx ⊢
          rcases hx with ((hx | hx) | hx) | hx
          · split at hx
            · rename_i h1
              rw [List.mem_singleton] at hx
              subst hx
              rw [if_pos h1]
              exact .inl (ih (i + 1) (k + 1) (by omega) (by omega) (by omega)).mem
            · simp at hx
          · split at hx
            · rename_i h1
              rw [List.mem_singleton] at hx
              subst hx
              rw [if_pos h1]
              exact .inr (.inl (List.mem_map_of_mem (ih i (k + 1) (by omega) (by omega) (by omega)).mem))
            · simp at hx
          · split at hx
            · rename_i h1
              rw [List.mem_singleton] at hx
              subst hx
              rw [if_pos h1]
              exact .inr (.inr (.inr (List.mem_map_of_mem (ih (i + 1) (k + 1) (by omega) (by omega) (by omega)).mem)))
            · simp at hx
          · split at hx
            · rename_i h1
              rw [List.mem_singleton] at hx
              subst hx
              rw [if_pos h1]
              exact .inr (.inr (.inl (List.mem_map_of_mem (ih (i + 1) k (by omega) (by omega) (by omega)).mem)))
            · simp at hx
        · intro x hx
          simp only [List.mem_append] at hx
          rcases hx with hx | hx | hx | hx
          · split at hx
            · rename_i h1
              exact ⟨diffR a b (i + 1) (k + 1), by rw [if_pos h1]; simp, (ih (i + 1) (k + 1) (by omega) (by omega) (by omega)).le x hx⟩
            · simp at hx
          · split at hx
            · rename_i h1
              obtain ⟨y, hy, rfl⟩ := List.mem_map.1 hx
              exact ⟨(1, (i : Int), b.getD k default) :: diffR a b i (k + 1), by rw [if_pos h1]; simp, fun hb => (ih i (k + 1) (by omega) (by omega) (by omega)).le y hy ((cons_map_ne _ _ _).1 hb)⟩
            · simp at hx
          · split at hx
            · rename_i h1
              obtain ⟨y, hy, rfl⟩ := List.mem_map.1 hx
              exact ⟨(3, (i : Int), []) :: diffR a b (i + 1) k, by rw [if_pos h1]; simp, fun hb => (ih (i + 1) k (by omega) (by omega) (by omega)).le y hy ((cons_map_ne _ _ _).1 hb)⟩
            · simp at hx
          · split at hx
            · rename_i h1
              obtain ⟨y, hy, rfl⟩ := List.mem_map.1 hx
              refine ⟨(2, (i : Int), b.getD k default) :: diffR a b (i + 1) (k + 1), ?_, fun hb => (ih (i + 1) (k + 1) (by omega) (by omega) (by omega)).le y hy ((cons_map_ne _ _ _).1 hb)⟩
              rw [if_pos h1]
              simp
            · simp at hx
/-- All lists tried, the best one kept: it is the document's. -/
theorem pick_all (a b : List Str) (d : Nat) (h : a.length + b.length ≤ d) : pickAll [] (allL a b d 0 0) none = some (diffR a b 0 0) := by
  have h1 := all_best a b d 0 0 (by omega) (Nat.zero_le _) (Nat.zero_le _)
  have h2 := BestO.all (S := []) (o := none) (.inl ⟨rfl, rfl⟩) (allL a b d 0 0)
  have e : pickAll [] (allL a b d 0 0) none = (allL a b d 0 0).foldl pickR none := by simp [pickAll]
  rw [e]
  rcases h2 with ⟨h3, _⟩ | ⟨g, hg, hB⟩
  · rw [List.nil_append] at h3
    have := h1.mem
    rw [h3] at this
    simp at this
  · rw [hg, List.nil_append] at *
    rw [hB.uniq h1 hB.mem h1.mem]


end Go.Proofs.Ytpbbgbjidhffoaa
