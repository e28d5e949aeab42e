/- DupTrades. -/
import Derived.Test.YtlpgheniajdkfaaGreatPm4
import Derived.Test.YtlpgheniajdkfaaGreatWr
namespace Go.Proofs.YtlpgheniajdkfaaGreat
open Go Go.W
set_option linter.unusedVariables false
set_option linter.unusedSimpArgs false
set_option maxRecDepth 20000
attribute [local irreducible] HL HC HQ HB Row Rows2 Blk Facts

theorem innerF_set {α : Type} {ps : List α} {f : α → Fact} {L : List Fact} {k : Nat} {p : α} (h : innersF ps f ∈ L) (h2 : f p ∈ L) : ∀ F ∈ (ps.set k p).map f, F ∈ L ∨ ∃ Gs, Facts Gs ∈ L ∧ F ∈ Gs := by
  intro F hF
  obtain ⟨q, hq, rfl⟩ := List.mem_map.1 hF
  rcases List.mem_or_eq_of_mem_set hq with hq | rfl
  · exact .inr ⟨_, h, List.mem_map.2 ⟨q, hq, rfl⟩⟩
  · exact .inl h2
abbrev OutD := (OutC × Hp) × List Hd × (OutC × Hp)
/-- Copies of classes and headings that may be written. -/
structure DupOK (cs : List Cl) (hs : List Hd) (x : OutD) : Prop where
  a : GrowE T.api_Class 2 x.1.1.1 cs.length x.1.1.2 (rows cs) x.1.2
  b : GrowE T.api_Head 4 x.2.2.1.1 x.2.1.length x.2.2.1.2 (rows x.2.1) x.2.2.2
  p : x.2.1.map Hd.p = hs.map Hd.p
theorem p_set {hs hs2 : List Hd} {k : Nat} {h : Hd} (hp : hs2.map Hd.p = hs.map Hd.p) (hk : k < hs2.length) (he : h.p = (hs2.getD k default).p) : (hs2.set k h).map Hd.p = hs.map Hd.p := by
  rw [← hp, List.map_set, he]
  refine List.ext_getElem (by simp) fun i h1 h2 => ?_
  rw [List.getElem_set]
  split
  · rename_i e; subst e; rw [getD_at hk, List.getElem_map]
  · rfl
theorem p_len {hs hs2 : List Hd} (hp : hs2.map Hd.p = hs.map Hd.p) : hs2.length = hs.length := by
  have := congrArg List.length hp
  simpa using this
theorem p_at {hs hs2 : List Hd} (hp : hs2.map Hd.p = hs.map Hd.p) {k : Nat} (hk : k < hs2.length) : (hs2.getD k default).p = (hs.getD k default).p := by
  have h1 := p_len hp
  have h2 : (hs2.map Hd.p)[k]? = (hs.map Hd.p)[k]? := by rw [hp]
  rw [List.getElem?_map, List.getElem?_map, List.getElem?_eq_getElem hk, List.getElem?_eq_getElem (show k < hs.length by omega)] at h2
  rw [getD_at hk, getD_at (show k < hs.length by omega)]
  simpa using h2


end Go.Proofs.YtlpgheniajdkfaaGreat
