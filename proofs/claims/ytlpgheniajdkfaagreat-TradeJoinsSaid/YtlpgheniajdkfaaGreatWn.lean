/- More rules: facts of nothing; rows of rows that grow by many. -/
import Derived.Test.YtlpgheniajdkfaaGreatWk
namespace Go.W
open Go Go.RowKit
set_option linter.unusedVariables false
set_option linter.unusedSimpArgs false
theorem ptr_inj {a b : Nat} (h : Value.pointer (some ⟨a, 0, none⟩) = Value.pointer (some ⟨b, 0, none⟩)) : a = b := by cases h; rfl
section
variable {c : Cx} {Q : Exit → Act → World → Prop} {fr : Fr} {hp : Hp} {L : List Fact} {ops : Array Oper} {rest : List Oper}
variable {α : Type} [El α]
/-- The inner rows of some slices. -/
abbrev innerF (ps : List (Sl α)) : Fact := Facts (ps.map fun p => Row p.a (rows p.l))
theorem hc_rows2F {A : Option Addr} {ps : List (Sl α)} {x : Code} (h : Row A (rows ps) ∈ L) (h2 : innerF ps ∈ L) (k : HC c x Q fr hp (Rows2 A ps :: L)) : HC c x Q fr hp L := fun a w ha hw =>
  k a w ha (by
    have : ∀ p ∈ ps, (Row p.a (rows p.l)).P w := fun p hp => hw.fs _ h2 _ (List.mem_map.2 ⟨p, hp, rfl⟩)
    refine wi_more hw ⟨hw.fs _ h, this⟩ (fun k hk => ?_)
    rcases hk with hk | ⟨p, hp, hk⟩
    · exact ⟨_, h, hk⟩
    · exact ⟨_, h2, _, List.mem_map.2 ⟨p, hp, rfl⟩, hk⟩)
end
end Go.W
