/- More rules: facts of nothing; rows of rows that grow by many. -/
import Derived.Test.YtpbbgbjidhffoaaWk
namespace Go.W
open Go Go.RowKit
set_option linter.unusedVariables false
set_option linter.unusedSimpArgs false
section
variable {c : Cx} {Q : Exit → Act → World → Prop} {fr : Fr} {hp : Hp} {L : List Fact} {ops : Array Oper} {rest : List Oper}
theorem hc_nilrow {x : Code} {α : Type} [El α] (k : HC c x Q fr hp (Row none (rows ([] : List α)) :: L)) : HC c x Q fr hp L := hc_more (F := Row none (rows ([] : List α))) (fun w _ => Row.nil _ w) (fun k hk => by obtain ⟨_, e, _⟩ := hk; cases e) k
variable {α : Type} [El α]
/-- The inner rows of some slices. -/
abbrev innerF (ps : List (Sl α)) : Fact := Facts (ps.map fun p => Row p.a (rows p.l))
theorem wi_inners {b : Bx} {w : World} {A : Option Addr} {ps : List (Sl α)} (h : Rows2 A ps ∈ L) (hw : WI b w hp L) : WI b w hp (innerF ps :: L) :=
  wi_more hw (fun F hF => by
    obtain ⟨p, hp', rfl⟩ := List.mem_map.1 hF
    exact (wi_inner h hp' hw).fs _ m0) (fun k hk => by
    obtain ⟨F, hF, hk⟩ := hk
    obtain ⟨p, hp', rfl⟩ := List.mem_map.1 hF
    exact ⟨_, h, .inr ⟨p, hp', hk⟩⟩)
theorem hl_inners {A : Option Addr} {ps : List (Sl α)} (h : Rows2 A ps ∈ L) (k : HL c ops Q rest fr hp (innerF ps :: L)) : HL c ops Q rest fr hp L := fun a w ha hw => k a w ha (wi_inners h hw)
theorem hc_inners {A : Option Addr} {ps : List (Sl α)} {x : Code} (h : Rows2 A ps ∈ L) (k : HC c x Q fr hp (innerF ps :: L)) : HC c x Q fr hp L := fun a w ha hw => k a w ha (wi_inners h hw)
theorem inner_app {ps qs : List (Sl α)} (h : innerF ps ∈ L) (h2 : innerF qs ∈ L) : ∀ F ∈ (ps ++ qs).map (fun p => Row p.a (rows p.l)), F ∈ L ∨ ∃ Gs, Facts Gs ∈ L ∧ F ∈ Gs := by
  intro F hF
  rw [List.map_append] at hF
  rcases List.mem_append.1 hF with hF | hF
  · exact .inr ⟨_, h, hF⟩
  · exact .inr ⟨_, h2, hF⟩
end
end Go.W
