/- More rules: facts of nothing; rows of rows that grow by many. -/
import Derived.Test.YtlpgheniajdkfaaGreatWk
namespace Go.W
open Go Go.RowKit
set_option linter.unusedVariables false
set_option linter.unusedSimpArgs false
theorem ptr_inj {a b : Nat} (h : Value.pointer (some ⟨a, 0, none⟩) = Value.pointer (some ⟨b, 0, none⟩)) : a = b := by cases h; rfl
section
variable {c : Cx} {Q : Exit → Act → World → Prop} {fr : Fr} {hp : Hp} {L : List Fact} {ops : Array Oper} {rest : List Oper}
theorem hc_nilrow {x : Code} {α : Type} [El α] (k : HC c x Q fr hp (Row none (rows ([] : List α)) :: L)) : HC c x Q fr hp L := hc_more (F := Row none (rows ([] : List α))) (fun w _ => Row.nil _ w) (fun k hk => by obtain ⟨_, e, _⟩ := hk; cases e) k
variable {α : Type} [El α]
/-- The inner rows of some slices. -/
abbrev innerF (ps : List (Sl α)) : Fact := Facts (ps.map fun p => Row p.a (rows p.l))
theorem wi_inners {b : Bx} {w : World} {A : Option Addr} {ps : List (Sl α)} (h : Rows2 A ps ∈ L) (hw : WI b w hp L) : WI b w hp (innerF ps :: L) :=
  wi_more hw (fun F hF => by
    obtain ⟨p, hp', rfl⟩ := List.mem_map.1 hF
    exact (wi_inner h hp' hw).fs _ m0) (fun k hk => by
    obtain ⟨F, hF, hk⟩ := hk
    obtain ⟨p, hp', rfl⟩ := List.mem_map.1 hF
    exact ⟨_, h, .inr ⟨p, hp', hk⟩⟩)
theorem hl_inners {A : Option Addr} {ps : List (Sl α)} (h : Rows2 A ps ∈ L) (k : HL c ops Q rest fr hp (innerF ps :: L)) : HL c ops Q rest fr hp L := fun a w ha hw => k a w ha (wi_inners h hw)
theorem hc_inners {A : Option Addr} {ps : List (Sl α)} {x : Code} (h : Rows2 A ps ∈ L) (k : HC c x Q fr hp (innerF ps :: L)) : HC c x Q fr hp L := fun a w ha hw => k a w ha (wi_inners h hw)
theorem inner_app {ps qs : List (Sl α)} (h : innerF ps ∈ L) (h2 : innerF qs ∈ L) : ∀ F ∈ (ps ++ qs).map (fun p => Row p.a (rows p.l)), F ∈ L ∨ ∃ Gs, Facts Gs ∈ L ∧ F ∈ Gs := by
  intro F hF
  rw [List.map_append] at hF
  rcases List.mem_append.1 hF with hF | hF
  · exact .inr ⟨_, h, hF⟩
  · exact .inr ⟨_, h2, hF⟩
theorem hc_rows2F {A : Option Addr} {ps : List (Sl α)} {x : Code} (h : Row A (rows ps) ∈ L) (h2 : innerF ps ∈ L) (k : HC c x Q fr hp (Rows2 A ps :: L)) : HC c x Q fr hp L := fun a w ha hw =>
  k a w ha (by
    have : ∀ p ∈ ps, (Row p.a (rows p.l)).P w := fun p hp => hw.fs _ h2 _ (List.mem_map.2 ⟨p, hp, rfl⟩)
    refine wi_more hw ⟨hw.fs _ h, this⟩ (fun k hk => ?_)
    rcases hk with hk | ⟨p, hp, hk⟩
    · exact ⟨_, h, hk⟩
    · exact ⟨_, h2, _, List.mem_map.2 ⟨p, hp, rfl⟩, hk⟩)
theorem hq_letgoN {g : Nat} {cs : Array Value} {t : TypeId} {e : Exit} (us : List Value) (hu : us <+: cs.toList) (k : HQ c Q e fr hp (Row (some ⟨g, 0, none⟩) us :: L)) : HQ c Q e fr ((g, .cells cs t (0, 0)) :: hp) L := hq_letgo us hu k
end
end Go.W
