/- Some of a row of lists. -/
import Derived.Test.YtlpgheniajdkfaaGreatWn
namespace Go.W
open Go Go.RowKit
set_option linter.unusedVariables false
set_option linter.unusedSimpArgs false

theorem hc_rows2_sub {α : Type} [El α] {c : Cx} {Q : Exit → Act → World → Prop} {fr : Fr} {hp : Hp} {L : List Fact} {A A' : Option Addr} {ps qs : List (Sl α)} {x : Code} (h : Row A (rows qs) ∈ L) (h2 : Rows2 A' ps ∈ L) (hs : ∀ p ∈ qs, p ∈ ps) (k : HC c x Q fr hp (Rows2 A qs :: L)) : HC c x Q fr hp L := fun a w ha hw =>
  k a w ha (wi_more hw ⟨hw.fs _ h, fun p hp => (hw.fs _ h2).2 p (hs p hp)⟩ (fun k hk => by
    rcases hk with hk | ⟨p, hp, hk⟩
    · exact ⟨_, h, hk⟩
    · exact ⟨_, h2, .inr ⟨p, hs p hp, hk⟩⟩))
end Go.W
