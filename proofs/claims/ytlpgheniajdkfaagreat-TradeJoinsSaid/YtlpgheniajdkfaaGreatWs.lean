/- A row of lists with one more in front. -/
import Derived.Test.YtlpgheniajdkfaaGreatWn
namespace Go.W
open Go Go.RowKit
set_option linter.unusedVariables false
set_option linter.unusedSimpArgs false

theorem hq_cons2 {α : Type} [El α] {c : Cx} {Q : Exit → Act → World → Prop} {fr : Fr} {hp : Hp} {L : List Fact} {A A' : Option Addr} {p : Sl α} {ps : List (Sl α)} {e : Exit} (h : Row A (rows (p :: ps)) ∈ L) (h1 : Row p.a (rows p.l) ∈ L) (h2 : Rows2 A' ps ∈ L) (k : HQ c Q e fr hp (Rows2 A (p :: ps) :: L)) : HQ c Q e fr hp L := fun a w ha hw =>
  k a w ha (wi_more hw ⟨hw.fs _ h, fun q hq => by
    rcases List.mem_cons.1 hq with e1 | hq
    · subst e1; exact hw.fs _ h1
    · exact (hw.fs _ h2).2 q hq⟩ (fun k hk => by
    rcases hk with hk | ⟨q, hq, hk⟩
    · exact ⟨_, h, hk⟩
    · rcases List.mem_cons.1 hq with e1 | hq
      · subst e1; exact ⟨_, h1, hk⟩
      · exact ⟨_, h2, .inr ⟨q, hq, hk⟩⟩))
end Go.W
