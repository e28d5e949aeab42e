/- Trades as they lie, in rows of them; equal trades; short ones; the lists of trades that statements try. -/
import Derived.Test.YtlpgheniajdkfaaGreatPm5
namespace Go.Proofs.YtlpgheniajdkfaaGreat
open Go Go.W
set_option linter.unusedVariables false
set_option linter.unusedSimpArgs false
set_option maxRecDepth 20000
attribute [local irreducible] HL HC HQ HB Row Rows2 Blk Facts

abbrev Td := Sl Cl × Sl Hd
instance : El Td where
  default := (⟨none, 0, []⟩, ⟨none, 0, []⟩)
  cells m := [.slice m.1.a m.1.l.length m.1.c, .slice m.2.a m.2.l.length m.2.c]
  sz := 2
  len _ := rfl
  one a u h := by simp at h; rcases h with h | h <;> subst h <;> rfl
/-- What trades lean on. -/
abbrev Td.row (d : Td) : Fact := Facts [Row d.1.a (rows d.1.l), RowsF d.2.a d.2.l Hd.row]
structure TdOK (d : Td) : Prop where
  a : d.1.l.length ≤ d.1.c
  b : d.2.l.length ≤ d.2.c
  c : d.1.l.length ≤ 20
  h : d.2.l.length ≤ 20
  ha : ∀ h ∈ d.2.l, h.2.2.2.l.length ≤ 1000000
  wc : ∀ x ∈ d.1.l, x.1.length ≤ 1000
  wh : ∀ h ∈ d.2.l, h.1.length ≤ 1000





end Go.Proofs.YtlpgheniajdkfaaGreat
