/- References that are free, one added. -/
import Derived.Test.YtlpgheniajdkfaaGreatPm5
namespace Go.Proofs.YtlpgheniajdkfaaGreat
open Go Go.W
set_option linter.unusedVariables false
set_option linter.unusedSimpArgs false
set_option maxRecDepth 20000
attribute [local irreducible] HL HC HQ HB Row Rows2 Blk Facts

/-- A reference that may be added. -/
structure FreeP (hs : List Hd) (i k : Nat) : Prop where
  il : i < hs.length
  kl : k < hs.length
  ne : ¬ i = k
  s : (hs.getD i default).2.2.1 < 0
  a : ¬ (k : Int) ∈ (hs.getD i default).2.2.2.l
def FreeL (hs : List Hd) (p : Sl Int) : Prop := ∃ i k : Nat, p.l = [(i : Int), (k : Int)] ∧ FreeP hs i k
abbrev OutS2 := List (Sl Int) × OutC


def aB (hs : List Hd) (i k j : Nat) : Bool := decide ((j : Int) = (k : Int)) || decide ((j : Int) ∈ (hs.getD i default).2.2.2.l)
def alsoK (hs : List Hd) (i k m : Nat) : List Int := ((List.range m).filter (aB hs i k)).map fun j : Nat => (j : Int)
theorem alsoK_succ (hs : List Hd) (i k m : Nat) : alsoK hs i k (m + 1) = if aB hs i k m = true then alsoK hs i k m ++ [(m : Int)] else alsoK hs i k m := by
  unfold alsoK
  rw [List.range_succ, List.filter_append, List.map_append, List.filter_cons, List.filter_nil]
  by_cases e : aB hs i k m = true
  · rw [if_pos e, if_pos e]; rfl
  · rw [if_neg e, if_neg e]; simp
theorem alsoK_len (hs : List Hd) (i k m : Nat) : (alsoK hs i k m).length ≤ m := by
  unfold alsoK
  rw [List.length_map]
  exact Nat.le_trans (List.length_filter_le _ _) (by simp)
def addP (hs : List Hd) (i k : Nat) : PH := ((hs.getD i default).1, (hs.getD i default).2.1, (hs.getD i default).2.2.1, alsoK hs i k hs.length)
/-- The headings with one reference more. -/
def AddOK (hs : List Hd) (i k : Nat) (hs' : List Hd) : Prop := hs'.map Hd.p = (hs.map Hd.p).set i (addP hs i k)
abbrev OutA := List Hd × OutC × OutC


end Go.Proofs.YtlpgheniajdkfaaGreat
