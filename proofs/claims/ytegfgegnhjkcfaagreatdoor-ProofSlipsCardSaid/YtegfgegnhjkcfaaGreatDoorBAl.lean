/- Texts of this claim, one behind another. -/
import Derived.ProofKit
import Derived.OpenShut
import Derived.ShutString
import Derived.ChangeOld
import Derived.Below
import Derived.SliceStrings
import Derived.ChangeSlices
import Derived.Deep.Slices
import Derived.Deep.Strs
import Derived.Test.YtegfgegnhjkcfaaGreatDoorBAj
import Derived.Test.YtegfgegnhjkcfaaGreatDoorBAk
import Derived.Test.YtegfgegnhjkcfaaGreatDoorBAi
import Derived.Test.YtegfgegnhjkcfaaGreatDoorBAf
set_option linter.unusedVariables false
set_option linter.unusedSimpArgs false
section
namespace Go.Proofs.YtegfgegnhjkcfaaGreatDoor
open Go Go.W
set_option maxRecDepth 20000
attribute [local irreducible] HL HC HQ HB Row Rows2 Blk Facts
def longP (p : List Str) : Bool := (p.any fun s => decide (30 < s.length)) || decide (20 < p.length)
def manyP (l : List Mk) : Bool := (l.any fun m => decide (30 < m.2.2.length)) || decide (20 < l.length)
def oldP (ys : List (List Str)) : Bool := (ys.any longP) || decide (20 < ys.length)
theorem xP {l : List Mk} (h : manyP l = false) : l.length ≤ 20 := by
  simp only [manyP, Bool.or_eq_false_iff, decide_eq_false_iff_not] at h
  omega
theorem az8 {α : Type} [Inhabited α] {f : α → Bool} {l : List α} {k : Nat} (hk : k < l.length) (h : (l.take k).any f = false) (h1 : f (l.getD k default) = false) : (l.take (k + 1)).any f = false := by
  rw [u0 l k hk, List.any_append, h]; simp only [List.any_cons, List.any_nil, h1, Bool.or_false]
theorem any_at2 {α : Type} [Inhabited α] {f : α → Bool} {l : List α} {k : Nat} (hk : k < l.length) (h1 : f (l.getD k default) = true) : l.any f = true := List.any_eq_true.2 ⟨_, L3 hk, h1⟩
theorem nJ {A : Option Addr} {c : Nat} (l : List Mk) (hl : l.length ≤ 9223372036854775807) : Meets Tryz.prog F.kB [.slice A l.length c] { LI := [Row A (rows l)], val := fun _ : Unit => .bool (manyP l) } := by
 refine c4 F.vS rfl l5 fun w0 => ?_; refine a9 (a8 rfl (a7 (b5 (a9 (a8 rfl (a7 (j0 ?_))))))); refine s9 (β := Nat) ⟨fun k => k ≤ l.length ∧ (l.take k).any (fun m => decide (30 < m.2.2.length)) = false, fun k => [(0, .slice A l.length c), (3, int k)], fun _ => [], fun _ => [Row A (rows l)]⟩ (fun k => l.length - k) 0 ⟨Nat.zero_le _, rfl⟩ mC (.refl _) ⟨m0, trivial⟩ fun k hk => ?_; obtain ⟨hk, ht⟩ := hk; refine b5 (a9 (a5 rfl (a5 rfl ?_))); refine j9 rfl T.j3 rfl ?_; refine r6 rfl rfl rfl (a7 ?_)
 first | refine i8 rfl (fun hb1 => ?_) (fun hb1 => ?_) | refine b9 rfl (fun hb1 => ?_) (fun hb1 => ?_)
 ·have hb1' := hb1; try simp at hb1'
  have hk2 : k < l.length := by omega
  refine c3 (b6 (b5 (j0 (a9 (a5 rfl (a5 rfl ?_)))))); refine r7 (α := Mk) _ _ rfl T.j3 T.c7 rfl rfl rfl mB rfl (by omega) (by decide) ?_
  first | refine a3 ⟨_, 2, none⟩ rfl rfl T.k6 rfl ?_ | refine a3 _ rfl rfl T.k6 rfl ?_
  refine a4 rfl T.j1 rfl (b8 mB (rows_get (by omega) rfl)) (l4 rfl T.i2 rfl ?_); refine v9 rfl rfl rfl (a7 ?_)
  first | refine i8 rfl (fun hb2 => ?_) (fun hb2 => ?_) | refine b9 rfl (fun hb2 => ?_) (fun hb2 => ?_)
  ·have hb2' := hb2; try simp at hb2'
   have h1 := any_at2 (f := fun m => decide (30 < m.2.2.length)) hk2 (decide_eq_true (p := 30 < (l.getD k default).2.2.length) (by omega)); refine a9 (a8 rfl (a7 (i6 (t5 (l6 (t5 ?_)))))); exact ret1 () rfl (congrArg (fun b => some (Value.bool b)) (by rw [manyP, h1]; rfl)) rfl trivial i1 trivial
  have hb2' := hb2; try simp at hb2'
  have h1 : (fun m => decide (30 < m.2.2.length)) (l.getD k default) = false := decide_eq_false (p := 30 < (l.getD k default).2.2.length) (by omega); refine c3 (q9 (b6 (c6 (a5 rfl ?_)))); refine p7 _ rfl rfl rfl rfl l9 ?_; refine a8 rfl (b3 ?_); exact again _ (k + 1) ⟨by omega, az8 hk2 ht h1⟩ (y5 (by omega)) mC (.refl _) ⟨m0, trivial⟩
 have hb1' := hb1; try simp at hb1'
 have hk2 : k = l.length := by omega
 subst hk2; rw [List.take_length] at ht; refine n5 (y6 (n4 (b6 (a9 (a5 rfl ?_))))); refine j9 rfl T.j3 rfl ?_; refine v9 rfl rfl rfl (a8 rfl (a7 (i6 ?_))); exact ret1 () rfl (congrArg (fun b => some (Value.bool b)) (by rw [manyP, ht, Bool.false_or]; exact decide_eq_decide.2 (by omega))) rfl trivial i1 trivial
abbrev CapOK (ps : List (Sl Str)) : Prop := ∀ p ∈ ps, p.l.length ≤ p.c
theorem CapOK.snoc {ps : List (Sl Str)} {p : Sl Str} (h : CapOK ps) (hp : p.l.length ≤ p.c) : CapOK (ps ++ [p]) := fun q hq => by
  rcases List.mem_append.1 hq with hq | hq
  · exact h q hq
  simp at hq; subst hq; exact hp
end Go.Proofs.YtegfgegnhjkcfaaGreatDoor
end
section
namespace Go.Proofs.YtegfgegnhjkcfaaGreatDoor
open Go Go.W
set_option maxRecDepth 20000
attribute [local irreducible] HL HC HQ HB Row Rows2 Blk Facts
theorem sQ {b : Bx} {hp : Hp} {L : List Fact} {g : Nat} {l : Str} (h : Row (j4 g) (rows l) ∈ L) : Cells b hp L ⟨g, 0, none⟩ (rows l) := by
  have := n3 (b := b) (hp := hp) (j := 0) (us := rows l) h (fun i u hu => by rw [Nat.zero_add]; exact hu); exact this
theorem sR {b : Bx} {hp : Hp} {L : List Fact} {g : Nat} {l : Str} {t : TypeId} {fz : Nat × Nat} (h : (g, Obj.cells (rows l).toArray t fz) ∈ hp) : Cells b hp L ⟨g, 0, none⟩ (rows l) :=
  uN h (fun i u hu => by rw [Nat.zero_add]; simpa using hu)
theorem tmod_bd (n m : Int) (hm : 0 < m) : -m < n.tmod m ∧ n.tmod m < m := ⟨Int.lt_tmod_of_pos n hm, Int.tmod_lt_of_pos n hm⟩
theorem aL (n m : Int) (hm : 0 < m ∧ m ≤ 1000000) : Meets Tryz.prog F.vV [int n, int m] { val := fun z : Int => int z, inv := fun z => 0 ≤ z ∧ z < m } := by
 refine c4 F.ax2 rfl l5 fun w0 => ?_; refine a9 (a8 rfl (k9 (a5 rfl (a5 rfl ?_)))); refine r_rem rfl rfl rfl (by omega) ?_; have hbd := tmod_bd n m hm.1; refine a8 rfl (a7 (b5 (a9 (a5 rfl (r6 rfl rfl rfl (a7 ?_))))))
 first | refine i8 rfl (fun hb1 => ?_) (fun hb1 => ?_) | refine b9 rfl (fun hb1 => ?_) (fun hb1 => ?_)
 ·have hb1' := hb1; try simp at hb1'
  refine c6 (a5 rfl (a5 rfl ?_)); refine p7 _ rfl rfl rfl rfl l9 ?_; refine a8 rfl (k9 (a5 rfl (a8 rfl (a7 (i6 ?_))))); exact ret1 (n.tmod m + m) rfl rfl rfl ⟨by omega, by omega⟩ i1 trivial
 have hb1' := hb1; try simp at hb1'
 refine c3 (b6 (a9 (a5 rfl (a8 rfl (a7 (i6 ?_)))))); exact ret1 (n.tmod m) rfl rfl rfl ⟨by omega, by omega⟩ i1 trivial
set_option maxHeartbeats 1000000 in
theorem lZ (s : Str) (a h : Int) (b : UInt8) (hs : s.length ≤ 100000) : Meets Tryz.prog F.gU [str s, int a, int h, .int .u8 b.toNat] { val := fun z : Str => str z, inv := fun z => z.length ≤ s.length + 1 } := by
 refine c4 F.tO rfl l5 fun w0 => ?_; refine a9 (a8 rfl (a7 (b5 (a9 (a5 rfl ?_))))); refine l4 rfl T.i2 rfl ?_; refine t8 rfl rfl rfl (a7 ?_)
 first | refine i8 rfl (fun hb1 => ?_) (fun hb1 => ?_) | refine b9 rfl (fun hb1 => ?_) (fun hb1 => ?_)
 ·have hb1' := hb1; try simp at hb1'
  refine a9 (a5 rfl ?_); refine j8 _ rfl rfl (fun _ => T.dA ..) fun gS => ?_; refine cP (l := [b]) rfl T.B5 T.uY T.i2 rfl (sR (l := [b]) m0) ?_; refine a8 rfl (a7 (s6 ?_)); exact ret1 [b] rfl rfl rfl (by simp) i1 trivial
 have hb1' := hb1; try simp at hb1'
 refine c3 (b6 (a9 (a5 rfl (a5 rfl ?_)))); refine l4 rfl T.i2 rfl ?_; refine d6 F.kG rfl rfl (aL a s.length ⟨by omega, by omega⟩) n6 trivial fun zi hzi => ?_; obtain ⟨i, rfl⟩ : ∃ i : Nat, zi = i := ⟨zi.toNat, by have := hzi.1; omega⟩; have hi : i < s.length := by have := hzi.2; omega
 refine a8 rfl (a7 (b5 (a9 (a5 rfl ?_)))); refine d6 F.kG rfl rfl (aL h 3 (by omega)) n6 trivial fun zh _ => ?_; refine a7 (j0 (a9 (t8 rfl rfl rfl (a8 rfl (a7 ?_)))))
 first | refine i8 rfl (fun hb2 => ?_) (fun hb2 => ?_) | refine b9 rfl (fun hb2 => ?_) (fun hb2 => ?_)
 ·have hb2' := hb2; try simp at hb2'
  refine b5 ?_; refine z6 11 mixed (by decide) (by decide) rfl rfl (j5 (fun w1 => a5 rfl (q_z rfl)) (j5 (fun w1 => a5 rfl (q_z rfl)) (j5 (fun w1 => I8 (s := s) i rfl T.i2 rfl rfl rfl (by omega) (q_z rfl)) (j5 (fun w1 => a5 rfl (q_z rfl)) ?_)))); refine aA ⟨Nat, fun _ => True, fun g1 => .slice (j4 g1) 1 1, fun g1 => [Row (j4 g1) (rows [b])]⟩ rfl rfl rfl ?_ ?_
  ·intro w1; refine j8 _ rfl rfl (fun _ => T.dA ..) fun gS => ?_; refine b3 ?_; refine D5 (rows [b]) (List.prefix_refl _) ?_; exact I0 gS trivial rfl ⟨m0, trivial⟩
  apply k7 _ rfl rfl rfl
  ·intro g1 _; intro w1; refine cP (l := [b]) (cap := 1) rfl T.B5 T.uY T.i2 rfl (sQ (by first | exact m0 | simp)) ?_; refine b3 ?_; exact i3 rfl
  refine j5 (fun w1 => Q0 (x' := (s.take i)) (y' := [b]) rfl rfl rfl (by simp only [List.length_append, List.length_cons, List.length_nil, List.length_take, List.length_drop]; omega) (q_z rfl)) ?_; refine j5 (fun w1 => a5 rfl (q_z rfl)) (j5 (fun w1 => a5 rfl (q_z rfl)) (j5 (fun w1 => p7 _ rfl rfl rfl rfl l9 (q_z rfl)) (j5 (fun w1 => B3 (s := s) (i + 1) rfl T.i2 rfl rfl rfl (by omega) (q_z rfl)) ?_))); refine v6 ⟨rfl, ?_⟩; intro g1 _; refine Q0 (x' := (s.take i) ++ [b]) (y' := s.drop (i + 1)) rfl rfl rfl (by simp only [List.length_append, List.length_cons, List.length_nil, List.length_take, List.length_drop]; omega) ?_; refine a8 rfl (a7 (i6 (t5 ?_))); exact ret1 (((s.take i) ++ [b]) ++ s.drop (i + 1)) rfl rfl rfl (by show (((s.take i) ++ [b]) ++ s.drop (i + 1)).length ≤ s.length + 1; simp only [List.length_append, List.length_cons, List.length_nil, List.length_take, List.length_drop]; omega) i1 trivial
 have hb2' := hb2; try simp at hb2'
 refine a9 (t8 rfl rfl rfl (a8 rfl (a7 ?_)))
 first | refine i8 rfl (fun hb3 => ?_) (fun hb3 => ?_) | refine b9 rfl (fun hb3 => ?_) (fun hb3 => ?_)
 ·have hb3' := hb3; try simp at hb3'
  refine b5 ?_; refine z6 7 mixed (by decide) (by decide) rfl rfl (j5 (fun w1 => a5 rfl (q_z rfl)) (j5 (fun w1 => a5 rfl (q_z rfl)) (j5 (fun w1 => I8 (s := s) i rfl T.i2 rfl rfl rfl (by omega) (q_z rfl)) (j5 (fun w1 => a5 rfl (q_z rfl)) (j5 (fun w1 => a5 rfl (q_z rfl)) (j5 (fun w1 => p7 _ rfl rfl rfl rfl l9 (q_z rfl)) (j5 (fun w1 => B3 (s := s) (i + 1) rfl T.i2 rfl rfl rfl (by omega) (q_z rfl)) ?_))))))); refine v6 ⟨rfl, ?_⟩; refine Q0 (x' := (s.take i)) (y' := s.drop (i + 1)) rfl rfl rfl (by simp only [List.length_append, List.length_cons, List.length_nil, List.length_take, List.length_drop]; omega) ?_; refine a8 rfl (a7 (i6 (t5 ?_))); exact ret1 ((s.take i) ++ s.drop (i + 1)) rfl rfl rfl (by show ((s.take i) ++ s.drop (i + 1)).length ≤ s.length + 1; simp only [List.length_append, List.length_cons, List.length_nil, List.length_take, List.length_drop]; omega) i1 trivial
 have hb3' := hb3; try simp at hb3'
 refine c3 (q9 (b6 (b5 ?_))); refine z6 10 mixed (by decide) (by decide) rfl rfl (j5 (fun w1 => a5 rfl (q_z rfl)) (j5 (fun w1 => a5 rfl (q_z rfl)) (j5 (fun w1 => I8 (s := s) i rfl T.i2 rfl rfl rfl (by omega) (q_z rfl)) (j5 (fun w1 => a5 rfl (q_z rfl)) ?_)))); refine aA ⟨Nat, fun _ => True, fun g1 => .slice (j4 g1) 1 1, fun g1 => [Row (j4 g1) (rows [b])]⟩ rfl rfl rfl ?_ ?_
 ·intro w1; refine j8 _ rfl rfl (fun _ => T.dA ..) fun gS => ?_; refine b3 ?_; refine D5 (rows [b]) (List.prefix_refl _) ?_; exact I0 gS trivial rfl ⟨m0, trivial⟩
 apply k7 _ rfl rfl rfl
 ·intro g1 _; intro w1; refine cP (l := [b]) (cap := 1) rfl T.B5 T.uY T.i2 rfl (sQ (by first | exact m0 | simp)) ?_; refine b3 ?_; exact i3 rfl
 refine j5 (fun w1 => Q0 (x' := (s.take i)) (y' := [b]) rfl rfl rfl (by simp only [List.length_append, List.length_cons, List.length_nil, List.length_take, List.length_drop]; omega) (q_z rfl)) ?_; refine j5 (fun w1 => a5 rfl (q_z rfl)) (j5 (fun w1 => a5 rfl (q_z rfl)) (j5 (fun w1 => B3 (s := s) i rfl T.i2 rfl rfl rfl (by omega) (q_z rfl)) ?_)); refine v6 ⟨rfl, ?_⟩; intro g1 _; refine Q0 (x' := (s.take i) ++ [b]) (y' := s.drop i) rfl rfl rfl (by simp only [List.length_append, List.length_cons, List.length_nil, List.length_take, List.length_drop]; omega) ?_; refine a8 rfl (a7 (i6 ?_)); exact ret1 (((s.take i) ++ [b]) ++ s.drop i) rfl rfl rfl (by show (((s.take i) ++ [b]) ++ s.drop i).length ≤ s.length + 1; simp only [List.length_append, List.length_cons, List.length_nil, List.length_take, List.length_drop]; omega) i1 trivial
theorem lK (x : Str) (hx : 160 < x.length) : Meets Tryz.prog F.Y3 [str x] { val := fun y : OutC => .tuple #[.slice y.1 (readE x).1.length y.2, int (readE x).2.1, int (readE x).2.2], LO := fun y => [Row y.1 (rows (readE x).1)] } := by
 refine c4 F.lJ rfl l5 fun w0 => ?_; refine a9 (a8 rfl (a8 rfl (a8 rfl (a7 (b5 (a9 (a5 rfl ?_))))))); refine l4 rfl T.i2 rfl ?_; refine v9 rfl rfl rfl (a7 ?_)
 first | refine i8 rfl (fun hb1 => ?_) (fun hb1 => ?_) | refine b9 rfl (fun hb1 => ?_) (fun hb1 => ?_)
 ·have hb1' := hb1; try simp at hb1'
  have hE : readE x = ([], 0, 10) := by rw [readE, if_pos (by omega)]
  rw [hE]; refine a9 (a8 rfl (a8 rfl (a8 rfl (a7 (s6 ?_))))); refine A3 (α := Mk) ?_; exact ret3 (none, 0) rfl rfl rfl rfl rfl rfl trivial i1 ⟨m0, trivial⟩
 exact absurd hb1 (by simp; omega)
theorem lL (x : Str) : Meets Tryz.prog F.Y3 [str x] { val := fun y : OutC => .tuple #[.slice y.1 (readE x).1.length y.2, int (readE x).2.1, int (readE x).2.2], LO := fun y => [Row y.1 (rows (readE x).1)] } := by
  by_cases h : 160 < x.length
  · exact lK x h
  exact nC x (by omega)
end Go.Proofs.YtegfgegnhjkcfaaGreatDoor
end
section
namespace Go.Proofs.YtegfgegnhjkcfaaGreatDoor
open Go Go.W
set_option maxRecDepth 20000
attribute [local irreducible] HL HC HQ HB Row Rows2 Blk Facts
def seed0s : Int × Int := (0, 11400714819323198485)
theorem dok0s (nums : List Int) : DOK nums seed0s := ⟨by decide, by simp [seed0s], by decide, by decide⟩
def s13 : Str := [45, 49, 47, 45, 49, 47, 45, 49, 47, 45, 49, 47, 45, 49, 47, 45, 49, 47, 45, 49, 47, 45, 49, 47, 45, 49, 47, 45, 49, 47, 45, 49, 47, 45, 49, 47, 45, 49, 47]
def wtx (l : List Mk) : Str := if wE l = 0 then wrS l else []
theorem wtx_len (l : List Mk) : (wtx l).length ≤ 200 := by
  unfold wtx
  split
  · rename_i h
    unfold wE at h
    split at h
    · cases h
    have := uS h
    omega
  simp
theorem uL {l : List Str} {j : Nat} (h : l.length ≤ j) : l.getD j default = [] := by rw [List.getD_eq_getElem?_getD, List.getElem?_eq_none h]; rfl
theorem wD {ts : List Str} {w : Str} (h : ∀ j, 2 ≤ j → (ts.getD j default).length ≤ 200) (hw : w.length ≤ 200) : ∀ j, 2 ≤ j → ((ts ++ [w]).getD j default).length ≤ 200 := fun j hj => by
  by_cases h1 : j < ts.length
  · have h2 := h j hj
    rw [List.getD_eq_getElem?_getD] at h2 ⊢; rw [List.getElem?_append_left h1]; exact h2
  by_cases h2 : j = ts.length
  · subst h2
    rw [List.getD_eq_getElem?_getD, List.getElem?_append_right (Nat.le_refl _), Nat.sub_self]; exact hw
  rw [uL (by rw [List.length_append]; simp; omega)]; exact Nat.zero_le _
theorem yR (s : Str) : (readE s).1.length ≤ 12 := by
  unfold readE
  split
  · simp
  split
  · simp
  split
  · simp
  show (readF s.length s []).1.length ≤ 12
  omega
set_option maxHeartbeats 2000000 in
theorem cY {B N : Option Addr} {cb cn : Nat} (l : List Mk) (hl : l.length ≤ 9223372036854775807) (x : Str) (nums : List Int) (hn : nums.length ≤ 9223372036854775807) (at_ how : Int) (by_ : UInt8) :
    Meets Tryz.prog F.bR [.slice B l.length cb, str x, .slice N nums.length cn, int at_, int how, .int .u8 by_.toNat] { LI := [Row B (rows l), Row N (rows nums)], val := fun _ : Unit => .bool true } := by
 refine c4 F.kF rfl l5 fun w0 => ?_; refine a9 (a8 rfl (a7 ?_)); refine aS ⟨fun _ : Unit => l.length ≤ 20, fun _ => [(0, .slice B l.length cb), (1, str x), (2, .slice N nums.length cn), (3, int at_), (4, int how), (5, .int .u8 by_.toNat)], fun _ => [], fun _ => [Row B (rows l), Row N (rows nums)]⟩ ?_ ?_
 ·skip
  refine a9 (a5 rfl ?_); refine d6 F.tN rfl rfl (nJ l hl) n6 ⟨m0, trivial⟩ fun _ _ => ?_; refine a5 rfl ?_; refine l3 rfl rfl ?_ ?_
  ·intro hg1; have hg1' := hg1; try simp at hg1'
   have hm0 := xP (bf1 hg1); refine c9 rfl rfl hg1 (a5 rfl (c9 rfl rfl hg1 ?_)); refine l4 rfl T.i2 rfl ?_; refine c9 rfl rfl hg1 (v9 rfl rfl rfl (c9 rfl rfl hg1 (a5 rfl ?_))); refine l3 rfl rfl ?_ ?_
   ·intro hg2; have hg2' := hg2; try simp at hg2'
    refine c9 rfl rfl hg2 (a5 rfl (c9 rfl rfl hg2 ?_)); refine l4 rfl T.i2 rfl ?_; refine c9 rfl rfl hg2 (zU rfl rfl rfl (c9 rfl rfl hg1 ?_)); refine p_t rfl rfl (bt1 hg2) rfl (p_f rfl rfl (bf1 hg1) rfl ?_); refine a7 ?_
    first | refine i8 rfl (fun hb1 => ?_) (fun hb1 => ?_) | refine b9 rfl (fun hb1 => ?_) (fun hb1 => ?_)
    ·have hb1' := hb1; try simp at hb1'
     refine a9 ?_; refine d6 F.K0 rfl rfl (G6) n6 trivial fun _ _ => ?_; refine a8 rfl (a7 (s6 ?_)); exact ret1 () rfl rfl rfl trivial i1 trivial
    have hb1' := hb1; try simp at hb1'
    refine c3 ?_; exact J4 _ () hm0 mC (.refl _) ⟨m0, m1, trivial⟩
   intro hg2; have hg2' := hg2; try simp at hg2'
   refine k5 rfl rfl rfl rfl rfl hg2 (k5 rfl rfl rfl rfl rfl hg2 (k5 rfl rfl rfl rfl rfl hg2 (c9 rfl rfl hg1 ?_))); refine p_f rfl rfl (bf2 hg2) rfl (p_f rfl rfl (bf1 hg1) rfl ?_); refine a7 (c_f rfl rfl (c3 ?_)); exact J4 _ () hm0 mC (.refl _) ⟨m0, m1, trivial⟩
  intro hg1; have hg1' := hg1; try simp at hg1'
  refine k5 rfl rfl rfl rfl rfl hg1 (k5 rfl rfl rfl rfl rfl hg1 (k5 rfl rfl rfl rfl rfl hg1 (k5 rfl rfl rfl rfl rfl hg1 (L4 rfl rfl rfl rfl rfl rfl (L4 rfl rfl rfl rfl rfl rfl (L4 rfl rfl rfl rfl rfl rfl (k5 rfl rfl rfl rfl rfl hg1 ?_))))))); refine p_t rfl rfl (bt2 hg1) rfl ?_; refine a7 (c_t rfl rfl (a9 ?_)); refine d6 F.K0 rfl rfl (G6) n6 trivial fun _ _ => ?_; refine a8 rfl (a7 (s6 ?_)); exact ret1 () rfl rfl rfl trivial i1 trivial
 intro _ hlen; simp only at hlen; refine a9 (a5 rfl ?_); refine d6 F.rU rfl rfl (mA nums) n6 ⟨m1, trivial⟩ fun gd _ => ?_; refine a8 rfl (k9 (a5 rfl (a5 rfl ?_))); refine d6 F.rV rfl rfl (mD 6 10 hn (dok0s nums) (by omega)) (.refl _) mC fun r hr => ?_; obtain ⟨s2, y, om⟩ := r; obtain ⟨hs2, hy10, hyo, hyc⟩ := hr; simp only at hy10 hyo hyc; refine j8 _ rfl rfl (fun _ => T.mM ..) fun gM => ?_; refine a5 rfl ?_; refine j8 _ rfl rfl (fun _ => T.iF ..) fun gT => ?_; refine a8 rfl (a8 rfl (a7 (kK ?_))); refine J7 (.swap _ _ _) ?_; refine cj6 (rows [(⟨B, cb, l⟩ : Sl Mk), ⟨om.1, om.2, y⟩]) (List.prefix_refl _) ?_; have hml : ∀ p ∈ [(⟨B, cb, l⟩ : Sl Mk), ⟨om.1, om.2, y⟩], p.l.length ≤ 20 := by intro p hp; simp at hp; rcases hp with rfl | rfl <;> simp only <;> omega
 refine cj5 (A := (j4 gM)) (ps := [(⟨B, cb, l⟩ : Sl Mk), ⟨om.1, om.2, y⟩]) m0 (by intro p hp; simp at hp; rcases hp with rfl | rfl <;> repeat constructor) ?_; have h3m : [(⟨B, cb, l⟩ : Sl Mk), ⟨om.1, om.2, y⟩].length = 2 := rfl; generalize [(⟨B, cb, l⟩ : Sl Mk), ⟨om.1, om.2, y⟩] = msL at *; refine c6 (a8 rfl (a7 (j0 ?_))); refine s9 (β := Nat × List Str × OutC × Hp) ⟨fun z => z.1 ≤ 2 ∧ z.2.1.length = 2 + z.1 ∧ (∀ j, 2 ≤ j → (z.2.1.getD j default).length ≤ 200) ∧ Grow T.string 1 z.2.2.1.1 z.2.1.length z.2.2.1.2 (rows z.2.1) z.2.2.2, fun z => [(3, int at_), (4, int how), (5, .int .u8 by_.toNat), (14, .slice (j4 gM) 2 2), (15, .slice z.2.2.1.1 z.2.1.length z.2.2.1.2), (16, int z.1)], fun z => z.2.2.2, fun _ => [Row (j4 gM) (rows msL), Rows2 (j4 gM) msL]⟩ (fun z => 2 - z.1) (0, [x, s13], (some ⟨gT, 0, none⟩, 2), [_]) ⟨Nat.zero_le _, rfl, fun j hj => by rw [uL (by simpa using hj)]; exact Nat.zero_le _, Grow.new (cs := #[str x, str s13]) (n := 2) rfl (by decide)⟩ mC (.cons_cons _ i1) mC fun z hz => ?_; obtain ⟨i, ts, ⟨oA, oc⟩, og⟩ := z; obtain ⟨hi2, htl, htb, hG⟩ := hz; simp only at hi2 htl htb hG; refine b5 (a9 (a5 rfl (a5 rfl ?_))); refine j9 rfl T.N0 rfl ?_; refine r6 rfl rfl rfl (a7 ?_)
 first | refine i8 rfl (fun hb2 => ?_) (fun hb2 => ?_) | refine b9 rfl (fun hb2 => ?_) (fun hb2 => ?_)
 ·have hb2' := hb2; try simp at hb2'
  have hi : i < 2 := by simp at hb2; omega
  have hmm : (msL.getD i default) ∈ msL := L3 (by omega); have hlm := hml _ hmm; refine c3 (b6 (b5 (j0 (a9 ?_)))); refine j8 [] rfl rfl (fun _ => T.qE ..) fun gS => ?_; refine a5 rfl (a5 rfl ?_); refine r7 (α := Sl Mk) msL i rfl T.N0 T.R4 rfl rfl rfl mB h3m.symm (by omega) (by decide) (a4 rfl T.d7 rfl (c5 mB (b4 (by omega) rfl)) (bW (A := (j4 gM)) (ps := msL) (p := (msL.getD i default)) mB hmm ?_)); refine w9 (msL.getD i default).l.length (rows (msL.getD i default).l) T.E1 rfl rfl rfl (Grow.new (cs := #[]) (n := 0) rfl (Nat.zero_le _)) (hp' := og) (.refl _) (Src.row m0 (E5 _) (I7 _) (by decide)) (by omega) rfl (by unfold maxLen; omega) (by omega) fun A' c' og' hG' => ?_; refine xV hG' ?_; refine a8 rfl (k9 (a5 rfl ?_)); refine d6 F.rM rfl rfl (lH (msL.getD i default).l (by omega)) (hpR := og) (.refl _) mC fun _ _ => ?_; refine a5 rfl (k4 rfl rfl rfl (k4 rfl rfl rfl (a8 rfl (a8 rfl (k9 (a5 rfl (a5 rfl ?_))))))); refine r7 (α := Sl Mk) msL i rfl T.N0 T.R4 rfl rfl rfl mB h3m.symm (by omega) (by decide) (a4 rfl T.d7 rfl (c5 mB (b4 (by omega) rfl)) (bW (A := (j4 gM)) (ps := msL) (p := (msL.getD i default)) mB hmm ?_)); refine d6 F.rB rfl rfl (kW (msL.getD i default).l (by omega)) (hpR := og) (.refl _) ⟨m0, trivial⟩ fun _ _ => ?_; refine a5 rfl (k4 rfl rfl rfl (k4 rfl rfl rfl (a8 rfl (a8 rfl (a7 (b5 (a9 (a5 rfl (a5 rfl ?_))))))))); refine jO rfl rfl rfl (a5 rfl ?_); refine l3 rfl rfl ?_ ?_
  ·intro hg3; have hg3' := hg3; try simp at hg3'
   refine c9 rfl rfl hg3 (a5 rfl (c9 rfl rfl hg3 (a5 rfl (c9 rfl rfl hg3 (u9 rfl rfl rfl ?_))))); refine p_f rfl rfl (bf1 hg3) rfl (a5 rfl ?_); refine l3 rfl rfl ?_ ?_
   ·intro hg4; have hg4' := hg4; try simp at hg4'
    refine c9 rfl rfl hg4 (a5 rfl (c9 rfl rfl hg4 (a5 rfl (c9 rfl rfl hg4 (a5 rfl (c9 rfl rfl hg4 ?_)))))); refine r7 (α := Sl Mk) msL i rfl T.N0 T.R4 rfl rfl rfl mB h3m.symm (by omega) (by decide) (c9 rfl rfl hg4 (a4 rfl T.d7 rfl (c5 mB (b4 (by omega) rfl)) (c9 rfl rfl hg4 (bW (A := (j4 gM)) (ps := msL) (p := (msL.getD i default)) mB hmm ?_)))); refine d6 F.Y5 rfl rfl (O7 (msL.getD i default).l (msL.getD i default).l (by omega)) (hpR := og) (.refl _) mC fun _ _ => ?_; refine c9 rfl rfl hg4 (bH rfl rfl ?_); refine p_f rfl rfl (bf1 hg4) rfl ?_; refine a7 ?_
    first | refine i8 rfl (fun hb3 => ?_) (fun hb3 => ?_) | refine b9 rfl (fun hb3 => ?_) (fun hb3 => ?_)
    ·exact absurd hb3 (by simp)
    have hb3' := hb3; try simp at hb3'
    refine c3 (b6 (c6 (a5 rfl (a5 rfl ?_)))); refine j8 _ rfl rfl (fun _ => T.nT ..) fun gS => ?_; refine w9 (ts.length + 1) (rows (ts ++ [(wtx (msL.getD i default).l)])) T.iE rfl rfl rfl hG (List.perm_append_comm (l₁ := [_])) (Src.own (cs := #[str (wtx (msL.getD i default).l)]) (m := 1) (List.mem_append_right _ m0) rfl rfl) rfl (t3 ts [(wtx (msL.getD i default).l)]).symm (by unfold maxLen; omega) (by omega) fun A' c' og' hG' => ?_; refine a8 rfl (b3 (q9 (b6 (c6 (a5 rfl ?_))))); refine p7 _ rfl rfl rfl rfl l9 ?_; refine a8 rfl (b3 ?_); exact again _ (i + 1, ts ++ [(wtx (msL.getD i default).l)], (A', c'), og') ⟨by show i + 1 ≤ 2; omega, by show (ts ++ [_]).length = 2 + (i + 1); rw [List.length_append]; simp; omega, wD htb (wtx_len _), by show Grow _ _ _ (ts ++ [_]).length _ _ _; rw [List.length_append]; exact hG'⟩ (y5 (by omega)) ⟨rfl, rfl, rfl, rfl, by rw [List.length_append]; rfl, rfl, trivial⟩ (List.sublist_append_left _ _) mC
   intro hg4; have hg4' := hg4; try simp at hg4'
  intro hg3; have hg3' := hg3; try simp at hg3'
 have hb2' := hb2; try simp at hb2'
 have hi : i = 2 := by simp at hb2; omega
 subst hi; refine n5 (y6 (n4 (b6 (b5 ?_))))
 obtain ⟨gT2, cur, rfl, rfl, hg1, hg2, hg3, hg4⟩ : ∃ g cur, oA = some ⟨g, 0, none⟩ ∧ og = [(g, Obj.cells cur T.string (0, 0))] ∧ ts.length ≤ oc ∧ oc ≤ maxLen ∧ cur.size = oc * 1 ∧ cur.toList.take (ts.length * 1) = rows ts := by
   rcases hG.2 with ⟨h, _⟩ | h
   · omega
   obtain ⟨g, cur, h1, h2, h3, h4, h5, h6⟩ := h; exact ⟨g, cur, h1, h2, h3, h4, h5, h6⟩
 have hs3 := htb 3 (by omega); refine c6 (a5 rfl (a5 rfl ?_)); refine pM 3 3 rfl T.u5 T.v8 rfl rfl rfl (by simp only; omega) rfl ?_; refine a4 (v := str (ts.getD 3 default)) rfl T.j1 rfl (b7 m0 (own_f (α := Str) (k := 3) (f := 0) hg4 (by omega) rfl rfl)) ?_; refine a5 rfl (a5 rfl (a5 rfl ?_)); refine d6 F.rT rfl rfl (lZ (ts.getD 3 default) at_ how by_ (by omega)) (hpR := [_]) (.refl _) trivial fun sm hsm => ?_; simp only at hsm; refine a5 rfl ?_; refine d6 F.kG rfl rfl (aL how 2 (by omega)) (hpR := [_]) (.refl _) trivial fun zi hzi => ?_; obtain ⟨nz, rfl⟩ : ∃ nz : Nat, zi = nz := ⟨zi.toNat, by have := hzi.1; omega⟩; have hnz : nz < 2 := by have := hzi.2; omega
 refine p7 ((160 + nz : Nat) : Int) rfl rfl rfl (by omega) l9 ?_; refine r_makeR (α := UInt8) (0 : UInt8) (n := 160 + nz) (bytes := 1) (z := .int .u8 0) rfl T.B5 (by kernel_rfl) rfl rfl rfl rfl (by omega) (by omega) fun gz => ?_; refine cP (l := List.replicate (160 + nz) 0) (p := ⟨gz, 0, none⟩) (cap := 160 + nz) rfl T.B5 T.uY T.i2 (by rw [List.length_replicate]; rfl) (sR (l := List.replicate (160 + nz) 0) m0) ?_; refine j8 _ rfl rfl (fun _ => T.iF ..) fun gS => ?_; refine w9 (ts.length + 2) (rows (ts ++ [sm, List.replicate (160 + nz) 0])) T.iE rfl rfl rfl hG (List.perm_append_comm (l₁ := [_, _]) (l₂ := [_])) (Src.own (cs := #[str sm, str (List.replicate (160 + nz) 0)]) (m := 2) (List.mem_append_right [_] m0) rfl rfl) rfl (t3 ts [sm, List.replicate (160 + nz) 0]).symm (by unfold maxLen; omega) (by omega) fun A' c' og' hG' => ?_; refine a8 rfl (a7 (kK ?_)); refine xW hG' ?_; have htl2 : (ts ++ [sm, List.replicate (160 + nz) 0]).length = ts.length + 2 := by rw [List.length_append]; rfl
 rw [← htl2] at hG'; have ht6 : (ts ++ [sm, List.replicate (160 + nz) 0]).length = 6 := by omega
 refine c6 (a8 rfl (a7 (j0 ?_))); refine s9 (β := Nat) ⟨fun i => i ≤ 6, fun i => [(15, .slice A' (ts ++ [sm, List.replicate (160 + nz) 0]).length c'), (22, int i)], fun _ => [], fun _ => [Row A' (rows (ts ++ [sm, List.replicate (160 + nz) 0]))]⟩ (fun i => 6 - i) 0 (Nat.zero_le _) ⟨by rw [htl2]; rfl, rfl, trivial⟩ i1 mC fun i hi => ?_; generalize ts ++ [sm, List.replicate (160 + nz) 0] = ts2 at *; simp only at hi; refine b5 (a9 (a5 rfl (a5 rfl ?_))); refine j9 rfl T.u5 rfl ?_; refine r6 rfl rfl rfl (a7 ?_)
 first | refine i8 rfl (fun hb4 => ?_) (fun hb4 => ?_) | refine b9 rfl (fun hb4 => ?_) (fun hb4 => ?_)
 ·have hb4' := hb4; try simp at hb4'
  have hi4 : i < ts2.length := by simp at hb4; omega
  refine c3 (b6 (b5 (j0 (a9 (a5 rfl (a5 rfl ?_)))))); refine r7 (α := Str) ts2 i rfl T.u5 T.v8 rfl rfl rfl mB rfl (by omega) (by decide) (a4 (v := str (ts2.getD i default)) rfl T.j1 rfl (c5 mB (b4 (by omega) rfl)) ?_); refine d6 F.tI rfl rfl (lL (ts2.getD i default)) (.refl _) trivial fun z8 _ => ?_; refine a5 rfl (k4 rfl rfl rfl (k4 rfl rfl rfl (k4 rfl rfl rfl (a8 rfl (a8 rfl (a8 rfl (k9 (a5 rfl ?_)))))))); refine a5 rfl (r7 (α := Str) ts2 i rfl T.u5 T.v8 rfl rfl rfl mB rfl (by omega) (by decide) (a4 (v := str (ts2.getD i default)) rfl T.j1 rfl (c5 mB (b4 (by omega) rfl)) ?_)); refine d6 F.tA rfl rfl (mU (ts2.getD i default)) (.refl _) trivial fun z9 _ => ?_; refine a5 rfl (k4 rfl rfl rfl (k4 rfl rfl rfl (k4 rfl rfl rfl (a8 rfl (a8 rfl (a8 rfl (k9 (a5 rfl ?_)))))))); refine a5 rfl (u9 rfl rfl rfl (a5 rfl ?_)); refine l3 rfl rfl ?_ ?_
  ·intro hg5; have hg5' := hg5; try simp at hg5'
   refine c9 rfl rfl hg5 (a5 rfl (c9 rfl rfl hg5 (a5 rfl (c9 rfl rfl hg5 (u9 rfl rfl rfl ?_))))); refine p_f rfl rfl (bf1 hg5) rfl (a5 rfl ?_); refine l3 rfl rfl ?_ ?_
   ·intro hg6; have hg6' := hg6; try simp at hg6'
    refine c9 rfl rfl hg6 (a5 rfl (c9 rfl rfl hg6 (a5 rfl (c9 rfl rfl hg6 ?_)))); have hre := yR (ts2.getD i default); refine d6 F.Y5 rfl rfl (O7 (readE (ts2.getD i default)).1 (readE (ts2.getD i default)).1 (by omega)) (.refl _) mC fun _ _ => ?_; refine c9 rfl rfl hg6 (bH rfl rfl ?_); refine p_f rfl rfl (bf1 hg6) rfl ?_; refine a7 ?_
    first | refine i8 rfl (fun hb5 => ?_) (fun hb5 => ?_) | refine b9 rfl (fun hb5 => ?_) (fun hb5 => ?_)
    ·exact absurd hb5 (by simp)
    have hb5' := hb5; try simp at hb5'
    refine c3 (q9 (b6 (c6 (a5 rfl ?_)))); refine p7 _ rfl rfl rfl rfl l9 ?_; refine a8 rfl (b3 ?_); exact again _ (i + 1) (by show i + 1 ≤ 6; omega) (y5 (by omega)) mC (.refl _) mC
   intro hg6; have hg6' := hg6; try simp at hg6'
  intro hg5; have hg5' := hg5; try simp at hg5'
 have hb4' := hb4; try simp at hb4'
 refine n5 (y6 (n4 (b6 (a9 ?_)))); refine d6 F.K0 rfl rfl (G6) n6 trivial fun _ _ => ?_; refine a8 rfl (a7 (i6 ?_)); exact ret1 () rfl rfl rfl trivial i1 trivial
end Go.Proofs.YtegfgegnhjkcfaaGreatDoor
end
section
namespace Go.W
open Go Go.RowKit Go.ChangeShapes Go.WideShapes
section
variable {H : Type} {enc : TypeId × Value → H} {P : Program} {w : World} {base : Nat} {spare : Nat → Bool} {held : Bool}
theorem row_of {α : Type} [El α] (h1 : El.sz α = 1) {a : Addr} {l : List α} (h : ∀ j (hj : j < l.length), ∃ v, El.cells l[j] = [v] ∧ w.cell? (a.add j) = some v) : (Row (some a) (rows l)).P w := by
  intro j u hu; refine ⟨a, rfl, ?_⟩
  have hj : j < l.length := by
    have := (List.getElem?_eq_some_iff.1 hu).1; rw [E5, h1, Nat.mul_one] at this; exact this
  obtain ⟨v, hv, hc⟩ := h j hj; have h2 := rows_get (l := l) (i := j) (j := 0) (v := v) hj (by simp [List.getD_eq_getElem?_getD, hj, hv]); rw [h1] at h2; simp only [Nat.mul_one, Nat.add_zero] at h2; rw [hu] at h2
  cases h2
  exact hc
theorem in_ints {t e : TypeId} {A : Option Addr} {n c fuel : Nat} {x : DataW H × List MemPlace} (ht : P.underlying t = some (.slice e)) (he : P.underlying e = some (.int .i64)) (hc : P.cellsOf e = 1)
    (h : DataW.trod enc P w base spare held fuel t [.slice A n c] = some x) : ∃ l : List Int, n = l.length ∧ l.length ≤ c ∧ c ≤ maxLen ∧ (Row A (rows l)).P w ∧ ∀ z ∈ l, I64 z := by
  rcases open_ints ht he hc h with ⟨hcs, _⟩ | ⟨a, len, cap, zs, hcs, _, hl, hm, hlen, _, hcell, hwf⟩
  · simp at hcs
    obtain ⟨rfl, rfl, rfl⟩ := hcs; exact ⟨[], rfl, Nat.le_refl _, by unfold maxLen; omega, Row.nil _ _, by intro z hz; simp at hz⟩
  simp at hcs
  obtain ⟨rfl, rfl, rfl⟩ := hcs; have hle : n ≤ zs.length := by rw [hlen]; split <;> omega
  have hlen2 : (zs.take n).length = n := by rw [List.length_take]; omega
  refine ⟨zs.take n, hlen2.symm, by rw [hlen2]; exact hl, hm, row_of rfl fun j hj => ?_, fun z hz => ?_⟩
  · rw [hlen2] at hj
    refine ⟨int zs[j], by simp [El.cells], ?_⟩; rw [hcell j (by omega)]
    simp [List.getD_eq_getElem?_getD, show j < zs.length by omega]
  have := hwf z (List.mem_of_mem_take hz)
  simp [Lit.wf, IntKind.min, IntKind.max, IntKind.signed, IntKind.bits] at this
  exact ⟨by omega, by omega⟩
theorem ax1 {f : Nat} {args : List Value} {LI : List Fact} (h : Meets P f args ({ LI := LI, val := fun _ : Unit => .bool true } : Con Unit)) (hL : ∀ F ∈ LI, F.P w) : Calls P f args.toArray w fun e w' => e = .returned (.bool true) ∧ Below w.heap.size w w' := by
  refine (h w ⟨Ext.refl _ _, by simp, by simp, by simp, hL, by simp, fun F hF k hk => .inr (.inr ⟨F, hF, hk⟩)⟩).mono fun e w' hp => ?_; obtain ⟨_, rfl, _, hwi⟩ := hp; exact ⟨rfl, hwi.ext.below⟩
end
end Go.W
end
section
namespace Go.W
open Go Go.RowKit Go.ChangeShapes Go.WideShapes Go.Deep
section
variable {H : Type} {enc : TypeId × Value → H} {P : Program} {w : World} {base : Nat} {spare : Nat → Bool} {held : Bool}
theorem row_ofN {α : Type} [El α] (h0 : 0 < El.sz α) {a : Addr} {l : List α} (h : ∀ j, j < l.length → ∀ i v, (El.cells (l.getD j default))[i]? = some v → w.cell? (a.add (j * El.sz α + i)) = some v) : (Row (some a) (rows l)).P w := by
  intro k u hu; refine ⟨a, rfl, ?_⟩; have hk := (List.getElem?_eq_some_iff.1 hu).1; rw [E5] at hk; have hj : k / El.sz α < l.length := Nat.div_lt_of_lt_mul (by rw [Nat.mul_comm]; exact hk); have hd : k / El.sz α * El.sz α + k % El.sz α = k := by rw [Nat.mul_comm]; exact Nat.div_add_mod _ _
  have h2 := rows_get' l (k / El.sz α) (k % El.sz α) hj (Nat.mod_lt _ h0); rw [hd, hu] at h2; have := h _ hj _ _ h2.symm
  rwa [hd] at this
theorem bz9 {t e : TypeId} {f0 f1 f2 : Field} {A : Option Addr} {n c fuel : Nat} {x : DataW H × List MemPlace} (ht : P.underlying t = some (.slice e)) (he : P.underlying e = some (.struct #[f0, f1, f2])) (ce : P.cellsOf e = 3)
    (o0 : f0.offset = 0) (o1 : f1.offset = 1) (o2 : f2.offset = 2) (c0 : P.cellsOf f0.type = 1) (c1 : P.cellsOf f1.type = 1) (c2 : P.cellsOf f2.type = 1) (t0 : P.underlying f0.type = some (.int .i64)) (t1 : P.underlying f1.type = some (.int .i64)) (t2 : P.underlying f2.type = some .string)
    (h : DataW.trod enc P w base spare held fuel t [.slice A n c] = some x) : ∃ l : List Mk, n = l.length ∧ l.length ≤ c ∧ c ≤ maxLen ∧ (Row A (rows l)).P w := by
  rcases open_slice ht h with ⟨hcs, _⟩ | ⟨a, len, cap, m, n', D, Pl, hcs, _, hl, hm, hmm, _, hx⟩
  · simp at hcs
    obtain ⟨rfl, rfl, rfl⟩ := hcs; exact ⟨[], rfl, Nat.le_refl _, by unfold maxLen; omega, Row.nil _ _⟩
  simp at hcs
  obtain ⟨rfl, rfl, rfl⟩ := hcs; have hlm : n ≤ m := by rw [hmm]; split <;> omega
  have each : ∀ i, i < n → ∃ q : Mk, ∀ k v, (El.cells q)[k]? = some v → w.cell? (a.add (i * 3 + k)) = some v := by
    intro i hi; obtain ⟨cs', h1, h2⟩ := hx i (by omega); rw [ce] at h1; obtain ⟨_, hlen, hcell⟩ := World.cells?_some h1; obtain ⟨y0, y1, y2, k, _, _, g0, g1, g2⟩ := trod_struct3 he h2
    match cs', hlen with
    | [v0, v1, v2], _ =>
      simp [o0, o1, o2, c0, c1, c2] at g0 g1 g2
      obtain ⟨z0, e0, _, _⟩ := DataW.trod_int t0 g0; obtain ⟨z1, e1, _, _⟩ := DataW.trod_int t1 g1; obtain ⟨s, e2, _, _⟩ := DataW.trod_string t2 g2
      simp at e0 e1 e2
      subst e0 e1 e2; refine ⟨(z0, z1, s.data.toList), fun k v hv => ?_⟩; have hk : k < 3 := (List.getElem?_eq_some_iff.1 hv).1; have hc := hcell k hk; rw [add_add] at hc; rw [hc, ← hv]; show _ = [int z0, int z1, str s.data.toList][k]?
      simp [str]
  obtain ⟨q, hq⟩ := choose_lt each; refine ⟨(List.range n).map q, by simp, by simpa using hl, hm, row_ofN (by decide) fun j hj i v hv => ?_⟩
  simp at hj
  refine hq j hj i v ?_; rw [← hv]
  simp [List.getD_eq_getElem?_getD, hj]
end
end Go.W
end
