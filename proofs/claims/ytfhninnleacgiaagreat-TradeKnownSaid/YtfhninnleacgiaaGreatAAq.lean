/- Texts of this claim, one behind another. -/
import Derived.ProofKit
import Derived.OpenShut
import Derived.ShutString
import Derived.ChangeOld
import Derived.Below
import Derived.SliceStrings
import Derived.ChangeSlices
import Derived.Deep.Slices
import Derived.Test.YtfhninnleacgiaaGreatAAp
import Derived.Test.YtfhninnleacgiaaGreatAAe
set_option linter.unusedVariables false
set_option linter.unusedSimpArgs false
section
namespace Go.Proofs.YtfhninnleacgiaaGreat
open Go Go.W
set_option maxRecDepth 20000
attribute [local irreducible] HL HC HQ HB Row Rows2 Blk Facts
theorem st_len (a b c k : Nat) (h : k < 3) : ((stX a b c).getD k default).l.length ≤ 9223372036854775806 := by
  rcases (show k = 0 ∨ k = 1 ∨ k = 2 by omega) with rfl | rfl | rfl <;> exact (show 6 ≤ 9223372036854775806 by decide)
theorem mn_len (a b c k : Nat) (h : k < 4) : ((mnX a b c).getD k default).l.length ≤ 9223372036854775806 := by
  rcases (show k = 0 ∨ k = 1 ∨ k = 2 ∨ k = 3 by omega) with rfl | rfl | rfl | rfl
  · exact (show 2 ≤ 9223372036854775806 by decide)
  · exact (show 1 ≤ 9223372036854775806 by decide)
  · exact (show 4 ≤ 9223372036854775806 by decide)
  exact (show 0 ≤ 9223372036854775806 by decide)
theorem cx8 {c : Cx} {Q : Exit → Act → World → Prop} {fr : Fr} {hp hp' : Hp} {L : List Fact} {ops : Array Oper} {rest : List Oper} (h : hp = hp') (k : HL c ops Q rest fr hp' L) : HL c ops Q rest fr hp L := h ▸ k
set_option maxHeartbeats 4000000 in
theorem iL : Meets Tryz.prog F.gQ [] { val := fun _ : Unit => .bool true } := by
 refine i7 F.pA rfl p7 fun w0 => ?_; refine i4 (b7 rfl (j8 ?_)); refine d5 F.l4 rfl rfl (bj7) j5 trivial fun x1 _ => ?_; refine d5 F.l4 rfl rfl (iH) j5 trivial fun x2 _ => ?_; refine d5 F.l4 rfl rfl (iH) j5 trivial fun x3 _ => ?_; refine d5 F.l4 rfl rfl (iH) j5 trivial fun x4 _ => ?_; refine d5 F.l4 rfl rfl (iH) j5 trivial fun x5 _ => ?_; refine r7 rfl (fun _ => T.v9 _) fun g1 => ?_; refine r7 rfl (fun _ => T.v9 _) fun g2 => ?_; refine r7 rfl (fun _ => T.v9 _) fun g3 => ?_; refine r7 rfl (fun _ => T.v9 _) fun g4 => ?_; refine r7 rfl (fun _ => T.v9 _) fun g5 => ?_; refine r4 (cs := #[.slice (some ⟨x1.1, 0, none⟩) 4 4, .slice (some ⟨x1.2.1, 0, none⟩) 6 6]) (hp' := [(g5, Obj.cells #[.slice none 0 0, .slice none 0 0] T.i2 (0, 0)), (g4, Obj.cells #[.slice none 0 0, .slice none 0 0] T.i2 (0, 0)), (g3, Obj.cells #[.slice none 0 0, .slice none 0 0] T.i2 (0, 0)), (g2, Obj.cells #[.slice none 0 0, .slice none 0 0] T.i2 (0, 0)), (x5.2.1, Obj.cells (rows (shopsH x5.2.2.1 x5.2.2.2)).toArray T.i8 (0, 0)), (x4.2.1, Obj.cells (rows (shopsH x4.2.2.1 x4.2.2.2)).toArray T.i8 (0, 0)), (x3.2.1, Obj.cells (rows (shopsH x3.2.2.1 x3.2.2.2)).toArray T.i8 (0, 0)), (x2.2.1, Obj.cells (rows (shopsH x2.2.2.1 x2.2.2.2)).toArray T.i8 (0, 0)), (x1.1, Obj.cells (rows shopsC).toArray T.r5 (0, 0))]) rfl rfl (show List.Perm ([(g5, Obj.cells #[.slice none 0 0, .slice none 0 0] T.i2 (0, 0)), (g4, Obj.cells #[.slice none 0 0, .slice none 0 0] T.i2 (0, 0)), (g3, Obj.cells #[.slice none 0 0, .slice none 0 0] T.i2 (0, 0)), (g2, Obj.cells #[.slice none 0 0, .slice none 0 0] T.i2 (0, 0)), (g1, Obj.cells #[.slice none 0 0, .slice none 0 0] T.i2 (0, 0)), (x5.2.1, Obj.cells (rows (shopsH x5.2.2.1 x5.2.2.2)).toArray T.i8 (0, 0)), (x4.2.1, Obj.cells (rows (shopsH x4.2.2.1 x4.2.2.2)).toArray T.i8 (0, 0)), (x3.2.1, Obj.cells (rows (shopsH x3.2.2.1 x3.2.2.2)).toArray T.i8 (0, 0)), (x2.2.1, Obj.cells (rows (shopsH x2.2.2.1 x2.2.2.2)).toArray T.i8 (0, 0)), (x1.1, Obj.cells (rows shopsC).toArray T.r5 (0, 0))]) ([(g1, Obj.cells #[.slice none 0 0, .slice none 0 0] T.i2 (0, 0)), (g5, Obj.cells #[.slice none 0 0, .slice none 0 0] T.i2 (0, 0)), (g4, Obj.cells #[.slice none 0 0, .slice none 0 0] T.i2 (0, 0)), (g3, Obj.cells #[.slice none 0 0, .slice none 0 0] T.i2 (0, 0)), (g2, Obj.cells #[.slice none 0 0, .slice none 0 0] T.i2 (0, 0)), (x5.2.1, Obj.cells (rows (shopsH x5.2.2.1 x5.2.2.2)).toArray T.i8 (0, 0)), (x4.2.1, Obj.cells (rows (shopsH x4.2.2.1 x4.2.2.2)).toArray T.i8 (0, 0)), (x3.2.1, Obj.cells (rows (shopsH x3.2.2.1 x3.2.2.2)).toArray T.i8 (0, 0)), (x2.2.1, Obj.cells (rows (shopsH x2.2.2.1 x2.2.2.2)).toArray T.i8 (0, 0)), (x1.1, Obj.cells (rows shopsC).toArray T.r5 (0, 0))]) from (D4 fun p => by simp only [List.countP_append, List.countP_cons, List.countP_nil]; omega)) T.d4 (by rfl) (by rfl) ?_; refine aY ?_; refine r4 (cs := #[.slice (some ⟨x2.1, 0, none⟩) 4 4, .slice (some ⟨x2.2.1, 0, none⟩) 6 6]) (hp' := [(g5, Obj.cells #[.slice none 0 0, .slice none 0 0] T.i2 (0, 0)), (g4, Obj.cells #[.slice none 0 0, .slice none 0 0] T.i2 (0, 0)), (g3, Obj.cells #[.slice none 0 0, .slice none 0 0] T.i2 (0, 0)), (x5.2.1, Obj.cells (rows (shopsH x5.2.2.1 x5.2.2.2)).toArray T.i8 (0, 0)), (x4.2.1, Obj.cells (rows (shopsH x4.2.2.1 x4.2.2.2)).toArray T.i8 (0, 0)), (x3.2.1, Obj.cells (rows (shopsH x3.2.2.1 x3.2.2.2)).toArray T.i8 (0, 0)), (x2.2.1, Obj.cells (rows (shopsH x2.2.2.1 x2.2.2.2)).toArray T.i8 (0, 0)), (x1.1, Obj.cells (rows shopsC).toArray T.r5 (0, 0))]) rfl rfl (show List.Perm ([(g5, Obj.cells #[.slice none 0 0, .slice none 0 0] T.i2 (0, 0)), (g4, Obj.cells #[.slice none 0 0, .slice none 0 0] T.i2 (0, 0)), (g3, Obj.cells #[.slice none 0 0, .slice none 0 0] T.i2 (0, 0)), (g2, Obj.cells #[.slice none 0 0, .slice none 0 0] T.i2 (0, 0)), (x5.2.1, Obj.cells (rows (shopsH x5.2.2.1 x5.2.2.2)).toArray T.i8 (0, 0)), (x4.2.1, Obj.cells (rows (shopsH x4.2.2.1 x4.2.2.2)).toArray T.i8 (0, 0)), (x3.2.1, Obj.cells (rows (shopsH x3.2.2.1 x3.2.2.2)).toArray T.i8 (0, 0)), (x2.2.1, Obj.cells (rows (shopsH x2.2.2.1 x2.2.2.2)).toArray T.i8 (0, 0)), (x1.1, Obj.cells (rows shopsC).toArray T.r5 (0, 0))]) ([(g2, Obj.cells #[.slice none 0 0, .slice none 0 0] T.i2 (0, 0)), (g5, Obj.cells #[.slice none 0 0, .slice none 0 0] T.i2 (0, 0)), (g4, Obj.cells #[.slice none 0 0, .slice none 0 0] T.i2 (0, 0)), (g3, Obj.cells #[.slice none 0 0, .slice none 0 0] T.i2 (0, 0)), (x5.2.1, Obj.cells (rows (shopsH x5.2.2.1 x5.2.2.2)).toArray T.i8 (0, 0)), (x4.2.1, Obj.cells (rows (shopsH x4.2.2.1 x4.2.2.2)).toArray T.i8 (0, 0)), (x3.2.1, Obj.cells (rows (shopsH x3.2.2.1 x3.2.2.2)).toArray T.i8 (0, 0)), (x2.2.1, Obj.cells (rows (shopsH x2.2.2.1 x2.2.2.2)).toArray T.i8 (0, 0)), (x1.1, Obj.cells (rows shopsC).toArray T.r5 (0, 0))]) from (D4 fun p => by simp only [List.countP_append, List.countP_cons, List.countP_nil]; omega)) T.d4 (by rfl) (by rfl) ?_; refine aY ?_; refine r4 (cs := #[.slice (some ⟨x3.1, 0, none⟩) 4 4, .slice (some ⟨x3.2.1, 0, none⟩) 6 6]) (hp' := [(g5, Obj.cells #[.slice none 0 0, .slice none 0 0] T.i2 (0, 0)), (g4, Obj.cells #[.slice none 0 0, .slice none 0 0] T.i2 (0, 0)), (x5.2.1, Obj.cells (rows (shopsH x5.2.2.1 x5.2.2.2)).toArray T.i8 (0, 0)), (x4.2.1, Obj.cells (rows (shopsH x4.2.2.1 x4.2.2.2)).toArray T.i8 (0, 0)), (x3.2.1, Obj.cells (rows (shopsH x3.2.2.1 x3.2.2.2)).toArray T.i8 (0, 0)), (x2.2.1, Obj.cells (rows (shopsH x2.2.2.1 x2.2.2.2)).toArray T.i8 (0, 0)), (x1.1, Obj.cells (rows shopsC).toArray T.r5 (0, 0))]) rfl rfl (show List.Perm ([(g5, Obj.cells #[.slice none 0 0, .slice none 0 0] T.i2 (0, 0)), (g4, Obj.cells #[.slice none 0 0, .slice none 0 0] T.i2 (0, 0)), (g3, Obj.cells #[.slice none 0 0, .slice none 0 0] T.i2 (0, 0)), (x5.2.1, Obj.cells (rows (shopsH x5.2.2.1 x5.2.2.2)).toArray T.i8 (0, 0)), (x4.2.1, Obj.cells (rows (shopsH x4.2.2.1 x4.2.2.2)).toArray T.i8 (0, 0)), (x3.2.1, Obj.cells (rows (shopsH x3.2.2.1 x3.2.2.2)).toArray T.i8 (0, 0)), (x2.2.1, Obj.cells (rows (shopsH x2.2.2.1 x2.2.2.2)).toArray T.i8 (0, 0)), (x1.1, Obj.cells (rows shopsC).toArray T.r5 (0, 0))]) ([(g3, Obj.cells #[.slice none 0 0, .slice none 0 0] T.i2 (0, 0)), (g5, Obj.cells #[.slice none 0 0, .slice none 0 0] T.i2 (0, 0)), (g4, Obj.cells #[.slice none 0 0, .slice none 0 0] T.i2 (0, 0)), (x5.2.1, Obj.cells (rows (shopsH x5.2.2.1 x5.2.2.2)).toArray T.i8 (0, 0)), (x4.2.1, Obj.cells (rows (shopsH x4.2.2.1 x4.2.2.2)).toArray T.i8 (0, 0)), (x3.2.1, Obj.cells (rows (shopsH x3.2.2.1 x3.2.2.2)).toArray T.i8 (0, 0)), (x2.2.1, Obj.cells (rows (shopsH x2.2.2.1 x2.2.2.2)).toArray T.i8 (0, 0)), (x1.1, Obj.cells (rows shopsC).toArray T.r5 (0, 0))]) from (D4 fun p => by simp only [List.countP_append, List.countP_cons, List.countP_nil]; omega)) T.d4 (by rfl) (by rfl) ?_; refine aY ?_; refine r4 (cs := #[.slice (some ⟨x4.1, 0, none⟩) 4 4, .slice (some ⟨x4.2.1, 0, none⟩) 6 6]) (hp' := [(g5, Obj.cells #[.slice none 0 0, .slice none 0 0] T.i2 (0, 0)), (x5.2.1, Obj.cells (rows (shopsH x5.2.2.1 x5.2.2.2)).toArray T.i8 (0, 0)), (x4.2.1, Obj.cells (rows (shopsH x4.2.2.1 x4.2.2.2)).toArray T.i8 (0, 0)), (x3.2.1, Obj.cells (rows (shopsH x3.2.2.1 x3.2.2.2)).toArray T.i8 (0, 0)), (x2.2.1, Obj.cells (rows (shopsH x2.2.2.1 x2.2.2.2)).toArray T.i8 (0, 0)), (x1.1, Obj.cells (rows shopsC).toArray T.r5 (0, 0))]) rfl rfl (show List.Perm ([(g5, Obj.cells #[.slice none 0 0, .slice none 0 0] T.i2 (0, 0)), (g4, Obj.cells #[.slice none 0 0, .slice none 0 0] T.i2 (0, 0)), (x5.2.1, Obj.cells (rows (shopsH x5.2.2.1 x5.2.2.2)).toArray T.i8 (0, 0)), (x4.2.1, Obj.cells (rows (shopsH x4.2.2.1 x4.2.2.2)).toArray T.i8 (0, 0)), (x3.2.1, Obj.cells (rows (shopsH x3.2.2.1 x3.2.2.2)).toArray T.i8 (0, 0)), (x2.2.1, Obj.cells (rows (shopsH x2.2.2.1 x2.2.2.2)).toArray T.i8 (0, 0)), (x1.1, Obj.cells (rows shopsC).toArray T.r5 (0, 0))]) ([(g4, Obj.cells #[.slice none 0 0, .slice none 0 0] T.i2 (0, 0)), (g5, Obj.cells #[.slice none 0 0, .slice none 0 0] T.i2 (0, 0)), (x5.2.1, Obj.cells (rows (shopsH x5.2.2.1 x5.2.2.2)).toArray T.i8 (0, 0)), (x4.2.1, Obj.cells (rows (shopsH x4.2.2.1 x4.2.2.2)).toArray T.i8 (0, 0)), (x3.2.1, Obj.cells (rows (shopsH x3.2.2.1 x3.2.2.2)).toArray T.i8 (0, 0)), (x2.2.1, Obj.cells (rows (shopsH x2.2.2.1 x2.2.2.2)).toArray T.i8 (0, 0)), (x1.1, Obj.cells (rows shopsC).toArray T.r5 (0, 0))]) from (D4 fun p => by simp only [List.countP_append, List.countP_cons, List.countP_nil]; omega)) T.d4 (by rfl) (by rfl) ?_; refine aY ?_; refine r4 (cs := #[.slice (some ⟨x5.1, 0, none⟩) 4 4, .slice (some ⟨x5.2.1, 0, none⟩) 6 6]) (hp' := [(x5.2.1, Obj.cells (rows (shopsH x5.2.2.1 x5.2.2.2)).toArray T.i8 (0, 0)), (x4.2.1, Obj.cells (rows (shopsH x4.2.2.1 x4.2.2.2)).toArray T.i8 (0, 0)), (x3.2.1, Obj.cells (rows (shopsH x3.2.2.1 x3.2.2.2)).toArray T.i8 (0, 0)), (x2.2.1, Obj.cells (rows (shopsH x2.2.2.1 x2.2.2.2)).toArray T.i8 (0, 0)), (x1.1, Obj.cells (rows shopsC).toArray T.r5 (0, 0))]) rfl rfl (.refl _) T.d4 (by rfl) (by rfl) ?_; refine aY (d9 (i1 ?_)); refine G1 ([(x1.1, Obj.cells (rows shopsC).toArray T.r5 (0, 0)), (x2.2.1, Obj.cells (rows (shopsH x2.2.2.1 x2.2.2.2)).toArray T.i8 (0, 0)), (x4.2.1, Obj.cells (rows (shopsH x4.2.2.1 x4.2.2.2)).toArray T.i8 (0, 0))]) ([(x5.2.1, Obj.cells (rows (shopsH x5.2.2.1 x5.2.2.2)).toArray T.i8 (0, 0)), (x3.2.1, Obj.cells (rows (shopsH x3.2.2.1 x3.2.2.2)).toArray T.i8 (0, 0))]) (show List.Perm ([(x5.2.1, Obj.cells (rows (shopsH x5.2.2.1 x5.2.2.2)).toArray T.i8 (0, 0)), (x4.2.1, Obj.cells (rows (shopsH x4.2.2.1 x4.2.2.2)).toArray T.i8 (0, 0)), (x3.2.1, Obj.cells (rows (shopsH x3.2.2.1 x3.2.2.2)).toArray T.i8 (0, 0)), (x2.2.1, Obj.cells (rows (shopsH x2.2.2.1 x2.2.2.2)).toArray T.i8 (0, 0)), (x1.1, Obj.cells (rows shopsC).toArray T.r5 (0, 0))]) ([(x1.1, Obj.cells (rows shopsC).toArray T.r5 (0, 0)), (x2.2.1, Obj.cells (rows (shopsH x2.2.2.1 x2.2.2.2)).toArray T.i8 (0, 0)), (x4.2.1, Obj.cells (rows (shopsH x4.2.2.1 x4.2.2.2)).toArray T.i8 (0, 0)), (x5.2.1, Obj.cells (rows (shopsH x5.2.2.1 x5.2.2.2)).toArray T.i8 (0, 0)), (x3.2.1, Obj.cells (rows (shopsH x3.2.2.1 x3.2.2.2)).toArray T.i8 (0, 0))]) from (D4 fun p => by simp only [List.countP_append, List.countP_cons, List.countP_nil]; omega)) 17 [16, 13, 10] mixed (by decide) (by decide) (by decide) rfl rfl rfl ?_
 apply n6 _ rfl rfl rfl
 ·intro w1
  first | refine a7 ⟨_, 0, none⟩ rfl rfl T.k0 rfl ?_ | refine a7 _ rfl rfl T.k0 rfl ?_
  refine b3 ?_; exact j7 rfl
 apply n6 _ rfl rfl rfl
 ·intro w1
  first | refine a6 rfl T.b5 rfl (d8 mB rfl) ?_ | refine a6 rfl T.b5 rfl (h9 mB rfl) ?_ | refine a6 rfl T.b5 rfl (d3 mB (b4 (by omega) rfl)) ?_ | refine a6 rfl T.b5 rfl (d1 mB (rows_get (by omega) rfl)) ?_ | refine a6 rfl T.b5 rfl (d7 mB rfl) ?_
  refine b3 ?_; exact j7 rfl
 apply n6 _ rfl rfl rfl
 ·intro w1
  first | refine a7 ⟨_, 1, none⟩ rfl rfl T.j0 rfl ?_ | refine a7 _ rfl rfl T.j0 rfl ?_
  refine b3 ?_; exact j7 rfl
 apply n6 _ rfl rfl rfl
 ·intro w1
  first | refine a6 rfl T.a9 rfl (d8 mB rfl) ?_ | refine a6 rfl T.a9 rfl (h9 mB rfl) ?_ | refine a6 rfl T.a9 rfl (d3 mB (b4 (by omega) rfl)) ?_ | refine a6 rfl T.a9 rfl (d1 mB (rows_get (by omega) rfl)) ?_ | refine a6 rfl T.a9 rfl (d7 mB rfl) ?_
  refine b3 ?_; exact j7 rfl
 apply n6 _ rfl rfl rfl
 ·intro w1
  first | refine a7 ⟨_, 1, none⟩ rfl rfl T.j0 rfl ?_ | refine a7 _ rfl rfl T.j0 rfl ?_
  refine b3 ?_; exact j7 rfl
 apply n6 _ rfl rfl rfl
 ·intro w1
  first | refine a6 rfl T.a9 rfl (d8 mB rfl) ?_ | refine a6 rfl T.a9 rfl (h9 mB rfl) ?_ | refine a6 rfl T.a9 rfl (d3 mB (b4 (by omega) rfl)) ?_ | refine a6 rfl T.a9 rfl (d1 mB (rows_get (by omega) rfl)) ?_ | refine a6 rfl T.a9 rfl (d7 mB rfl) ?_
  refine b3 ?_; exact j7 rfl
 apply n6 _ rfl rfl rfl
 ·intro w1
  first | refine a7 ⟨_, 1, none⟩ rfl rfl T.j0 rfl ?_ | refine a7 _ rfl rfl T.j0 rfl ?_
  refine b3 ?_; exact j7 rfl
 apply n6 _ rfl rfl rfl
 ·intro w1
  first | refine a6 rfl T.a9 rfl (d8 mB rfl) ?_ | refine a6 rfl T.a9 rfl (h9 mB rfl) ?_ | refine a6 rfl T.a9 rfl (d3 mB (b4 (by omega) rfl)) ?_ | refine a6 rfl T.a9 rfl (d1 mB (rows_get (by omega) rfl)) ?_ | refine a6 rfl T.a9 rfl (d7 mB rfl) ?_
  refine b3 ?_; exact j7 rfl
 refine l3 (fun w1 => l6 1 2 rfl T.p8 T.t5 rfl rfl rfl (show 1 < 4 by decide) rfl (q_z rfl)) ?_
 apply n6 _ rfl rfl rfl
 ·intro w1
  first | refine a7 ⟨_, 1, none⟩ rfl rfl T.v7 rfl ?_ | refine a7 _ rfl rfl T.v7 rfl ?_
  refine b3 ?_; exact j7 rfl
 refine xS ⟨Unit, fun _ => True, fun _ => undef, fun _ => [], fun _ => [(x1.1, Obj.cells (rows shC1).toArray T.r5 (0, 0)), (x2.2.1, Obj.cells (rows (shopsH x2.2.2.1 x2.2.2.2)).toArray T.i8 (0, 0)), (x4.2.1, Obj.cells (rows (shopsH x4.2.2.1 x4.2.2.2)).toArray T.i8 (0, 0))]⟩ rfl rfl ?_ ?_
 ·intro w1; refine qJ (α := Cl) (([98, 114, 101, 97, 100], 3)) (k := 1) (f := 1) (l := shopsC) (hp' := [(x2.2.1, Obj.cells (rows (shopsH x2.2.2.1 x2.2.2.2)).toArray T.i8 (0, 0)), (x4.2.1, Obj.cells (rows (shopsH x4.2.2.1 x4.2.2.2)).toArray T.i8 (0, 0))]) rfl (show 3 = 1 * El.sz Cl + 1 from rfl) rfl (.refl _) T.v6 (show 1 < 4 by decide) (by decide) rfl rfl ?_; refine b3 ?_; exact G4 () trivial (fun h => by cases h) (List.Sublist.refl _) trivial
 refine l3 (fun w1 => l6 5 20 rfl T.m9 T.l8 rfl rfl rfl (show 5 < 6 by decide) rfl (q_z rfl)) ?_
 apply n6 _ rfl rfl rfl
 ·intro w1
  first | refine a7 ⟨_, 2, none⟩ rfl rfl T.n4 rfl ?_ | refine a7 _ rfl rfl T.n4 rfl ?_
  refine b3 ?_; exact j7 rfl
 refine xS ⟨Unit, fun _ => True, fun _ => undef, fun _ => [], fun _ => [(x2.2.1, Obj.cells (rows (shH2 x2.2.2.1 x2.2.2.2)).toArray T.i8 (0, 0)), (x1.1, Obj.cells (rows shC1).toArray T.r5 (0, 0)), (x4.2.1, Obj.cells (rows (shopsH x4.2.2.1 x4.2.2.2)).toArray T.i8 (0, 0))]⟩ rfl rfl ?_ ?_
 ·intro _ _; intro w1; refine qJ (α := Hd) (([109, 105, 108, 108, 105, 110, 101, 114], -1, 5, ⟨none, 0, []⟩)) (k := 5) (f := 2) (l := shopsH x2.2.2.1 x2.2.2.2) (hp' := [(x1.1, Obj.cells (rows shC1).toArray T.r5 (0, 0)), (x4.2.1, Obj.cells (rows (shopsH x4.2.2.1 x4.2.2.2)).toArray T.i8 (0, 0))]) rfl (show 22 = 5 * El.sz Hd + 2 from rfl) rfl (show List.Perm ([(x1.1, Obj.cells (rows shC1).toArray T.r5 (0, 0)), (x2.2.1, Obj.cells (rows (shopsH x2.2.2.1 x2.2.2.2)).toArray T.i8 (0, 0)), (x4.2.1, Obj.cells (rows (shopsH x4.2.2.1 x4.2.2.2)).toArray T.i8 (0, 0))]) ([(x2.2.1, Obj.cells (rows (shopsH x2.2.2.1 x2.2.2.2)).toArray T.i8 (0, 0)), (x1.1, Obj.cells (rows shC1).toArray T.r5 (0, 0)), (x4.2.1, Obj.cells (rows (shopsH x4.2.2.1 x4.2.2.2)).toArray T.i8 (0, 0))]) from (D4 fun p => by simp only [List.countP_append, List.countP_cons, List.countP_nil]; omega)) T.v6 (show 5 < 6 by decide) (by decide) rfl rfl ?_; refine b3 ?_; exact G4 () trivial (fun h => by cases h) (List.Sublist.refl _) trivial
 refine l3 (fun w1 => l6 1 4 rfl T.m9 T.l8 rfl rfl rfl (show 1 < 6 by decide) rfl (q_z rfl)) ?_
 apply n6 _ rfl rfl rfl
 ·intro w1
  first | refine a7 ⟨_, 1, none⟩ rfl rfl T.p9 rfl ?_ | refine a7 _ rfl rfl T.p9 rfl ?_
  refine b3 ?_; exact j7 rfl
 refine xS ⟨Unit, fun _ => True, fun _ => undef, fun _ => [], fun _ => [(x4.2.1, Obj.cells (rows (shH4 x4.2.2.1 x4.2.2.2)).toArray T.i8 (0, 0)), (x2.2.1, Obj.cells (rows (shH2 x2.2.2.1 x2.2.2.2)).toArray T.i8 (0, 0)), (x1.1, Obj.cells (rows shC1).toArray T.r5 (0, 0))]⟩ rfl rfl ?_ ?_
 ·intro _ _; intro w1; refine qJ (α := Hd) (([98, 111, 110, 110, 101, 116, 115], 0, 3, ⟨none, 0, []⟩)) (k := 1) (f := 1) (l := shopsH x4.2.2.1 x4.2.2.2) (hp' := [(x2.2.1, Obj.cells (rows (shH2 x2.2.2.1 x2.2.2.2)).toArray T.i8 (0, 0)), (x1.1, Obj.cells (rows shC1).toArray T.r5 (0, 0))]) rfl (show 5 = 1 * El.sz Hd + 1 from rfl) rfl (show List.Perm ([(x2.2.1, Obj.cells (rows (shH2 x2.2.2.1 x2.2.2.2)).toArray T.i8 (0, 0)), (x1.1, Obj.cells (rows shC1).toArray T.r5 (0, 0)), (x4.2.1, Obj.cells (rows (shopsH x4.2.2.1 x4.2.2.2)).toArray T.i8 (0, 0))]) ([(x4.2.1, Obj.cells (rows (shopsH x4.2.2.1 x4.2.2.2)).toArray T.i8 (0, 0)), (x2.2.1, Obj.cells (rows (shH2 x2.2.2.1 x2.2.2.2)).toArray T.i8 (0, 0)), (x1.1, Obj.cells (rows shC1).toArray T.r5 (0, 0))]) from (D4 fun p => by simp only [List.countP_append, List.countP_cons, List.countP_nil]; omega)) T.v6 (show 1 < 6 by decide) (by decide) rfl rfl ?_; refine b3 ?_; exact G4 () trivial (fun h => by cases h) (List.Sublist.refl _) trivial
 refine w5 ⟨rfl, ?_⟩; intro _ _; refine l6 1 4 rfl T.m9 T.l8 rfl rfl rfl (show 1 < 6 by decide) rfl ?_
 first | refine a7 ⟨_, 2, none⟩ rfl rfl T.n4 rfl ?_ | refine a7 _ rfl rfl T.n4 rfl ?_
 refine qJ (α := Hd) (([98, 111, 110, 110, 101, 116, 115], -1, 5, ⟨none, 0, []⟩)) (k := 1) (f := 2) (l := shopsH x5.2.2.1 x5.2.2.2) (hp' := [(x4.2.1, Obj.cells (rows (shH4 x4.2.2.1 x4.2.2.2)).toArray T.i8 (0, 0)), (x2.2.1, Obj.cells (rows (shH2 x2.2.2.1 x2.2.2.2)).toArray T.i8 (0, 0)), (x1.1, Obj.cells (rows shC1).toArray T.r5 (0, 0)), (x3.2.1, Obj.cells (rows (shopsH x3.2.2.1 x3.2.2.2)).toArray T.i8 (0, 0))]) rfl (show 6 = 1 * El.sz Hd + 2 from rfl) rfl (show List.Perm ([(x4.2.1, Obj.cells (rows (shH4 x4.2.2.1 x4.2.2.2)).toArray T.i8 (0, 0)), (x2.2.1, Obj.cells (rows (shH2 x2.2.2.1 x2.2.2.2)).toArray T.i8 (0, 0)), (x1.1, Obj.cells (rows shC1).toArray T.r5 (0, 0)), (x5.2.1, Obj.cells (rows (shopsH x5.2.2.1 x5.2.2.2)).toArray T.i8 (0, 0)), (x3.2.1, Obj.cells (rows (shopsH x3.2.2.1 x3.2.2.2)).toArray T.i8 (0, 0))]) ([(x5.2.1, Obj.cells (rows (shopsH x5.2.2.1 x5.2.2.2)).toArray T.i8 (0, 0)), (x4.2.1, Obj.cells (rows (shH4 x4.2.2.1 x4.2.2.2)).toArray T.i8 (0, 0)), (x2.2.1, Obj.cells (rows (shH2 x2.2.2.1 x2.2.2.2)).toArray T.i8 (0, 0)), (x1.1, Obj.cells (rows shC1).toArray T.r5 (0, 0)), (x3.2.1, Obj.cells (rows (shopsH x3.2.2.1 x3.2.2.2)).toArray T.i8 (0, 0))]) from (D4 fun p => by simp only [List.countP_append, List.countP_cons, List.countP_nil]; omega)) T.v6 (show 1 < 6 by decide) (by decide) rfl rfl ?_; refine d9 (i1 ?_); refine G1 ([(x3.2.1, Obj.cells (rows (shopsH x3.2.2.1 x3.2.2.2)).toArray T.i8 (0, 0))]) ([(x5.2.1, Obj.cells (rows (shH5 x5.2.2.1 x5.2.2.2)).toArray T.i8 (0, 0)), (x4.2.1, Obj.cells (rows (shH4 x4.2.2.1 x4.2.2.2)).toArray T.i8 (0, 0)), (x2.2.1, Obj.cells (rows (shH2 x2.2.2.1 x2.2.2.2)).toArray T.i8 (0, 0)), (x1.1, Obj.cells (rows shC1).toArray T.r5 (0, 0))]) (show List.Perm ([(x5.2.1, Obj.cells (rows (shH5 x5.2.2.1 x5.2.2.2)).toArray T.i8 (0, 0)), (x4.2.1, Obj.cells (rows (shH4 x4.2.2.1 x4.2.2.2)).toArray T.i8 (0, 0)), (x2.2.1, Obj.cells (rows (shH2 x2.2.2.1 x2.2.2.2)).toArray T.i8 (0, 0)), (x1.1, Obj.cells (rows shC1).toArray T.r5 (0, 0)), (x3.2.1, Obj.cells (rows (shopsH x3.2.2.1 x3.2.2.2)).toArray T.i8 (0, 0))]) ([(x3.2.1, Obj.cells (rows (shopsH x3.2.2.1 x3.2.2.2)).toArray T.i8 (0, 0)), (x5.2.1, Obj.cells (rows (shH5 x5.2.2.1 x5.2.2.2)).toArray T.i8 (0, 0)), (x4.2.1, Obj.cells (rows (shH4 x4.2.2.1 x4.2.2.2)).toArray T.i8 (0, 0)), (x2.2.1, Obj.cells (rows (shH2 x2.2.2.1 x2.2.2.2)).toArray T.i8 (0, 0)), (x1.1, Obj.cells (rows shC1).toArray T.r5 (0, 0))]) from (D4 fun p => by simp only [List.countP_append, List.countP_cons, List.countP_nil]; omega)) 8 [7] mixed (by decide) (by decide) (by decide) rfl rfl rfl ?_
 apply n6 _ rfl rfl rfl
 ·intro w1
  first | refine a7 ⟨_, 1, none⟩ rfl rfl T.j0 rfl ?_ | refine a7 _ rfl rfl T.j0 rfl ?_
  refine b3 ?_; exact j7 rfl
 apply n6 _ rfl rfl rfl
 ·intro w1
  first | refine a6 rfl T.a9 rfl (d8 mB rfl) ?_ | refine a6 rfl T.a9 rfl (h9 mB rfl) ?_ | refine a6 rfl T.a9 rfl (d3 mB (b4 (by omega) rfl)) ?_ | refine a6 rfl T.a9 rfl (d1 mB (rows_get (by omega) rfl)) ?_ | refine a6 rfl T.a9 rfl (d7 mB rfl) ?_
  refine b3 ?_; exact j7 rfl
 apply n6 _ rfl rfl rfl
 ·intro w1
  first | refine a7 ⟨_, 1, none⟩ rfl rfl T.j0 rfl ?_ | refine a7 _ rfl rfl T.j0 rfl ?_
  refine b3 ?_; exact j7 rfl
 apply n6 _ rfl rfl rfl
 ·intro w1
  first | refine a6 rfl T.a9 rfl (d8 mB rfl) ?_ | refine a6 rfl T.a9 rfl (h9 mB rfl) ?_ | refine a6 rfl T.a9 rfl (d3 mB (b4 (by omega) rfl)) ?_ | refine a6 rfl T.a9 rfl (d1 mB (rows_get (by omega) rfl)) ?_ | refine a6 rfl T.a9 rfl (d7 mB rfl) ?_
  refine b3 ?_; exact j7 rfl
 refine l3 (fun w1 => d5 F.u4 rfl rfl (s1 (A := none) (n := 0) (cp := 0) [109, 101, 114, 99, 101, 114] 2) j5 trivial fun _ _ => (q_z rfl)) ?_; refine l3 (fun w1 => d5 F.u4 rfl rfl (s1 (A := none) (n := 0) (cp := 0) [104, 97, 116, 116, 101, 114] 3) j5 trivial fun _ _ => (q_z rfl)) ?_; refine l3 (fun w1 => l6 3 12 rfl T.m9 T.l8 rfl rfl rfl (show 3 < 6 by decide) rfl (q_z rfl)) ?_; refine xS ⟨Unit, fun _ => True, fun _ => undef, fun _ => [], fun _ => [(x3.2.1, Obj.cells (rows ((shopsH x3.2.2.1 x3.2.2.2).set 3 ([109, 101, 114, 99, 101, 114], 2, -1, ⟨none, 0, []⟩))).toArray T.i8 (0, 0))]⟩ rfl rfl ?_ ?_
 ·intro w1; refine aj0 (cs := #[str [109, 101, 114, 99, 101, 114], int 2, int (-1), .slice none 0 0]) (old := (rows (shopsH x3.2.2.1 x3.2.2.2)).toArray) (hp' := []) rfl rfl (.refl _) T.l8 p7 (by rfl) (cx8 (hp' := [(x3.2.1, Obj.cells (rows ((shopsH x3.2.2.1 x3.2.2.2).set 3 ([109, 101, 114, 99, 101, 114], 2, -1, ⟨none, 0, []⟩))).toArray T.i8 (0, 0))]) (by rfl) ?_); refine b3 ?_; exact G4 () trivial (fun h => by cases h) (List.Sublist.refl _) trivial
 refine w5 ⟨rfl, ?_⟩; intro _ _; refine l6 4 16 rfl T.m9 T.l8 rfl rfl rfl (show 4 < 6 by decide) rfl ?_; refine aj0 (cs := #[str [104, 97, 116, 116, 101, 114], int 3, int (-1), .slice none 0 0]) (old := (rows ((shopsH x3.2.2.1 x3.2.2.2).set 3 ([109, 101, 114, 99, 101, 114], 2, -1, ⟨none, 0, []⟩))).toArray) (hp' := [(x5.2.1, Obj.cells (rows (shH5 x5.2.2.1 x5.2.2.2)).toArray T.i8 (0, 0)), (x4.2.1, Obj.cells (rows (shH4 x4.2.2.1 x4.2.2.2)).toArray T.i8 (0, 0)), (x2.2.1, Obj.cells (rows (shH2 x2.2.2.1 x2.2.2.2)).toArray T.i8 (0, 0)), (x1.1, Obj.cells (rows shC1).toArray T.r5 (0, 0))]) rfl rfl (.refl _) T.l8 p7 (by rfl) ?_; refine cx8 (hp' := [(x3.2.1, Obj.cells (rows (shH3 x3.2.2.1 x3.2.2.2)).toArray T.i8 (0, 0)), (x5.2.1, Obj.cells (rows (shH5 x5.2.2.1 x5.2.2.2)).toArray T.i8 (0, 0)), (x4.2.1, Obj.cells (rows (shH4 x4.2.2.1 x4.2.2.2)).toArray T.i8 (0, 0)), (x2.2.1, Obj.cells (rows (shH2 x2.2.2.1 x2.2.2.2)).toArray T.i8 (0, 0)), (x1.1, Obj.cells (rows shC1).toArray T.r5 (0, 0))]) (by rfl) ?_; refine d9 (bY ?_); refine gj2 (α := Int) ?_; refine C4 (rows (shH3 x3.2.2.1 x3.2.2.2)) (List.prefix_refl _) ?_; refine bQ (Fs := (shH3 x3.2.2.1 x3.2.2.2).map Hd.row) (by intro F hF; left; simp only [cq1, List.map_cons, List.map_nil, List.mem_cons, List.not_mem_nil, or_false] at hF; rcases hF with rfl | rfl | rfl | rfl | rfl | rfl <;> repeat constructor) ?_; refine kY (A := some ⟨x3.2.1, 0, none⟩) (ps := shH3 x3.2.2.1 x3.2.2.2) (f := Hd.row) mB m0 ?_; refine C4 (rows (shH5 x5.2.2.1 x5.2.2.2)) (List.prefix_refl _) ?_; refine bQ (Fs := (shH5 x5.2.2.1 x5.2.2.2).map Hd.row) (by intro F hF; left; simp only [cj9, List.map_cons, List.map_nil, List.mem_cons, List.not_mem_nil, or_false] at hF; rcases hF with rfl | rfl | rfl | rfl | rfl | rfl <;> repeat constructor) ?_; refine kY (A := some ⟨x5.2.1, 0, none⟩) (ps := shH5 x5.2.2.1 x5.2.2.2) (f := Hd.row) mB m0 ?_; refine C4 (rows (shH4 x4.2.2.1 x4.2.2.2)) (List.prefix_refl _) ?_; refine bQ (Fs := (shH4 x4.2.2.1 x4.2.2.2).map Hd.row) (by intro F hF; left; simp only [cq0, List.map_cons, List.map_nil, List.mem_cons, List.not_mem_nil, or_false] at hF; rcases hF with rfl | rfl | rfl | rfl | rfl | rfl <;> repeat constructor) ?_; refine kY (A := some ⟨x4.2.1, 0, none⟩) (ps := shH4 x4.2.2.1 x4.2.2.2) (f := Hd.row) mB m0 ?_; refine C4 (rows (shH2 x2.2.2.1 x2.2.2.2)) (List.prefix_refl _) ?_; refine bQ (Fs := (shH2 x2.2.2.1 x2.2.2.2).map Hd.row) (by intro F hF; left; simp only [cq2, List.map_cons, List.map_nil, List.mem_cons, List.not_mem_nil, or_false] at hF; rcases hF with rfl | rfl | rfl | rfl | rfl | rfl <;> repeat constructor) ?_; refine kY (A := some ⟨x2.2.1, 0, none⟩) (ps := shH2 x2.2.2.1 x2.2.2.2) (f := Hd.row) mB m0 ?_; refine C4 (rows shC1) (List.prefix_refl _) ?_; refine b9 ?_; refine d5 F.rZ rfl rfl (mM) j5 trivial fun _ _ => ?_; refine B3 rfl rfl (a8 rfl ?_); refine m6 rfl rfl ?_ ?_
 ·intro hg1; have hg1' := hg1; try simp at hg1'
  refine i3 rfl rfl hg1 ?_; refine d5 F.l4 rfl rfl (k9) j5 trivial fun c0 _ => ?_; refine i3 rfl rfl hg1 ?_; refine d5 F.L9 rfl rfl (ex_chk0 c0.1 c0.2.1 c0.2.2.1 c0.2.2.2) j5 mC fun _ _ => ?_; refine i3 rfl rfl hg1 (t3 rfl rfl rfl ?_); refine p_f rfl rfl (bf1 hg1) rfl (a8 rfl ?_); refine m6 rfl rfl ?_ ?_
  ·intro hg2; have hg2' := hg2; try simp at hg2'
   refine i3 rfl rfl hg2 ?_
   first | refine u6 rfl T.d6 T.d4 rfl mB (by rfl) ?_ | refine t9 rfl T.d6 T.d4 rfl mB (by rfl) ?_ | refine q6 rfl T.d6 T.d4 rfl rfl (m7 mB (n7 (by omega))) ?_
   refine i3 rfl rfl hg2 ?_; refine d5 F.L9 rfl rfl (ex_chk1 x1.1 x1.2.1 x1.2.2.1 x1.2.2.2) j5 mC fun _ _ => ?_; refine i3 rfl rfl hg2 (t3 rfl rfl rfl ?_); refine p_f rfl rfl (bf1 hg2) rfl (a8 rfl ?_); refine m6 rfl rfl ?_ ?_
   ·intro hg3; have hg3' := hg3; try simp at hg3'
    refine i3 rfl rfl hg3 ?_
    first | refine u6 rfl T.d6 T.d4 rfl mB (by rfl) ?_ | refine t9 rfl T.d6 T.d4 rfl mB (by rfl) ?_ | refine q6 rfl T.d6 T.d4 rfl rfl (m7 mB (n7 (by omega))) ?_
    refine i3 rfl rfl hg3 ?_; refine d5 F.L9 rfl rfl (ex_chk2 x2.1 x2.2.1 x2.2.2.1 x2.2.2.2) j5 mC fun _ _ => ?_; refine i3 rfl rfl hg3 (t3 rfl rfl rfl ?_); refine p_f rfl rfl (bf1 hg3) rfl (a8 rfl ?_); refine m6 rfl rfl ?_ ?_
    ·intro hg4; have hg4' := hg4; try simp at hg4'
     refine i3 rfl rfl hg4 ?_
     first | refine u6 rfl T.d6 T.d4 rfl mB (by rfl) ?_ | refine t9 rfl T.d6 T.d4 rfl mB (by rfl) ?_ | refine q6 rfl T.d6 T.d4 rfl rfl (m7 mB (n7 (by omega))) ?_
     refine i3 rfl rfl hg4 ?_; refine d5 F.L9 rfl rfl (ex_chk3 x3.1 x3.2.1 x3.2.2.1 x3.2.2.2) j5 mC fun _ _ => ?_; refine i3 rfl rfl hg4 (t3 rfl rfl rfl ?_); refine p_f rfl rfl (bf1 hg4) rfl (a8 rfl ?_); refine m6 rfl rfl ?_ ?_
     ·intro hg5; have hg5' := hg5; try simp at hg5'
      refine i3 rfl rfl hg5 ?_
      first | refine u6 rfl T.d6 T.d4 rfl mB (by rfl) ?_ | refine t9 rfl T.d6 T.d4 rfl mB (by rfl) ?_ | refine q6 rfl T.d6 T.d4 rfl rfl (m7 mB (n7 (by omega))) ?_
      refine i3 rfl rfl hg5 ?_; refine d5 F.L9 rfl rfl (ex_chk4 x4.1 x4.2.1 x4.2.2.1 x4.2.2.2) j5 mC fun _ _ => ?_; refine i3 rfl rfl hg5 (t3 rfl rfl rfl ?_); refine p_f rfl rfl (bf1 hg5) rfl ?_; refine d9 ?_
      first | refine k8 rfl (fun hb1 => ?_) (fun hb1 => ?_) | refine i5 rfl (fun hb1 => ?_) (fun hb1 => ?_)
      ·have hb1' := hb1; try simp at hb1'
      have hb1' := hb1; try simp at hb1'
      refine j3 (g6 (i4 ?_)); refine d5 F.l4 rfl rfl (k9) j5 trivial fun c1 _ => ?_; refine d5 F.mQ rfl rfl (iz9 c1) j5 mC fun y1 _ => ?_; refine a8 rfl (i6 rfl rfl rfl (i6 rfl rfl rfl (b7 rfl (b7 rfl (j8 ?_))))); refine d5 F.l4 rfl rfl (k9) j5 trivial fun c2 _ => ?_; refine d5 F.mQ rfl rfl (jj0 c2) j5 mC fun y2 _ => ?_; refine a8 rfl (i6 rfl rfl rfl (i6 rfl rfl rfl (b7 rfl (b7 rfl (j8 ?_))))); refine d5 F.l4 rfl rfl (k9) j5 trivial fun c3 _ => ?_; refine d5 F.bF rfl rfl (gx2 c3) j5 mC fun _ _ => ?_; refine a8 rfl (i6 rfl rfl rfl (i6 rfl rfl rfl (b7 rfl (b7 rfl (j8 ?_))))); refine d5 F.l4 rfl rfl (k9) j5 trivial fun c4 _ => ?_; refine d5 F.bF rfl rfl (gx1 c4) j5 mC fun _ _ => ?_; refine a8 rfl (i6 rfl rfl rfl (i6 rfl rfl rfl (b7 rfl (b7 rfl (d9 (i1 (i4 (a8 rfl (t3 rfl rfl rfl ?_))))))))); refine a8 rfl ?_; refine m6 rfl rfl ?_ ?_
      ·intro hg6; have hg6' := hg6; try simp at hg6'
       refine i3 rfl rfl hg6 (a8 rfl (i3 rfl rfl hg6 (t3 rfl rfl rfl ?_))); refine p_f rfl rfl (bf1 hg6) rfl (a8 rfl ?_); refine m6 rfl rfl ?_ ?_
       ·intro hg7; have hg7' := hg7; try simp at hg7'
        refine i3 rfl rfl hg7 (a8 rfl (i3 rfl rfl hg7 (t3 rfl rfl rfl ?_))); refine p_f rfl rfl (bf1 hg7) rfl (a8 rfl ?_); refine m6 rfl rfl ?_ ?_
        ·intro hg8; have hg8' := hg8; try simp at hg8'
         refine i3 rfl rfl hg8 (a8 rfl (i3 rfl rfl hg8 (t3 rfl rfl rfl ?_))); refine p_f rfl rfl (bf1 hg8) rfl (a8 rfl ?_); refine m6 rfl rfl ?_ ?_
         ·intro hg9; have hg9' := hg9; try simp at hg9'
          refine i3 rfl rfl hg9 (a8 rfl (i3 rfl rfl hg9 (t3 rfl rfl rfl ?_))); refine p_f rfl rfl (bf1 hg9) rfl (a8 rfl ?_); refine m6 rfl rfl ?_ ?_
          ·intro hg10; have hg10' := hg10; try simp at hg10'
           refine i3 rfl rfl hg10 (a8 rfl (i3 rfl rfl hg10 (t3 rfl rfl rfl ?_))); refine p_f rfl rfl (bf1 hg10) rfl (a8 rfl ?_); refine m6 rfl rfl ?_ ?_
           ·intro hg11; have hg11' := hg11; try simp at hg11'
            refine i3 rfl rfl hg11 (a8 rfl (i3 rfl rfl hg11 ?_)); refine j4 _ rfl rfl (fun _ => T.H6 ..) fun g24 => ?_; refine n0 (rows ([2, 3] : List Int)) (List.prefix_refl _) (i3 rfl rfl hg11 ?_); refine d5 F.B9 rfl rfl (lC [2, 3] (by decide)) j5 mC fun _ _ => ?_; refine i3 rfl rfl hg11 (B3 rfl rfl ?_); refine p_f rfl rfl (bf1 hg11) rfl (a8 rfl ?_); refine m6 rfl rfl ?_ ?_
            ·intro hg12; have hg12' := hg12; try simp at hg12'
             refine i3 rfl rfl hg12 (a8 rfl (i3 rfl rfl hg12 ?_)); refine j4 _ rfl rfl (fun _ => T.v0 ..) fun g30 => ?_; refine n0 (rows ([0] : List Int)) (List.prefix_refl _) (i3 rfl rfl hg12 ?_); refine d5 F.B9 rfl rfl (lC [0] (by decide)) j5 mC fun _ _ => ?_; refine i3 rfl rfl hg12 (B3 rfl rfl ?_); refine p_f rfl rfl (bf1 hg12) rfl ?_; refine d9 ?_
             first | refine k8 rfl (fun hb2 => ?_) (fun hb2 => ?_) | refine i5 rfl (fun hb2 => ?_) (fun hb2 => ?_)
             ·have hb2' := hb2; try simp at hb2'
             have hb2' := hb2; try simp at hb2'
             refine j3 (g6 (i4 ?_)); refine d5 F.l4 rfl rfl (k9) j5 trivial fun c5 _ => ?_; refine d5 F.kE rfl rfl (gq4 c5) j5 mC fun y3 _ => ?_; refine a8 rfl (i6 rfl rfl rfl (i6 rfl rfl rfl (b7 rfl (b7 rfl (j8 ?_))))); refine d5 F.l4 rfl rfl (k9) j5 trivial fun c6 _ => ?_; refine d5 F.kE rfl rfl (gq3 c6) j5 mC fun y4 _ => ?_; refine a8 rfl (i6 rfl rfl rfl (i6 rfl rfl rfl (b7 rfl (b7 rfl (j8 ?_))))); refine d5 F.l4 rfl rfl (k9) j5 trivial fun c7 _ => ?_; refine d5 F.Z6 rfl rfl (bz5 c7) j5 mC fun _ _ => ?_; refine a8 rfl (i6 rfl rfl rfl (i6 rfl rfl rfl (i6 rfl rfl rfl (b7 rfl (b7 rfl (b7 rfl (j8 ?_)))))))
             first | refine u6 rfl T.d6 T.d4 rfl mB (by rfl) ?_ | refine t9 rfl T.d6 T.d4 rfl mB (by rfl) ?_ | refine q6 rfl T.d6 T.d4 rfl rfl (m7 mB (n7 (by omega))) ?_
             refine d5 F.Z6 rfl rfl (ex_fol5 x5.1 x5.2.1 x5.2.2.1 x5.2.2.2) j5 mC fun _ _ => ?_; refine a8 rfl (i6 rfl rfl rfl (i6 rfl rfl rfl (i6 rfl rfl rfl (b7 rfl (d9 (i1 (i4 (a8 rfl (t3 rfl rfl rfl ?_))))))))); refine a8 rfl ?_; refine m6 rfl rfl ?_ ?_
             ·intro hg13; have hg13' := hg13; try simp at hg13'
              refine i3 rfl rfl hg13 (a8 rfl (i3 rfl rfl hg13 (t3 rfl rfl rfl ?_))); refine p_f rfl rfl (bf1 hg13) rfl (a8 rfl ?_); refine m6 rfl rfl ?_ ?_
              ·intro hg14; have hg14' := hg14; try simp at hg14'
               refine i3 rfl rfl hg14 (a8 rfl (i3 rfl rfl hg14 (t3 rfl rfl rfl ?_))); refine p_f rfl rfl (bf1 hg14) rfl (a8 rfl ?_); refine m6 rfl rfl ?_ ?_
               ·intro hg15; have hg15' := hg15; try simp at hg15'
                refine i3 rfl rfl hg15 (a8 rfl (i3 rfl rfl hg15 (t3 rfl rfl rfl ?_))); refine p_f rfl rfl (bf1 hg15) rfl (a8 rfl ?_); refine m6 rfl rfl ?_ ?_
                ·intro hg16; have hg16' := hg16; try simp at hg16'
                 refine i3 rfl rfl hg16 (a8 rfl (i3 rfl rfl hg16 (t3 rfl rfl rfl ?_))); refine p_f rfl rfl (bf1 hg16) rfl (a8 rfl ?_); refine m6 rfl rfl ?_ ?_
                 ·intro hg17; have hg17' := hg17; try simp at hg17'
                  refine i3 rfl rfl hg17 (a8 rfl (i3 rfl rfl hg17 (t3 rfl rfl rfl ?_))); refine p_f rfl rfl (bf1 hg17) rfl (a8 rfl ?_); refine m6 rfl rfl ?_ ?_
                  ·intro hg18; have hg18' := hg18; try simp at hg18'
                   refine i3 rfl rfl hg18 (a8 rfl (i3 rfl rfl hg18 ?_)); refine j4 _ rfl rfl (fun _ => T.H6 ..) fun g24 => ?_; refine n0 (rows ([0, 2] : List Int)) (List.prefix_refl _) (i3 rfl rfl hg18 ?_); refine d5 F.B9 rfl rfl (lC [0, 2] (by decide)) j5 mC fun _ _ => ?_; refine i3 rfl rfl hg18 (B3 rfl rfl ?_); refine p_f rfl rfl (bf1 hg18) rfl (a8 rfl ?_); refine m6 rfl rfl ?_ ?_
                   ·intro hg19; have hg19' := hg19; try simp at hg19'
                    refine i3 rfl rfl hg19 (a8 rfl (i3 rfl rfl hg19 ?_)); refine j4 _ rfl rfl (fun _ => T.v0 ..) fun g30 => ?_; refine n0 (rows ([3] : List Int)) (List.prefix_refl _) (i3 rfl rfl hg19 ?_); refine d5 F.B9 rfl rfl (lC [3] (by decide)) j5 mC fun _ _ => ?_; refine i3 rfl rfl hg19 (B3 rfl rfl ?_); refine p_f rfl rfl (bf1 hg19) rfl ?_; refine d9 ?_
                    first | refine k8 rfl (fun hb3 => ?_) (fun hb3 => ?_) | refine i5 rfl (fun hb3 => ?_) (fun hb3 => ?_)
                    ·have hb3' := hb3; try simp at hb3'
                    have hb3' := hb3; try simp at hb3'
                    refine j3 (g6 (i4 ?_)); refine d5 F.l4 rfl rfl (k9) j5 trivial fun c8 _ => ?_; refine d5 F.dU rfl rfl (jj8 c8) j5 mC fun y5 hy5 => ?_; obtain ⟨l5, o5⟩ := y5; obtain rfl : l5 = [] := by cases l5 with | nil => rfl | cons p q => cases hy5
                    refine a8 rfl (i6 rfl rfl rfl (i6 rfl rfl rfl (b7 rfl (b7 rfl (j8 ?_)))))
                    first | refine u6 rfl T.d6 T.d4 rfl mB (by rfl) ?_ | refine t9 rfl T.d6 T.d4 rfl mB (by rfl) ?_ | refine q6 rfl T.d6 T.d4 rfl rfl (m7 mB (n7 (by omega))) ?_
                    refine d5 F.dU rfl rfl (jj7 x5.1 x5.2.1 x5.2.2.1 x5.2.2.2) j5 mC fun y6 hy6 => ?_; refine a8 rfl (i6 rfl rfl rfl (i6 rfl rfl rfl (b7 rfl (b7 rfl (d9 (i1 (i4 (a8 rfl (t3 rfl rfl rfl ?_))))))))); refine a8 rfl ?_; refine m6 rfl rfl ?_ ?_
                    ·intro hg20; have hg20' := hg20; try simp at hg20'
                     refine i3 rfl rfl hg20 (a8 rfl (i3 rfl rfl hg20 (t3 rfl rfl rfl ?_))); refine p_f rfl rfl (bf1 hg20) rfl (a8 rfl ?_); refine m6 rfl rfl ?_ ?_
                     ·intro hg21; have hg21' := hg21; try simp at hg21'
                      refine i3 rfl rfl hg21 (a8 rfl (i3 rfl rfl hg21 ?_)); refine k4 rfl T.bZ rfl ?_; refine i3 rfl rfl hg21 (gK rfl rfl rfl ?_); refine p_f rfl rfl (bf1 hg21) rfl (a8 rfl ?_); refine m6 rfl rfl ?_ ?_
                      ·intro hg22; have hg22' := hg22; try simp at hg22'
                       refine i3 rfl rfl hg22 (a8 rfl (i3 rfl rfl hg22 ?_)); refine j4 _ rfl rfl (fun _ => T.H6 ..) fun g13 => ?_; refine n0 (rows ([1, 5] : List Int)) (List.prefix_refl _) ?_; refine i3 rfl rfl hg22 ?_; refine j4 _ rfl rfl (fun _ => T.iR ..) fun g14 => ?_; refine n0 (rows ([⟨some ⟨g13, 0, none⟩, 2, [1, 5]⟩] : List (Sl Int))) (List.prefix_refl _) ?_; refine rD (A := some ⟨g14, 0, none⟩) (ps := ([⟨some ⟨g13, 0, none⟩, 2, [1, 5]⟩] : List (Sl Int))) mB (by intro p hp; simp only [List.mem_cons, List.not_mem_nil, or_false] at hp; rcases hp with rfl <;> repeat constructor) ?_; refine i3 rfl rfl hg22 ?_; refine d5 F.S9 rfl rfl (bz2 (a := y6.1) (b := [⟨some ⟨g13, 0, none⟩, 2, [1, 5]⟩]) hy6 (show 1 ≤ 1000 by decide) (by intro p hp; simp only [List.mem_cons, List.not_mem_nil, or_false] at hp; rcases hp with rfl; simp)) j5 mC fun _ _ => ?_; refine i3 rfl rfl hg22 (B3 rfl rfl ?_); refine p_f rfl rfl (bf1 hg22) rfl ?_; refine d9 ?_
                       first | refine k8 rfl (fun hb4 => ?_) (fun hb4 => ?_) | refine i5 rfl (fun hb4 => ?_) (fun hb4 => ?_)
                       ·have hb4' := hb4; try simp at hb4'
                       have hb4' := hb4; try simp at hb4'
                       refine j3 (g6 (i4 ?_)); refine j4 _ rfl rfl (fun _ => T.xX ..) fun gr => ?_; refine n0 (rows hdX) (List.prefix_refl _) ?_; refine j4 _ rfl rfl (fun _ => T.sI ..) fun sa1 => ?_; refine n0 (rows ([-1, -1, -1, 1, 0, -1] : List Int)) (List.prefix_refl _) ?_; refine j4 _ rfl rfl (fun _ => T.sI ..) fun sb2 => ?_; refine n0 (rows ([-1, 1, -1, 2, -1, 0] : List Int)) (List.prefix_refl _) ?_; refine j4 _ rfl rfl (fun _ => T.sI ..) fun sc3 => ?_; refine n0 (rows ([1, -1, 0, -1, -1, -1] : List Int)) (List.prefix_refl _) ?_; refine j4 _ rfl rfl (fun _ => T.cj3 ..) fun gl => ?_; refine n0 (rows (stX sa1 sb2 sc3)) (List.prefix_refl _) ?_; refine kX (Fs := (stX sa1 sb2 sc3).map fun p => Row p.a (rows p.l)) (by intro F hF; left; simp only [stX, List.map_cons, List.map_nil, List.mem_cons, List.not_mem_nil, or_false] at hF; rcases hF with rfl | rfl | rfl <;> repeat constructor) ?_; have xl : (stX sa1 sb2 sc3).length = 3 := rfl; have hxk := fun k (hk : k < 3) => st_len sa1 sb2 sc3 k hk; have hex := fun x k (hk : k < 3) => ex_st x sa1 sb2 sc3 k hk; generalize stX sa1 sb2 sc3 = xs at *; refine b7 rfl (b7 rfl (d9 (i1 (i4 (b7 rfl (d9 (i9 ?_))))))); refine p6 (β := Nat) ⟨fun k => k ≤ 3, fun k => [(16, .slice (b8 gr) 3 3), (17, .slice (b8 gl) 3 3), (18, int k)], fun _ => [], fun _ => [Row (b8 gr) (rows hdX), Row (b8 gl) (rows xs), Facts (xs.map fun p => Row p.a (rows p.l))]⟩ (fun k => 3 - k) 0 (Nat.zero_le _) mC nil_sb mC fun k hk => ?_; simp only at hk; refine i1 (i4 (a8 rfl (t7 rfl rfl rfl (d9 ?_))))
                       first | refine k8 rfl (fun hb5 => ?_) (fun hb5 => ?_) | refine i5 rfl (fun hb5 => ?_) (fun hb5 => ?_)
                       ·have hb5' := hb5; try simp at hb5'
                        have hk6 : k < 3 := by omega
                        refine cz0 (F := Row (xs.getD k default).a (rows (xs.getD k default).l)) (Fs := xs.map fun p => Row p.a (rows p.l)) mB (List.mem_map_of_mem (s6 (by omega))) ?_; refine j3 (g6 (i1 (i9 (i1 ?_)))); refine C8 10 mixed (by decide) (by decide) rfl rfl ?_; refine V0 ⟨Nat × Nat × Nat × Nat, fun _ => True, fun x => shV x, fun x => shF x⟩ rfl rfl rfl ?_ ?_
                        ·intro w1; refine d5 F.l4 rfl rfl (k9) j5 trivial fun xd _ => ?_; refine b3 ?_; exact H2 xd trivial rfl ⟨m0, m1, trivial⟩
                        refine l3 (fun w1 => a8 rfl (q_z rfl)) (l3 (fun w1 => a8 rfl (q_z rfl)) (l3 (fun w1 => r9 (α := Int) hdX k rfl T.s5 T.v6 rfl rfl rfl mB rfl hk6 (by decide) (q_z rfl)) (l3 (fun w1 => a6 (v := int (hdX.getD k default)) rfl T.b2 rfl (d3 mB (b4 (show k < hdX.length from hk6) rfl)) (q_z rfl)) ?_))); refine V0 ⟨OutC, fun y => (xs.getD k default).l.length ≤ y.2, fun y => .tuple #[.slice y.1 (xs.getD k default).l.length y.2, int 0], fun y => [Row y.1 (rows (xs.getD k default).l)]⟩ rfl rfl rfl ?_ ?_
                        ·intro gc _; intro w1; refine d5 F.uK rfl rfl (hex gc k hk6) j5 mC fun y hy => ?_; refine b3 ?_; exact H2 y hy rfl ⟨m0, trivial⟩
                        refine V0 ⟨OutC, fun y => (xs.getD k default).l.length ≤ y.2, fun y => .tuple #[.slice y.1 (xs.getD k default).l.length y.2, int 0], fun y => [Row y.1 (rows (xs.getD k default).l)]⟩ rfl rfl rfl ?_ ?_
                        ·intro y hy; intro w1; refine a8 rfl (b3 ?_); exact H2 y hy rfl ⟨m0, trivial⟩
                        refine V0 ⟨OutC, fun y => (xs.getD k default).l.length ≤ y.2, fun y => .slice y.1 (xs.getD k default).l.length y.2, fun y => [Row y.1 (rows (xs.getD k default).l)]⟩ rfl rfl rfl ?_ ?_
                        ·intro y hy; intro w1; refine i6 rfl rfl rfl (b3 ?_); exact H2 y hy rfl ⟨m0, trivial⟩
                        apply n6 _ rfl rfl rfl
                        ·intro y hy; intro w1; refine i6 rfl rfl rfl (b3 ?_); exact j7 rfl
                        refine V0 ⟨OutC, fun y => (xs.getD k default).l.length ≤ y.2, fun y => .slice y.1 (xs.getD k default).l.length y.2, fun y => [Row y.1 (rows (xs.getD k default).l)]⟩ rfl rfl rfl ?_ ?_
                        ·intro y hy; intro w1; refine b7 rfl (b3 ?_); exact H2 y hy rfl ⟨m0, trivial⟩
                        refine w5 ⟨rfl, ?_⟩; intro _ _ _ _ _ _ _ _ y _; refine b7 rfl (j8 (a8 rfl (t3 rfl rfl rfl (a8 rfl ?_)))); refine m6 rfl rfl ?_ ?_
                        ·intro hg23; have hg23' := hg23; try simp at hg23'
                         refine i3 rfl rfl hg23 (a8 rfl (i3 rfl rfl hg23 (a8 rfl (i3 rfl rfl hg23 (a8 rfl (i3 rfl rfl hg23 ?_)))))); refine r9 (α := Sl Int) xs k rfl T.bZ T.qC rfl rfl rfl mB xl.symm (by omega) (by decide) (i3 rfl rfl hg23 (a6 (v := .slice (xs.getD k default).a (xs.getD k default).l.length (xs.getD k default).c) rfl T.k6 rfl (d3 mB (b4 (by omega) rfl)) (i3 rfl rfl hg23 ?_))); refine d5 F.B9 rfl rfl (lC (xs.getD k default).l (hxk k hk6)) j5 mC fun _ _ => ?_; refine i3 rfl rfl hg23 (B3 rfl rfl ?_); refine p_f rfl rfl (bf1 hg23) rfl ?_; refine d9 ?_
                         first | refine k8 rfl (fun hb6 => ?_) (fun hb6 => ?_) | refine i5 rfl (fun hb6 => ?_) (fun hb6 => ?_)
                         ·have hb6' := hb6; try simp at hb6'
                         have hb6' := hb6; try simp at hb6'
                         refine j3 (n9 (g6 (b9 (a8 rfl ?_)))); refine q9 _ rfl rfl rfl rfl n5 ?_; refine b7 rfl (b3 ?_); exact again _ (k + 1) (by show k + 1 ≤ 3; omega) (r6 (by omega)) mC nil_sb mC
                        intro hg23; have hg23' := hg23; try simp at hg23'
                       have hb5' := hb5; try simp at hb5'
                       refine n2 (t4 (n1 (g6 (i4 ?_)))); refine d5 F.l4 rfl rfl (k9) j5 trivial fun c9 _ => ?_; refine d5 F.iW rfl rfl (bz3 c9) j5 mC fun y7 _ => ?_; refine a8 rfl (i6 rfl rfl rfl (i6 rfl rfl rfl (b7 rfl (b7 rfl (j8 ?_))))); refine d5 F.l4 rfl rfl (k9) j5 trivial fun c10 _ => ?_; refine d5 F.iW rfl rfl (bz4 c10) j5 mC fun y8 _ => ?_; refine a8 rfl (i6 rfl rfl rfl (i6 rfl rfl rfl (b7 rfl (b7 rfl (j8 ?_))))); refine d5 F.l4 rfl rfl (k9) j5 trivial fun c11 _ => ?_; refine d5 F.X6 rfl rfl (jj6 c11) j5 mC fun y9 hy9 => ?_; refine a8 rfl (i6 rfl rfl rfl (i6 rfl rfl rfl (b7 rfl (b7 rfl (j8 ?_))))); refine d5 F.l4 rfl rfl (k9) j5 trivial fun c12 _ => ?_; refine d5 F.X6 rfl rfl (jj5 c12) j5 mC fun y10 hy10 => ?_; refine a8 rfl (i6 rfl rfl rfl (i6 rfl rfl rfl (b7 rfl (b7 rfl (j8 ?_))))); refine d5 F.l4 rfl rfl (k9) j5 trivial fun c13 _ => ?_; refine d5 F.X6 rfl rfl (jj4 c13) j5 mC fun y11 _ => ?_; refine a8 rfl (i6 rfl rfl rfl (i6 rfl rfl rfl (b7 rfl (b7 rfl (d9 (i1 (i4 (a8 rfl (t3 rfl rfl rfl ?_))))))))); refine a8 rfl ?_; refine m6 rfl rfl ?_ ?_
                       ·intro hg24; have hg24' := hg24; try simp at hg24'
                        refine i3 rfl rfl hg24 (a8 rfl (i3 rfl rfl hg24 (t3 rfl rfl rfl ?_))); refine p_f rfl rfl (bf1 hg24) rfl (a8 rfl ?_); refine m6 rfl rfl ?_ ?_
                        ·intro hg25; have hg25' := hg25; try simp at hg25'
                         refine i3 rfl rfl hg25 (a8 rfl (i3 rfl rfl hg25 (t3 rfl rfl rfl ?_))); refine p_f rfl rfl (bf1 hg25) rfl (a8 rfl ?_); refine m6 rfl rfl ?_ ?_
                         ·intro hg26; have hg26' := hg26; try simp at hg26'
                          refine i3 rfl rfl hg26 (a8 rfl (i3 rfl rfl hg26 (t3 rfl rfl rfl ?_))); refine p_f rfl rfl (bf1 hg26) rfl (a8 rfl ?_); refine m6 rfl rfl ?_ ?_
                          ·intro hg27; have hg27' := hg27; try simp at hg27'
                           refine i3 rfl rfl hg27 (a8 rfl (i3 rfl rfl hg27 (t3 rfl rfl rfl ?_))); refine p_f rfl rfl (bf1 hg27) rfl (a8 rfl ?_); refine m6 rfl rfl ?_ ?_
                           ·intro hg28; have hg28' := hg28; try simp at hg28'
                            refine i3 rfl rfl hg28 (a8 rfl (i3 rfl rfl hg28 ?_)); refine j4 _ rfl rfl (fun _ => T.H6 ..) fun g20 => ?_; refine n0 (rows ([0, 2] : List Int)) (List.prefix_refl _) (i3 rfl rfl hg28 ?_); refine d5 F.B9 rfl rfl (lC [0, 2] (by decide)) j5 mC fun _ _ => ?_; refine i3 rfl rfl hg28 (B3 rfl rfl ?_); refine p_f rfl rfl (bf1 hg28) rfl (a8 rfl ?_); refine m6 rfl rfl ?_ ?_
                            ·intro hg29; have hg29' := hg29; try simp at hg29'
                             refine i3 rfl rfl hg29 (a8 rfl (i3 rfl rfl hg29 ?_)); refine j4 _ rfl rfl (fun _ => T.xX ..) fun g26 => ?_; refine n0 (rows ([0, 2, 3] : List Int)) (List.prefix_refl _) (i3 rfl rfl hg29 ?_); refine d5 F.B9 rfl rfl (lC [0, 2, 3] (by decide)) j5 mC fun _ _ => ?_; refine i3 rfl rfl hg29 (B3 rfl rfl ?_); refine p_f rfl rfl (bf1 hg29) rfl (a8 rfl ?_); refine m6 rfl rfl ?_ ?_
                             ·intro hg30; have hg30' := hg30; try simp at hg30'
                              refine i3 rfl rfl hg30 (a8 rfl (i3 rfl rfl hg30 ?_)); refine j4 _ rfl rfl (fun _ => T.H6 ..) fun g32 => ?_; refine n0 (rows ([4, 0] : List Int)) (List.prefix_refl _) ?_; refine i3 rfl rfl hg30 ?_; refine j4 _ rfl rfl (fun _ => T.H6 ..) fun g33 => ?_; refine n0 (rows ([4, 2] : List Int)) (List.prefix_refl _) ?_; refine i3 rfl rfl hg30 ?_; refine j4 _ rfl rfl (fun _ => T.vR ..) fun g34 => ?_; refine n0 (rows ([⟨some ⟨g32, 0, none⟩, 2, [4, 0]⟩, ⟨some ⟨g33, 0, none⟩, 2, [4, 2]⟩] : List (Sl Int))) (List.prefix_refl _) ?_; refine rD (A := some ⟨g34, 0, none⟩) (ps := ([⟨some ⟨g32, 0, none⟩, 2, [4, 0]⟩, ⟨some ⟨g33, 0, none⟩, 2, [4, 2]⟩] : List (Sl Int))) mB (by intro p hp; simp only [List.mem_cons, List.not_mem_nil, or_false] at hp; rcases hp with rfl | rfl <;> repeat constructor) ?_; refine i3 rfl rfl hg30 ?_; refine d5 F.S9 rfl rfl (bz2 (a := y9.1) (b := [⟨some ⟨g32, 0, none⟩, 2, [4, 0]⟩, ⟨some ⟨g33, 0, none⟩, 2, [4, 2]⟩]) hy9 (show 2 ≤ 1000 by decide) (by intro p hp; simp only [List.mem_cons, List.not_mem_nil, or_false] at hp; rcases hp with rfl | rfl <;> simp)) j5 mC fun _ _ => ?_; refine i3 rfl rfl hg30 (B3 rfl rfl ?_); refine p_f rfl rfl (bf1 hg30) rfl ?_; refine a8 rfl ?_; refine m6 rfl rfl ?_ ?_
                              ·intro hg31; have hg31' := hg31; try simp at hg31'
                               refine i3 rfl rfl hg31 (a8 rfl (i3 rfl rfl hg31 ?_)); refine j4 _ rfl rfl (fun _ => T.H6 ..) fun g40 => ?_; refine n0 (rows ([4, 2] : List Int)) (List.prefix_refl _) ?_; refine i3 rfl rfl hg31 ?_; refine j4 _ rfl rfl (fun _ => T.iR ..) fun g41 => ?_; refine n0 (rows ([⟨some ⟨g40, 0, none⟩, 2, [4, 2]⟩] : List (Sl Int))) (List.prefix_refl _) ?_; refine rD (A := some ⟨g41, 0, none⟩) (ps := ([⟨some ⟨g40, 0, none⟩, 2, [4, 2]⟩] : List (Sl Int))) mB (by intro p hp; simp only [List.mem_cons, List.not_mem_nil, or_false] at hp; rcases hp with rfl <;> repeat constructor) ?_; refine i3 rfl rfl hg31 ?_; refine d5 F.S9 rfl rfl (bz2 (a := y10.1) (b := [⟨some ⟨g40, 0, none⟩, 2, [4, 2]⟩]) hy10 (show 1 ≤ 1000 by decide) (by intro p hp; simp only [List.mem_cons, List.not_mem_nil, or_false] at hp; rcases hp with rfl; simp)) j5 mC fun _ _ => ?_; refine i3 rfl rfl hg31 (B3 rfl rfl ?_); refine p_f rfl rfl (bf1 hg31) rfl ?_; refine d9 ?_
                               first | refine k8 rfl (fun hb7 => ?_) (fun hb7 => ?_) | refine i5 rfl (fun hb7 => ?_) (fun hb7 => ?_)
                               ·have hb7' := hb7; try simp at hb7'
                               have hb7' := hb7; try simp at hb7'
                               refine j3 (g6 (i4 ?_)); refine j4 _ rfl rfl (fun _ => T.gx9 ..) fun gq => ?_; refine n0 (rows bgX) (List.prefix_refl _) ?_; refine j4 _ rfl rfl (fun _ => T.H6 ..) fun sa1 => ?_; refine n0 (rows ([0, 3] : List Int)) (List.prefix_refl _) ?_; refine j4 _ rfl rfl (fun _ => T.v0 ..) fun sb2 => ?_; refine n0 (rows ([3] : List Int)) (List.prefix_refl _) ?_; refine j4 _ rfl rfl (fun _ => T.gz0 ..) fun sc3 => ?_; refine n0 (rows ([0, 2, 3, 4] : List Int)) (List.prefix_refl _) ?_; refine j4 _ rfl rfl (fun _ => T.cj2 ..) fun gm => ?_; refine n0 (rows (mnX sa1 sb2 sc3)) (List.prefix_refl _) ?_; refine xQ (α := Int) ?_; refine kX (Fs := (mnX sa1 sb2 sc3).map fun p => Row p.a (rows p.l)) (by intro F hF; left; simp only [mnX, List.map_cons, List.map_nil, List.mem_cons, List.not_mem_nil, or_false] at hF; rcases hF with rfl | rfl | rfl | rfl <;> repeat constructor) ?_; have xl : (mnX sa1 sb2 sc3).length = 4 := rfl; have hxk := fun k (hk : k < 4) => mn_len sa1 sb2 sc3 k hk; have hex := fun x k (hk : k < 4) => ex_mn x sa1 sb2 sc3 k hk; generalize mnX sa1 sb2 sc3 = xs at *; refine b7 rfl (b7 rfl (d9 (i1 (i4 (b7 rfl (d9 (i9 ?_))))))); refine p6 (β := Nat) ⟨fun k => k ≤ 4, fun k => [(23, .slice (b8 gq) 4 4), (24, .slice (b8 gm) 4 4), (25, int k)], fun _ => [], fun _ => [Row (b8 gq) (rows bgX), Row (b8 gm) (rows xs), Facts (xs.map fun p => Row p.a (rows p.l))]⟩ (fun k => 4 - k) 0 (Nat.zero_le _) mC nil_sb mC fun k hk => ?_; simp only at hk; refine i1 (i4 (a8 rfl (t7 rfl rfl rfl (d9 ?_))))
                               first | refine k8 rfl (fun hb8 => ?_) (fun hb8 => ?_) | refine i5 rfl (fun hb8 => ?_) (fun hb8 => ?_)
                               ·have hb8' := hb8; try simp at hb8'
                                have hk6 : k < 4 := by omega
                                refine cz0 (F := Row (xs.getD k default).a (rows (xs.getD k default).l)) (Fs := xs.map fun p => Row p.a (rows p.l)) mB (List.mem_map_of_mem (s6 (by omega))) ?_; refine j3 (g6 (i1 (i9 (i1 ?_)))); refine C8 10 mixed (by decide) (by decide) rfl rfl ?_; refine V0 ⟨Nat × Nat × Nat × Nat, fun _ => True, fun x => shV x, fun x => shF x⟩ rfl rfl rfl ?_ ?_
                                ·intro w1; refine d5 F.l4 rfl rfl (k9) j5 trivial fun xd _ => ?_; refine b3 ?_; exact H2 xd trivial rfl ⟨m0, m1, trivial⟩
                                refine l3 (fun w1 => a8 rfl (q_z rfl)) (l3 (fun w1 => a8 rfl (q_z rfl)) (l3 (fun w1 => r9 (α := Str) bgX k rfl T.D2 T.z6 rfl rfl rfl mB rfl hk6 (by decide) (q_z rfl)) (l3 (fun w1 => a6 (v := str (bgX.getD k default)) rfl T.j2 rfl (d3 mB (b4 (show k < bgX.length from hk6) rfl)) (q_z rfl)) ?_))); refine V0 ⟨OutC, fun y => (xs.getD k default).l.length ≤ y.2, fun y => .tuple #[.slice y.1 (xs.getD k default).l.length y.2, int 0], fun y => [Row y.1 (rows (xs.getD k default).l)]⟩ rfl rfl rfl ?_ ?_
                                ·intro gc _; intro w1; refine d5 F.qB rfl rfl (hex gc k hk6) j5 mC fun y hy => ?_; refine b3 ?_; exact H2 y hy rfl ⟨m0, trivial⟩
                                refine V0 ⟨OutC, fun y => (xs.getD k default).l.length ≤ y.2, fun y => .tuple #[.slice y.1 (xs.getD k default).l.length y.2, int 0], fun y => [Row y.1 (rows (xs.getD k default).l)]⟩ rfl rfl rfl ?_ ?_
                                ·intro y hy; intro w1; refine a8 rfl (b3 ?_); exact H2 y hy rfl ⟨m0, trivial⟩
                                refine V0 ⟨OutC, fun y => (xs.getD k default).l.length ≤ y.2, fun y => .slice y.1 (xs.getD k default).l.length y.2, fun y => [Row y.1 (rows (xs.getD k default).l)]⟩ rfl rfl rfl ?_ ?_
                                ·intro y hy; intro w1; refine i6 rfl rfl rfl (b3 ?_); exact H2 y hy rfl ⟨m0, trivial⟩
                                apply n6 _ rfl rfl rfl
                                ·intro y hy; intro w1; refine i6 rfl rfl rfl (b3 ?_); exact j7 rfl
                                refine V0 ⟨OutC, fun y => (xs.getD k default).l.length ≤ y.2, fun y => .slice y.1 (xs.getD k default).l.length y.2, fun y => [Row y.1 (rows (xs.getD k default).l)]⟩ rfl rfl rfl ?_ ?_
                                ·intro y hy; intro w1; refine b7 rfl (b3 ?_); exact H2 y hy rfl ⟨m0, trivial⟩
                                refine w5 ⟨rfl, ?_⟩; intro _ _ _ _ _ _ _ _ y _; refine b7 rfl (j8 (a8 rfl (t3 rfl rfl rfl (a8 rfl ?_)))); refine m6 rfl rfl ?_ ?_
                                ·intro hg32; have hg32' := hg32; try simp at hg32'
                                 refine i3 rfl rfl hg32 (a8 rfl (i3 rfl rfl hg32 (a8 rfl (i3 rfl rfl hg32 (a8 rfl (i3 rfl rfl hg32 ?_)))))); refine r9 (α := Sl Int) xs k rfl T.bZ T.qC rfl rfl rfl mB xl.symm (by omega) (by decide) (i3 rfl rfl hg32 (a6 (v := .slice (xs.getD k default).a (xs.getD k default).l.length (xs.getD k default).c) rfl T.k6 rfl (d3 mB (b4 (by omega) rfl)) (i3 rfl rfl hg32 ?_))); refine d5 F.B9 rfl rfl (lC (xs.getD k default).l (hxk k hk6)) j5 mC fun _ _ => ?_; refine i3 rfl rfl hg32 (B3 rfl rfl ?_); refine p_f rfl rfl (bf1 hg32) rfl ?_; refine d9 ?_
                                 first | refine k8 rfl (fun hb9 => ?_) (fun hb9 => ?_) | refine i5 rfl (fun hb9 => ?_) (fun hb9 => ?_)
                                 ·have hb9' := hb9; try simp at hb9'
                                 have hb9' := hb9; try simp at hb9'
                                 refine j3 (n9 (g6 (b9 (a8 rfl ?_)))); refine q9 _ rfl rfl rfl rfl n5 ?_; refine b7 rfl (b3 ?_); exact again _ (k + 1) (by show k + 1 ≤ 4; omega) (r6 (by omega)) mC nil_sb mC
                                intro hg32; have hg32' := hg32; try simp at hg32'
                               have hb8' := hb8; try simp at hb8'
                               refine n2 (t4 (n1 (g6 (i4 ?_)))); refine d5 F.l4 rfl rfl (k9) j5 trivial fun c14 _ => ?_; refine d5 F.S1 rfl rfl (gx0 c14) j5 mC fun _ _ => ?_; refine a8 rfl (i6 rfl rfl rfl (i6 rfl rfl rfl (b7 rfl (b7 rfl (j8 ?_))))); refine d5 F.l4 rfl rfl (k9) j5 trivial fun c15 _ => ?_; refine d5 F.S1 rfl rfl (gq9 c15) j5 mC fun _ _ => ?_; refine a8 rfl (i6 rfl rfl rfl (i6 rfl rfl rfl (b7 rfl (b7 rfl (j8 ?_))))); refine d5 F.l4 rfl rfl (k9) j5 trivial fun c16 _ => ?_; refine d5 F.S1 rfl rfl (gq8 c16) j5 mC fun _ _ => ?_; refine a8 rfl (i6 rfl rfl rfl (i6 rfl rfl rfl (b7 rfl (b7 rfl (j8 ?_))))); refine d5 F.l4 rfl rfl (k9) j5 trivial fun c17 _ => ?_; refine d5 F.S1 rfl rfl (gq7 c17) j5 mC fun _ _ => ?_; refine a8 rfl (i6 rfl rfl rfl (i6 rfl rfl rfl (b7 rfl (j8 ?_)))); refine d5 F.l4 rfl rfl (k9) j5 trivial fun c18 _ => ?_; refine d5 F.bD rfl rfl (gq5 c18) j5 mC fun _ _ => ?_; refine a8 rfl (i6 rfl rfl rfl (i6 rfl rfl rfl (b7 rfl (b7 rfl (j8 ?_))))); refine d5 F.l4 rfl rfl (k9) j5 trivial fun c19 _ => ?_; refine d5 F.bD rfl rfl (gq6 c19) j5 mC fun _ _ => ?_; refine a8 rfl (i6 rfl rfl rfl (i6 rfl rfl rfl (b7 rfl (b7 rfl (d9 (i1 (i4 (a8 rfl (t3 rfl rfl rfl ?_))))))))); refine a8 rfl ?_; refine m6 rfl rfl ?_ ?_
                               ·intro hg33; have hg33' := hg33; try simp at hg33'
                                refine i3 rfl rfl hg33 (a8 rfl (i3 rfl rfl hg33 (t3 rfl rfl rfl ?_))); refine p_f rfl rfl (bf1 hg33) rfl (a8 rfl ?_); refine m6 rfl rfl ?_ ?_
                                ·intro hg34; have hg34' := hg34; try simp at hg34'
                                 refine i3 rfl rfl hg34 (a8 rfl (i3 rfl rfl hg34 (t3 rfl rfl rfl ?_))); refine p_f rfl rfl (bf1 hg34) rfl (a8 rfl ?_); refine m6 rfl rfl ?_ ?_
                                 ·intro hg35; have hg35' := hg35; try simp at hg35'
                                  refine i3 rfl rfl hg35 (a8 rfl (i3 rfl rfl hg35 (t3 rfl rfl rfl ?_))); refine p_f rfl rfl (bf1 hg35) rfl (a8 rfl ?_); refine m6 rfl rfl ?_ ?_
                                  ·intro hg36; have hg36' := hg36; try simp at hg36'
                                   refine i3 rfl rfl hg36 (a8 rfl (i3 rfl rfl hg36 (t3 rfl rfl rfl ?_))); refine p_f rfl rfl (bf1 hg36) rfl (a8 rfl ?_); refine m6 rfl rfl ?_ ?_
                                   ·intro hg37; have hg37' := hg37; try simp at hg37'
                                    refine i3 rfl rfl hg37 (a8 rfl (i3 rfl rfl hg37 (t3 rfl rfl rfl ?_))); refine p_f rfl rfl (bf1 hg37) rfl (a8 rfl ?_); refine m6 rfl rfl ?_ ?_
                                    ·intro hg38; have hg38' := hg38; try simp at hg38'
                                     refine i3 rfl rfl hg38 (a8 rfl (i3 rfl rfl hg38 (t3 rfl rfl rfl ?_))); refine p_f rfl rfl (bf1 hg38) rfl (a8 rfl ?_); refine m6 rfl rfl ?_ ?_
                                     ·intro hg39; have hg39' := hg39; try simp at hg39'
                                      refine i3 rfl rfl hg39 (a8 rfl (i3 rfl rfl hg39 (t3 rfl rfl rfl ?_))); refine p_f rfl rfl (bf1 hg39) rfl (a8 rfl ?_); refine m6 rfl rfl ?_ ?_
                                      ·intro hg40; have hg40' := hg40; try simp at hg40'
                                       refine i3 rfl rfl hg40 (a8 rfl (i3 rfl rfl hg40 (t3 rfl rfl rfl ?_))); refine p_f rfl rfl (bf1 hg40) rfl (a8 rfl ?_); refine m6 rfl rfl ?_ ?_
                                       ·intro hg41; have hg41' := hg41; try simp at hg41'
                                        refine i3 rfl rfl hg41 (a8 rfl (i3 rfl rfl hg41 (rS rfl rfl rfl ?_))); refine p_f rfl rfl (bf1 hg41) rfl (a8 rfl ?_); refine m6 rfl rfl ?_ ?_
                                        ·intro hg42; have hg42' := hg42; try simp at hg42'
                                         refine i3 rfl rfl hg42 (a8 rfl (i3 rfl rfl hg42 (rS rfl rfl rfl ?_))); refine p_f rfl rfl (bf1 hg42) rfl ?_; refine d9 ?_
                                         first | refine k8 rfl (fun hb10 => ?_) (fun hb10 => ?_) | refine i5 rfl (fun hb10 => ?_) (fun hb10 => ?_)
                                         ·have hb10' := hb10; try simp at hb10'
                                         have hb10' := hb10; try simp at hb10'
                                         refine j3 (g6 (i4 ?_)); refine d5 F.l4 rfl rfl (k9) j5 trivial fun c20 _ => ?_; refine d5 F.wK rfl rfl (ex_drop c20.1 c20.2.1 c20.2.2.1 c20.2.2.2) j5 mC fun y12 hy12 => ?_; refine a8 rfl (i6 rfl rfl rfl (i6 rfl rfl rfl ?_)); refine r7 rfl (fun _ => T.v9 _) fun gt => ?_; refine r4 (cs := #[.slice y12.2.1.1 4 y12.2.1.2, .slice y12.2.2.1 y12.1.length y12.2.2.2]) rfl rfl (.refl _) T.d4 (by rfl) (by rfl) ?_; refine aY (b7 rfl (j8 ?_)); refine d5 F.l4 rfl rfl (k9) j5 trivial fun c21 _ => ?_; refine d5 F.uJ rfl rfl (iz7 c21) j5 mC fun _ _ => ?_; refine a8 rfl (i6 rfl rfl rfl (i6 rfl rfl rfl (b7 rfl (b7 rfl (j8 ?_))))); refine d5 F.l4 rfl rfl (k9) j5 trivial fun c22 _ => ?_; refine r7 rfl (fun _ => T.v9 _) fun gu => ?_; refine r4 (cs := #[.slice (some ⟨c22.1, 0, none⟩) 4 4, .slice (some ⟨c22.2.1, 0, none⟩) 6 6]) rfl rfl (.refl _) T.d4 (by rfl) (by rfl) ?_; refine j8 ?_; refine d5 F.u4 rfl rfl (s1 (A := none) (n := 0) (cp := 0) [98, 97, 107, 101, 114] 1) j5 trivial fun _ _ => ?_; refine j4 _ rfl rfl (fun _ => T.v0 ..) fun gz => ?_; refine n0 (rows ([0] : List Int)) (List.prefix_refl _) ?_; refine d5 F.u4 rfl rfl (s1 (A := some ⟨gz, 0, none⟩) (n := 1) (cp := 1) [99, 111, 110, 102, 101, 99, 116, 105, 111, 110, 101, 114] 0) j5 trivial fun _ _ => ?_; refine d5 F.u4 rfl rfl (s1 (A := none) (n := 0) (cp := 0) [109, 101, 114, 99, 101, 114] 2) j5 trivial fun _ _ => ?_; refine j4 _ rfl rfl (fun _ => T.tL ..) fun gh => ?_; refine n0 (rows (restH gz)) (List.prefix_refl _) ?_; refine xQ (α := Int) ?_; refine kX (Fs := (restH gz).map Hd.row) (by intro F hF; left; simp only [restH, List.map_cons, List.map_nil, List.mem_cons, List.not_mem_nil, or_false] at hF; rcases hF with rfl | rfl | rfl <;> repeat constructor) ?_; refine ix6 (A := some ⟨gh, 0, none⟩) (ps := restH gz) (f := Hd.row) mB m0 ?_
                                         first | refine a7 ⟨_, 1, none⟩ rfl rfl T.j0 rfl ?_ | refine a7 _ rfl rfl T.j0 rfl ?_
                                         refine z9 rfl rfl (by first | exact .refl _ | exact perm2 _ _ _ | exact perm3 _ _ _ _ | exact perm4 _ _ _ _ _) T.cW (by rfl) (by rfl) ?_; refine j8 (a8 rfl (G0 rfl rfl rfl (a8 rfl ?_))); refine m6 rfl rfl ?_ ?_
                                         ·intro hg43; have hg43' := hg43; try simp at hg43'
                                          refine i3 rfl rfl hg43 (a8 rfl (i3 rfl rfl hg43 (G0 rfl rfl rfl ?_))); refine p_t rfl rfl (bt1 hg43) rfl (a8 rfl ?_); refine m6 rfl rfl ?_ ?_
                                          ·intro hg44; have hg44' := hg44; try simp at hg44'
                                           refine i3 rfl rfl hg44 ?_
                                           first | refine u6 rfl T.d6 T.d4 rfl mB (by rfl) ?_ | refine t9 rfl T.d6 T.d4 rfl mB (by rfl) ?_ | refine q6 rfl T.d6 T.d4 rfl rfl (m7 mB (n7 (by omega))) ?_
                                           refine i3 rfl rfl hg44 ?_
                                           first | refine u6 rfl T.d6 T.d4 rfl mB (by rfl) ?_ | refine t9 rfl T.d6 T.d4 rfl mB (by rfl) ?_ | refine q6 rfl T.d6 T.d4 rfl rfl (m7 mB (n7 (by omega))) ?_
                                           refine i3 rfl rfl hg44 ?_; refine d5 F.tG rfl rfl (ex_req gz hy12.p) j5 mC fun _ _ => ?_; refine p_t rfl rfl (bt1 hg44) rfl (a8 rfl ?_); refine m6 rfl rfl ?_ ?_
                                           ·intro hg45; have hg45' := hg45; try simp at hg45'
                                            refine i3 rfl rfl hg45 (a8 rfl (i3 rfl rfl hg45 ?_)); refine kQ (y' := wrS) rfl rfl (by kernel_rfl) (p_t rfl rfl (bt1 hg45) rfl ?_); refine b7 rfl (d9 (k5 ?_)); exact ret1 () rfl rfl rfl trivial nil_sb trivial
                                           intro hg45; have hg45' := hg45; try simp at hg45'
                                          intro hg44; have hg44' := hg44; try simp at hg44'
                                         intro hg43; have hg43' := hg43; try simp at hg43'
                                        intro hg42; have hg42' := hg42; try simp at hg42'
                                       intro hg41; have hg41' := hg41; try simp at hg41'
                                      intro hg40; have hg40' := hg40; try simp at hg40'
                                     intro hg39; have hg39' := hg39; try simp at hg39'
                                    intro hg38; have hg38' := hg38; try simp at hg38'
                                   intro hg37; have hg37' := hg37; try simp at hg37'
                                  intro hg36; have hg36' := hg36; try simp at hg36'
                                 intro hg35; have hg35' := hg35; try simp at hg35'
                                intro hg34; have hg34' := hg34; try simp at hg34'
                               intro hg33; have hg33' := hg33; try simp at hg33'
                              intro hg31; have hg31' := hg31; try simp at hg31'
                             intro hg30; have hg30' := hg30; try simp at hg30'
                            intro hg29; have hg29' := hg29; try simp at hg29'
                           intro hg28; have hg28' := hg28; try simp at hg28'
                          intro hg27; have hg27' := hg27; try simp at hg27'
                         intro hg26; have hg26' := hg26; try simp at hg26'
                        intro hg25; have hg25' := hg25; try simp at hg25'
                       intro hg24; have hg24' := hg24; try simp at hg24'
                      intro hg22; have hg22' := hg22; try simp at hg22'
                     intro hg21; have hg21' := hg21; try simp at hg21'
                    intro hg20; have hg20' := hg20; try simp at hg20'
                   intro hg19; have hg19' := hg19; try simp at hg19'
                  intro hg18; have hg18' := hg18; try simp at hg18'
                 intro hg17; have hg17' := hg17; try simp at hg17'
                intro hg16; have hg16' := hg16; try simp at hg16'
               intro hg15; have hg15' := hg15; try simp at hg15'
              intro hg14; have hg14' := hg14; try simp at hg14'
             intro hg13; have hg13' := hg13; try simp at hg13'
            intro hg12; have hg12' := hg12; try simp at hg12'
           intro hg11; have hg11' := hg11; try simp at hg11'
          intro hg10; have hg10' := hg10; try simp at hg10'
         intro hg9; have hg9' := hg9; try simp at hg9'
        intro hg8; have hg8' := hg8; try simp at hg8'
       intro hg7; have hg7' := hg7; try simp at hg7'
      intro hg6; have hg6' := hg6; try simp at hg6'
     intro hg5; have hg5' := hg5; try simp at hg5'
    intro hg4; have hg4' := hg4; try simp at hg4'
   intro hg3; have hg3' := hg3; try simp at hg3'
  intro hg2; have hg2' := hg2; try simp at hg2'
 intro hg1; have hg1' := hg1; try simp at hg1'
end Go.Proofs.YtfhninnleacgiaaGreat
end
section
namespace Go.W
open Go Go.RowKit Go.ChangeShapes Go.WideShapes
section
variable {H : Type} {enc : TypeId × Value → H} {P : Program} {w : World} {base : Nat} {spare : Nat → Bool} {held : Bool}
theorem dx6 {f : Nat} {args : List Value} {LI : List Fact} (h : Meets P f args ({ LI := LI, val := fun _ : Unit => .bool true } : Con Unit)) (hL : ∀ F ∈ LI, F.P w) : Calls P f args.toArray w fun e w' => e = .returned (.bool true) ∧ Below w.heap.size w w' := by
  refine (h w ⟨Ext.refl _ _, by simp, by simp, by simp, hL, by simp, fun F hF k hk => .inr (.inr ⟨F, hF, hk⟩)⟩).mono fun e w' hp => ?_; obtain ⟨_, rfl, _, hwi⟩ := hp; exact ⟨rfl, hwi.ext.below⟩
end
end Go.W
end
