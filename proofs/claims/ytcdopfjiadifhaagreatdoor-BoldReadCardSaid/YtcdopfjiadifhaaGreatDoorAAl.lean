/- Texts of this claim, one behind another. -/

import Derived.Test.YtcdopfjiadifhaaGreatDoorAAk
import Derived.Test.YtcdopfjiadifhaaGreatDoorAAd
import Derived.Test.YtcdopfjiadifhaaGreatDoorAAf
import Derived.Test.YtcdopfjiadifhaaGreatDoorAAh
set_option linter.unusedVariables false
set_option linter.unusedSimpArgs false
section
namespace Go.Proofs.YtcdopfjiadifhaaGreatDoor
open Go Go.W Go.Conc
set_option maxRecDepth 20000
attribute [local irreducible] HL HC HQ HB Row Rows2 Blk Facts
set_option maxRecDepth 20000
def numN (how : Nat) (off : Int) (r : Option Nat) (s : Int) : Int := if how = 70 then billN off r s else s - billN off r s
variable {W : World} {Fc Lf o N : Nat} {v : Nat → Value} {pr : Pr} {hp : Hq}
theorem kq1 {how : Nat} (s off : Int) (r : Option Nat) (hs : 0 ≤ s ∧ s ≤ 1000000) (ho : 0 ≤ off ∧ off ≤ 100) (hr : RuleAt W Fc Lf o off r) (hw : how = 70 ∨ how = 70) : CT (.fol (ph W Fc Lf o N v) pr) how [.agg #[int s, ruleV r]] hp 100 (int (numN how off r s)) := by
  rcases hw with rfl | rfl
  · exact (uj7 s off r hs ho hr).more (by omega)
  exact (uj7 s off r hs ho hr).more (by omega)
theorem jz0 {how : Nat} (hw : how = 70 ∨ how = 70) : Callable Tryz.prog how := by
  rcases hw with rfl | rfl
  · exact F.bC
  exact F.bC
structure Base (W : World) (Fc Lf o how b3 b6 b7 : Nat) : Prop where
  h3 : W.heap[b3]? = some (.cells #[.func (.func how) #[] #[]] 138 (0, 0))
  n3 : b3 ≠ Fc ∧ b3 ≠ Lf ∧ b3 ≠ o
  h6 : W.heap[b6]? = some (.cells #[.chan (some Fc)] 149 (0, 0))
  n6 : b6 ≠ Fc ∧ b6 ≠ Lf ∧ b6 ≠ o
  h7 : W.heap[b7]? = some (.cells #[.chan (some Lf)] 150 (0, 0))
  n7 : b7 ≠ Fc ∧ b7 ≠ Lf ∧ b7 ≠ o
section
variable {n how b3 b6 b7 g8 g9 j : Nat} {cs : List Frame} {k : List Item} {s off : Int} {r : Option Nat}
noncomputable def o118 : Array Oper := regionAt 0 (Tryz.f81.body.getD .skip)
theorem px0 (hs : 0 ≤ s ∧ s ≤ 1000000) (ho : 0 ≤ off ∧ off ≤ 100) (hr : RuleAt W Fc Lf o off r) (hw : how = 70 ∨ how = 70) (hB : Base W Fc Lf o how b3 b6 b7) (hend : TC (.fol (ph W Fc Lf o N v) (.send1 j)) ⟨Tryz.prog, Tryz.f81.ntmps, ⟨W, [], fun _ => False⟩, [], none⟩ (baseD 81) cs (n + 20) (.inRegion o118 [6] :: k) [(10, .agg #[int j, int (numN how off r s)]), (9, int (numN how off r s)), (8, .agg #[int s, ruleV r]), (7, .func (.func how) #[] #[]), (6, int j), (5, .chan (some Fc)), (0, .pointer (c8 b6)), (1, .pointer (c8 g8)), (2, .pointer (c8 b3)), (3, .pointer (c8 g9)), (4, .pointer (c8 b7))] [(g9, Obj.cells #[int s, ruleV r] 141 (0, 0)), (g8, Obj.cells #[int j] 3 (0, 0))]) : TA (.fol (ph W Fc Lf o N v) (.send1 j)) ⟨Tryz.prog, Tryz.f81.ntmps, ⟨W, [], fun _ => False⟩, [], none⟩ (baseD 81) cs k o118 (n + 20) 1 #[true, true, true, true, true, true, false] [(10, .agg #[int j, int (numN how off r s)]), (9, int (numN how off r s)), (8, .agg #[int s, ruleV r]), (7, .func (.func how) #[] #[]), (6, int j), (5, .chan (some Fc)), (0, .pointer (c8 b6)), (1, .pointer (c8 g8)), (2, .pointer (c8 b3)), (3, .pointer (c8 g9)), (4, .pointer (c8 b7))] [(g9, Obj.cells #[int s, ruleV r] 141 (0, 0)), (g8, Obj.cells #[int j] 3 (0, 0))] := by
  refine I9 (l := [6]) (by kernel_rfl) (by simp) fun j hj rest hr => ?_; obtain ⟨t, rfl⟩ := hr; simp only [List.mem_cons, List.not_mem_nil, or_false] at hj; subst hj; exact hend
theorem jx0 (hs : 0 ≤ s ∧ s ≤ 1000000) (ho : 0 ≤ off ∧ off ≤ 100) (hr : RuleAt W Fc Lf o off r) (hw : how = 70 ∨ how = 70) (hB : Base W Fc Lf o how b3 b6 b7) (hend : TC (.fol (ph W Fc Lf o N v) (.send1 j)) ⟨Tryz.prog, Tryz.f81.ntmps, ⟨W, [], fun _ => False⟩, [], none⟩ (baseD 81) cs (n + 20) (.inRegion o118 [6] :: k) [(10, .agg #[int j, int (numN how off r s)]), (9, int (numN how off r s)), (8, .agg #[int s, ruleV r]), (7, .func (.func how) #[] #[]), (6, int j), (5, .chan (some Fc)), (0, .pointer (c8 b6)), (1, .pointer (c8 g8)), (2, .pointer (c8 b3)), (3, .pointer (c8 g9)), (4, .pointer (c8 b7))] [(g9, Obj.cells #[int s, ruleV r] 141 (0, 0)), (g8, Obj.cells #[int j] 3 (0, 0))]) : TA (.fol (ph W Fc Lf o N v) (.send1 j)) ⟨Tryz.prog, Tryz.f81.ntmps, ⟨W, [], fun _ => False⟩, [], none⟩ (baseD 81) cs k o118 (n + 21) 2 #[true, true, true, true, true, false, false] [(9, int (numN how off r s)), (8, .agg #[int s, ruleV r]), (7, .func (.func how) #[] #[]), (6, int j), (5, .chan (some Fc)), (0, .pointer (c8 b6)), (1, .pointer (c8 g8)), (2, .pointer (c8 b3)), (3, .pointer (c8 g9)), (4, .pointer (c8 b7))] [(g9, Obj.cells #[int s, ruleV r] 141 (0, 0)), (g8, Obj.cells #[int j] 3 (0, 0))] := by
  refine I9 (l := [5]) (by kernel_rfl) (by simp) fun j hj rest hr => ?_; obtain ⟨t, rfl⟩ := hr; simp only [List.mem_cons, List.not_mem_nil, or_false] at hj; subst hj; refine lj5 [(0, int j), (1, int (numN how off r s))] rfl rfl (fun h => by cases h) rfl (T.cN j (numN how off r s)) (fun _ _ => by kernel_rfl) ?_; exact A8 (by repeat constructor) (px0 hs ho hr hw hB hend t)
theorem s118_62 (hs : 0 ≤ s ∧ s ≤ 1000000) (ho : 0 ≤ off ∧ off ≤ 100) (hr : RuleAt W Fc Lf o off r) (hw : how = 70 ∨ how = 70) (hB : Base W Fc Lf o how b3 b6 b7) (hend : TC (.fol (ph W Fc Lf o N v) (.send1 j)) ⟨Tryz.prog, Tryz.f81.ntmps, ⟨W, [], fun _ => False⟩, [], none⟩ (baseD 81) cs (n + 20) (.inRegion o118 [6] :: k) [(10, .agg #[int j, int (numN how off r s)]), (9, int (numN how off r s)), (8, .agg #[int s, ruleV r]), (7, .func (.func how) #[] #[]), (6, int j), (5, .chan (some Fc)), (0, .pointer (c8 b6)), (1, .pointer (c8 g8)), (2, .pointer (c8 b3)), (3, .pointer (c8 g9)), (4, .pointer (c8 b7))] [(g9, Obj.cells #[int s, ruleV r] 141 (0, 0)), (g8, Obj.cells #[int j] 3 (0, 0))]) : TA (.fol (ph W Fc Lf o N v) (.send1 j)) ⟨Tryz.prog, Tryz.f81.ntmps, ⟨W, [], fun _ => False⟩, [], none⟩ (baseD 81) cs k o118 (n + 21) 2 #[false, true, true, true, true, true, false] [(10, .agg #[int j, int (numN how off r s)]), (9, int (numN how off r s)), (8, .agg #[int s, ruleV r]), (7, .func (.func how) #[] #[]), (6, int j), (0, .pointer (c8 b6)), (1, .pointer (c8 g8)), (2, .pointer (c8 b3)), (3, .pointer (c8 g9)), (4, .pointer (c8 b7))] [(g9, Obj.cells #[int s, ruleV r] 141 (0, 0)), (g8, Obj.cells #[int j] 3 (0, 0))] := by
  refine I9 (l := [0]) (by kernel_rfl) (by simp) fun j hj rest hr => ?_; obtain ⟨t, rfl⟩ := hr; simp only [List.mem_cons, List.not_mem_nil, or_false] at hj; subst hj; refine B3 (v := .chan (some Fc)) rfl rfl (fun h => by cases h) T.t8 rfl (E0 hB.h6 hB.n6.1 hB.n6.2.1 hB.n6.2.2 rfl) ?_; exact A8 (by repeat constructor) (px0 hs ho hr hw hB hend t)
theorem bz6 (hs : 0 ≤ s ∧ s ≤ 1000000) (ho : 0 ≤ off ∧ off ≤ 100) (hr : RuleAt W Fc Lf o off r) (hw : how = 70 ∨ how = 70) (hB : Base W Fc Lf o how b3 b6 b7) (hend : TC (.fol (ph W Fc Lf o N v) (.send1 j)) ⟨Tryz.prog, Tryz.f81.ntmps, ⟨W, [], fun _ => False⟩, [], none⟩ (baseD 81) cs (n + 20) (.inRegion o118 [6] :: k) [(10, .agg #[int j, int (numN how off r s)]), (9, int (numN how off r s)), (8, .agg #[int s, ruleV r]), (7, .func (.func how) #[] #[]), (6, int j), (5, .chan (some Fc)), (0, .pointer (c8 b6)), (1, .pointer (c8 g8)), (2, .pointer (c8 b3)), (3, .pointer (c8 g9)), (4, .pointer (c8 b7))] [(g9, Obj.cells #[int s, ruleV r] 141 (0, 0)), (g8, Obj.cells #[int j] 3 (0, 0))]) : TA (.fol (ph W Fc Lf o N v) (.send1 j)) ⟨Tryz.prog, Tryz.f81.ntmps, ⟨W, [], fun _ => False⟩, [], none⟩ (baseD 81) cs k o118 (n + 122) 3 #[true, true, true, true, false, false, false] [(8, .agg #[int s, ruleV r]), (7, .func (.func how) #[] #[]), (6, int j), (5, .chan (some Fc)), (0, .pointer (c8 b6)), (1, .pointer (c8 g8)), (2, .pointer (c8 b3)), (3, .pointer (c8 g9)), (4, .pointer (c8 b7))] [(g9, Obj.cells #[int s, ruleV r] 141 (0, 0)), (g8, Obj.cells #[int j] 3 (0, 0))] := by
  refine I9 (l := [4]) (by kernel_rfl) (by simp) fun j hj rest hr => ?_; obtain ⟨t, rfl⟩ := hr; simp only [List.mem_cons, List.not_mem_nil, or_false] at hj; subst hj; refine qB (m := 100) (f := how) (cap := []) (vs := [.agg #[int s, ruleV r]]) rfl rfl (fun h => by cases h) (jz0 hw) rfl rfl (kq1 s off r hs ho hr hw) ?_; exact A8 (by repeat constructor) (jx0 hs ho hr hw hB hend t)
theorem px2 (hs : 0 ≤ s ∧ s ≤ 1000000) (ho : 0 ≤ off ∧ off ≤ 100) (hr : RuleAt W Fc Lf o off r) (hw : how = 70 ∨ how = 70) (hB : Base W Fc Lf o how b3 b6 b7) (hend : TC (.fol (ph W Fc Lf o N v) (.send1 j)) ⟨Tryz.prog, Tryz.f81.ntmps, ⟨W, [], fun _ => False⟩, [], none⟩ (baseD 81) cs (n + 20) (.inRegion o118 [6] :: k) [(10, .agg #[int j, int (numN how off r s)]), (9, int (numN how off r s)), (8, .agg #[int s, ruleV r]), (7, .func (.func how) #[] #[]), (6, int j), (5, .chan (some Fc)), (0, .pointer (c8 b6)), (1, .pointer (c8 g8)), (2, .pointer (c8 b3)), (3, .pointer (c8 g9)), (4, .pointer (c8 b7))] [(g9, Obj.cells #[int s, ruleV r] 141 (0, 0)), (g8, Obj.cells #[int j] 3 (0, 0))]) : TA (.fol (ph W Fc Lf o N v) (.send1 j)) ⟨Tryz.prog, Tryz.f81.ntmps, ⟨W, [], fun _ => False⟩, [], none⟩ (baseD 81) cs k o118 (n + 22) 3 #[true, false, true, true, true, false, false] [(9, int (numN how off r s)), (8, .agg #[int s, ruleV r]), (7, .func (.func how) #[] #[]), (5, .chan (some Fc)), (0, .pointer (c8 b6)), (1, .pointer (c8 g8)), (2, .pointer (c8 b3)), (3, .pointer (c8 g9)), (4, .pointer (c8 b7))] [(g9, Obj.cells #[int s, ruleV r] 141 (0, 0)), (g8, Obj.cells #[int j] 3 (0, 0))] := by
  refine I9 (l := [1]) (by kernel_rfl) (by simp) fun j hj rest hr => ?_; obtain ⟨t, rfl⟩ := hr; simp only [List.mem_cons, List.not_mem_nil, or_false] at hj; subst hj; refine B3 (v := int j) rfl rfl (fun h => by cases h) T.b9 rfl (V4 (vs := #[int j]) (List.mem_cons_of_mem _ (List.mem_cons_self ..)) rfl) ?_; exact A8 (by repeat constructor) (jx0 hs ho hr hw hB hend t)
theorem px1 (hs : 0 ≤ s ∧ s ≤ 1000000) (ho : 0 ≤ off ∧ off ≤ 100) (hr : RuleAt W Fc Lf o off r) (hw : how = 70 ∨ how = 70) (hB : Base W Fc Lf o how b3 b6 b7) (hend : TC (.fol (ph W Fc Lf o N v) (.send1 j)) ⟨Tryz.prog, Tryz.f81.ntmps, ⟨W, [], fun _ => False⟩, [], none⟩ (baseD 81) cs (n + 20) (.inRegion o118 [6] :: k) [(10, .agg #[int j, int (numN how off r s)]), (9, int (numN how off r s)), (8, .agg #[int s, ruleV r]), (7, .func (.func how) #[] #[]), (6, int j), (5, .chan (some Fc)), (0, .pointer (c8 b6)), (1, .pointer (c8 g8)), (2, .pointer (c8 b3)), (3, .pointer (c8 g9)), (4, .pointer (c8 b7))] [(g9, Obj.cells #[int s, ruleV r] 141 (0, 0)), (g8, Obj.cells #[int j] 3 (0, 0))]) : TA (.fol (ph W Fc Lf o N v) (.send1 j)) ⟨Tryz.prog, Tryz.f81.ntmps, ⟨W, [], fun _ => False⟩, [], none⟩ (baseD 81) cs k o118 (n + 22) 3 #[false, true, true, true, true, false, false] [(9, int (numN how off r s)), (8, .agg #[int s, ruleV r]), (7, .func (.func how) #[] #[]), (6, int j), (0, .pointer (c8 b6)), (1, .pointer (c8 g8)), (2, .pointer (c8 b3)), (3, .pointer (c8 g9)), (4, .pointer (c8 b7))] [(g9, Obj.cells #[int s, ruleV r] 141 (0, 0)), (g8, Obj.cells #[int j] 3 (0, 0))] := by
  refine I9 (l := [0, 5]) (by kernel_rfl) (by simp) fun j hj rest hr => ?_; obtain ⟨t, rfl⟩ := hr; simp only [List.mem_cons, List.not_mem_nil, or_false] at hj
  rcases hj with rfl | rfl
  · refine B3 (v := .chan (some Fc)) rfl rfl (fun h => by cases h) T.t8 rfl (E0 hB.h6 hB.n6.1 hB.n6.2.1 hB.n6.2.2 rfl) ?_
    exact A8 (by repeat constructor) (jx0 hs ho hr hw hB hend t)
  refine lj5 [(0, int j), (1, int (numN how off r s))] rfl rfl (fun h => by cases h) rfl (T.cN j (numN how off r s)) (fun _ _ => by kernel_rfl) ?_; exact A8 (by repeat constructor) (s118_62 hs ho hr hw hB hend t)
theorem nq1 (hs : 0 ≤ s ∧ s ≤ 1000000) (ho : 0 ≤ off ∧ off ≤ 100) (hr : RuleAt W Fc Lf o off r) (hw : how = 70 ∨ how = 70) (hB : Base W Fc Lf o how b3 b6 b7) (hend : TC (.fol (ph W Fc Lf o N v) (.send1 j)) ⟨Tryz.prog, Tryz.f81.ntmps, ⟨W, [], fun _ => False⟩, [], none⟩ (baseD 81) cs (n + 20) (.inRegion o118 [6] :: k) [(10, .agg #[int j, int (numN how off r s)]), (9, int (numN how off r s)), (8, .agg #[int s, ruleV r]), (7, .func (.func how) #[] #[]), (6, int j), (5, .chan (some Fc)), (0, .pointer (c8 b6)), (1, .pointer (c8 g8)), (2, .pointer (c8 b3)), (3, .pointer (c8 g9)), (4, .pointer (c8 b7))] [(g9, Obj.cells #[int s, ruleV r] 141 (0, 0)), (g8, Obj.cells #[int j] 3 (0, 0))]) : TA (.fol (ph W Fc Lf o N v) (.send1 j)) ⟨Tryz.prog, Tryz.f81.ntmps, ⟨W, [], fun _ => False⟩, [], none⟩ (baseD 81) cs k o118 (n + 123) 4 #[true, true, true, false, false, false, false] [(7, .func (.func how) #[] #[]), (6, int j), (5, .chan (some Fc)), (0, .pointer (c8 b6)), (1, .pointer (c8 g8)), (2, .pointer (c8 b3)), (3, .pointer (c8 g9)), (4, .pointer (c8 b7))] [(g9, Obj.cells #[int s, ruleV r] 141 (0, 0)), (g8, Obj.cells #[int j] 3 (0, 0))] := by
  refine I9 (l := [3]) (by kernel_rfl) (by simp) fun j hj rest hr => ?_; obtain ⟨t, rfl⟩ := hr; simp only [List.mem_cons, List.not_mem_nil, or_false] at hj; subst hj; refine aD (vs := [int s, ruleV r]) rfl rfl (fun h => by cases h) T.G5 T.A9 rfl rfl (cO (vs := #[int s, ruleV r]) (List.mem_cons_self ..) fun i u hu => by rw [Nat.zero_add]; simpa using hu) ?_; exact A8 (by repeat constructor) (bz6 hs ho hr hw hB hend t)
theorem jx3 (hs : 0 ≤ s ∧ s ≤ 1000000) (ho : 0 ≤ off ∧ off ≤ 100) (hr : RuleAt W Fc Lf o off r) (hw : how = 70 ∨ how = 70) (hB : Base W Fc Lf o how b3 b6 b7) (hend : TC (.fol (ph W Fc Lf o N v) (.send1 j)) ⟨Tryz.prog, Tryz.f81.ntmps, ⟨W, [], fun _ => False⟩, [], none⟩ (baseD 81) cs (n + 20) (.inRegion o118 [6] :: k) [(10, .agg #[int j, int (numN how off r s)]), (9, int (numN how off r s)), (8, .agg #[int s, ruleV r]), (7, .func (.func how) #[] #[]), (6, int j), (5, .chan (some Fc)), (0, .pointer (c8 b6)), (1, .pointer (c8 g8)), (2, .pointer (c8 b3)), (3, .pointer (c8 g9)), (4, .pointer (c8 b7))] [(g9, Obj.cells #[int s, ruleV r] 141 (0, 0)), (g8, Obj.cells #[int j] 3 (0, 0))]) : TA (.fol (ph W Fc Lf o N v) (.send1 j)) ⟨Tryz.prog, Tryz.f81.ntmps, ⟨W, [], fun _ => False⟩, [], none⟩ (baseD 81) cs k o118 (n + 123) 4 #[true, true, false, true, false, false, false] [(8, .agg #[int s, ruleV r]), (6, int j), (5, .chan (some Fc)), (0, .pointer (c8 b6)), (1, .pointer (c8 g8)), (2, .pointer (c8 b3)), (3, .pointer (c8 g9)), (4, .pointer (c8 b7))] [(g9, Obj.cells #[int s, ruleV r] 141 (0, 0)), (g8, Obj.cells #[int j] 3 (0, 0))] := by
  refine I9 (l := [2]) (by kernel_rfl) (by simp) fun j hj rest hr => ?_; obtain ⟨t, rfl⟩ := hr; simp only [List.mem_cons, List.not_mem_nil, or_false] at hj; subst hj; refine B3 (v := .func (.func how) #[] #[]) rfl rfl (fun h => by cases h) T.A5 rfl (E0 hB.h3 hB.n3.1 hB.n3.2.1 hB.n3.2.2 rfl) ?_; exact A8 (by repeat constructor) (bz6 hs ho hr hw hB hend t)
theorem jx2 (hs : 0 ≤ s ∧ s ≤ 1000000) (ho : 0 ≤ off ∧ off ≤ 100) (hr : RuleAt W Fc Lf o off r) (hw : how = 70 ∨ how = 70) (hB : Base W Fc Lf o how b3 b6 b7) (hend : TC (.fol (ph W Fc Lf o N v) (.send1 j)) ⟨Tryz.prog, Tryz.f81.ntmps, ⟨W, [], fun _ => False⟩, [], none⟩ (baseD 81) cs (n + 20) (.inRegion o118 [6] :: k) [(10, .agg #[int j, int (numN how off r s)]), (9, int (numN how off r s)), (8, .agg #[int s, ruleV r]), (7, .func (.func how) #[] #[]), (6, int j), (5, .chan (some Fc)), (0, .pointer (c8 b6)), (1, .pointer (c8 g8)), (2, .pointer (c8 b3)), (3, .pointer (c8 g9)), (4, .pointer (c8 b7))] [(g9, Obj.cells #[int s, ruleV r] 141 (0, 0)), (g8, Obj.cells #[int j] 3 (0, 0))]) : TA (.fol (ph W Fc Lf o N v) (.send1 j)) ⟨Tryz.prog, Tryz.f81.ntmps, ⟨W, [], fun _ => False⟩, [], none⟩ (baseD 81) cs k o118 (n + 123) 4 #[true, false, true, true, false, false, false] [(8, .agg #[int s, ruleV r]), (7, .func (.func how) #[] #[]), (5, .chan (some Fc)), (0, .pointer (c8 b6)), (1, .pointer (c8 g8)), (2, .pointer (c8 b3)), (3, .pointer (c8 g9)), (4, .pointer (c8 b7))] [(g9, Obj.cells #[int s, ruleV r] 141 (0, 0)), (g8, Obj.cells #[int j] 3 (0, 0))] := by
  refine I9 (l := [1, 4]) (by kernel_rfl) (by simp) fun j hj rest hr => ?_; obtain ⟨t, rfl⟩ := hr; simp only [List.mem_cons, List.not_mem_nil, or_false] at hj
  rcases hj with rfl | rfl
  · refine B3 (v := int j) rfl rfl (fun h => by cases h) T.b9 rfl (V4 (vs := #[int j]) (List.mem_cons_of_mem _ (List.mem_cons_self ..)) rfl) ?_
    exact A8 (by repeat constructor) (bz6 hs ho hr hw hB hend t)
  refine qB (m := 100) (f := how) (cap := []) (vs := [.agg #[int s, ruleV r]]) rfl rfl (fun h => by cases h) (jz0 hw) rfl rfl (kq1 s off r hs ho hr hw) ?_; exact A8 (by repeat constructor) (px2 hs ho hr hw hB hend t)
theorem jx1 (hs : 0 ≤ s ∧ s ≤ 1000000) (ho : 0 ≤ off ∧ off ≤ 100) (hr : RuleAt W Fc Lf o off r) (hw : how = 70 ∨ how = 70) (hB : Base W Fc Lf o how b3 b6 b7) (hend : TC (.fol (ph W Fc Lf o N v) (.send1 j)) ⟨Tryz.prog, Tryz.f81.ntmps, ⟨W, [], fun _ => False⟩, [], none⟩ (baseD 81) cs (n + 20) (.inRegion o118 [6] :: k) [(10, .agg #[int j, int (numN how off r s)]), (9, int (numN how off r s)), (8, .agg #[int s, ruleV r]), (7, .func (.func how) #[] #[]), (6, int j), (5, .chan (some Fc)), (0, .pointer (c8 b6)), (1, .pointer (c8 g8)), (2, .pointer (c8 b3)), (3, .pointer (c8 g9)), (4, .pointer (c8 b7))] [(g9, Obj.cells #[int s, ruleV r] 141 (0, 0)), (g8, Obj.cells #[int j] 3 (0, 0))]) : TA (.fol (ph W Fc Lf o N v) (.send1 j)) ⟨Tryz.prog, Tryz.f81.ntmps, ⟨W, [], fun _ => False⟩, [], none⟩ (baseD 81) cs k o118 (n + 123) 4 #[false, true, true, true, false, false, false] [(8, .agg #[int s, ruleV r]), (7, .func (.func how) #[] #[]), (6, int j), (0, .pointer (c8 b6)), (1, .pointer (c8 g8)), (2, .pointer (c8 b3)), (3, .pointer (c8 g9)), (4, .pointer (c8 b7))] [(g9, Obj.cells #[int s, ruleV r] 141 (0, 0)), (g8, Obj.cells #[int j] 3 (0, 0))] := by
  refine I9 (l := [0, 4]) (by kernel_rfl) (by simp) fun j hj rest hr => ?_; obtain ⟨t, rfl⟩ := hr; simp only [List.mem_cons, List.not_mem_nil, or_false] at hj
  rcases hj with rfl | rfl
  · refine B3 (v := .chan (some Fc)) rfl rfl (fun h => by cases h) T.t8 rfl (E0 hB.h6 hB.n6.1 hB.n6.2.1 hB.n6.2.2 rfl) ?_
    exact A8 (by repeat constructor) (bz6 hs ho hr hw hB hend t)
  refine qB (m := 100) (f := how) (cap := []) (vs := [.agg #[int s, ruleV r]]) rfl rfl (fun h => by cases h) (jz0 hw) rfl rfl (kq1 s off r hs ho hr hw) ?_; exact A8 (by repeat constructor) (px1 hs ho hr hw hB hend t)
theorem s118_28 (hs : 0 ≤ s ∧ s ≤ 1000000) (ho : 0 ≤ off ∧ off ≤ 100) (hr : RuleAt W Fc Lf o off r) (hw : how = 70 ∨ how = 70) (hB : Base W Fc Lf o how b3 b6 b7) (hend : TC (.fol (ph W Fc Lf o N v) (.send1 j)) ⟨Tryz.prog, Tryz.f81.ntmps, ⟨W, [], fun _ => False⟩, [], none⟩ (baseD 81) cs (n + 20) (.inRegion o118 [6] :: k) [(10, .agg #[int j, int (numN how off r s)]), (9, int (numN how off r s)), (8, .agg #[int s, ruleV r]), (7, .func (.func how) #[] #[]), (6, int j), (5, .chan (some Fc)), (0, .pointer (c8 b6)), (1, .pointer (c8 g8)), (2, .pointer (c8 b3)), (3, .pointer (c8 g9)), (4, .pointer (c8 b7))] [(g9, Obj.cells #[int s, ruleV r] 141 (0, 0)), (g8, Obj.cells #[int j] 3 (0, 0))]) : TA (.fol (ph W Fc Lf o N v) (.send1 j)) ⟨Tryz.prog, Tryz.f81.ntmps, ⟨W, [], fun _ => False⟩, [], none⟩ (baseD 81) cs k o118 (n + 23) 4 #[false, false, true, true, true, false, false] [(9, int (numN how off r s)), (8, .agg #[int s, ruleV r]), (7, .func (.func how) #[] #[]), (0, .pointer (c8 b6)), (1, .pointer (c8 g8)), (2, .pointer (c8 b3)), (3, .pointer (c8 g9)), (4, .pointer (c8 b7))] [(g9, Obj.cells #[int s, ruleV r] 141 (0, 0)), (g8, Obj.cells #[int j] 3 (0, 0))] := by
  refine I9 (l := [0, 1]) (by kernel_rfl) (by simp) fun j hj rest hr => ?_; obtain ⟨t, rfl⟩ := hr; simp only [List.mem_cons, List.not_mem_nil, or_false] at hj
  rcases hj with rfl | rfl
  · refine B3 (v := .chan (some Fc)) rfl rfl (fun h => by cases h) T.t8 rfl (E0 hB.h6 hB.n6.1 hB.n6.2.1 hB.n6.2.2 rfl) ?_
    exact A8 (by repeat constructor) (px2 hs ho hr hw hB hend t)
  refine B3 (v := int j) rfl rfl (fun h => by cases h) T.b9 rfl (V4 (vs := #[int j]) (List.mem_cons_of_mem _ (List.mem_cons_self ..)) rfl) ?_; exact A8 (by repeat constructor) (px1 hs ho hr hw hB hend t)
theorem sx8 (hs : 0 ≤ s ∧ s ≤ 1000000) (ho : 0 ≤ off ∧ off ≤ 100) (hr : RuleAt W Fc Lf o off r) (hw : how = 70 ∨ how = 70) (hB : Base W Fc Lf o how b3 b6 b7) (hend : TC (.fol (ph W Fc Lf o N v) (.send1 j)) ⟨Tryz.prog, Tryz.f81.ntmps, ⟨W, [], fun _ => False⟩, [], none⟩ (baseD 81) cs (n + 20) (.inRegion o118 [6] :: k) [(10, .agg #[int j, int (numN how off r s)]), (9, int (numN how off r s)), (8, .agg #[int s, ruleV r]), (7, .func (.func how) #[] #[]), (6, int j), (5, .chan (some Fc)), (0, .pointer (c8 b6)), (1, .pointer (c8 g8)), (2, .pointer (c8 b3)), (3, .pointer (c8 g9)), (4, .pointer (c8 b7))] [(g9, Obj.cells #[int s, ruleV r] 141 (0, 0)), (g8, Obj.cells #[int j] 3 (0, 0))]) : TA (.fol (ph W Fc Lf o N v) (.send1 j)) ⟨Tryz.prog, Tryz.f81.ntmps, ⟨W, [], fun _ => False⟩, [], none⟩ (baseD 81) cs k o118 (n + 124) 5 #[true, true, false, false, false, false, false] [(6, int j), (5, .chan (some Fc)), (0, .pointer (c8 b6)), (1, .pointer (c8 g8)), (2, .pointer (c8 b3)), (3, .pointer (c8 g9)), (4, .pointer (c8 b7))] [(g9, Obj.cells #[int s, ruleV r] 141 (0, 0)), (g8, Obj.cells #[int j] 3 (0, 0))] := by
  refine I9 (l := [2, 3]) (by kernel_rfl) (by simp) fun j hj rest hr => ?_; obtain ⟨t, rfl⟩ := hr; simp only [List.mem_cons, List.not_mem_nil, or_false] at hj
  rcases hj with rfl | rfl
  · refine B3 (v := .func (.func how) #[] #[]) rfl rfl (fun h => by cases h) T.A5 rfl (E0 hB.h3 hB.n3.1 hB.n3.2.1 hB.n3.2.2 rfl) ?_
    exact A8 (by repeat constructor) (nq1 hs ho hr hw hB hend t)
  refine aD (vs := [int s, ruleV r]) rfl rfl (fun h => by cases h) T.G5 T.A9 rfl rfl (cO (vs := #[int s, ruleV r]) (List.mem_cons_self ..) fun i u hu => by rw [Nat.zero_add]; simpa using hu) ?_; exact A8 (by repeat constructor) (jx3 hs ho hr hw hB hend t)
theorem sx7 (hs : 0 ≤ s ∧ s ≤ 1000000) (ho : 0 ≤ off ∧ off ≤ 100) (hr : RuleAt W Fc Lf o off r) (hw : how = 70 ∨ how = 70) (hB : Base W Fc Lf o how b3 b6 b7) (hend : TC (.fol (ph W Fc Lf o N v) (.send1 j)) ⟨Tryz.prog, Tryz.f81.ntmps, ⟨W, [], fun _ => False⟩, [], none⟩ (baseD 81) cs (n + 20) (.inRegion o118 [6] :: k) [(10, .agg #[int j, int (numN how off r s)]), (9, int (numN how off r s)), (8, .agg #[int s, ruleV r]), (7, .func (.func how) #[] #[]), (6, int j), (5, .chan (some Fc)), (0, .pointer (c8 b6)), (1, .pointer (c8 g8)), (2, .pointer (c8 b3)), (3, .pointer (c8 g9)), (4, .pointer (c8 b7))] [(g9, Obj.cells #[int s, ruleV r] 141 (0, 0)), (g8, Obj.cells #[int j] 3 (0, 0))]) : TA (.fol (ph W Fc Lf o N v) (.send1 j)) ⟨Tryz.prog, Tryz.f81.ntmps, ⟨W, [], fun _ => False⟩, [], none⟩ (baseD 81) cs k o118 (n + 124) 5 #[true, false, true, false, false, false, false] [(7, .func (.func how) #[] #[]), (5, .chan (some Fc)), (0, .pointer (c8 b6)), (1, .pointer (c8 g8)), (2, .pointer (c8 b3)), (3, .pointer (c8 g9)), (4, .pointer (c8 b7))] [(g9, Obj.cells #[int s, ruleV r] 141 (0, 0)), (g8, Obj.cells #[int j] 3 (0, 0))] := by
  refine I9 (l := [1, 3]) (by kernel_rfl) (by simp) fun j hj rest hr => ?_; obtain ⟨t, rfl⟩ := hr; simp only [List.mem_cons, List.not_mem_nil, or_false] at hj
  rcases hj with rfl | rfl
  · refine B3 (v := int j) rfl rfl (fun h => by cases h) T.b9 rfl (V4 (vs := #[int j]) (List.mem_cons_of_mem _ (List.mem_cons_self ..)) rfl) ?_
    exact A8 (by repeat constructor) (nq1 hs ho hr hw hB hend t)
  refine aD (vs := [int s, ruleV r]) rfl rfl (fun h => by cases h) T.G5 T.A9 rfl rfl (cO (vs := #[int s, ruleV r]) (List.mem_cons_self ..) fun i u hu => by rw [Nat.zero_add]; simpa using hu) ?_; exact A8 (by repeat constructor) (jx2 hs ho hr hw hB hend t)
theorem sx6 (hs : 0 ≤ s ∧ s ≤ 1000000) (ho : 0 ≤ off ∧ off ≤ 100) (hr : RuleAt W Fc Lf o off r) (hw : how = 70 ∨ how = 70) (hB : Base W Fc Lf o how b3 b6 b7) (hend : TC (.fol (ph W Fc Lf o N v) (.send1 j)) ⟨Tryz.prog, Tryz.f81.ntmps, ⟨W, [], fun _ => False⟩, [], none⟩ (baseD 81) cs (n + 20) (.inRegion o118 [6] :: k) [(10, .agg #[int j, int (numN how off r s)]), (9, int (numN how off r s)), (8, .agg #[int s, ruleV r]), (7, .func (.func how) #[] #[]), (6, int j), (5, .chan (some Fc)), (0, .pointer (c8 b6)), (1, .pointer (c8 g8)), (2, .pointer (c8 b3)), (3, .pointer (c8 g9)), (4, .pointer (c8 b7))] [(g9, Obj.cells #[int s, ruleV r] 141 (0, 0)), (g8, Obj.cells #[int j] 3 (0, 0))]) : TA (.fol (ph W Fc Lf o N v) (.send1 j)) ⟨Tryz.prog, Tryz.f81.ntmps, ⟨W, [], fun _ => False⟩, [], none⟩ (baseD 81) cs k o118 (n + 124) 5 #[false, true, true, false, false, false, false] [(7, .func (.func how) #[] #[]), (6, int j), (0, .pointer (c8 b6)), (1, .pointer (c8 g8)), (2, .pointer (c8 b3)), (3, .pointer (c8 g9)), (4, .pointer (c8 b7))] [(g9, Obj.cells #[int s, ruleV r] 141 (0, 0)), (g8, Obj.cells #[int j] 3 (0, 0))] := by
  refine I9 (l := [0, 3]) (by kernel_rfl) (by simp) fun j hj rest hr => ?_; obtain ⟨t, rfl⟩ := hr; simp only [List.mem_cons, List.not_mem_nil, or_false] at hj
  rcases hj with rfl | rfl
  · refine B3 (v := .chan (some Fc)) rfl rfl (fun h => by cases h) T.t8 rfl (E0 hB.h6 hB.n6.1 hB.n6.2.1 hB.n6.2.2 rfl) ?_
    exact A8 (by repeat constructor) (nq1 hs ho hr hw hB hend t)
  refine aD (vs := [int s, ruleV r]) rfl rfl (fun h => by cases h) T.G5 T.A9 rfl rfl (cO (vs := #[int s, ruleV r]) (List.mem_cons_self ..) fun i u hu => by rw [Nat.zero_add]; simpa using hu) ?_; exact A8 (by repeat constructor) (jx1 hs ho hr hw hB hend t)
theorem sx5 (hs : 0 ≤ s ∧ s ≤ 1000000) (ho : 0 ≤ off ∧ off ≤ 100) (hr : RuleAt W Fc Lf o off r) (hw : how = 70 ∨ how = 70) (hB : Base W Fc Lf o how b3 b6 b7) (hend : TC (.fol (ph W Fc Lf o N v) (.send1 j)) ⟨Tryz.prog, Tryz.f81.ntmps, ⟨W, [], fun _ => False⟩, [], none⟩ (baseD 81) cs (n + 20) (.inRegion o118 [6] :: k) [(10, .agg #[int j, int (numN how off r s)]), (9, int (numN how off r s)), (8, .agg #[int s, ruleV r]), (7, .func (.func how) #[] #[]), (6, int j), (5, .chan (some Fc)), (0, .pointer (c8 b6)), (1, .pointer (c8 g8)), (2, .pointer (c8 b3)), (3, .pointer (c8 g9)), (4, .pointer (c8 b7))] [(g9, Obj.cells #[int s, ruleV r] 141 (0, 0)), (g8, Obj.cells #[int j] 3 (0, 0))]) : TA (.fol (ph W Fc Lf o N v) (.send1 j)) ⟨Tryz.prog, Tryz.f81.ntmps, ⟨W, [], fun _ => False⟩, [], none⟩ (baseD 81) cs k o118 (n + 124) 5 #[true, false, false, true, false, false, false] [(8, .agg #[int s, ruleV r]), (5, .chan (some Fc)), (0, .pointer (c8 b6)), (1, .pointer (c8 g8)), (2, .pointer (c8 b3)), (3, .pointer (c8 g9)), (4, .pointer (c8 b7))] [(g9, Obj.cells #[int s, ruleV r] 141 (0, 0)), (g8, Obj.cells #[int j] 3 (0, 0))] := by
  refine I9 (l := [1, 2]) (by kernel_rfl) (by simp) fun j hj rest hr => ?_; obtain ⟨t, rfl⟩ := hr; simp only [List.mem_cons, List.not_mem_nil, or_false] at hj
  rcases hj with rfl | rfl
  · refine B3 (v := int j) rfl rfl (fun h => by cases h) T.b9 rfl (V4 (vs := #[int j]) (List.mem_cons_of_mem _ (List.mem_cons_self ..)) rfl) ?_
    exact A8 (by repeat constructor) (jx3 hs ho hr hw hB hend t)
  refine B3 (v := .func (.func how) #[] #[]) rfl rfl (fun h => by cases h) T.A5 rfl (E0 hB.h3 hB.n3.1 hB.n3.2.1 hB.n3.2.2 rfl) ?_; exact A8 (by repeat constructor) (jx2 hs ho hr hw hB hend t)
theorem px4 (hs : 0 ≤ s ∧ s ≤ 1000000) (ho : 0 ≤ off ∧ off ≤ 100) (hr : RuleAt W Fc Lf o off r) (hw : how = 70 ∨ how = 70) (hB : Base W Fc Lf o how b3 b6 b7) (hend : TC (.fol (ph W Fc Lf o N v) (.send1 j)) ⟨Tryz.prog, Tryz.f81.ntmps, ⟨W, [], fun _ => False⟩, [], none⟩ (baseD 81) cs (n + 20) (.inRegion o118 [6] :: k) [(10, .agg #[int j, int (numN how off r s)]), (9, int (numN how off r s)), (8, .agg #[int s, ruleV r]), (7, .func (.func how) #[] #[]), (6, int j), (5, .chan (some Fc)), (0, .pointer (c8 b6)), (1, .pointer (c8 g8)), (2, .pointer (c8 b3)), (3, .pointer (c8 g9)), (4, .pointer (c8 b7))] [(g9, Obj.cells #[int s, ruleV r] 141 (0, 0)), (g8, Obj.cells #[int j] 3 (0, 0))]) : TA (.fol (ph W Fc Lf o N v) (.send1 j)) ⟨Tryz.prog, Tryz.f81.ntmps, ⟨W, [], fun _ => False⟩, [], none⟩ (baseD 81) cs k o118 (n + 124) 5 #[false, true, false, true, false, false, false] [(8, .agg #[int s, ruleV r]), (6, int j), (0, .pointer (c8 b6)), (1, .pointer (c8 g8)), (2, .pointer (c8 b3)), (3, .pointer (c8 g9)), (4, .pointer (c8 b7))] [(g9, Obj.cells #[int s, ruleV r] 141 (0, 0)), (g8, Obj.cells #[int j] 3 (0, 0))] := by
  refine I9 (l := [0, 2]) (by kernel_rfl) (by simp) fun j hj rest hr => ?_; obtain ⟨t, rfl⟩ := hr; simp only [List.mem_cons, List.not_mem_nil, or_false] at hj
  rcases hj with rfl | rfl
  · refine B3 (v := .chan (some Fc)) rfl rfl (fun h => by cases h) T.t8 rfl (E0 hB.h6 hB.n6.1 hB.n6.2.1 hB.n6.2.2 rfl) ?_
    exact A8 (by repeat constructor) (jx3 hs ho hr hw hB hend t)
  refine B3 (v := .func (.func how) #[] #[]) rfl rfl (fun h => by cases h) T.A5 rfl (E0 hB.h3 hB.n3.1 hB.n3.2.1 hB.n3.2.2 rfl) ?_; exact A8 (by repeat constructor) (jx1 hs ho hr hw hB hend t)
theorem px3 (hs : 0 ≤ s ∧ s ≤ 1000000) (ho : 0 ≤ off ∧ off ≤ 100) (hr : RuleAt W Fc Lf o off r) (hw : how = 70 ∨ how = 70) (hB : Base W Fc Lf o how b3 b6 b7) (hend : TC (.fol (ph W Fc Lf o N v) (.send1 j)) ⟨Tryz.prog, Tryz.f81.ntmps, ⟨W, [], fun _ => False⟩, [], none⟩ (baseD 81) cs (n + 20) (.inRegion o118 [6] :: k) [(10, .agg #[int j, int (numN how off r s)]), (9, int (numN how off r s)), (8, .agg #[int s, ruleV r]), (7, .func (.func how) #[] #[]), (6, int j), (5, .chan (some Fc)), (0, .pointer (c8 b6)), (1, .pointer (c8 g8)), (2, .pointer (c8 b3)), (3, .pointer (c8 g9)), (4, .pointer (c8 b7))] [(g9, Obj.cells #[int s, ruleV r] 141 (0, 0)), (g8, Obj.cells #[int j] 3 (0, 0))]) : TA (.fol (ph W Fc Lf o N v) (.send1 j)) ⟨Tryz.prog, Tryz.f81.ntmps, ⟨W, [], fun _ => False⟩, [], none⟩ (baseD 81) cs k o118 (n + 124) 5 #[false, false, true, true, false, false, false] [(8, .agg #[int s, ruleV r]), (7, .func (.func how) #[] #[]), (0, .pointer (c8 b6)), (1, .pointer (c8 g8)), (2, .pointer (c8 b3)), (3, .pointer (c8 g9)), (4, .pointer (c8 b7))] [(g9, Obj.cells #[int s, ruleV r] 141 (0, 0)), (g8, Obj.cells #[int j] 3 (0, 0))] := by
  refine I9 (l := [0, 1, 4]) (by kernel_rfl) (by simp) fun j hj rest hr => ?_; obtain ⟨t, rfl⟩ := hr; simp only [List.mem_cons, List.not_mem_nil, or_false] at hj
  rcases hj with rfl | rfl | rfl
  · refine B3 (v := .chan (some Fc)) rfl rfl (fun h => by cases h) T.t8 rfl (E0 hB.h6 hB.n6.1 hB.n6.2.1 hB.n6.2.2 rfl) ?_
    exact A8 (by repeat constructor) (jx2 hs ho hr hw hB hend t)
  · refine B3 (v := int j) rfl rfl (fun h => by cases h) T.b9 rfl (V4 (vs := #[int j]) (List.mem_cons_of_mem _ (List.mem_cons_self ..)) rfl) ?_
    exact A8 (by repeat constructor) (jx1 hs ho hr hw hB hend t)
  refine qB (m := 100) (f := how) (cap := []) (vs := [.agg #[int s, ruleV r]]) rfl rfl (fun h => by cases h) (jz0 hw) rfl rfl (kq1 s off r hs ho hr hw) ?_; exact A8 (by repeat constructor) (s118_28 hs ho hr hw hB hend t)
theorem s118_1 (hs : 0 ≤ s ∧ s ≤ 1000000) (ho : 0 ≤ off ∧ off ≤ 100) (hr : RuleAt W Fc Lf o off r) (hw : how = 70 ∨ how = 70) (hB : Base W Fc Lf o how b3 b6 b7) (hend : TC (.fol (ph W Fc Lf o N v) (.send1 j)) ⟨Tryz.prog, Tryz.f81.ntmps, ⟨W, [], fun _ => False⟩, [], none⟩ (baseD 81) cs (n + 20) (.inRegion o118 [6] :: k) [(10, .agg #[int j, int (numN how off r s)]), (9, int (numN how off r s)), (8, .agg #[int s, ruleV r]), (7, .func (.func how) #[] #[]), (6, int j), (5, .chan (some Fc)), (0, .pointer (c8 b6)), (1, .pointer (c8 g8)), (2, .pointer (c8 b3)), (3, .pointer (c8 g9)), (4, .pointer (c8 b7))] [(g9, Obj.cells #[int s, ruleV r] 141 (0, 0)), (g8, Obj.cells #[int j] 3 (0, 0))]) : TA (.fol (ph W Fc Lf o N v) (.send1 j)) ⟨Tryz.prog, Tryz.f81.ntmps, ⟨W, [], fun _ => False⟩, [], none⟩ (baseD 81) cs k o118 (n + 125) 6 #[true, false, false, false, false, false, false] [(5, .chan (some Fc)), (0, .pointer (c8 b6)), (1, .pointer (c8 g8)), (2, .pointer (c8 b3)), (3, .pointer (c8 g9)), (4, .pointer (c8 b7))] [(g9, Obj.cells #[int s, ruleV r] 141 (0, 0)), (g8, Obj.cells #[int j] 3 (0, 0))] := by
  refine I9 (l := [1, 2, 3]) (by kernel_rfl) (by simp) fun j hj rest hr => ?_; obtain ⟨t, rfl⟩ := hr; simp only [List.mem_cons, List.not_mem_nil, or_false] at hj
  rcases hj with rfl | rfl | rfl
  · refine B3 (v := int j) rfl rfl (fun h => by cases h) T.b9 rfl (V4 (vs := #[int j]) (List.mem_cons_of_mem _ (List.mem_cons_self ..)) rfl) ?_
    exact A8 (by repeat constructor) (sx8 hs ho hr hw hB hend t)
  · refine B3 (v := .func (.func how) #[] #[]) rfl rfl (fun h => by cases h) T.A5 rfl (E0 hB.h3 hB.n3.1 hB.n3.2.1 hB.n3.2.2 rfl) ?_
    exact A8 (by repeat constructor) (sx7 hs ho hr hw hB hend t)
  refine aD (vs := [int s, ruleV r]) rfl rfl (fun h => by cases h) T.G5 T.A9 rfl rfl (cO (vs := #[int s, ruleV r]) (List.mem_cons_self ..) fun i u hu => by rw [Nat.zero_add]; simpa using hu) ?_; exact A8 (by repeat constructor) (sx5 hs ho hr hw hB hend t)
theorem s118_2 (hs : 0 ≤ s ∧ s ≤ 1000000) (ho : 0 ≤ off ∧ off ≤ 100) (hr : RuleAt W Fc Lf o off r) (hw : how = 70 ∨ how = 70) (hB : Base W Fc Lf o how b3 b6 b7) (hend : TC (.fol (ph W Fc Lf o N v) (.send1 j)) ⟨Tryz.prog, Tryz.f81.ntmps, ⟨W, [], fun _ => False⟩, [], none⟩ (baseD 81) cs (n + 20) (.inRegion o118 [6] :: k) [(10, .agg #[int j, int (numN how off r s)]), (9, int (numN how off r s)), (8, .agg #[int s, ruleV r]), (7, .func (.func how) #[] #[]), (6, int j), (5, .chan (some Fc)), (0, .pointer (c8 b6)), (1, .pointer (c8 g8)), (2, .pointer (c8 b3)), (3, .pointer (c8 g9)), (4, .pointer (c8 b7))] [(g9, Obj.cells #[int s, ruleV r] 141 (0, 0)), (g8, Obj.cells #[int j] 3 (0, 0))]) : TA (.fol (ph W Fc Lf o N v) (.send1 j)) ⟨Tryz.prog, Tryz.f81.ntmps, ⟨W, [], fun _ => False⟩, [], none⟩ (baseD 81) cs k o118 (n + 125) 6 #[false, true, false, false, false, false, false] [(6, int j), (0, .pointer (c8 b6)), (1, .pointer (c8 g8)), (2, .pointer (c8 b3)), (3, .pointer (c8 g9)), (4, .pointer (c8 b7))] [(g9, Obj.cells #[int s, ruleV r] 141 (0, 0)), (g8, Obj.cells #[int j] 3 (0, 0))] := by
  refine I9 (l := [0, 2, 3]) (by kernel_rfl) (by simp) fun j hj rest hr => ?_; obtain ⟨t, rfl⟩ := hr; simp only [List.mem_cons, List.not_mem_nil, or_false] at hj
  rcases hj with rfl | rfl | rfl
  · refine B3 (v := .chan (some Fc)) rfl rfl (fun h => by cases h) T.t8 rfl (E0 hB.h6 hB.n6.1 hB.n6.2.1 hB.n6.2.2 rfl) ?_
    exact A8 (by repeat constructor) (sx8 hs ho hr hw hB hend t)
  · refine B3 (v := .func (.func how) #[] #[]) rfl rfl (fun h => by cases h) T.A5 rfl (E0 hB.h3 hB.n3.1 hB.n3.2.1 hB.n3.2.2 rfl) ?_
    exact A8 (by repeat constructor) (sx6 hs ho hr hw hB hend t)
  refine aD (vs := [int s, ruleV r]) rfl rfl (fun h => by cases h) T.G5 T.A9 rfl rfl (cO (vs := #[int s, ruleV r]) (List.mem_cons_self ..) fun i u hu => by rw [Nat.zero_add]; simpa using hu) ?_; exact A8 (by repeat constructor) (px4 hs ho hr hw hB hend t)
theorem s118_4 (hs : 0 ≤ s ∧ s ≤ 1000000) (ho : 0 ≤ off ∧ off ≤ 100) (hr : RuleAt W Fc Lf o off r) (hw : how = 70 ∨ how = 70) (hB : Base W Fc Lf o how b3 b6 b7) (hend : TC (.fol (ph W Fc Lf o N v) (.send1 j)) ⟨Tryz.prog, Tryz.f81.ntmps, ⟨W, [], fun _ => False⟩, [], none⟩ (baseD 81) cs (n + 20) (.inRegion o118 [6] :: k) [(10, .agg #[int j, int (numN how off r s)]), (9, int (numN how off r s)), (8, .agg #[int s, ruleV r]), (7, .func (.func how) #[] #[]), (6, int j), (5, .chan (some Fc)), (0, .pointer (c8 b6)), (1, .pointer (c8 g8)), (2, .pointer (c8 b3)), (3, .pointer (c8 g9)), (4, .pointer (c8 b7))] [(g9, Obj.cells #[int s, ruleV r] 141 (0, 0)), (g8, Obj.cells #[int j] 3 (0, 0))]) : TA (.fol (ph W Fc Lf o N v) (.send1 j)) ⟨Tryz.prog, Tryz.f81.ntmps, ⟨W, [], fun _ => False⟩, [], none⟩ (baseD 81) cs k o118 (n + 125) 6 #[false, false, true, false, false, false, false] [(7, .func (.func how) #[] #[]), (0, .pointer (c8 b6)), (1, .pointer (c8 g8)), (2, .pointer (c8 b3)), (3, .pointer (c8 g9)), (4, .pointer (c8 b7))] [(g9, Obj.cells #[int s, ruleV r] 141 (0, 0)), (g8, Obj.cells #[int j] 3 (0, 0))] := by
  refine I9 (l := [0, 1, 3]) (by kernel_rfl) (by simp) fun j hj rest hr => ?_; obtain ⟨t, rfl⟩ := hr; simp only [List.mem_cons, List.not_mem_nil, or_false] at hj
  rcases hj with rfl | rfl | rfl
  · refine B3 (v := .chan (some Fc)) rfl rfl (fun h => by cases h) T.t8 rfl (E0 hB.h6 hB.n6.1 hB.n6.2.1 hB.n6.2.2 rfl) ?_
    exact A8 (by repeat constructor) (sx7 hs ho hr hw hB hend t)
  · refine B3 (v := int j) rfl rfl (fun h => by cases h) T.b9 rfl (V4 (vs := #[int j]) (List.mem_cons_of_mem _ (List.mem_cons_self ..)) rfl) ?_
    exact A8 (by repeat constructor) (sx6 hs ho hr hw hB hend t)
  refine aD (vs := [int s, ruleV r]) rfl rfl (fun h => by cases h) T.G5 T.A9 rfl rfl (cO (vs := #[int s, ruleV r]) (List.mem_cons_self ..) fun i u hu => by rw [Nat.zero_add]; simpa using hu) ?_; exact A8 (by repeat constructor) (px3 hs ho hr hw hB hend t)
theorem s118_8 (hs : 0 ≤ s ∧ s ≤ 1000000) (ho : 0 ≤ off ∧ off ≤ 100) (hr : RuleAt W Fc Lf o off r) (hw : how = 70 ∨ how = 70) (hB : Base W Fc Lf o how b3 b6 b7) (hend : TC (.fol (ph W Fc Lf o N v) (.send1 j)) ⟨Tryz.prog, Tryz.f81.ntmps, ⟨W, [], fun _ => False⟩, [], none⟩ (baseD 81) cs (n + 20) (.inRegion o118 [6] :: k) [(10, .agg #[int j, int (numN how off r s)]), (9, int (numN how off r s)), (8, .agg #[int s, ruleV r]), (7, .func (.func how) #[] #[]), (6, int j), (5, .chan (some Fc)), (0, .pointer (c8 b6)), (1, .pointer (c8 g8)), (2, .pointer (c8 b3)), (3, .pointer (c8 g9)), (4, .pointer (c8 b7))] [(g9, Obj.cells #[int s, ruleV r] 141 (0, 0)), (g8, Obj.cells #[int j] 3 (0, 0))]) : TA (.fol (ph W Fc Lf o N v) (.send1 j)) ⟨Tryz.prog, Tryz.f81.ntmps, ⟨W, [], fun _ => False⟩, [], none⟩ (baseD 81) cs k o118 (n + 125) 6 #[false, false, false, true, false, false, false] [(8, .agg #[int s, ruleV r]), (0, .pointer (c8 b6)), (1, .pointer (c8 g8)), (2, .pointer (c8 b3)), (3, .pointer (c8 g9)), (4, .pointer (c8 b7))] [(g9, Obj.cells #[int s, ruleV r] 141 (0, 0)), (g8, Obj.cells #[int j] 3 (0, 0))] := by
  refine I9 (l := [0, 1, 2]) (by kernel_rfl) (by simp) fun j hj rest hr => ?_; obtain ⟨t, rfl⟩ := hr; simp only [List.mem_cons, List.not_mem_nil, or_false] at hj
  rcases hj with rfl | rfl | rfl
  · refine B3 (v := .chan (some Fc)) rfl rfl (fun h => by cases h) T.t8 rfl (E0 hB.h6 hB.n6.1 hB.n6.2.1 hB.n6.2.2 rfl) ?_
    exact A8 (by repeat constructor) (sx5 hs ho hr hw hB hend t)
  · refine B3 (v := int j) rfl rfl (fun h => by cases h) T.b9 rfl (V4 (vs := #[int j]) (List.mem_cons_of_mem _ (List.mem_cons_self ..)) rfl) ?_
    exact A8 (by repeat constructor) (px4 hs ho hr hw hB hend t)
  refine B3 (v := .func (.func how) #[] #[]) rfl rfl (fun h => by cases h) T.A5 rfl (E0 hB.h3 hB.n3.1 hB.n3.2.1 hB.n3.2.2 rfl) ?_; exact A8 (by repeat constructor) (px3 hs ho hr hw hB hend t)
theorem s118_0 (hs : 0 ≤ s ∧ s ≤ 1000000) (ho : 0 ≤ off ∧ off ≤ 100) (hr : RuleAt W Fc Lf o off r) (hw : how = 70 ∨ how = 70) (hB : Base W Fc Lf o how b3 b6 b7) (hend : TC (.fol (ph W Fc Lf o N v) (.send1 j)) ⟨Tryz.prog, Tryz.f81.ntmps, ⟨W, [], fun _ => False⟩, [], none⟩ (baseD 81) cs (n + 20) (.inRegion o118 [6] :: k) [(10, .agg #[int j, int (numN how off r s)]), (9, int (numN how off r s)), (8, .agg #[int s, ruleV r]), (7, .func (.func how) #[] #[]), (6, int j), (5, .chan (some Fc)), (0, .pointer (c8 b6)), (1, .pointer (c8 g8)), (2, .pointer (c8 b3)), (3, .pointer (c8 g9)), (4, .pointer (c8 b7))] [(g9, Obj.cells #[int s, ruleV r] 141 (0, 0)), (g8, Obj.cells #[int j] 3 (0, 0))]) : TA (.fol (ph W Fc Lf o N v) (.send1 j)) ⟨Tryz.prog, Tryz.f81.ntmps, ⟨W, [], fun _ => False⟩, [], none⟩ (baseD 81) cs k o118 (n + 126) 7 #[false, false, false, false, false, false, false] [(0, .pointer (c8 b6)), (1, .pointer (c8 g8)), (2, .pointer (c8 b3)), (3, .pointer (c8 g9)), (4, .pointer (c8 b7))] [(g9, Obj.cells #[int s, ruleV r] 141 (0, 0)), (g8, Obj.cells #[int j] 3 (0, 0))] := by
  refine I9 (l := [0, 1, 2, 3]) (by kernel_rfl) (by simp) fun j hj rest hr => ?_; obtain ⟨t, rfl⟩ := hr; simp only [List.mem_cons, List.not_mem_nil, or_false] at hj
  rcases hj with rfl | rfl | rfl | rfl
  · refine B3 (v := .chan (some Fc)) rfl rfl (fun h => by cases h) T.t8 rfl (E0 hB.h6 hB.n6.1 hB.n6.2.1 hB.n6.2.2 rfl) ?_
    exact A8 (by repeat constructor) (s118_1 hs ho hr hw hB hend t)
  · refine B3 (v := int j) rfl rfl (fun h => by cases h) T.b9 rfl (V4 (vs := #[int j]) (List.mem_cons_of_mem _ (List.mem_cons_self ..)) rfl) ?_
    exact A8 (by repeat constructor) (s118_2 hs ho hr hw hB hend t)
  · refine B3 (v := .func (.func how) #[] #[]) rfl rfl (fun h => by cases h) T.A5 rfl (E0 hB.h3 hB.n3.1 hB.n3.2.1 hB.n3.2.2 rfl) ?_
    exact A8 (by repeat constructor) (s118_4 hs ho hr hw hB hend t)
  refine aD (vs := [int s, ruleV r]) rfl rfl (fun h => by cases h) T.G5 T.A9 rfl rfl (cO (vs := #[int s, ruleV r]) (List.mem_cons_self ..) fun i u hu => by rw [Nat.zero_add]; simpa using hu) ?_; exact A8 (by repeat constructor) (s118_8 hs ho hr hw hB hend t)
end
theorem fol_w {how b3 b6 b7 g8 g9 j : Nat} {s off : Int} {r : Option Nat} (hs : 0 ≤ s ∧ s ≤ 1000000) (ho : 0 ≤ off ∧ off ≤ 100) (hr : RuleAt W Fc Lf o off r) (hw : how = 70 ∨ how = 70) (hB : Base W Fc Lf o how b3 b6 b7) (hv : v j = .agg #[int j, int (numN how off r s)]) :
    Fol (ph W Fc Lf o N v) 300 (.send1 j) (born Tryz.prog ⟨.fn (.func 81) [Value.pointer (c8 b6), .pointer (c8 g8), .pointer (c8 b3), .pointer (c8 g9), .pointer (c8 b7)].toArray, #[]⟩).frame [] [(g9, Obj.cells #[int s, ruleV r] 141 (0, 0)), (g8, Obj.cells #[int j] 3 (0, 0))] := by
  refine mj7 (m := 299) (p := ph W Fc Lf o N v) F.nT rfl rfl ⟨W, [], fun _ => False⟩ r6 ?_; refine J2 ?_; refine aE (m := 150 + 20 + 106 + 1) (by omega) (nj7 mixed ?_); refine (fun t => s118_0 hs ho hr hw hB ?_ t); refine uq7 (j := j) rfl (fun h => by cases h) rfl (by show _ = some (v j); rw [hv]; rfl) ?_; refine N7 (C9 ?_); refine B3 (v := .chan (some Lf)) rfl rfl (fun h => by cases h) T.rK rfl (E0 hB.h7 hB.n7.1 hB.n7.2.1 hB.n7.2.2 rfl) ?_; refine uq6 rfl (fun h => by cases h) rfl rfl fun a ha => ?_; refine QuitsD.ctl rfl (fun w => stepG_region_end) ?_; refine QuitsD.ctl rfl (fun w => stepG_end) ?_; exact ax1 (cz0 F.nT rfl ha.d) (by omega)
end Go.Proofs.YtcdopfjiadifhaaGreatDoor
end
section
namespace Go.Proofs.YtcdopfjiadifhaaGreatDoor
open Go Go.W Go.Conc
set_option maxRecDepth 20000
attribute [local irreducible] HL HC HQ HB Row Rows2 Blk Facts
set_option maxRecDepth 20000
def blockAt (id : Nat) : Code → Code
  | .block i x => if i = id then x else blockAt id x
  | .seq x y => match blockAt id x with
    | .skip => blockAt id y
    | c => c
  | .loop x => blockAt id x
  | .cond _ x y => match blockAt id x with
    | .skip => blockAt id y
    | c => c
  | _ => .skip
def unLoop : Code → Code
  | .loop x => x
  | _ => .skip
variable {W : World} {Fc Lf o N : Nat} {v : Nat → Value} {hp : Hq}
noncomputable def body119 : Code := unLoop (blockAt 0 (Tryz.f82.body.getD .skip))
theorem loop119 {b3 b5 b6 b7 how : Nat} {c : Cx} {cs : List Frame} {k : List Item} (hP : c.P = Tryz.prog) (hn : c.n = 11) (hN : N ≤ 1000) (hB : Base W Fc Lf o how b3 b6 b7)
    (hend : TC (.fol (ph W Fc Lf o N v) .close) c (baseD 82) cs 20 k [(4, int N), (0, .pointer (c8 b5)), (1, .pointer (c8 b7)), (2, .pointer (c8 b6))] hp) :
    ∀ (m i : Nat), i + m = N → TC (.fol (ph W Fc Lf o N v) (nxt m)) c (baseD 82) cs (30 * m + 30) (.code body119 :: .inLoop body119 :: .inBlock 0 :: k) [(5, int i), (4, int N), (0, .pointer (c8 b5)), (1, .pointer (c8 b7)), (2, .pointer (c8 b6))] hp := by
  obtain ⟨P, cn, cb, D, rd⟩ := c; simp only at hP hn; subst hP hn; intro m
  induction m with
  | zero =>
    intro i hi; refine J2 (C9 ?_); refine jj9 rfl rfl (fun h => by cases h) rfl rfl ?_; refine N7 (J2 ?_); refine wQ false (by show some (Value.bool (decide ((i : Int) < (N : Int)))) = _; rw [decide_eq_false (by omega)]) ?_; refine pq6 k rfl ?_; exact aE (m := 20) (by omega) (A8 (by repeat constructor) hend)
  | succ m ih =>
    intro i hi; rw [show 30 * (m + 1) + 30 = (30 * m + 30) + 30 by omega]; refine J2 (C9 ?_); refine jj9 rfl rfl (fun h => by cases h) rfl rfl ?_; refine N7 (J2 ?_); refine wQ true (by show some (Value.bool (decide ((i : Int) < (N : Int)))) = _; rw [decide_eq_true (by omega)]) ?_; refine jq1 (J2 (kG (C9 ?_))); refine B3 (v := .chan (some Lf)) rfl rfl (fun h => by cases h) T.rK rfl (E0 hB.h7 hB.n7.1 hB.n7.2.1 hB.n7.2.2 rfl) ?_; refine at_recv rfl rfl (fun h => by cases h) Tryz.underlying150 (z := .bool false) (fun _ => by kernel_rfl) rfl ?_; refine N7 (uE (C9 ?_)); refine nj5 ((i + 1 : Nat) : Int) rfl rfl (fun h => by cases h) rfl rfl (by omega) r5 ?_; refine rV rfl rfl (fun h => by cases h) rfl ?_; refine N7 (ij0 ?_); exact aE (m := 30 * m + 30) (by omega) (A8 (by repeat constructor) (ih (i + 1) (by omega)))
theorem fol_c {how b3 b5 b6 b7 : Nat} (hN : N ≤ 1000) (hB : Base W Fc Lf o how b3 b6 b7) {fz : Nat × Nat} (h5 : W.heap[b5]? = some (.cells #[.slice (c8 o) N N] 24 fz)) (n5 : b5 ≠ Fc ∧ b5 ≠ Lf ∧ b5 ≠ o) :
    Fol (ph W Fc Lf o N v) (60 * N + 60) (nxt N) (born Tryz.prog ⟨.fn (.func 82) [Value.pointer (c8 b5), .pointer (c8 b7), .pointer (c8 b6)].toArray, #[]⟩).frame [] [] := by
  refine mj7 (m := 60 * N + 59) (p := ph W Fc Lf o N v) F.nS rfl rfl ⟨W, [], fun _ => False⟩ r6 (aE (m := 30 * N + 30 + 10) (by omega) ?_); refine J2 (J2 (C9 ?_)); refine B3 (v := .slice (c8 o) N N) rfl rfl (fun h => by cases h) T.i7 rfl (E0 h5 n5.1 n5.2.1 n5.2.2 rfl) ?_; refine tr_len rfl rfl (fun h => by cases h) Tryz.underlying24 rfl ?_; refine rV rfl rfl (fun h => by cases h) rfl ?_; refine N7 (kG (jq2 ?_)); refine aE (m := 30 * N + 30) (by omega) ?_; refine A8 (by repeat constructor) (loop119 (b3 := b3) (b5 := b5) (b6 := b6) (b7 := b7) (how := how) rfl rfl hN hB ?_ N 0 (by omega)); refine C9 ?_; refine B3 (v := .chan (some Fc)) rfl rfl (fun h => by cases h) T.t8 rfl (E0 hB.h6 hB.n6.1 hB.n6.2.1 hB.n6.2.2 rfl) ?_; refine ux1 rfl (fun h => by cases h) rfl rfl (by kernel_rfl) fun a ha => ?_; refine QuitsD.ctl rfl (fun w => stepG_region_end) ?_; refine QuitsD.ctl rfl (fun w => stepG_end) ?_; exact ax1 (cz0 F.nS rfl ha.d) (by omega)
end Go.Proofs.YtcdopfjiadifhaaGreatDoor
end
section
namespace Go.W
open Go Go.Conc Go.RowKit
theorem sq1 {p : Ph} {b : Bx} {w : World} {hp0 rest : Hp} {L : List Fact} {f l o o' : Obj} (h : WI b p.W hp0 L) (hpp : hp0.Perm ((p.F, f) :: (p.Lf, l) :: (p.o, o) :: rest)) (he : Sur p w) (ho : w.heap[p.o]? = some o') : WI b w ((p.o, o') :: rest) L := by
  have h := h.perm hpp; have nd := h.nd; simp only [List.map_cons, List.nodup_cons, List.mem_cons, not_or] at nd; obtain ⟨⟨n1, n2, n3⟩, ⟨n4, n5⟩, n6, n7⟩ := nd; have hlt : ∀ {k : Nat} {x : Obj}, (k, x) ∈ ((p.F, f) :: (p.Lf, l) :: (p.o, o) :: rest) → k < p.W.heap.size := fun hm => E1 (h.own _ hm); have hkeep : ∀ k, k < p.W.heap.size → k ≠ p.F → k ≠ p.Lf → k ≠ p.o → w.heap[k]? = p.W.heap[k]? := he.block; have hs : ∀ q ∈ ((p.F, f) :: (p.Lf, l) :: (p.o, o) :: rest), q.1 ∈ b.S0 ∨ b.w0.heap.size ≤ q.1 := h.s0; refine { ext := ⟨he.os.trans h.ext.os, he.tape.trans h.ext.tape, he.output.trans h.ext.output, Nat.le_trans h.ext.size he.size, fun k hk hn => ?_, h.ext.dr⟩, own := fun q hq => ?_, nd := ?_, s0 := fun q hq => ?_, fs := fun F hF => ?_, ap := fun F hF q hq => ?_, al := h.al }
  · have no : ∀ q ∈ ((p.F, f) :: (p.Lf, l) :: (p.o, o) :: rest), k ≠ q.1 := fun q hq e => by
      rcases hs q hq with h1 | h1
      · exact hn (e ▸ h1)
      omega
    exact (hkeep k (Nat.lt_of_lt_of_le hk h.ext.size) (no (p.F, f) (by simp)) (no (p.Lf, l) (by simp)) (no (p.o, o) (by simp))).trans (h.ext.block k hk hn)
  · rcases List.mem_cons.1 hq with rfl | hq
    · exact ho
    have hm : q ∈ ((p.F, f) :: (p.Lf, l) :: (p.o, o) :: rest) := by simp [hq]
    have h1 := h.own q hm; have hne : ∀ z, z ∉ rest.map (·.1) → q.1 ≠ z := fun z hz e => hz (List.mem_map.2 ⟨q, hq, e⟩); exact (hkeep q.1 (E1 h1) (hne _ n3) (hne _ n5) (hne _ n6)).trans h1
  · simp only [List.map_cons, List.nodup_cons]
    exact ⟨n6, n7⟩
  · rcases List.mem_cons.1 hq with rfl | hq
    · exact hs (p.o, o) (by simp)
    exact hs q (by simp [hq])
  · have ap := h.ap F hF
    refine F.st p.W w (fun k hk => ?_) (h.fs F hF); have no : ∀ q ∈ ((p.F, f) :: (p.Lf, l) :: (p.o, o) :: rest), k ≠ q.1 := fun q hq e => ap q hq (e ▸ hk); exact hkeep k (F.lt _ (h.fs F hF) k hk) (no (p.F, f) (by simp)) (no (p.Lf, l) (by simp)) (no (p.o, o) (by simp))
  rcases List.mem_cons.1 hq with rfl | hq
  · exact h.ap F hF (p.o, o) (by simp)
  exact h.ap F hF q (by simp [hq])
theorem hc_co {c : Cx} {x : Code} {Q : Exit → Act → World → Prop} {fr : Fr} {hp : Hp} {L : List Fact}
    (h : ∀ a w, Ok c a fr → WI c.b w hp L → ∀ (b : Frame) (k : List Item) (cs : List Frame) (Goal : Goroutine → World → Prop), b.kind ≠ .early → (∀ e a' w', Q e a' w' → Conts c.P b k cs Goal e a' w') → Co c.P (G (b.at a (.code x :: k)) cs) w Goal) : HC c x Q fr hp L := h
theorem co_hc {c : Cx} {x : Code} {Q : Exit → Act → World → Prop} {fr : Fr} {hp : Hp} {L : List Fact} (h : HC c x Q fr hp L) {a : Act} {w : World} (ha : Ok c a fr) (hw : WI c.b w hp L) {b : Frame} {k : List Item} {cs : List Frame} {Goal : Goroutine → World → Prop} (hk : b.kind ≠ .early)
    (hc : ∀ e a' w', Q e a' w' → Conts c.P b k cs Goal e a' w') : Co c.P (G (b.at a (.code x :: k)) cs) w Goal := h a w ha hw b k cs Goal hk hc
theorem hq_of {c : Cx} {e : Exit} {Q : Exit → Act → World → Prop} {fr : Fr} {hp : Hp} {L : List Fact} (h : ∀ a w, Ok c a fr → WI c.b w hp L → Q e a w) : HQ c Q e fr hp L := h
theorem blk_P {g : Nat} {o : Obj} {w : World} (h : (Blk g o).P w) : w.heap[g]? = some o := h
theorem blk_ne {b : Bx} {w : World} {hp : Hp} {L : List Fact} {g : Nat} {o : Obj} (h : WI b w hp L) (hm : Blk g o ∈ L) (q : Nat × Obj) (hq : q ∈ hp) : q.1 ≠ g := fun e => h.ap _ hm q hq e
theorem row_ne {b : Bx} {w : World} {hp : Hp} {L : List Fact} {ad : Addr} {us : List Value} (h : WI b w hp L) (hm : Row (some ad) us ∈ L) (hne : us ≠ []) (q : Nat × Obj) (hq : q ∈ hp) : q.1 ≠ ad.block := fun e => h.ap _ hm q hq ⟨ad, rfl, e.symm, hne⟩
theorem folM_of {p : Ph} {Goal : Goroutine → World → Prop} {ms : Ms} {c : Cx} {b : Frame} {cs : List Frame} {n : Nat} {ks : List Item} {fr : Fr} {hp : Hq} {a : Act} (h : TC (.folM p Goal ms) c b cs n ks fr hp) (ha : Ok c a fr) : FolM p Goal n ms (b.at a ks) cs hp := h a ha
section
variable {X : TX} {c : Cx} {b : Frame} {cs : List Frame} {n : Nat} {k : List Item} {fr : Fr} {hp hp' : Hq}
theorem nj8 {x : Code} (hs : ∀ q ∈ hp', q ∈ hp) (kk : TC X c b cs n (.code x :: .inLoop x :: k) fr hp') : TC X c b cs (n + 1) (.inLoop x :: k) fr hp := fun a ha =>
  X.lift _ _ _ _ fun w he hh => ⟨_, _, w, #[], hp', stepG_inLoop, by simp, lj2 hh hs, kk a ha⟩
end
end Go.W
end
section
namespace Go.Proofs.YtcdopfjiadifhaaGreatDoor
open Go Go.W Go.Conc
set_option maxRecDepth 20000
attribute [local irreducible] HL HC HQ HB Row Rows2 Blk Facts
set_option maxRecDepth 20000
abbrev Ac := Int × Option Nat
instance : El Ac where
  default := (0, none)
  cells x := [int x.1, ruleV x.2]
  sz := 2
  len _ := rfl
  one a u h := by
    simp at h
    rcases h with h | h <;> subst h
    · rfl
    cases a.2 <;> rfl
def acN (how : Nat) (off : Int) (acc : List Ac) (j : Nat) : Int := numN how off (acc.getD j default).2 (acc.getD j default).1
def acV (how : Nat) (off : Int) (acc : List Ac) (j : Nat) : Value := .agg #[int j, int (acN how off acc j)]
structure Main0 (W : World) (Fc Lf o how b3 b5 b6 b7 : Nat) (ad : Addr) (off : Int) (acc : List Ac) : Prop where
  hB : Base W Fc Lf o how b3 b6 b7
  hw : how = 70 ∨ how = 70
  h5 : W.heap[b5]? = some (.cells #[.slice (c8 o) acc.length acc.length] 24 (0, 0))
  n5 : b5 ≠ Fc ∧ b5 ≠ Lf ∧ b5 ≠ o
  row : (Row (some ad) (rows acc)).P W
  nA : ad.block ≠ Fc ∧ ad.block ≠ Lf ∧ ad.block ≠ o
  lenA : acc.length ≤ 1000
  offB : 0 ≤ off ∧ off ≤ 100
  each : ∀ x ∈ acc, (0 ≤ x.1 ∧ x.1 ≤ 1000000) ∧ RuleAt W Fc Lf o off x.2
section
variable {W : World} {Fc Lf o how b3 b5 b6 b7 : Nat} {ad : Addr} {off : Int} {acc : List Ac} {cap : Nat} {Goal : Goroutine → World → Prop}
abbrev ptrB (g : Nat) : Value := .pointer (c8 g)
abbrev fr0 (b2 b3 b5 b6 b7 : Nat) : Fr := [(2, ptrB b2), (3, ptrB b3), (5, ptrB b5), (6, ptrB b6), (7, ptrB b7)]
noncomputable def bodyA : Code := unLoop (blockAt 0 (Tryz.f69.body.getD .skip))
noncomputable def bodyB : Code := unLoop (blockAt 2 (Tryz.f69.body.getD .skip))
theorem spawns {b2 : Nat} {c : Cx} {b : Frame} {cs : List Frame} {k : List Item} {ob : Obj} (hP : c.P = Tryz.prog) (hn : c.n = 41) (hk : b.kind ≠ .early) (h : Main0 W Fc Lf o how b3 b5 b6 b7 ad off acc)
    (n : Nat) (hend : TC (.folM (ph W Fc Lf o acc.length (acV how off acc)) Goal (.sp acc.length)) c b cs n k (fr0 b2 b3 b5 b6 b7) [(o, ob)]) :
    ∀ (m i : Nat), i + m = acc.length → TC (.folM (ph W Fc Lf o acc.length (acV how off acc)) Goal (.sp i)) c b cs (n + 10 + 40 * m) (.code bodyA :: .inLoop bodyA :: .inBlock 0 :: k) ((22, int i) :: (20, .slice (some ad) acc.length cap) :: (21, int acc.length) :: fr0 b2 b3 b5 b6 b7) [(o, ob)] := by
  obtain ⟨P, cn, cb, D, rd⟩ := c; simp only at hP hn; subst hP hn; have hk' : b.kind ≠ .early := hk; have hl := h.lenA; intro m
  induction m with
  | zero =>
    intro i hi; obtain rfl : i = acc.length := by omega
    refine aE (m := n + 7) (by omega) ?_; refine J2 (C9 ?_); refine jj9 rfl rfl hk' rfl rfl ?_; refine N7 (J2 ?_); refine wQ false (by show some (Value.bool (decide ((acc.length : Int) < (acc.length : Int)))) = _; rw [decide_eq_false (by omega)]) ?_; refine pq6 k rfl ?_; exact A8 (by repeat constructor) hend
  | succ m ih =>
    intro i hi; have hi' : i < acc.length := by omega
    have hx := h.each (acc.getD i default) (by rw [List.getD_eq_getElem?_getD, List.getElem?_eq_getElem hi']; exact List.getElem_mem hi'); rw [show n + 10 + 40 * (m + 1) = (n + 10 + 40 * m) + 40 by omega]; refine J2 (C9 ?_); refine jj9 rfl rfl hk' rfl rfl ?_; refine N7 (J2 ?_); refine wQ true (by show some (Value.bool (decide ((i : Int) < (acc.length : Int)))) = _; rw [decide_eq_true (by omega)]) ?_; refine jq1 (J2 (kG (J2 (C9 ?_)))); refine rV rfl rfl hk' rfl ?_; refine wP i (ad.add (i * 2)) rfl rfl hk' Tryz.underlying151 T.A9 rfl rfl rfl hi' rfl ?_; refine aD (vs := [int (acc.getD i default).1, ruleV (acc.getD i default).2]) rfl rfl hk' T.G5 T.A9 rfl rfl (uq5 h.row (by simp) h.nA.1 h.nA.2.1 h.nA.2.2 fun j u hu => t9 (α := Ac) hi' j u hu) ?_; refine cq5 rfl rfl hk' T.kx6 (fun _ _ => by kernel_rfl) fun g8 hg8 hn8 => ?_; refine cq5 rfl rfl hk' T.bz1 (fun _ _ => by kernel_rfl) fun g9 hg9 hn9 => ?_; have n8 : g8 ≠ o := fun e => hn8 ⟨_, List.mem_cons_self .., e.symm⟩; have n98 : g9 ≠ g8 := fun e => hn9 ⟨_, List.mem_cons_self .., e.symm⟩; have n9 : g9 ≠ o := fun e => hn9 ⟨_, List.mem_cons_of_mem _ (List.mem_cons_self ..), e.symm⟩; refine lj4 (hp' := [(g9, Obj.cells #[.int .i64 0, .nilFunc] 141 (0, 0)), (o, ob)]) rfl hk' rfl rfl (List.Perm.swap _ _ _) (by rintro ⟨q, hq, e⟩; simp at hq; rcases hq with rfl | rfl <;> simp at e <;> omega) T.w9 rfl rfl ?_; refine hz9 (hp' := [(g8, Obj.cells #[int i] 3 (0, 0)), (o, ob)]) rfl hk' rfl rfl (List.Perm.swap _ _ _) (by rintro ⟨q, hq, e⟩; simp at hq; rcases hq with rfl | rfl <;> simp at e <;> omega) T.A9 rfl (by show ([int (acc.getD i default).1, ruleV (acc.getD i default).2]).all _ = true; rw [List.all_eq_true]; intro u hu; exact El.one (acc.getD i default) u hu) ?_; refine N7 (C9 ?_); refine aq8 rfl rfl hk' rfl rfl ?_
    refine at_go (f := 81) (cap := [ptrB b6, ptrB g8, ptrB b3, ptrB g9, ptrB b7]) (h1 := [(g9, Obj.cells #[int (acc.getD i default).1, ruleV (acc.getD i default).2] 141 (0, 0)), (g8, Obj.cells #[int i] 3 (0, 0))]) (h2 := [(o, ob)]) rfl hk' rfl (by intro q hq; simp at hq; rcases hq with rfl | rfl <;> simp) (by intro q hq; simp at hq; subst hq; simp)
      (by rintro k ⟨q, hq, e⟩ ⟨q', hq', e'⟩; simp at hq hq'; subst hq'; rcases hq with rfl | rfl <;> simp at e e' <;> omega) (by intro q hq; simp at hq; rcases hq with rfl | rfl; exact hg9; exact hg8)
      (.inl ⟨hi', fol_w hx.1 h.offB hx.2 h.hw h.hB rfl, ?_⟩)
    refine N7 (uE (C9 ?_)); refine nj5 ((i + 1 : Nat) : Int) rfl rfl hk' rfl rfl (by omega) r5 (rV rfl rfl hk' rfl ?_); refine N7 (ij0 ?_); exact aE (m := n + 10 + 40 * m) (by omega) (A8 (by repeat constructor) (ih (i + 1) (by omega)))
end
end Go.Proofs.YtcdopfjiadifhaaGreatDoor
end
section
namespace Go.Proofs.YtcdopfjiadifhaaGreatDoor
open Go Go.W Go.Conc
set_option maxRecDepth 20000
attribute [local irreducible] HL HC HQ HB Row Rows2 Blk Facts
set_option maxRecDepth 20000
section
variable {W : World} {Fc Lf o how b3 b5 b6 b7 : Nat} {ad : Addr} {off : Int} {acc : List Ac} {cap : Nat} {Goal : Goroutine → World → Prop}
def acOut (how : Nat) (off : Int) (acc : List Ac) : List Int := (List.range acc.length).map fun j => acN how off acc j
theorem gets {b2 : Nat} {c : Cx} {b : Frame} {cs : List Frame} {k : List Item} (hP : c.P = Tryz.prog) (hn : c.n = 41) (hD : c.D = []) (hk : b.kind ≠ .early) (h : Main0 W Fc Lf o how b3 b5 b6 b7 ad off acc)
    (hend : ∀ w, Sur (ph W Fc Lf o acc.length (acV how off acc)) w → w.heap[o]? = some (.cells (rows (acOut how off acc)).toArray 3 (0, 0)) → ∀ a, Ok c a (fr0 b2 b3 b5 b6 b7) → Co Tryz.prog (G (b.at a k) cs) w Goal) :
    ∀ (m : Nat) (R : List Nat) (us : Array Value), R.length = m → R.Nodup → (∀ j ∈ R, j < acc.length) → us.size = acc.length → (∀ j, j < acc.length → j ∉ R → us[j]? = some (int (acN how off acc j))) →
      TC (.folM (ph W Fc Lf o acc.length (acV how off acc)) Goal (.ga R)) c b cs (40 * m + 20) (.code bodyB :: .inLoop bodyB :: .inBlock 2 :: k) ((30, .chan (some Fc)) :: fr0 b2 b3 b5 b6 b7) [(o, .cells us 3 (0, 0))] := by
  obtain ⟨P, cn, cb, D, rd⟩ := c; simp only at hP hn hD; subst hP hn hD; have hk' : b.kind ≠ .early := hk; have hl := h.lenA; intro m
  induction m with
  | zero =>
    intro R us hR hnd hlt hsz hus; obtain rfl : R = [] := List.eq_nil_of_length_eq_zero hR; refine J2 (C9 ?_); refine uq8 rfl rfl hk' Tryz.underlying149 (fun _ => by kernel_rfl) rfl (fun j hj => by cases hj) fun _ w he hh a ha => ?_; refine co_op (K := fun a' w' => a' = a.put (some 32) (.bool false) ∧ ∃ d, w' = w.at d) (Q := fun _ _ _ => False) hk' rfl rfl (fun d => ⟨bT rfl _, ?_⟩) (fun a' w' hK => ?_) (fun _ _ h => h.elim)
    · have h1 := ha.ev (x := .tmp 31) rfl
      have : (execOp a.eval (⟨some 32, .extract (.tmp 31) 1, 4, "bold.go:186", #[⟨0, .data⟩], none⟩ : Oper)).run Tryz.prog (w.at d) = .ok (.value (.bool false)) (w.at d) := by simp [execOp, h1, Instr.extract]
      show uponB Tryz.prog (⟨some 32, .extract (.tmp 31) 1, 4, "bold.go:186", #[⟨0, .data⟩], none⟩ : Oper) a _ _ ((execOp a.eval (⟨some 32, .extract (.tmp 31) 1, 4, "bold.go:186", #[⟨0, .data⟩], none⟩ : Oper)).run Tryz.prog (w.at d))
      rw [this]; exact ⟨rfl, d, rfl⟩
    obtain ⟨rfl, d, rfl⟩ := hK; have ha' := ha.put (d := 32) (by show 32 < 41; decide) (.bool false); refine H2 rfl (fun _ => stepG_region_end) (H2 rfl (fun _ => stepG_seq) (H2 rfl (fun _ => stepG_cond (t := false) (ha'.ev rfl)) (H2 rfl (fun _ => stepG_exit (k' := k) rfl) ?_))); refine hend (w.at d) (he.at d) ?_ _ (ha'.sub (by repeat constructor)); have h1 := hh _ (List.mem_cons_self ..)
    have e : us = (rows (acOut how off acc)).toArray := by
      apply Array.ext_getElem?
      intro j
      have hrl : rows (acOut how off acc) = (acOut how off acc).map int := by
        unfold rows
        induction acOut how off acc with
        | nil => rfl
        | cons x l ih => rw [List.flatMap_cons, ih]; rfl
      have e2 : (rows (acOut how off acc)).toArray[j]? = ((acOut how off acc).map int)[j]? := by rw [hrl]; simp
      rw [e2, List.getElem?_map]
      by_cases hj : j < acc.length
      · rw [hus j hj (by simp)]
        unfold acOut; rw [List.getElem?_map, List.getElem?_range hj]
        rfl
      rw [Array.getElem?_eq_none (by omega), List.getElem?_eq_none (by unfold acOut; simp; omega)]
      rfl
    rw [← e]; exact h1
  | succ m ih =>
    intro R us hR hnd hlt hsz hus; refine J2 (C9 ?_); refine aE (m := 40 * m + 20 + 30) (by omega) ?_; refine uq8 rfl rfl hk' Tryz.underlying149 (fun _ => by kernel_rfl) rfl (fun j hj => ?_) (fun e => by subst e; cases hR); have hjl := hlt j hj; refine cq3 rfl rfl hk' rfl rfl ?_; refine N7 (J2 (wQ true rfl (jq1 (kG (J2 (C9 ?_)))))); refine cq3 (v := acV how off acc j) rfl rfl hk' rfl rfl ?_; refine cq5 rfl rfl hk' T.aq5 (fun _ _ => by kernel_rfl) fun g hg hng => ?_; have ngo : ¬ Has [(o, Obj.cells us 3 (0, 0))] g := hng; refine hz9 (us := #[int j, int (acN how off acc j)]) (hp' := [(o, Obj.cells us 3 (0, 0))]) rfl hk' rfl rfl p6 ngo T.zC rfl rfl ?_; refine N7 (C9 ?_); refine B3 (v := .slice (c8 o) acc.length acc.length) rfl rfl hk' T.i7 rfl (E0 h.h5 h.n5.1 h.n5.2.1 h.n5.2.2 rfl) ?_; refine W5 ⟨g, 0, none⟩ rfl rfl hk' rfl T.vD (fun _ _ _ => by kernel_rfl) rfl ?_; refine B3 (v := int j) rfl rfl hk' T.b9 rfl (V4 (vs := #[int j, int (acN how off acc j)]) (List.mem_cons_self ..) rfl) ?_; refine W5 ⟨g, 1, none⟩ rfl rfl hk' rfl T.vC (fun _ _ _ => by kernel_rfl) rfl ?_; refine B3 (v := int (acN how off acc j)) rfl rfl hk' T.b9 rfl (V4 (vs := #[int j, int (acN how off acc j)]) (List.mem_cons_self ..) rfl) ?_; refine wP j ⟨o, j, none⟩ rfl rfl hk' Tryz.underlying24 T.w9 rfl rfl rfl hjl (by rw [X8]; simp) ?_
    have nog : ¬ Has [(g, Obj.cells #[int j, int (acN how off acc j)] 154 (0, 0))] o := by
      rintro ⟨q, hq, e⟩
      simp at hq
      subst hq; exact ngo ⟨_, List.mem_cons_self .., e.symm⟩
    refine lj4 (u := us[j]'(by omega)) (hp' := [(g, Obj.cells #[int j, int (acN how off acc j)] 154 (0, 0))]) rfl hk' rfl rfl (List.Perm.swap _ _ _) nog T.w9 (Array.getElem?_eq_getElem (by omega)) rfl ?_; refine N7 (uE ?_); refine nj8 (hp' := [(o, Obj.cells (us.setIfInBounds j (int (acN how off acc j))) 3 (0, 0))]) (by intro q hq; simp at hq; subst hq; simp) ?_; refine aE (m := 40 * m + 20) (by omega) (A8 (by repeat constructor) (ih (R.erase j) _ ?_ (hnd.erase j) (fun i hi => hlt i (List.mem_of_mem_erase hi)) (by simp [hsz]) fun i hi hni => ?_))
    · rw [List.length_erase_of_mem hj]; omega
    by_cases hij : j = i
    · subst hij
      rw [Array.getElem?_setIfInBounds_self_of_lt (by omega)]
    rw [Array.getElem?_setIfInBounds_ne hij]; exact hus i hi fun hm => hni ((hnd.mem_erase_iff).2 ⟨Ne.symm hij, hm⟩)
end
end Go.Proofs.YtcdopfjiadifhaaGreatDoor
end
section
namespace Go.W
open Go Go.RowKit
section
variable {κ : Type} [DecidableEq κ]
def updF (f : κ → Nat) (k : κ) (n : Nat) : κ → Nat := fun x => if x = k then n else f x
structure MapIs (l : List (Ment κ)) (clk : Nat) (f : κ → Nat) : Prop where
  bs : (l.map (·.2.2)).Pairwise (· < ·)
  lt : ∀ p ∈ l, p.2.2 < clk
  nd : (l.map (·.1)).Nodup
  vl : ∀ p ∈ l, p.2.1 = int (f p.1) ∧ 0 < f p.1
  al : ∀ k, 0 < f k → k ∈ l.map (·.1)
theorem MapIs.nil : MapIs ([] : List (Ment κ)) 0 (fun _ => 0) := ⟨.nil, by simp, by simp, by simp, fun k h => by omega⟩
theorem zS {l : List (Ment κ)} {k : κ} : getM l k = none ↔ k ∉ l.map (·.1) := by
  induction l with
  | nil => simp [getM, findM]
  | cons p l ih =>
    rw [rx1]
    by_cases h : p.1 = k
    · rw [if_pos h]; simp [h]
    rw [if_neg h, ih, List.map_cons, List.mem_cons]; simp only [not_or]; exact ⟨fun e => ⟨fun e2 => h e2.symm, e⟩, fun e => e.2⟩
theorem MapIs.get {l : List (Ment κ)} {clk : Nat} {f : κ → Nat} (h : MapIs l clk f) (k : κ) : getM l k = if f k = 0 then none else some (int (f k)) := by
  split
  · rename_i e
    refine zS.2 fun hm => ?_; obtain ⟨p, hp, rfl⟩ := List.mem_map.1 hm; have := (h.vl p hp).2
    omega
  rename_i e
  cases hg : getM l k with
  | none => exact absurd (h.al k (by omega)) (zS.1 hg)
  | some v =>
    obtain ⟨p, hp, e1, e2⟩ := tz3 hg; rw [← e2, (h.vl p hp).1, e1]
theorem zM (p : Ment κ) (l : List (Ment κ)) (k : κ) (v : Value) (clk : Nat) : putM (p :: l) k v clk = if p.1 = k then (k, v, p.2.2) :: l else p :: putM l k v clk := by
  by_cases h : p.1 = k
  · simp [putM, findM, h]
  simp only [putM, findM, h, if_false]; rw [vB]
  cases hf : findM k l 0 with
  | none => simp
  | some q => simp
theorem dx2 {l : List (Ment κ)} {k : κ} : findM k l 0 = none ↔ k ∉ l.map (·.1) := by
  rw [← zS]; unfold getM
  cases findM k l 0 <;> simp
theorem qj8 (l : List (Ment κ)) (k : κ) (clk : Nat) : clkM l k clk = if k ∈ l.map (·.1) then clk else clk + 1 := by
  unfold clkM
  cases hf : findM k l 0 with
  | none => rw [if_neg (dx2.1 hf)]; rfl
  | some q =>
    have h1 : k ∈ l.map (·.1) := Classical.byContradiction fun h => by rw [dx2.2 h] at hf; cases hf
    rw [if_pos h1]
    rfl
theorem zL (l : List (Ment κ)) (k : κ) (v : Value) (clk : Nat) : (putM l k v clk).map (·.1) = if k ∈ l.map (·.1) then l.map (·.1) else l.map (·.1) ++ [k] := by
  induction l with
  | nil => simp [putM, findM]
  | cons p l ih =>
    rw [zM]
    by_cases h : p.1 = k
    · rw [if_pos h, if_pos (by simp [h])]
      simp [h]
    rw [if_neg h, List.map_cons, ih, List.map_cons]
    by_cases h2 : k ∈ l.map (·.1)
    · rw [if_pos h2, if_pos (List.mem_cons_of_mem _ h2)]
    rw [if_neg h2, if_neg (by rw [List.mem_cons, not_or]; exact ⟨fun e => h e.symm, h2⟩)]
    rfl
theorem uM (l : List (Ment κ)) (k : κ) (v : Value) (clk : Nat) : (putM l k v clk).map (·.2.2) = if k ∈ l.map (·.1) then l.map (·.2.2) else l.map (·.2.2) ++ [clk] := by
  induction l with
  | nil => simp [putM, findM]
  | cons p l ih =>
    rw [zM]
    by_cases h : p.1 = k
    · rw [if_pos h, if_pos (by simp [h])]
      simp
    rw [if_neg h, List.map_cons, ih, List.map_cons, List.map_cons]
    by_cases h2 : k ∈ l.map (·.1)
    · rw [if_pos h2, if_pos (List.mem_cons_of_mem _ h2)]
    rw [if_neg h2, if_neg (by rw [List.mem_cons, not_or]; exact ⟨fun e => h e.symm, h2⟩)]
    rfl
theorem putM_in {l : List (Ment κ)} {k : κ} {v : Value} {clk : Nat} (hn : (l.map (·.1)).Nodup) {p : Ment κ} (h : p ∈ putM l k v clk) : (p.1 = k ∧ p.2.1 = v) ∨ (p ∈ l ∧ p.1 ≠ k) := by
  induction l with
  | nil => simp [putM, findM] at h; subst h; exact .inl ⟨rfl, rfl⟩
  | cons q l ih =>
    rw [zM] at h; rw [List.map_cons, List.nodup_cons] at hn
    by_cases e : q.1 = k
    · rw [if_pos e] at h
      rcases List.mem_cons.1 h with rfl | h
      · exact .inl ⟨rfl, rfl⟩
      refine .inr ⟨List.mem_cons_of_mem _ h, fun e2 => hn.1 ?_⟩; rw [e, ← e2]; exact List.mem_map_of_mem h
    rw [if_neg e] at h
    rcases List.mem_cons.1 h with rfl | h
    · exact .inr ⟨List.mem_cons_self, e⟩
    exact (ih hn.2 h).imp id fun h => ⟨List.mem_cons_of_mem _ h.1, h.2⟩
theorem MapIs.put {l : List (Ment κ)} {clk : Nat} {f : κ → Nat} (h : MapIs l clk f) (k : κ) {n : Nat} (hn : 0 < n) : MapIs (putM l k (int n) clk) (clkM l k clk) (updF f k n) where
  bs := by
    rw [uM]
    split
    · exact h.bs
    refine List.pairwise_append.2 ⟨h.bs, by simp, fun a ha b hb => ?_⟩; obtain ⟨p, hp, rfl⟩ := List.mem_map.1 ha; rw [List.mem_singleton.1 hb]; exact h.lt p hp
  lt p hp := by
    have h1 : p.2.2 ∈ (putM l k (int n) clk).map (·.2.2) := List.mem_map_of_mem hp; rw [uM] at h1; rw [qj8]
    split at h1
    · rename_i e
      rw [if_pos e]; obtain ⟨q, hq, e2⟩ := List.mem_map.1 h1; rw [← e2]; exact h.lt q hq
    rename_i e
    rw [if_neg e]
    rcases List.mem_append.1 h1 with h1 | h1
    · obtain ⟨q, hq, e2⟩ := List.mem_map.1 h1
      have := h.lt q hq
      omega
    rw [List.mem_singleton.1 h1]; omega
  nd := by
    rw [zL]
    split
    · exact h.nd
    rename_i e
    refine List.nodup_append.2 ⟨h.nd, by simp, fun a ha b hb e2 => e ?_⟩; rw [← List.mem_singleton.1 hb, ← e2]; exact ha
  vl p hp := by
    unfold updF
    rcases putM_in h.nd hp with ⟨e1, e2⟩ | ⟨e1, e2⟩
    · rw [if_pos e1]; exact ⟨e2, hn⟩
    rw [if_neg e2]; exact h.vl p e1
  al x hx := by
    rw [zL]; unfold updF at hx
    by_cases e : x = k
    · subst e
      split
      · assumption
      simp
    rw [if_neg e] at hx; have := h.al x hx
    split
    · exact this
    exact List.mem_append_left _ this
def delM (l : List (Ment κ)) (k : κ) : List (Ment κ) := match findM k l 0 with | some (i, _) => l.eraseIdx i | none => l
omit [DecidableEq κ] in
theorem MapIs.congr {l : List (Ment κ)} {clk : Nat} {f g : κ → Nat} (h : MapIs l clk f) (e : ∀ k, f k = g k) : MapIs l clk g := by
  have : f = g := funext e; exact this ▸ h
theorem bO {α : Type} [DecidableEq α] : ∀ {l K : List α}, l.Nodup → (∀ x ∈ l, x ∈ K) → l.length ≤ K.length
  | [], K, _, _ => Nat.zero_le _
  | x :: l, K, hn, h => by
    rw [List.nodup_cons] at hn; have h1 := h x List.mem_cons_self; have h2 := bO (K := K.erase x) hn.2 fun y hy => (List.mem_erase_of_ne (fun e : y = x => hn.1 (by rw [← e]; exact hy))).2 (h y (List.mem_cons_of_mem _ hy)); rw [List.length_erase_of_mem h1] at h2; have := List.length_pos_of_mem h1; rw [List.length_cons]
    omega
theorem MapIs.len {l : List (Ment κ)} {clk : Nat} {f : κ → Nat} (h : MapIs l clk f) {K : List κ} (hK : ∀ k, 0 < f k → k ∈ K) : l.length ≤ K.length := by
  have h2 := bO (K := K) h.nd fun k hk => by
    obtain ⟨p, hp, rfl⟩ := List.mem_map.1 hk; exact hK _ (h.vl p hp).2
  rwa [List.length_map] at h2
end
structure Vis {κ : Type} (l vis : List (Ment κ)) : Prop where
  sub : ∀ p ∈ vis, p ∈ l
  nd : (vis.map (·.2.2)).Nodup
theorem Vis.nil {κ : Type} (l : List (Ment κ)) : Vis l [] := ⟨by simp, by simp⟩
theorem Vis.snoc {κ : Type} {l vis : List (Ment κ)} (h : Vis l vis) {p : Ment κ} (hp : p ∈ l) (hn : p.2.2 ∉ vis.map (·.2.2)) : Vis l (vis ++ [p]) := by
  refine ⟨fun q hq => ?_, ?_⟩
  · rcases List.mem_append.1 hq with hq | hq
    · exact h.sub q hq
    rw [List.mem_singleton.1 hq]; exact hp
  rw [List.map_append]; refine List.nodup_append.2 ⟨h.nd, by simp, fun a ha b hb e => hn ?_⟩; have h1 : b = p.2.2 := by simpa using hb
  rw [← h1, ← e]; exact ha
theorem Vis.len {κ : Type} {l vis : List (Ment κ)} (h : Vis l vis) : vis.length ≤ l.length := by
  have h2 := bO (K := l.map (·.2.2)) h.nd fun b hb => by
    obtain ⟨p, hp, rfl⟩ := List.mem_map.1 hb; exact List.mem_map_of_mem (h.sub p hp)
  rwa [List.length_map, List.length_map] at h2
theorem Vis.lt {κ : Type} {l vis : List (Ment κ)} (h : Vis l vis) {p : Ment κ} (hp : p ∈ l) (hn : p.2.2 ∉ vis.map (·.2.2)) : vis.length < l.length := by
  have := (h.snoc hp hn).len
  simp at this
  omega
theorem MapIs.born {κ : Type} {l : List (Ment κ)} (h : (l.map (·.2.2)).Pairwise (· < ·)) {p q : Ment κ} (hp : p ∈ l) (hq : q ∈ l) (e : p.2.2 = q.2.2) : p = q := by
  induction l with
  | nil => cases hp
  | cons x l ih =>
    rw [List.map_cons, List.pairwise_cons] at h
    rcases List.mem_cons.1 hp with h1 | h1 <;> rcases List.mem_cons.1 hq with h2 | h2
    · rw [h1, h2]
    · have := h.1 _ (List.mem_map_of_mem h2); rw [h1] at e; omega
    · have := h.1 _ (List.mem_map_of_mem h1); rw [h2] at e; omega
    exact ih h.2 h1 h2
theorem MapIs.key {κ : Type} {l : List (Ment κ)} (h : (l.map (·.1)).Nodup) {p q : Ment κ} (hp : p ∈ l) (hq : q ∈ l) (e : p.1 = q.1) : p = q := by
  induction l with
  | nil => cases hp
  | cons x l ih =>
    rw [List.map_cons, List.nodup_cons] at h
    rcases List.mem_cons.1 hp with h1 | h1 <;> rcases List.mem_cons.1 hq with h2 | h2
    · rw [h1, h2]
    · exact absurd (by rw [← h1, e]; exact List.mem_map_of_mem h2) h.1
    · exact absurd (by rw [← h2, ← e]; exact List.mem_map_of_mem h1) h.1
    exact ih h.2 h1 h2
section
variable {κ : Type} [DecidableEq κ] {enc : κ → Value} {kt e : TypeId}
variable {c : Cx} {Q : Exit → Act → World → Prop} {fr : Fr} {hp : Hp} {L : List Fact} {ops : Array Oper} {rest : List Oper}
variable {d : Tmp} {ty : TypeId} {pos : String} {af : Array Edge}
/-! ### A map that is ranged over -/
def iterM (g clk : Nat) (vis : List (Ment κ)) : Obj := .mapIter (some g) clk (vis.map (·.2.2)).toArray clk
def nextMV (enc : κ → Value) : Option (Ment κ) → Value
  | none => .tuple #[.bool false]
  | some p => .tuple #[.bool true, enc p.1, p.2.1]
omit [DecidableEq κ] in
theorem sz6 {t : TypeId} {x : Operand} {g : Nat} {l : List (Ment κ)} {clk : Nat} (hd : Nat.blt d c.n = true) (ht : c.P.underlying t = some (.map kt e)) (hx : ev fr x = some (.map (some g))) (hm : MapAt c.b hp L g (mapO enc l clk)) (k : ∀ gi, HL c ops Q rest ((d, .pointer (c8 gi)) :: fr) ((gi, iterM g clk ([] : List (Ment κ))) :: hp) L) : HL c ops Q (⟨some d, .range t x, ty, pos, af, none⟩ :: rest) fr hp L :=
  mQ (iterM g clk ([] : List (Ment κ))) (fun g => .pointer (c8 g)) rfl rfl hd (fun a w ha hw => by
    have hg : w.heap[g]? = some (.map (l.map (entOf enc)).toArray clk) := hm w hw; simp only [execOp, ha.ev hx, Instr.range, Sem.run_bind, run_underlying ht, Result.andThen_ok, MapKept.run_getObj_map hg]
    simp [run_newObj_alloc, iterM]) k
theorem lq5 (P : Program) (n : Nat) (w : World) : ∃ j w', (choose (.mapNext n)).run P w = .ok j w' ∧ (0 < n → j < n) ∧ (n ≤ 1 → j = 0) ∧ Ext [] w w' ∧ w'.heap = w.heap := by
  by_cases h : n ≤ 1
  · refine ⟨0, w, ?_, fun h => h, fun _ => rfl, Ext.refl _ _, rfl⟩
    have hf : (Question.mapNext n).forced = true := decide_eq_true h; show Sem.run P (Sem.choose (.mapNext n) Sem.pure) w = _; simp only [Sem.run, hf, if_true]
  refine ⟨(w.tape w.drawn (.mapNext n)) % n, w.drew, ?_, ?_, fun h2 => absurd h2 h, dx5 w, rfl⟩
  · have hf : (Question.mapNext n).forced = false := decide_eq_false h
    show Sem.run P (Sem.choose (.mapNext n) Sem.pure) w = _; simp only [Sem.run, hf, Bool.false_eq_true, if_false]
    rfl
  exact fun h0 => Nat.mod_lt _ h0
omit [DecidableEq κ] in
theorem ij6 {P : Program} {w : World} {r : Nat} {m : Option Nat} {a z : Nat} {s : Array Nat} (hb : w.heap[r]? = some (.mapIter m a s z)) : (getObj r).run P w = .ok (.mapIter m a s z) w := by simp [getObj, Sem.run, hb]
omit [DecidableEq κ] in
theorem qx9 {P : Program} {w : World} {r : Nat} {m : Option Nat} {a z : Nat} {s : Array Nat} (o : Obj) (hb : w.heap[r]? = some (.mapIter m a s z)) : (setObj r o).run P w = .ok () { w with heap := w.heap.setIfInBounds r o } := by simp [setObj, Sem.run, hb]
def restM (l vis : List (Ment κ)) : List (Ment κ) := l.filter fun p => !(vis.map (·.2.2)).contains p.2.2
omit [DecidableEq κ] in
theorem r_nextM {x : Operand} {gi g : Nat} {l vis : List (Ment κ)} {clk : Nat} {hp' : Hp} (hd : Nat.blt d c.n = true) (hx : ev fr x = some (.pointer (c8 gi))) (hm : MapAt c.b hp L g (mapO enc l clk)) (hlt : ∀ p ∈ l, p.2.2 < clk) (hpp : hp.Perm ((gi, iterM g clk vis) :: hp'))
    (kk : ∀ x : Option (Ment κ), (x = none → ∀ p ∈ l, p.2.2 ∈ vis.map (·.2.2)) → (∀ p, x = some p → p ∈ l ∧ p.2.2 ∉ vis.map (·.2.2)) → HL c ops Q rest ((d, nextMV enc x) :: fr) ((gi, iterM g clk (vis ++ x.toList)) :: hp') L) :
    HL c ops Q (⟨some d, .next x false, ty, pos, af, none⟩ :: rest) fr hp L :=
  mR rfl rfl hd fun a w ha hw => by
    have hw' := hw.perm hpp; have hg : w.heap[g]? = some (.map (l.map (entOf enc)).toArray clk) := hm w hw; have hi : w.heap[gi]? = some (.mapIter (some g) clk (vis.map (·.2.2)).toArray clk) := hw'.own (gi, iterM g clk vis) (by simp); obtain ⟨j, w1, hch, hj, hj0, hext, hheap⟩ := lq5 c.P ((if (restM l vis).isEmpty then 1 else 0) + (restM l vis).length) w; have hi1 : w1.heap[gi]? = some (.mapIter (some g) clk (vis.map (·.2.2)).toArray clk) := by rw [hheap]; exact hi
    have hcond : (!(vis.map (·.2.2)).toArray.isEmpty && !(l.map (entOf enc)).toArray.isEmpty && (l.map (entOf enc)).toArray.all (fun e => decide (e.born ≥ clk))) = false := by
      cases l with
      | nil => simp
      | cons p l =>
        have := hlt p List.mem_cons_self
        simp [entOf]
        intro _ h
        omega
    have hleft : (l.map (entOf enc)).toArray.filter (fun e => !(vis.map (·.2.2)).toArray.contains e.born) = ((restM l vis).map (entOf enc)).toArray := by
      simp only [List.filter_toArray, List.filter_map, restM]
      congr 2
      apply List.filter_congr
      intro p _; show (!(vis.map (·.2.2)).toArray.contains p.2.2) = !(vis.map (·.2.2)).contains p.2.2; rw [List.contains_toArray]
    have hold : ((restM l vis).map (entOf enc)).toArray.filter (fun e => decide (e.born < clk)) = ((restM l vis).map (entOf enc)).toArray := by
      simp only [List.filter_toArray]
      congr 1
      rw [List.filter_eq_self]; intro e he; obtain ⟨p, hp, rfl⟩ := List.mem_map.1 he; exact decide_eq_true (show p.2.2 < clk from hlt p (List.mem_filter.1 hp).1)
    have hnew : ((restM l vis).map (entOf enc)).toArray.filter (fun e => decide (e.born ≥ clk)) = #[] := by
      simp only [List.filter_toArray]
      congr 1
      rw [List.filter_eq_nil_iff]; intro e he; obtain ⟨p, hp, rfl⟩ := List.mem_map.1 he; have := hlt p (List.mem_filter.1 hp).1
      simp [entOf]
      omega
    cases hr : restM l vis with
    | nil =>
      have hall : ∀ p ∈ l, p.2.2 ∈ vis.map (·.2.2) := by
        intro p hp; have := (List.filter_eq_nil_iff.1 hr) p hp
        simpa using this
      rw [hr] at hch hj0 hleft hold hnew; have hj0' := hj0 (by simp); subst hj0'; refine ⟨nextMV enc none, w1, hp, L, ?_, hw.quiet hext, ?_⟩
      · simp only [execOp, ha.ev hx, Instr.next, Sem.run_bind, ij6 hi, Result.andThen_ok, MapKept.run_getObj_map hg, hcond, Bool.false_eq_true, if_false, Sem.run_pure, hleft, hold, hnew]
        simp at hch
        simp [hch, nextMV]
      have k0 := kk none (fun _ => hall) (fun p h => by cases h); simp only [Option.toList_none, List.append_nil] at k0; exact fun a w ha hw => k0 a w ha (hw.perm hpp)
    | cons p0 r0 =>
      have hjl : j < (restM l vis).length := by
        have := hj (by rw [hr]; simp); rw [hr] at this ⊢
        simpa using this
      have hmem := List.getElem_mem hjl; have hin := List.mem_filter.1 hmem
      have hni : ((restM l vis)[j]).2.2 ∉ vis.map (·.2.2) := by
        have := hin.2
        simpa using this
      have hne : ((restM l vis).map (entOf enc)).toArray.isEmpty = false := by rw [hr]; simp
      rw [show (restM l vis).isEmpty = false by rw [hr]; rfl] at hch; simp only [Bool.false_eq_true, if_false, Nat.zero_add] at hch; have hcs : ((((restM l vis).map (entOf enc)).toArray ++ #[]).map some).size = (restM l vis).length := by simp
      have hce : ((((restM l vis).map (entOf enc)).toArray ++ #[]).map some)[j]? = some (some (entOf enc (restM l vis)[j])) := by simp [hjl]
      refine ⟨nextMV enc (some (restM l vis)[j]), { w1 with heap := w1.heap.setIfInBounds gi (iterM g clk (vis ++ [(restM l vis)[j]])) }, (gi, iterM g clk (vis ++ [(restM l vis)[j]])) :: hp', L, ?_, ((hw'.quiet hext).write (o' := iterM g clk (vis ++ [(restM l vis)[j]])) ⟨rfl, rfl, rfl, by simp, fun q _ hn => by simp only [List.mem_singleton] at hn; simp [Array.getElem?_setIfInBounds_ne (Ne.symm hn)], Nat.le_refl _⟩ ?_), kk (some (restM l vis)[j]) (fun h => by cases h) (fun p h => by cases h; exact ⟨hin.1, hni⟩)⟩
      · simp only [execOp, ha.ev hx, Instr.next, Sem.run_bind, ij6 hi, Result.andThen_ok, MapKept.run_getObj_map hg, hcond, Bool.false_eq_true, if_false, Sem.run_pure, hleft, hold, hnew, hne, Array.empty_append, hcs, hch, hce, qx9 _ hi1]
        simp [entOf, nextMV, iterM]
      have := E1 hi1
      simp [this]
omit [DecidableEq κ] in
theorem r_mext0 {x : Operand} {o : Option (Ment κ)} (hd : Nat.blt d c.n = true) (hx : ev fr x = some (nextMV enc o)) (k : HL c ops Q rest ((d, .bool o.isSome) :: fr) hp L) : HL c ops Q (⟨some d, .extract x 0, ty, pos, af, none⟩ :: rest) fr hp L := by
  cases o with
  | none => exact p8 hd hx rfl k
  | some p => exact p8 hd hx rfl k
end
end Go.W
end
