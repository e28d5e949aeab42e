/- Texts of this claim, one behind another. -/

import Derived.Test.YtdlbbfcfahahdaaGreatBAe
import Derived.Test.YtdlbbfcfahahdaaGreatBAk
import Derived.Test.YtdlbbfcfahahdaaGreatBAd
set_option linter.unusedVariables false
set_option linter.unusedSimpArgs false
section
namespace Go.Proofs.YtdlbbfcfahahdaaGreat
open Go Go.W Go.Conc
set_option maxRecDepth 20000
attribute [local irreducible] HL HC HQ HB Row Rows2 Blk Facts
set_option maxRecDepth 20000
noncomputable abbrev ph (W : World) (Fc Lf o N : Nat) (v : Nat → Value) : Ph := ⟨Tryz.prog, W, Fc, Lf, o, N, v, .agg #[int 0, int 0], 300, 60 * N + 60⟩
def offN (off s : Int) : Int := (s * (100 - off) + 99).tdiv 100
def ruleV : Option Nat → Value
  | none => .func (.func 98) #[] #[]
  | some g => .func (.func 100) #[] #[.pointer (b4 g)]
def billN (off : Int) (r : Option Nat) (s : Int) : Int := if r.isSome then offN off s else s
def RuleAt (W : World) (Fc Lf o : Nat) (off : Int) : Option Nat → Prop
  | none => True
  | some g => g ≠ Fc ∧ g ≠ Lf ∧ g ≠ o ∧ ∃ vs t fz, W.heap[g]? = some (.cells vs t fz) ∧ vs[4]? = some (int off)
variable {W : World} {Fc Lf o N : Nat} {v : Nat → Value} {pr : Pr} {hp : Hq}
theorem ct_128 (s : Int) : CT (.fol (ph W Fc Lf o N v) pr) 98 [int s] hp 40 (int s) := by
  refine nj8 F.dD rfl ⟨W, [], fun _ => False⟩ t4 fun n cf cs hk => ?_; refine G7 (A9 ?_); refine U6 rfl rfl (fun h => by cases h) rfl ?_; refine J1 (G7 (A9 ?_)); refine pR rfl rfl (fun h => by cases h) rfl ?_; refine U6 rfl rfl (fun h => by cases h) rfl ?_; refine J1 ?_; refine hz6 rfl F.dD rfl rfl (fun _ h => h) ?_; exact TX.more _ hk (by omega)
theorem ct_130 (s off : Int) (g : Nat) (hs : 0 ≤ s ∧ s ≤ 1000000) (ho : 0 ≤ off ∧ off ≤ 100) (hr : RuleAt W Fc Lf o off (some g)) : CT (.fol (ph W Fc Lf o N v) pr) 100 [int s, .pointer (b4 g)] hp 40 (int (offN off s)) := by
  obtain ⟨h1, h2, h3, vs, t, fz, h4, h5⟩ := hr; have hb1 : 0 ≤ s * (100 - off) := Int.mul_nonneg hs.1 (by omega); have hb2 : s * (100 - off) ≤ 1000000 * 100 := Int.mul_le_mul hs.2 (by omega) (by omega) (by omega)
  have hb3 : 0 ≤ offN off s ∧ offN off s ≤ 100000099 := by
    unfold offN; exact ⟨Int.tdiv_nonneg (by omega) (by omega), by rw [Int.tdiv_eq_ediv_of_nonneg (by omega)]; omega⟩
  refine nj8 F.dC rfl ⟨W, [], fun _ => False⟩ t4 fun n cf cs hk => ?_; refine G7 (A9 ?_); refine U6 rfl rfl (fun h => by cases h) rfl ?_; refine J1 (G7 (A9 ?_)); refine pR rfl rfl (fun h => by cases h) rfl ?_; refine J0 ⟨g, 0, none⟩ rfl rfl (fun h => by cases h) rfl T.W3 (fun _ _ _ => by kernel_rfl) rfl ?_; refine J0 ⟨g, 4, none⟩ rfl rfl (fun h => by cases h) rfl T.iR (fun _ _ _ => by kernel_rfl) rfl ?_; refine w9 (v := int off) rfl rfl (fun h => by cases h) T.i7 rfl (C7 h4 h1 h2 h3 h5) ?_; refine qq6 (100 - off) rfl rfl (fun h => by cases h) rfl rfl rfl m6 ?_; refine tr_mul (s * (100 - off)) rfl rfl (fun h => by cases h) rfl rfl rfl m6 ?_; refine kz9 (s * (100 - off) + 99) rfl rfl (fun h => by cases h) rfl rfl rfl m6 ?_; refine tr_quo (offN off s) rfl rfl (fun h => by cases h) rfl rfl (by decide) rfl m6 ?_; refine U6 rfl rfl (fun h => by cases h) rfl ?_; refine J1 ?_; refine hz6 rfl F.dC rfl rfl (fun _ h => h) ?_; exact TX.more _ hk (by omega)
theorem ct_rule (s off : Int) (r : Option Nat) (hs : 0 ≤ s ∧ s ≤ 1000000) (ho : 0 ≤ off ∧ off ≤ 100) (hr : RuleAt W Fc Lf o off r) : ∃ f cap, ruleV r = .func (.func f) #[] cap.toArray ∧ Callable Tryz.prog f ∧ CT (.fol (ph W Fc Lf o N v) pr) f ([int s] ++ cap) hp 40 (int (billN off r s)) := by
  cases r with
  | none => exact ⟨98, [], rfl, F.tV, ct_128 s⟩
  | some g => exact ⟨100, [.pointer (b4 g)], rfl, F.tU, ct_130 s off g hs ho hr⟩
/-! Regions whose order is open -/
def regionAt (id : Nat) : Code → Array Oper
  | .region i ops _ => if i = id then ops else #[]
  | .seq x y => regionAt id x ++ regionAt id y
  | .block _ x => regionAt id x
  | .loop x => regionAt id x
  | .cond _ x y => regionAt id x ++ regionAt id y
  | _ => #[]
theorem iz4 (s off : Int) (r : Option Nat) (hs : 0 ≤ s ∧ s ≤ 1000000) (ho : 0 ≤ off ∧ off ≤ 100) (hr : RuleAt W Fc Lf o off r) : CT (.fol (ph W Fc Lf o N v) pr) 58 [.agg #[int s, ruleV r]] hp 60 (int (billN off r s)) := by
  refine nj8 F.Z5 rfl ⟨W, [], fun _ => False⟩ t4 fun n cf cs hk => ?_; refine G7 (A9 ?_); refine qq8 rfl rfl (fun h => by cases h) rfl fun g hg hn => ?_; refine U6 rfl rfl (fun h => by cases h) rfl ?_; refine J1 (G7 (A9 ?_)); refine J0 ⟨g, 1, none⟩ rfl rfl (fun h => by cases h) rfl T.W2 (fun _ _ _ => by kernel_rfl) rfl ?_; refine w9 (v := ruleV r) rfl rfl (fun h => by cases h) T.wM rfl (L9 (vs := #[int s, ruleV r]) (List.mem_cons_self ..) rfl) ?_; refine J0 ⟨g, 0, none⟩ rfl rfl (fun h => by cases h) rfl T.I4 (fun _ _ _ => by kernel_rfl) rfl ?_; refine w9 (v := int s) rfl rfl (fun h => by cases h) T.i7 rfl (L9 (vs := #[int s, ruleV r]) (List.mem_cons_self ..) rfl) ?_; obtain ⟨f, cap, e, hcb, hct⟩ := ct_rule (W := W) (Fc := Fc) (Lf := Lf) (o := o) (N := N) (v := v) (pr := pr) (hp := (g, Obj.cells (Value.agg #[int s, ruleV r]).cells 95 (0, 0)) :: hp) s off r hs ho hr; refine Y9 (m := 40) rfl rfl (fun h => by cases h) hcb (by show some (ruleV r) = _; rw [e]) rfl hct ?_; refine U6 rfl rfl (fun h => by cases h) rfl ?_; refine J1 ?_; refine hz6 rfl F.Z5 rfl rfl (fun _ h => List.mem_cons_of_mem _ h) ?_; exact TX.more _ hk (by omega)
theorem bill_in (off : Int) (r : Option Nat) (s : Int) (hs : 0 ≤ s ∧ s ≤ 1000000) (ho : 0 ≤ off ∧ off ≤ 100) : 0 ≤ billN off r s ∧ billN off r s ≤ 100000099 := by
  have hb1 : 0 ≤ s * (100 - off) := Int.mul_nonneg hs.1 (by omega); have hb2 : s * (100 - off) ≤ 1000000 * 100 := Int.mul_le_mul hs.2 (by omega) (by omega) (by omega); unfold billN offN
  split
  · exact ⟨Int.tdiv_nonneg (by omega) (by omega), by rw [Int.tdiv_eq_ediv_of_nonneg (by omega)]; omega⟩
  omega
theorem sq8 (off : Int) (r : Option Nat) (s : Int) (hs : 0 ≤ s ∧ s ≤ 1000000) (ho : 0 ≤ off ∧ off ≤ 100) : I64 (s - billN off r s) := by
  have := bill_in off r s hs ho; unfold I64; omega
section
variable {n : Nat} {cf : Frame} {cs : List Frame} {k : List Item} {s off : Int} {r : Option Nat} {g : Nat}
noncomputable def o102 : Array Oper := regionAt 1 (Tryz.f57.body.getD .skip)
theorem s102_63 (hs : 0 ≤ s ∧ s ≤ 1000000) (ho : 0 ≤ off ∧ off ≤ 100) (hr : RuleAt W Fc Lf o off r) (hend : TC (.fol (ph W Fc Lf o N v) pr) ⟨Tryz.prog, Tryz.f57.ntmps, ⟨W, [], fun _ => False⟩, [], none⟩ (base 57) (cf :: cs) (n + 10) (.inRegion o102 [] :: k) [(2, int (s - billN off r s)), (7, int (s - billN off r s)), (6, int (billN off r s)), (5, .agg #[int s, ruleV r]), (4, int s), (3, .pointer (b4 g)), (1, .pointer (b4 g))] ((g, Obj.cells #[int s, ruleV r] 95 (0, 0)) :: hp)) : TA (.fol (ph W Fc Lf o N v) pr) ⟨Tryz.prog, Tryz.f57.ntmps, ⟨W, [], fun _ => False⟩, [], none⟩ (base 57) (cf :: cs) k o102 (n + 10) 0 #[true, true, true, true, true, true] [(2, int (s - billN off r s)), (7, int (s - billN off r s)), (6, int (billN off r s)), (5, .agg #[int s, ruleV r]), (4, int s), (3, .pointer (b4 g)), (1, .pointer (b4 g))] ((g, Obj.cells #[int s, ruleV r] 95 (0, 0)) :: hp) := by
  exact ta_nil (by kernel_rfl) hend
theorem s102_31 (hs : 0 ≤ s ∧ s ≤ 1000000) (ho : 0 ≤ off ∧ off ≤ 100) (hr : RuleAt W Fc Lf o off r) (hend : TC (.fol (ph W Fc Lf o N v) pr) ⟨Tryz.prog, Tryz.f57.ntmps, ⟨W, [], fun _ => False⟩, [], none⟩ (base 57) (cf :: cs) (n + 10) (.inRegion o102 [] :: k) [(2, int (s - billN off r s)), (7, int (s - billN off r s)), (6, int (billN off r s)), (5, .agg #[int s, ruleV r]), (4, int s), (3, .pointer (b4 g)), (1, .pointer (b4 g))] ((g, Obj.cells #[int s, ruleV r] 95 (0, 0)) :: hp)) : TA (.fol (ph W Fc Lf o N v) pr) ⟨Tryz.prog, Tryz.f57.ntmps, ⟨W, [], fun _ => False⟩, [], none⟩ (base 57) (cf :: cs) k o102 (n + 11) 1 #[true, true, true, true, true, false] [(7, int (s - billN off r s)), (6, int (billN off r s)), (5, .agg #[int s, ruleV r]), (4, int s), (3, .pointer (b4 g)), (1, .pointer (b4 g))] ((g, Obj.cells #[int s, ruleV r] 95 (0, 0)) :: hp) := by
  refine C6 (l := [5]) (by kernel_rfl) (by simp) fun j hj rest hr => ?_; obtain ⟨t, rfl⟩ := hr; simp only [List.mem_cons, List.not_mem_nil, or_false] at hj; subst hj; refine U6 rfl rfl (fun h => by cases h) rfl ?_; exact u7 (by repeat constructor) (s102_63 hs ho hr hend t)
theorem mx0 (hs : 0 ≤ s ∧ s ≤ 1000000) (ho : 0 ≤ off ∧ off ≤ 100) (hr : RuleAt W Fc Lf o off r) (hend : TC (.fol (ph W Fc Lf o N v) pr) ⟨Tryz.prog, Tryz.f57.ntmps, ⟨W, [], fun _ => False⟩, [], none⟩ (base 57) (cf :: cs) (n + 10) (.inRegion o102 [] :: k) [(2, int (s - billN off r s)), (7, int (s - billN off r s)), (6, int (billN off r s)), (5, .agg #[int s, ruleV r]), (4, int s), (3, .pointer (b4 g)), (1, .pointer (b4 g))] ((g, Obj.cells #[int s, ruleV r] 95 (0, 0)) :: hp)) : TA (.fol (ph W Fc Lf o N v) pr) ⟨Tryz.prog, Tryz.f57.ntmps, ⟨W, [], fun _ => False⟩, [], none⟩ (base 57) (cf :: cs) k o102 (n + 12) 2 #[true, true, true, true, false, false] [(6, int (billN off r s)), (5, .agg #[int s, ruleV r]), (4, int s), (3, .pointer (b4 g)), (1, .pointer (b4 g))] ((g, Obj.cells #[int s, ruleV r] 95 (0, 0)) :: hp) := by
  refine C6 (l := [4]) (by kernel_rfl) (by simp) fun j hj rest hr => ?_; obtain ⟨t, rfl⟩ := hr; simp only [List.mem_cons, List.not_mem_nil, or_false] at hj; subst hj; refine qq6 (s - billN off r s) rfl rfl (fun h => by cases h) rfl rfl rfl (sq8 off r s hs ho) ?_; exact u7 (by repeat constructor) (s102_31 hs ho hr hend t)
theorem qz0 (hs : 0 ≤ s ∧ s ≤ 1000000) (ho : 0 ≤ off ∧ off ≤ 100) (hr : RuleAt W Fc Lf o off r) (hend : TC (.fol (ph W Fc Lf o N v) pr) ⟨Tryz.prog, Tryz.f57.ntmps, ⟨W, [], fun _ => False⟩, [], none⟩ (base 57) (cf :: cs) (n + 10) (.inRegion o102 [] :: k) [(2, int (s - billN off r s)), (7, int (s - billN off r s)), (6, int (billN off r s)), (5, .agg #[int s, ruleV r]), (4, int s), (3, .pointer (b4 g)), (1, .pointer (b4 g))] ((g, Obj.cells #[int s, ruleV r] 95 (0, 0)) :: hp)) : TA (.fol (ph W Fc Lf o N v) pr) ⟨Tryz.prog, Tryz.f57.ntmps, ⟨W, [], fun _ => False⟩, [], none⟩ (base 57) (cf :: cs) k o102 (n + 73) 3 #[true, true, true, false, false, false] [(5, .agg #[int s, ruleV r]), (4, int s), (3, .pointer (b4 g)), (1, .pointer (b4 g))] ((g, Obj.cells #[int s, ruleV r] 95 (0, 0)) :: hp) := by
  refine C6 (l := [3]) (by kernel_rfl) (by simp) fun j hj rest hr => ?_; obtain ⟨t, rfl⟩ := hr; simp only [List.mem_cons, List.not_mem_nil, or_false] at hj; subst hj; refine Y9 (m := 60) (f := 58) (cap := []) (vs := [.agg #[int s, ruleV r]]) rfl rfl (fun h => by cases h) F.K9 rfl rfl (iz4 s off r hs ho hr) ?_; exact u7 (by repeat constructor) (mx0 hs ho hr hend t)
theorem mx1 (hs : 0 ≤ s ∧ s ≤ 1000000) (ho : 0 ≤ off ∧ off ≤ 100) (hr : RuleAt W Fc Lf o off r) (hend : TC (.fol (ph W Fc Lf o N v) pr) ⟨Tryz.prog, Tryz.f57.ntmps, ⟨W, [], fun _ => False⟩, [], none⟩ (base 57) (cf :: cs) (n + 10) (.inRegion o102 [] :: k) [(2, int (s - billN off r s)), (7, int (s - billN off r s)), (6, int (billN off r s)), (5, .agg #[int s, ruleV r]), (4, int s), (3, .pointer (b4 g)), (1, .pointer (b4 g))] ((g, Obj.cells #[int s, ruleV r] 95 (0, 0)) :: hp)) : TA (.fol (ph W Fc Lf o N v) pr) ⟨Tryz.prog, Tryz.f57.ntmps, ⟨W, [], fun _ => False⟩, [], none⟩ (base 57) (cf :: cs) k o102 (n + 13) 3 #[true, false, true, true, false, false] [(6, int (billN off r s)), (5, .agg #[int s, ruleV r]), (3, .pointer (b4 g)), (1, .pointer (b4 g))] ((g, Obj.cells #[int s, ruleV r] 95 (0, 0)) :: hp) := by
  refine C6 (l := [1]) (by kernel_rfl) (by simp) fun j hj rest hr => ?_; obtain ⟨t, rfl⟩ := hr; simp only [List.mem_cons, List.not_mem_nil, or_false] at hj; subst hj; refine w9 (v := int s) rfl rfl (fun h => by cases h) T.i7 rfl (L9 (vs := #[int s, ruleV r]) (List.mem_cons_self ..) rfl) ?_; exact u7 (by repeat constructor) (mx0 hs ho hr hend t)
theorem s102_3 (hs : 0 ≤ s ∧ s ≤ 1000000) (ho : 0 ≤ off ∧ off ≤ 100) (hr : RuleAt W Fc Lf o off r) (hend : TC (.fol (ph W Fc Lf o N v) pr) ⟨Tryz.prog, Tryz.f57.ntmps, ⟨W, [], fun _ => False⟩, [], none⟩ (base 57) (cf :: cs) (n + 10) (.inRegion o102 [] :: k) [(2, int (s - billN off r s)), (7, int (s - billN off r s)), (6, int (billN off r s)), (5, .agg #[int s, ruleV r]), (4, int s), (3, .pointer (b4 g)), (1, .pointer (b4 g))] ((g, Obj.cells #[int s, ruleV r] 95 (0, 0)) :: hp)) : TA (.fol (ph W Fc Lf o N v) pr) ⟨Tryz.prog, Tryz.f57.ntmps, ⟨W, [], fun _ => False⟩, [], none⟩ (base 57) (cf :: cs) k o102 (n + 74) 4 #[true, true, false, false, false, false] [(4, int s), (3, .pointer (b4 g)), (1, .pointer (b4 g))] ((g, Obj.cells #[int s, ruleV r] 95 (0, 0)) :: hp) := by
  refine C6 (l := [2]) (by kernel_rfl) (by simp) fun j hj rest hr => ?_; obtain ⟨t, rfl⟩ := hr; simp only [List.mem_cons, List.not_mem_nil, or_false] at hj; subst hj; refine N8 (vs := [int s, ruleV r]) rfl rfl (fun h => by cases h) T.B3 T.w5 rfl rfl (Q2 (vs := #[int s, ruleV r]) (List.mem_cons_self ..) fun i u hu => by rw [Nat.zero_add]; simpa using hu) ?_; exact u7 (by repeat constructor) (qz0 hs ho hr hend t)
theorem qz1 (hs : 0 ≤ s ∧ s ≤ 1000000) (ho : 0 ≤ off ∧ off ≤ 100) (hr : RuleAt W Fc Lf o off r) (hend : TC (.fol (ph W Fc Lf o N v) pr) ⟨Tryz.prog, Tryz.f57.ntmps, ⟨W, [], fun _ => False⟩, [], none⟩ (base 57) (cf :: cs) (n + 10) (.inRegion o102 [] :: k) [(2, int (s - billN off r s)), (7, int (s - billN off r s)), (6, int (billN off r s)), (5, .agg #[int s, ruleV r]), (4, int s), (3, .pointer (b4 g)), (1, .pointer (b4 g))] ((g, Obj.cells #[int s, ruleV r] 95 (0, 0)) :: hp)) : TA (.fol (ph W Fc Lf o N v) pr) ⟨Tryz.prog, Tryz.f57.ntmps, ⟨W, [], fun _ => False⟩, [], none⟩ (base 57) (cf :: cs) k o102 (n + 74) 4 #[true, false, true, false, false, false] [(5, .agg #[int s, ruleV r]), (3, .pointer (b4 g)), (1, .pointer (b4 g))] ((g, Obj.cells #[int s, ruleV r] 95 (0, 0)) :: hp) := by
  refine C6 (l := [1, 3]) (by kernel_rfl) (by simp) fun j hj rest hr => ?_; obtain ⟨t, rfl⟩ := hr; simp only [List.mem_cons, List.not_mem_nil, or_false] at hj
  rcases hj with rfl | rfl
  · refine w9 (v := int s) rfl rfl (fun h => by cases h) T.i7 rfl (L9 (vs := #[int s, ruleV r]) (List.mem_cons_self ..) rfl) ?_
    exact u7 (by repeat constructor) (qz0 hs ho hr hend t)
  refine Y9 (m := 60) (f := 58) (cap := []) (vs := [.agg #[int s, ruleV r]]) rfl rfl (fun h => by cases h) F.K9 rfl rfl (iz4 s off r hs ho hr) ?_; exact u7 (by repeat constructor) (mx1 hs ho hr hend t)
theorem s102_12 (hs : 0 ≤ s ∧ s ≤ 1000000) (ho : 0 ≤ off ∧ off ≤ 100) (hr : RuleAt W Fc Lf o off r) (hend : TC (.fol (ph W Fc Lf o N v) pr) ⟨Tryz.prog, Tryz.f57.ntmps, ⟨W, [], fun _ => False⟩, [], none⟩ (base 57) (cf :: cs) (n + 10) (.inRegion o102 [] :: k) [(2, int (s - billN off r s)), (7, int (s - billN off r s)), (6, int (billN off r s)), (5, .agg #[int s, ruleV r]), (4, int s), (3, .pointer (b4 g)), (1, .pointer (b4 g))] ((g, Obj.cells #[int s, ruleV r] 95 (0, 0)) :: hp)) : TA (.fol (ph W Fc Lf o N v) pr) ⟨Tryz.prog, Tryz.f57.ntmps, ⟨W, [], fun _ => False⟩, [], none⟩ (base 57) (cf :: cs) k o102 (n + 14) 4 #[false, false, true, true, false, false] [(6, int (billN off r s)), (5, .agg #[int s, ruleV r]), (1, .pointer (b4 g))] ((g, Obj.cells #[int s, ruleV r] 95 (0, 0)) :: hp) := by
  refine C6 (l := [0]) (by kernel_rfl) (by simp) fun j hj rest hr => ?_; obtain ⟨t, rfl⟩ := hr; simp only [List.mem_cons, List.not_mem_nil, or_false] at hj; subst hj; refine J0 ⟨g, 0, none⟩ rfl rfl (fun h => by cases h) rfl T.I4 (fun _ _ _ => by kernel_rfl) rfl ?_; exact u7 (by repeat constructor) (mx1 hs ho hr hend t)
theorem s102_1 (hs : 0 ≤ s ∧ s ≤ 1000000) (ho : 0 ≤ off ∧ off ≤ 100) (hr : RuleAt W Fc Lf o off r) (hend : TC (.fol (ph W Fc Lf o N v) pr) ⟨Tryz.prog, Tryz.f57.ntmps, ⟨W, [], fun _ => False⟩, [], none⟩ (base 57) (cf :: cs) (n + 10) (.inRegion o102 [] :: k) [(2, int (s - billN off r s)), (7, int (s - billN off r s)), (6, int (billN off r s)), (5, .agg #[int s, ruleV r]), (4, int s), (3, .pointer (b4 g)), (1, .pointer (b4 g))] ((g, Obj.cells #[int s, ruleV r] 95 (0, 0)) :: hp)) : TA (.fol (ph W Fc Lf o N v) pr) ⟨Tryz.prog, Tryz.f57.ntmps, ⟨W, [], fun _ => False⟩, [], none⟩ (base 57) (cf :: cs) k o102 (n + 75) 5 #[true, false, false, false, false, false] [(3, .pointer (b4 g)), (1, .pointer (b4 g))] ((g, Obj.cells #[int s, ruleV r] 95 (0, 0)) :: hp) := by
  refine C6 (l := [1, 2]) (by kernel_rfl) (by simp) fun j hj rest hr => ?_; obtain ⟨t, rfl⟩ := hr; simp only [List.mem_cons, List.not_mem_nil, or_false] at hj
  rcases hj with rfl | rfl
  · refine w9 (v := int s) rfl rfl (fun h => by cases h) T.i7 rfl (L9 (vs := #[int s, ruleV r]) (List.mem_cons_self ..) rfl) ?_
    exact u7 (by repeat constructor) (s102_3 hs ho hr hend t)
  refine N8 (vs := [int s, ruleV r]) rfl rfl (fun h => by cases h) T.B3 T.w5 rfl rfl (Q2 (vs := #[int s, ruleV r]) (List.mem_cons_self ..) fun i u hu => by rw [Nat.zero_add]; simpa using hu) ?_; exact u7 (by repeat constructor) (qz1 hs ho hr hend t)
theorem s102_4 (hs : 0 ≤ s ∧ s ≤ 1000000) (ho : 0 ≤ off ∧ off ≤ 100) (hr : RuleAt W Fc Lf o off r) (hend : TC (.fol (ph W Fc Lf o N v) pr) ⟨Tryz.prog, Tryz.f57.ntmps, ⟨W, [], fun _ => False⟩, [], none⟩ (base 57) (cf :: cs) (n + 10) (.inRegion o102 [] :: k) [(2, int (s - billN off r s)), (7, int (s - billN off r s)), (6, int (billN off r s)), (5, .agg #[int s, ruleV r]), (4, int s), (3, .pointer (b4 g)), (1, .pointer (b4 g))] ((g, Obj.cells #[int s, ruleV r] 95 (0, 0)) :: hp)) : TA (.fol (ph W Fc Lf o N v) pr) ⟨Tryz.prog, Tryz.f57.ntmps, ⟨W, [], fun _ => False⟩, [], none⟩ (base 57) (cf :: cs) k o102 (n + 75) 5 #[false, false, true, false, false, false] [(5, .agg #[int s, ruleV r]), (1, .pointer (b4 g))] ((g, Obj.cells #[int s, ruleV r] 95 (0, 0)) :: hp) := by
  refine C6 (l := [0, 3]) (by kernel_rfl) (by simp) fun j hj rest hr => ?_; obtain ⟨t, rfl⟩ := hr; simp only [List.mem_cons, List.not_mem_nil, or_false] at hj
  rcases hj with rfl | rfl
  · refine J0 ⟨g, 0, none⟩ rfl rfl (fun h => by cases h) rfl T.I4 (fun _ _ _ => by kernel_rfl) rfl ?_
    exact u7 (by repeat constructor) (qz1 hs ho hr hend t)
  refine Y9 (m := 60) (f := 58) (cap := []) (vs := [.agg #[int s, ruleV r]]) rfl rfl (fun h => by cases h) F.K9 rfl rfl (iz4 s off r hs ho hr) ?_; exact u7 (by repeat constructor) (s102_12 hs ho hr hend t)
theorem s102_0 (hs : 0 ≤ s ∧ s ≤ 1000000) (ho : 0 ≤ off ∧ off ≤ 100) (hr : RuleAt W Fc Lf o off r) (hend : TC (.fol (ph W Fc Lf o N v) pr) ⟨Tryz.prog, Tryz.f57.ntmps, ⟨W, [], fun _ => False⟩, [], none⟩ (base 57) (cf :: cs) (n + 10) (.inRegion o102 [] :: k) [(2, int (s - billN off r s)), (7, int (s - billN off r s)), (6, int (billN off r s)), (5, .agg #[int s, ruleV r]), (4, int s), (3, .pointer (b4 g)), (1, .pointer (b4 g))] ((g, Obj.cells #[int s, ruleV r] 95 (0, 0)) :: hp)) : TA (.fol (ph W Fc Lf o N v) pr) ⟨Tryz.prog, Tryz.f57.ntmps, ⟨W, [], fun _ => False⟩, [], none⟩ (base 57) (cf :: cs) k o102 (n + 76) 6 #[false, false, false, false, false, false] [(1, .pointer (b4 g))] ((g, Obj.cells #[int s, ruleV r] 95 (0, 0)) :: hp) := by
  refine C6 (l := [0, 2]) (by kernel_rfl) (by simp) fun j hj rest hr => ?_; obtain ⟨t, rfl⟩ := hr; simp only [List.mem_cons, List.not_mem_nil, or_false] at hj
  rcases hj with rfl | rfl
  · refine J0 ⟨g, 0, none⟩ rfl rfl (fun h => by cases h) rfl T.I4 (fun _ _ _ => by kernel_rfl) rfl ?_
    exact u7 (by repeat constructor) (s102_1 hs ho hr hend t)
  refine N8 (vs := [int s, ruleV r]) rfl rfl (fun h => by cases h) T.B3 T.w5 rfl rfl (Q2 (vs := #[int s, ruleV r]) (List.mem_cons_self ..) fun i u hu => by rw [Nat.zero_add]; simpa using hu) ?_; exact u7 (by repeat constructor) (s102_4 hs ho hr hend t)
end
theorem ct_102 (s off : Int) (r : Option Nat) (hs : 0 ≤ s ∧ s ≤ 1000000) (ho : 0 ≤ off ∧ off ≤ 100) (hr : RuleAt W Fc Lf o off r) : CT (.fol (ph W Fc Lf o N v) pr) 57 [.agg #[int s, ruleV r]] hp 100 (int (s - billN off r s)) := by
  refine nj8 F.pL rfl ⟨W, [], fun _ => False⟩ t4 fun n cf cs hk => ?_; refine G7 (A9 ?_); refine qq8 rfl rfl (fun h => by cases h) rfl fun g hg hn => ?_; refine U6 rfl rfl (fun h => by cases h) rfl ?_; refine J1 (G7 ?_); refine R9 (m := n + 77) (by omega) (bq5 mixed ?_); refine (fun t => u7 (by repeat constructor) (s102_0 hs ho hr ?_ t)); refine J1 ?_; refine hz6 rfl F.pL rfl rfl (fun _ h => List.mem_cons_of_mem _ h) ?_; exact TX.more _ hk (by omega)
end Go.Proofs.YtdlbbfcfahahdaaGreat
end
section
namespace Go.Proofs.YtdlbbfcfahahdaaGreat
open Go Go.W Go.Conc
set_option maxRecDepth 20000
attribute [local irreducible] HL HC HQ HB Row Rows2 Blk Facts
set_option maxRecDepth 20000
def numN (how : Nat) (off : Int) (r : Option Nat) (s : Int) : Int := if how = 58 then billN off r s else s - billN off r s
variable {W : World} {Fc Lf o N : Nat} {v : Nat → Value} {pr : Pr} {hp : Hq}
theorem iz3 {how : Nat} (s off : Int) (r : Option Nat) (hs : 0 ≤ s ∧ s ≤ 1000000) (ho : 0 ≤ off ∧ off ≤ 100) (hr : RuleAt W Fc Lf o off r) (hw : how = 57 ∨ how = 58) : CT (.fol (ph W Fc Lf o N v) pr) how [.agg #[int s, ruleV r]] hp 100 (int (numN how off r s)) := by
  rcases hw with rfl | rfl
  · exact ct_102 s off r hs ho hr
  exact (iz4 s off r hs ho hr).more (by omega)
theorem iq6 {how : Nat} (hw : how = 57 ∨ how = 58) : Callable Tryz.prog how := by
  rcases hw with rfl | rfl
  · exact F.ax5
  exact F.K9
structure Base (W : World) (Fc Lf o how b3 b6 b7 : Nat) : Prop where
  h3 : W.heap[b3]? = some (.cells #[.func (.func how) #[] #[]] 96 (0, 0))
  n3 : b3 ≠ Fc ∧ b3 ≠ Lf ∧ b3 ≠ o
  h6 : W.heap[b6]? = some (.cells #[.chan (some Fc)] 136 (0, 0))
  n6 : b6 ≠ Fc ∧ b6 ≠ Lf ∧ b6 ≠ o
  h7 : W.heap[b7]? = some (.cells #[.chan (some Lf)] 137 (0, 0))
  n7 : b7 ≠ Fc ∧ b7 ≠ Lf ∧ b7 ≠ o
section
variable {n how b3 b6 b7 g8 g9 j : Nat} {cs : List Frame} {k : List Item} {s off : Int} {r : Option Nat}
noncomputable def o118 : Array Oper := regionAt 0 (Tryz.f88.body.getD .skip)
theorem mq5 (hs : 0 ≤ s ∧ s ≤ 1000000) (ho : 0 ≤ off ∧ off ≤ 100) (hr : RuleAt W Fc Lf o off r) (hw : how = 57 ∨ how = 58) (hB : Base W Fc Lf o how b3 b6 b7) (hend : TC (.fol (ph W Fc Lf o N v) (.send1 j)) ⟨Tryz.prog, Tryz.f88.ntmps, ⟨W, [], fun _ => False⟩, [], none⟩ (baseD 88) cs (n + 20) (.inRegion o118 [6] :: k) [(10, .agg #[int j, int (numN how off r s)]), (9, int (numN how off r s)), (8, .agg #[int s, ruleV r]), (7, .func (.func how) #[] #[]), (6, int j), (5, .chan (some Fc)), (0, .pointer (b4 b6)), (1, .pointer (b4 g8)), (2, .pointer (b4 b3)), (3, .pointer (b4 g9)), (4, .pointer (b4 b7))] [(g9, Obj.cells #[int s, ruleV r] 95 (0, 0)), (g8, Obj.cells #[int j] 3 (0, 0))]) : TA (.fol (ph W Fc Lf o N v) (.send1 j)) ⟨Tryz.prog, Tryz.f88.ntmps, ⟨W, [], fun _ => False⟩, [], none⟩ (baseD 88) cs k o118 (n + 20) 1 #[true, true, true, true, true, true, false] [(10, .agg #[int j, int (numN how off r s)]), (9, int (numN how off r s)), (8, .agg #[int s, ruleV r]), (7, .func (.func how) #[] #[]), (6, int j), (5, .chan (some Fc)), (0, .pointer (b4 b6)), (1, .pointer (b4 g8)), (2, .pointer (b4 b3)), (3, .pointer (b4 g9)), (4, .pointer (b4 b7))] [(g9, Obj.cells #[int s, ruleV r] 95 (0, 0)), (g8, Obj.cells #[int j] 3 (0, 0))] := by
  refine C6 (l := [6]) (by kernel_rfl) (by simp) fun j hj rest hr => ?_; obtain ⟨t, rfl⟩ := hr; simp only [List.mem_cons, List.not_mem_nil, or_false] at hj; subst hj; exact hend
theorem ij6 (hs : 0 ≤ s ∧ s ≤ 1000000) (ho : 0 ≤ off ∧ off ≤ 100) (hr : RuleAt W Fc Lf o off r) (hw : how = 57 ∨ how = 58) (hB : Base W Fc Lf o how b3 b6 b7) (hend : TC (.fol (ph W Fc Lf o N v) (.send1 j)) ⟨Tryz.prog, Tryz.f88.ntmps, ⟨W, [], fun _ => False⟩, [], none⟩ (baseD 88) cs (n + 20) (.inRegion o118 [6] :: k) [(10, .agg #[int j, int (numN how off r s)]), (9, int (numN how off r s)), (8, .agg #[int s, ruleV r]), (7, .func (.func how) #[] #[]), (6, int j), (5, .chan (some Fc)), (0, .pointer (b4 b6)), (1, .pointer (b4 g8)), (2, .pointer (b4 b3)), (3, .pointer (b4 g9)), (4, .pointer (b4 b7))] [(g9, Obj.cells #[int s, ruleV r] 95 (0, 0)), (g8, Obj.cells #[int j] 3 (0, 0))]) : TA (.fol (ph W Fc Lf o N v) (.send1 j)) ⟨Tryz.prog, Tryz.f88.ntmps, ⟨W, [], fun _ => False⟩, [], none⟩ (baseD 88) cs k o118 (n + 21) 2 #[true, true, true, true, true, false, false] [(9, int (numN how off r s)), (8, .agg #[int s, ruleV r]), (7, .func (.func how) #[] #[]), (6, int j), (5, .chan (some Fc)), (0, .pointer (b4 b6)), (1, .pointer (b4 g8)), (2, .pointer (b4 b3)), (3, .pointer (b4 g9)), (4, .pointer (b4 b7))] [(g9, Obj.cells #[int s, ruleV r] 95 (0, 0)), (g8, Obj.cells #[int j] 3 (0, 0))] := by
  refine C6 (l := [5]) (by kernel_rfl) (by simp) fun j hj rest hr => ?_; obtain ⟨t, rfl⟩ := hr; simp only [List.mem_cons, List.not_mem_nil, or_false] at hj; subst hj; refine jx2 [(0, int j), (1, int (numN how off r s))] rfl rfl (fun h => by cases h) rfl (T.Z6 j (numN how off r s)) (fun _ _ => by kernel_rfl) ?_; exact u7 (by repeat constructor) (mq5 hs ho hr hw hB hend t)
theorem s118_62 (hs : 0 ≤ s ∧ s ≤ 1000000) (ho : 0 ≤ off ∧ off ≤ 100) (hr : RuleAt W Fc Lf o off r) (hw : how = 57 ∨ how = 58) (hB : Base W Fc Lf o how b3 b6 b7) (hend : TC (.fol (ph W Fc Lf o N v) (.send1 j)) ⟨Tryz.prog, Tryz.f88.ntmps, ⟨W, [], fun _ => False⟩, [], none⟩ (baseD 88) cs (n + 20) (.inRegion o118 [6] :: k) [(10, .agg #[int j, int (numN how off r s)]), (9, int (numN how off r s)), (8, .agg #[int s, ruleV r]), (7, .func (.func how) #[] #[]), (6, int j), (5, .chan (some Fc)), (0, .pointer (b4 b6)), (1, .pointer (b4 g8)), (2, .pointer (b4 b3)), (3, .pointer (b4 g9)), (4, .pointer (b4 b7))] [(g9, Obj.cells #[int s, ruleV r] 95 (0, 0)), (g8, Obj.cells #[int j] 3 (0, 0))]) : TA (.fol (ph W Fc Lf o N v) (.send1 j)) ⟨Tryz.prog, Tryz.f88.ntmps, ⟨W, [], fun _ => False⟩, [], none⟩ (baseD 88) cs k o118 (n + 21) 2 #[false, true, true, true, true, true, false] [(10, .agg #[int j, int (numN how off r s)]), (9, int (numN how off r s)), (8, .agg #[int s, ruleV r]), (7, .func (.func how) #[] #[]), (6, int j), (0, .pointer (b4 b6)), (1, .pointer (b4 g8)), (2, .pointer (b4 b3)), (3, .pointer (b4 g9)), (4, .pointer (b4 b7))] [(g9, Obj.cells #[int s, ruleV r] 95 (0, 0)), (g8, Obj.cells #[int j] 3 (0, 0))] := by
  refine C6 (l := [0]) (by kernel_rfl) (by simp) fun j hj rest hr => ?_; obtain ⟨t, rfl⟩ := hr; simp only [List.mem_cons, List.not_mem_nil, or_false] at hj; subst hj; refine w9 (v := .chan (some Fc)) rfl rfl (fun h => by cases h) T.u3 rfl (C7 hB.h6 hB.n6.1 hB.n6.2.1 hB.n6.2.2 rfl) ?_; exact u7 (by repeat constructor) (mq5 hs ho hr hw hB hend t)
theorem az6 (hs : 0 ≤ s ∧ s ≤ 1000000) (ho : 0 ≤ off ∧ off ≤ 100) (hr : RuleAt W Fc Lf o off r) (hw : how = 57 ∨ how = 58) (hB : Base W Fc Lf o how b3 b6 b7) (hend : TC (.fol (ph W Fc Lf o N v) (.send1 j)) ⟨Tryz.prog, Tryz.f88.ntmps, ⟨W, [], fun _ => False⟩, [], none⟩ (baseD 88) cs (n + 20) (.inRegion o118 [6] :: k) [(10, .agg #[int j, int (numN how off r s)]), (9, int (numN how off r s)), (8, .agg #[int s, ruleV r]), (7, .func (.func how) #[] #[]), (6, int j), (5, .chan (some Fc)), (0, .pointer (b4 b6)), (1, .pointer (b4 g8)), (2, .pointer (b4 b3)), (3, .pointer (b4 g9)), (4, .pointer (b4 b7))] [(g9, Obj.cells #[int s, ruleV r] 95 (0, 0)), (g8, Obj.cells #[int j] 3 (0, 0))]) : TA (.fol (ph W Fc Lf o N v) (.send1 j)) ⟨Tryz.prog, Tryz.f88.ntmps, ⟨W, [], fun _ => False⟩, [], none⟩ (baseD 88) cs k o118 (n + 122) 3 #[true, true, true, true, false, false, false] [(8, .agg #[int s, ruleV r]), (7, .func (.func how) #[] #[]), (6, int j), (5, .chan (some Fc)), (0, .pointer (b4 b6)), (1, .pointer (b4 g8)), (2, .pointer (b4 b3)), (3, .pointer (b4 g9)), (4, .pointer (b4 b7))] [(g9, Obj.cells #[int s, ruleV r] 95 (0, 0)), (g8, Obj.cells #[int j] 3 (0, 0))] := by
  refine C6 (l := [4]) (by kernel_rfl) (by simp) fun j hj rest hr => ?_; obtain ⟨t, rfl⟩ := hr; simp only [List.mem_cons, List.not_mem_nil, or_false] at hj; subst hj; refine Y9 (m := 100) (f := how) (cap := []) (vs := [.agg #[int s, ruleV r]]) rfl rfl (fun h => by cases h) (iq6 hw) rfl rfl (iz3 s off r hs ho hr hw) ?_; exact u7 (by repeat constructor) (ij6 hs ho hr hw hB hend t)
theorem mq7 (hs : 0 ≤ s ∧ s ≤ 1000000) (ho : 0 ≤ off ∧ off ≤ 100) (hr : RuleAt W Fc Lf o off r) (hw : how = 57 ∨ how = 58) (hB : Base W Fc Lf o how b3 b6 b7) (hend : TC (.fol (ph W Fc Lf o N v) (.send1 j)) ⟨Tryz.prog, Tryz.f88.ntmps, ⟨W, [], fun _ => False⟩, [], none⟩ (baseD 88) cs (n + 20) (.inRegion o118 [6] :: k) [(10, .agg #[int j, int (numN how off r s)]), (9, int (numN how off r s)), (8, .agg #[int s, ruleV r]), (7, .func (.func how) #[] #[]), (6, int j), (5, .chan (some Fc)), (0, .pointer (b4 b6)), (1, .pointer (b4 g8)), (2, .pointer (b4 b3)), (3, .pointer (b4 g9)), (4, .pointer (b4 b7))] [(g9, Obj.cells #[int s, ruleV r] 95 (0, 0)), (g8, Obj.cells #[int j] 3 (0, 0))]) : TA (.fol (ph W Fc Lf o N v) (.send1 j)) ⟨Tryz.prog, Tryz.f88.ntmps, ⟨W, [], fun _ => False⟩, [], none⟩ (baseD 88) cs k o118 (n + 22) 3 #[true, false, true, true, true, false, false] [(9, int (numN how off r s)), (8, .agg #[int s, ruleV r]), (7, .func (.func how) #[] #[]), (5, .chan (some Fc)), (0, .pointer (b4 b6)), (1, .pointer (b4 g8)), (2, .pointer (b4 b3)), (3, .pointer (b4 g9)), (4, .pointer (b4 b7))] [(g9, Obj.cells #[int s, ruleV r] 95 (0, 0)), (g8, Obj.cells #[int j] 3 (0, 0))] := by
  refine C6 (l := [1]) (by kernel_rfl) (by simp) fun j hj rest hr => ?_; obtain ⟨t, rfl⟩ := hr; simp only [List.mem_cons, List.not_mem_nil, or_false] at hj; subst hj; refine w9 (v := int j) rfl rfl (fun h => by cases h) T.i7 rfl (L9 (vs := #[int j]) (List.mem_cons_of_mem _ (List.mem_cons_self ..)) rfl) ?_; exact u7 (by repeat constructor) (ij6 hs ho hr hw hB hend t)
theorem mq6 (hs : 0 ≤ s ∧ s ≤ 1000000) (ho : 0 ≤ off ∧ off ≤ 100) (hr : RuleAt W Fc Lf o off r) (hw : how = 57 ∨ how = 58) (hB : Base W Fc Lf o how b3 b6 b7) (hend : TC (.fol (ph W Fc Lf o N v) (.send1 j)) ⟨Tryz.prog, Tryz.f88.ntmps, ⟨W, [], fun _ => False⟩, [], none⟩ (baseD 88) cs (n + 20) (.inRegion o118 [6] :: k) [(10, .agg #[int j, int (numN how off r s)]), (9, int (numN how off r s)), (8, .agg #[int s, ruleV r]), (7, .func (.func how) #[] #[]), (6, int j), (5, .chan (some Fc)), (0, .pointer (b4 b6)), (1, .pointer (b4 g8)), (2, .pointer (b4 b3)), (3, .pointer (b4 g9)), (4, .pointer (b4 b7))] [(g9, Obj.cells #[int s, ruleV r] 95 (0, 0)), (g8, Obj.cells #[int j] 3 (0, 0))]) : TA (.fol (ph W Fc Lf o N v) (.send1 j)) ⟨Tryz.prog, Tryz.f88.ntmps, ⟨W, [], fun _ => False⟩, [], none⟩ (baseD 88) cs k o118 (n + 22) 3 #[false, true, true, true, true, false, false] [(9, int (numN how off r s)), (8, .agg #[int s, ruleV r]), (7, .func (.func how) #[] #[]), (6, int j), (0, .pointer (b4 b6)), (1, .pointer (b4 g8)), (2, .pointer (b4 b3)), (3, .pointer (b4 g9)), (4, .pointer (b4 b7))] [(g9, Obj.cells #[int s, ruleV r] 95 (0, 0)), (g8, Obj.cells #[int j] 3 (0, 0))] := by
  refine C6 (l := [0, 5]) (by kernel_rfl) (by simp) fun j hj rest hr => ?_; obtain ⟨t, rfl⟩ := hr; simp only [List.mem_cons, List.not_mem_nil, or_false] at hj
  rcases hj with rfl | rfl
  · refine w9 (v := .chan (some Fc)) rfl rfl (fun h => by cases h) T.u3 rfl (C7 hB.h6 hB.n6.1 hB.n6.2.1 hB.n6.2.2 rfl) ?_
    exact u7 (by repeat constructor) (ij6 hs ho hr hw hB hend t)
  refine jx2 [(0, int j), (1, int (numN how off r s))] rfl rfl (fun h => by cases h) rfl (T.Z6 j (numN how off r s)) (fun _ _ => by kernel_rfl) ?_; exact u7 (by repeat constructor) (s118_62 hs ho hr hw hB hend t)
theorem lj3 (hs : 0 ≤ s ∧ s ≤ 1000000) (ho : 0 ≤ off ∧ off ≤ 100) (hr : RuleAt W Fc Lf o off r) (hw : how = 57 ∨ how = 58) (hB : Base W Fc Lf o how b3 b6 b7) (hend : TC (.fol (ph W Fc Lf o N v) (.send1 j)) ⟨Tryz.prog, Tryz.f88.ntmps, ⟨W, [], fun _ => False⟩, [], none⟩ (baseD 88) cs (n + 20) (.inRegion o118 [6] :: k) [(10, .agg #[int j, int (numN how off r s)]), (9, int (numN how off r s)), (8, .agg #[int s, ruleV r]), (7, .func (.func how) #[] #[]), (6, int j), (5, .chan (some Fc)), (0, .pointer (b4 b6)), (1, .pointer (b4 g8)), (2, .pointer (b4 b3)), (3, .pointer (b4 g9)), (4, .pointer (b4 b7))] [(g9, Obj.cells #[int s, ruleV r] 95 (0, 0)), (g8, Obj.cells #[int j] 3 (0, 0))]) : TA (.fol (ph W Fc Lf o N v) (.send1 j)) ⟨Tryz.prog, Tryz.f88.ntmps, ⟨W, [], fun _ => False⟩, [], none⟩ (baseD 88) cs k o118 (n + 123) 4 #[true, true, true, false, false, false, false] [(7, .func (.func how) #[] #[]), (6, int j), (5, .chan (some Fc)), (0, .pointer (b4 b6)), (1, .pointer (b4 g8)), (2, .pointer (b4 b3)), (3, .pointer (b4 g9)), (4, .pointer (b4 b7))] [(g9, Obj.cells #[int s, ruleV r] 95 (0, 0)), (g8, Obj.cells #[int j] 3 (0, 0))] := by
  refine C6 (l := [3]) (by kernel_rfl) (by simp) fun j hj rest hr => ?_; obtain ⟨t, rfl⟩ := hr; simp only [List.mem_cons, List.not_mem_nil, or_false] at hj; subst hj; refine N8 (vs := [int s, ruleV r]) rfl rfl (fun h => by cases h) T.B3 T.w5 rfl rfl (Q2 (vs := #[int s, ruleV r]) (List.mem_cons_self ..) fun i u hu => by rw [Nat.zero_add]; simpa using hu) ?_; exact u7 (by repeat constructor) (az6 hs ho hr hw hB hend t)
theorem ij9 (hs : 0 ≤ s ∧ s ≤ 1000000) (ho : 0 ≤ off ∧ off ≤ 100) (hr : RuleAt W Fc Lf o off r) (hw : how = 57 ∨ how = 58) (hB : Base W Fc Lf o how b3 b6 b7) (hend : TC (.fol (ph W Fc Lf o N v) (.send1 j)) ⟨Tryz.prog, Tryz.f88.ntmps, ⟨W, [], fun _ => False⟩, [], none⟩ (baseD 88) cs (n + 20) (.inRegion o118 [6] :: k) [(10, .agg #[int j, int (numN how off r s)]), (9, int (numN how off r s)), (8, .agg #[int s, ruleV r]), (7, .func (.func how) #[] #[]), (6, int j), (5, .chan (some Fc)), (0, .pointer (b4 b6)), (1, .pointer (b4 g8)), (2, .pointer (b4 b3)), (3, .pointer (b4 g9)), (4, .pointer (b4 b7))] [(g9, Obj.cells #[int s, ruleV r] 95 (0, 0)), (g8, Obj.cells #[int j] 3 (0, 0))]) : TA (.fol (ph W Fc Lf o N v) (.send1 j)) ⟨Tryz.prog, Tryz.f88.ntmps, ⟨W, [], fun _ => False⟩, [], none⟩ (baseD 88) cs k o118 (n + 123) 4 #[true, true, false, true, false, false, false] [(8, .agg #[int s, ruleV r]), (6, int j), (5, .chan (some Fc)), (0, .pointer (b4 b6)), (1, .pointer (b4 g8)), (2, .pointer (b4 b3)), (3, .pointer (b4 g9)), (4, .pointer (b4 b7))] [(g9, Obj.cells #[int s, ruleV r] 95 (0, 0)), (g8, Obj.cells #[int j] 3 (0, 0))] := by
  refine C6 (l := [2]) (by kernel_rfl) (by simp) fun j hj rest hr => ?_; obtain ⟨t, rfl⟩ := hr; simp only [List.mem_cons, List.not_mem_nil, or_false] at hj; subst hj; refine w9 (v := .func (.func how) #[] #[]) rfl rfl (fun h => by cases h) T.y8 rfl (C7 hB.h3 hB.n3.1 hB.n3.2.1 hB.n3.2.2 rfl) ?_; exact u7 (by repeat constructor) (az6 hs ho hr hw hB hend t)
theorem ij8 (hs : 0 ≤ s ∧ s ≤ 1000000) (ho : 0 ≤ off ∧ off ≤ 100) (hr : RuleAt W Fc Lf o off r) (hw : how = 57 ∨ how = 58) (hB : Base W Fc Lf o how b3 b6 b7) (hend : TC (.fol (ph W Fc Lf o N v) (.send1 j)) ⟨Tryz.prog, Tryz.f88.ntmps, ⟨W, [], fun _ => False⟩, [], none⟩ (baseD 88) cs (n + 20) (.inRegion o118 [6] :: k) [(10, .agg #[int j, int (numN how off r s)]), (9, int (numN how off r s)), (8, .agg #[int s, ruleV r]), (7, .func (.func how) #[] #[]), (6, int j), (5, .chan (some Fc)), (0, .pointer (b4 b6)), (1, .pointer (b4 g8)), (2, .pointer (b4 b3)), (3, .pointer (b4 g9)), (4, .pointer (b4 b7))] [(g9, Obj.cells #[int s, ruleV r] 95 (0, 0)), (g8, Obj.cells #[int j] 3 (0, 0))]) : TA (.fol (ph W Fc Lf o N v) (.send1 j)) ⟨Tryz.prog, Tryz.f88.ntmps, ⟨W, [], fun _ => False⟩, [], none⟩ (baseD 88) cs k o118 (n + 123) 4 #[true, false, true, true, false, false, false] [(8, .agg #[int s, ruleV r]), (7, .func (.func how) #[] #[]), (5, .chan (some Fc)), (0, .pointer (b4 b6)), (1, .pointer (b4 g8)), (2, .pointer (b4 b3)), (3, .pointer (b4 g9)), (4, .pointer (b4 b7))] [(g9, Obj.cells #[int s, ruleV r] 95 (0, 0)), (g8, Obj.cells #[int j] 3 (0, 0))] := by
  refine C6 (l := [1, 4]) (by kernel_rfl) (by simp) fun j hj rest hr => ?_; obtain ⟨t, rfl⟩ := hr; simp only [List.mem_cons, List.not_mem_nil, or_false] at hj
  rcases hj with rfl | rfl
  · refine w9 (v := int j) rfl rfl (fun h => by cases h) T.i7 rfl (L9 (vs := #[int j]) (List.mem_cons_of_mem _ (List.mem_cons_self ..)) rfl) ?_
    exact u7 (by repeat constructor) (az6 hs ho hr hw hB hend t)
  refine Y9 (m := 100) (f := how) (cap := []) (vs := [.agg #[int s, ruleV r]]) rfl rfl (fun h => by cases h) (iq6 hw) rfl rfl (iz3 s off r hs ho hr hw) ?_; exact u7 (by repeat constructor) (mq7 hs ho hr hw hB hend t)
theorem ij7 (hs : 0 ≤ s ∧ s ≤ 1000000) (ho : 0 ≤ off ∧ off ≤ 100) (hr : RuleAt W Fc Lf o off r) (hw : how = 57 ∨ how = 58) (hB : Base W Fc Lf o how b3 b6 b7) (hend : TC (.fol (ph W Fc Lf o N v) (.send1 j)) ⟨Tryz.prog, Tryz.f88.ntmps, ⟨W, [], fun _ => False⟩, [], none⟩ (baseD 88) cs (n + 20) (.inRegion o118 [6] :: k) [(10, .agg #[int j, int (numN how off r s)]), (9, int (numN how off r s)), (8, .agg #[int s, ruleV r]), (7, .func (.func how) #[] #[]), (6, int j), (5, .chan (some Fc)), (0, .pointer (b4 b6)), (1, .pointer (b4 g8)), (2, .pointer (b4 b3)), (3, .pointer (b4 g9)), (4, .pointer (b4 b7))] [(g9, Obj.cells #[int s, ruleV r] 95 (0, 0)), (g8, Obj.cells #[int j] 3 (0, 0))]) : TA (.fol (ph W Fc Lf o N v) (.send1 j)) ⟨Tryz.prog, Tryz.f88.ntmps, ⟨W, [], fun _ => False⟩, [], none⟩ (baseD 88) cs k o118 (n + 123) 4 #[false, true, true, true, false, false, false] [(8, .agg #[int s, ruleV r]), (7, .func (.func how) #[] #[]), (6, int j), (0, .pointer (b4 b6)), (1, .pointer (b4 g8)), (2, .pointer (b4 b3)), (3, .pointer (b4 g9)), (4, .pointer (b4 b7))] [(g9, Obj.cells #[int s, ruleV r] 95 (0, 0)), (g8, Obj.cells #[int j] 3 (0, 0))] := by
  refine C6 (l := [0, 4]) (by kernel_rfl) (by simp) fun j hj rest hr => ?_; obtain ⟨t, rfl⟩ := hr; simp only [List.mem_cons, List.not_mem_nil, or_false] at hj
  rcases hj with rfl | rfl
  · refine w9 (v := .chan (some Fc)) rfl rfl (fun h => by cases h) T.u3 rfl (C7 hB.h6 hB.n6.1 hB.n6.2.1 hB.n6.2.2 rfl) ?_
    exact u7 (by repeat constructor) (az6 hs ho hr hw hB hend t)
  refine Y9 (m := 100) (f := how) (cap := []) (vs := [.agg #[int s, ruleV r]]) rfl rfl (fun h => by cases h) (iq6 hw) rfl rfl (iz3 s off r hs ho hr hw) ?_; exact u7 (by repeat constructor) (mq6 hs ho hr hw hB hend t)
theorem s118_28 (hs : 0 ≤ s ∧ s ≤ 1000000) (ho : 0 ≤ off ∧ off ≤ 100) (hr : RuleAt W Fc Lf o off r) (hw : how = 57 ∨ how = 58) (hB : Base W Fc Lf o how b3 b6 b7) (hend : TC (.fol (ph W Fc Lf o N v) (.send1 j)) ⟨Tryz.prog, Tryz.f88.ntmps, ⟨W, [], fun _ => False⟩, [], none⟩ (baseD 88) cs (n + 20) (.inRegion o118 [6] :: k) [(10, .agg #[int j, int (numN how off r s)]), (9, int (numN how off r s)), (8, .agg #[int s, ruleV r]), (7, .func (.func how) #[] #[]), (6, int j), (5, .chan (some Fc)), (0, .pointer (b4 b6)), (1, .pointer (b4 g8)), (2, .pointer (b4 b3)), (3, .pointer (b4 g9)), (4, .pointer (b4 b7))] [(g9, Obj.cells #[int s, ruleV r] 95 (0, 0)), (g8, Obj.cells #[int j] 3 (0, 0))]) : TA (.fol (ph W Fc Lf o N v) (.send1 j)) ⟨Tryz.prog, Tryz.f88.ntmps, ⟨W, [], fun _ => False⟩, [], none⟩ (baseD 88) cs k o118 (n + 23) 4 #[false, false, true, true, true, false, false] [(9, int (numN how off r s)), (8, .agg #[int s, ruleV r]), (7, .func (.func how) #[] #[]), (0, .pointer (b4 b6)), (1, .pointer (b4 g8)), (2, .pointer (b4 b3)), (3, .pointer (b4 g9)), (4, .pointer (b4 b7))] [(g9, Obj.cells #[int s, ruleV r] 95 (0, 0)), (g8, Obj.cells #[int j] 3 (0, 0))] := by
  refine C6 (l := [0, 1]) (by kernel_rfl) (by simp) fun j hj rest hr => ?_; obtain ⟨t, rfl⟩ := hr; simp only [List.mem_cons, List.not_mem_nil, or_false] at hj
  rcases hj with rfl | rfl
  · refine w9 (v := .chan (some Fc)) rfl rfl (fun h => by cases h) T.u3 rfl (C7 hB.h6 hB.n6.1 hB.n6.2.1 hB.n6.2.2 rfl) ?_
    exact u7 (by repeat constructor) (mq7 hs ho hr hw hB hend t)
  refine w9 (v := int j) rfl rfl (fun h => by cases h) T.i7 rfl (L9 (vs := #[int j]) (List.mem_cons_of_mem _ (List.mem_cons_self ..)) rfl) ?_; exact u7 (by repeat constructor) (mq6 hs ho hr hw hB hend t)
theorem qx9 (hs : 0 ≤ s ∧ s ≤ 1000000) (ho : 0 ≤ off ∧ off ≤ 100) (hr : RuleAt W Fc Lf o off r) (hw : how = 57 ∨ how = 58) (hB : Base W Fc Lf o how b3 b6 b7) (hend : TC (.fol (ph W Fc Lf o N v) (.send1 j)) ⟨Tryz.prog, Tryz.f88.ntmps, ⟨W, [], fun _ => False⟩, [], none⟩ (baseD 88) cs (n + 20) (.inRegion o118 [6] :: k) [(10, .agg #[int j, int (numN how off r s)]), (9, int (numN how off r s)), (8, .agg #[int s, ruleV r]), (7, .func (.func how) #[] #[]), (6, int j), (5, .chan (some Fc)), (0, .pointer (b4 b6)), (1, .pointer (b4 g8)), (2, .pointer (b4 b3)), (3, .pointer (b4 g9)), (4, .pointer (b4 b7))] [(g9, Obj.cells #[int s, ruleV r] 95 (0, 0)), (g8, Obj.cells #[int j] 3 (0, 0))]) : TA (.fol (ph W Fc Lf o N v) (.send1 j)) ⟨Tryz.prog, Tryz.f88.ntmps, ⟨W, [], fun _ => False⟩, [], none⟩ (baseD 88) cs k o118 (n + 124) 5 #[true, true, false, false, false, false, false] [(6, int j), (5, .chan (some Fc)), (0, .pointer (b4 b6)), (1, .pointer (b4 g8)), (2, .pointer (b4 b3)), (3, .pointer (b4 g9)), (4, .pointer (b4 b7))] [(g9, Obj.cells #[int s, ruleV r] 95 (0, 0)), (g8, Obj.cells #[int j] 3 (0, 0))] := by
  refine C6 (l := [2, 3]) (by kernel_rfl) (by simp) fun j hj rest hr => ?_; obtain ⟨t, rfl⟩ := hr; simp only [List.mem_cons, List.not_mem_nil, or_false] at hj
  rcases hj with rfl | rfl
  · refine w9 (v := .func (.func how) #[] #[]) rfl rfl (fun h => by cases h) T.y8 rfl (C7 hB.h3 hB.n3.1 hB.n3.2.1 hB.n3.2.2 rfl) ?_
    exact u7 (by repeat constructor) (lj3 hs ho hr hw hB hend t)
  refine N8 (vs := [int s, ruleV r]) rfl rfl (fun h => by cases h) T.B3 T.w5 rfl rfl (Q2 (vs := #[int s, ruleV r]) (List.mem_cons_self ..) fun i u hu => by rw [Nat.zero_add]; simpa using hu) ?_; exact u7 (by repeat constructor) (ij9 hs ho hr hw hB hend t)
theorem qx8 (hs : 0 ≤ s ∧ s ≤ 1000000) (ho : 0 ≤ off ∧ off ≤ 100) (hr : RuleAt W Fc Lf o off r) (hw : how = 57 ∨ how = 58) (hB : Base W Fc Lf o how b3 b6 b7) (hend : TC (.fol (ph W Fc Lf o N v) (.send1 j)) ⟨Tryz.prog, Tryz.f88.ntmps, ⟨W, [], fun _ => False⟩, [], none⟩ (baseD 88) cs (n + 20) (.inRegion o118 [6] :: k) [(10, .agg #[int j, int (numN how off r s)]), (9, int (numN how off r s)), (8, .agg #[int s, ruleV r]), (7, .func (.func how) #[] #[]), (6, int j), (5, .chan (some Fc)), (0, .pointer (b4 b6)), (1, .pointer (b4 g8)), (2, .pointer (b4 b3)), (3, .pointer (b4 g9)), (4, .pointer (b4 b7))] [(g9, Obj.cells #[int s, ruleV r] 95 (0, 0)), (g8, Obj.cells #[int j] 3 (0, 0))]) : TA (.fol (ph W Fc Lf o N v) (.send1 j)) ⟨Tryz.prog, Tryz.f88.ntmps, ⟨W, [], fun _ => False⟩, [], none⟩ (baseD 88) cs k o118 (n + 124) 5 #[true, false, true, false, false, false, false] [(7, .func (.func how) #[] #[]), (5, .chan (some Fc)), (0, .pointer (b4 b6)), (1, .pointer (b4 g8)), (2, .pointer (b4 b3)), (3, .pointer (b4 g9)), (4, .pointer (b4 b7))] [(g9, Obj.cells #[int s, ruleV r] 95 (0, 0)), (g8, Obj.cells #[int j] 3 (0, 0))] := by
  refine C6 (l := [1, 3]) (by kernel_rfl) (by simp) fun j hj rest hr => ?_; obtain ⟨t, rfl⟩ := hr; simp only [List.mem_cons, List.not_mem_nil, or_false] at hj
  rcases hj with rfl | rfl
  · refine w9 (v := int j) rfl rfl (fun h => by cases h) T.i7 rfl (L9 (vs := #[int j]) (List.mem_cons_of_mem _ (List.mem_cons_self ..)) rfl) ?_
    exact u7 (by repeat constructor) (lj3 hs ho hr hw hB hend t)
  refine N8 (vs := [int s, ruleV r]) rfl rfl (fun h => by cases h) T.B3 T.w5 rfl rfl (Q2 (vs := #[int s, ruleV r]) (List.mem_cons_self ..) fun i u hu => by rw [Nat.zero_add]; simpa using hu) ?_; exact u7 (by repeat constructor) (ij8 hs ho hr hw hB hend t)
theorem qx7 (hs : 0 ≤ s ∧ s ≤ 1000000) (ho : 0 ≤ off ∧ off ≤ 100) (hr : RuleAt W Fc Lf o off r) (hw : how = 57 ∨ how = 58) (hB : Base W Fc Lf o how b3 b6 b7) (hend : TC (.fol (ph W Fc Lf o N v) (.send1 j)) ⟨Tryz.prog, Tryz.f88.ntmps, ⟨W, [], fun _ => False⟩, [], none⟩ (baseD 88) cs (n + 20) (.inRegion o118 [6] :: k) [(10, .agg #[int j, int (numN how off r s)]), (9, int (numN how off r s)), (8, .agg #[int s, ruleV r]), (7, .func (.func how) #[] #[]), (6, int j), (5, .chan (some Fc)), (0, .pointer (b4 b6)), (1, .pointer (b4 g8)), (2, .pointer (b4 b3)), (3, .pointer (b4 g9)), (4, .pointer (b4 b7))] [(g9, Obj.cells #[int s, ruleV r] 95 (0, 0)), (g8, Obj.cells #[int j] 3 (0, 0))]) : TA (.fol (ph W Fc Lf o N v) (.send1 j)) ⟨Tryz.prog, Tryz.f88.ntmps, ⟨W, [], fun _ => False⟩, [], none⟩ (baseD 88) cs k o118 (n + 124) 5 #[false, true, true, false, false, false, false] [(7, .func (.func how) #[] #[]), (6, int j), (0, .pointer (b4 b6)), (1, .pointer (b4 g8)), (2, .pointer (b4 b3)), (3, .pointer (b4 g9)), (4, .pointer (b4 b7))] [(g9, Obj.cells #[int s, ruleV r] 95 (0, 0)), (g8, Obj.cells #[int j] 3 (0, 0))] := by
  refine C6 (l := [0, 3]) (by kernel_rfl) (by simp) fun j hj rest hr => ?_; obtain ⟨t, rfl⟩ := hr; simp only [List.mem_cons, List.not_mem_nil, or_false] at hj
  rcases hj with rfl | rfl
  · refine w9 (v := .chan (some Fc)) rfl rfl (fun h => by cases h) T.u3 rfl (C7 hB.h6 hB.n6.1 hB.n6.2.1 hB.n6.2.2 rfl) ?_
    exact u7 (by repeat constructor) (lj3 hs ho hr hw hB hend t)
  refine N8 (vs := [int s, ruleV r]) rfl rfl (fun h => by cases h) T.B3 T.w5 rfl rfl (Q2 (vs := #[int s, ruleV r]) (List.mem_cons_self ..) fun i u hu => by rw [Nat.zero_add]; simpa using hu) ?_; exact u7 (by repeat constructor) (ij7 hs ho hr hw hB hend t)
theorem qx6 (hs : 0 ≤ s ∧ s ≤ 1000000) (ho : 0 ≤ off ∧ off ≤ 100) (hr : RuleAt W Fc Lf o off r) (hw : how = 57 ∨ how = 58) (hB : Base W Fc Lf o how b3 b6 b7) (hend : TC (.fol (ph W Fc Lf o N v) (.send1 j)) ⟨Tryz.prog, Tryz.f88.ntmps, ⟨W, [], fun _ => False⟩, [], none⟩ (baseD 88) cs (n + 20) (.inRegion o118 [6] :: k) [(10, .agg #[int j, int (numN how off r s)]), (9, int (numN how off r s)), (8, .agg #[int s, ruleV r]), (7, .func (.func how) #[] #[]), (6, int j), (5, .chan (some Fc)), (0, .pointer (b4 b6)), (1, .pointer (b4 g8)), (2, .pointer (b4 b3)), (3, .pointer (b4 g9)), (4, .pointer (b4 b7))] [(g9, Obj.cells #[int s, ruleV r] 95 (0, 0)), (g8, Obj.cells #[int j] 3 (0, 0))]) : TA (.fol (ph W Fc Lf o N v) (.send1 j)) ⟨Tryz.prog, Tryz.f88.ntmps, ⟨W, [], fun _ => False⟩, [], none⟩ (baseD 88) cs k o118 (n + 124) 5 #[true, false, false, true, false, false, false] [(8, .agg #[int s, ruleV r]), (5, .chan (some Fc)), (0, .pointer (b4 b6)), (1, .pointer (b4 g8)), (2, .pointer (b4 b3)), (3, .pointer (b4 g9)), (4, .pointer (b4 b7))] [(g9, Obj.cells #[int s, ruleV r] 95 (0, 0)), (g8, Obj.cells #[int j] 3 (0, 0))] := by
  refine C6 (l := [1, 2]) (by kernel_rfl) (by simp) fun j hj rest hr => ?_; obtain ⟨t, rfl⟩ := hr; simp only [List.mem_cons, List.not_mem_nil, or_false] at hj
  rcases hj with rfl | rfl
  · refine w9 (v := int j) rfl rfl (fun h => by cases h) T.i7 rfl (L9 (vs := #[int j]) (List.mem_cons_of_mem _ (List.mem_cons_self ..)) rfl) ?_
    exact u7 (by repeat constructor) (ij9 hs ho hr hw hB hend t)
  refine w9 (v := .func (.func how) #[] #[]) rfl rfl (fun h => by cases h) T.y8 rfl (C7 hB.h3 hB.n3.1 hB.n3.2.1 hB.n3.2.2 rfl) ?_; exact u7 (by repeat constructor) (ij8 hs ho hr hw hB hend t)
theorem mq9 (hs : 0 ≤ s ∧ s ≤ 1000000) (ho : 0 ≤ off ∧ off ≤ 100) (hr : RuleAt W Fc Lf o off r) (hw : how = 57 ∨ how = 58) (hB : Base W Fc Lf o how b3 b6 b7) (hend : TC (.fol (ph W Fc Lf o N v) (.send1 j)) ⟨Tryz.prog, Tryz.f88.ntmps, ⟨W, [], fun _ => False⟩, [], none⟩ (baseD 88) cs (n + 20) (.inRegion o118 [6] :: k) [(10, .agg #[int j, int (numN how off r s)]), (9, int (numN how off r s)), (8, .agg #[int s, ruleV r]), (7, .func (.func how) #[] #[]), (6, int j), (5, .chan (some Fc)), (0, .pointer (b4 b6)), (1, .pointer (b4 g8)), (2, .pointer (b4 b3)), (3, .pointer (b4 g9)), (4, .pointer (b4 b7))] [(g9, Obj.cells #[int s, ruleV r] 95 (0, 0)), (g8, Obj.cells #[int j] 3 (0, 0))]) : TA (.fol (ph W Fc Lf o N v) (.send1 j)) ⟨Tryz.prog, Tryz.f88.ntmps, ⟨W, [], fun _ => False⟩, [], none⟩ (baseD 88) cs k o118 (n + 124) 5 #[false, true, false, true, false, false, false] [(8, .agg #[int s, ruleV r]), (6, int j), (0, .pointer (b4 b6)), (1, .pointer (b4 g8)), (2, .pointer (b4 b3)), (3, .pointer (b4 g9)), (4, .pointer (b4 b7))] [(g9, Obj.cells #[int s, ruleV r] 95 (0, 0)), (g8, Obj.cells #[int j] 3 (0, 0))] := by
  refine C6 (l := [0, 2]) (by kernel_rfl) (by simp) fun j hj rest hr => ?_; obtain ⟨t, rfl⟩ := hr; simp only [List.mem_cons, List.not_mem_nil, or_false] at hj
  rcases hj with rfl | rfl
  · refine w9 (v := .chan (some Fc)) rfl rfl (fun h => by cases h) T.u3 rfl (C7 hB.h6 hB.n6.1 hB.n6.2.1 hB.n6.2.2 rfl) ?_
    exact u7 (by repeat constructor) (ij9 hs ho hr hw hB hend t)
  refine w9 (v := .func (.func how) #[] #[]) rfl rfl (fun h => by cases h) T.y8 rfl (C7 hB.h3 hB.n3.1 hB.n3.2.1 hB.n3.2.2 rfl) ?_; exact u7 (by repeat constructor) (ij7 hs ho hr hw hB hend t)
theorem mq8 (hs : 0 ≤ s ∧ s ≤ 1000000) (ho : 0 ≤ off ∧ off ≤ 100) (hr : RuleAt W Fc Lf o off r) (hw : how = 57 ∨ how = 58) (hB : Base W Fc Lf o how b3 b6 b7) (hend : TC (.fol (ph W Fc Lf o N v) (.send1 j)) ⟨Tryz.prog, Tryz.f88.ntmps, ⟨W, [], fun _ => False⟩, [], none⟩ (baseD 88) cs (n + 20) (.inRegion o118 [6] :: k) [(10, .agg #[int j, int (numN how off r s)]), (9, int (numN how off r s)), (8, .agg #[int s, ruleV r]), (7, .func (.func how) #[] #[]), (6, int j), (5, .chan (some Fc)), (0, .pointer (b4 b6)), (1, .pointer (b4 g8)), (2, .pointer (b4 b3)), (3, .pointer (b4 g9)), (4, .pointer (b4 b7))] [(g9, Obj.cells #[int s, ruleV r] 95 (0, 0)), (g8, Obj.cells #[int j] 3 (0, 0))]) : TA (.fol (ph W Fc Lf o N v) (.send1 j)) ⟨Tryz.prog, Tryz.f88.ntmps, ⟨W, [], fun _ => False⟩, [], none⟩ (baseD 88) cs k o118 (n + 124) 5 #[false, false, true, true, false, false, false] [(8, .agg #[int s, ruleV r]), (7, .func (.func how) #[] #[]), (0, .pointer (b4 b6)), (1, .pointer (b4 g8)), (2, .pointer (b4 b3)), (3, .pointer (b4 g9)), (4, .pointer (b4 b7))] [(g9, Obj.cells #[int s, ruleV r] 95 (0, 0)), (g8, Obj.cells #[int j] 3 (0, 0))] := by
  refine C6 (l := [0, 1, 4]) (by kernel_rfl) (by simp) fun j hj rest hr => ?_; obtain ⟨t, rfl⟩ := hr; simp only [List.mem_cons, List.not_mem_nil, or_false] at hj
  rcases hj with rfl | rfl | rfl
  · refine w9 (v := .chan (some Fc)) rfl rfl (fun h => by cases h) T.u3 rfl (C7 hB.h6 hB.n6.1 hB.n6.2.1 hB.n6.2.2 rfl) ?_
    exact u7 (by repeat constructor) (ij8 hs ho hr hw hB hend t)
  · refine w9 (v := int j) rfl rfl (fun h => by cases h) T.i7 rfl (L9 (vs := #[int j]) (List.mem_cons_of_mem _ (List.mem_cons_self ..)) rfl) ?_
    exact u7 (by repeat constructor) (ij7 hs ho hr hw hB hend t)
  refine Y9 (m := 100) (f := how) (cap := []) (vs := [.agg #[int s, ruleV r]]) rfl rfl (fun h => by cases h) (iq6 hw) rfl rfl (iz3 s off r hs ho hr hw) ?_; exact u7 (by repeat constructor) (s118_28 hs ho hr hw hB hend t)
theorem s118_1 (hs : 0 ≤ s ∧ s ≤ 1000000) (ho : 0 ≤ off ∧ off ≤ 100) (hr : RuleAt W Fc Lf o off r) (hw : how = 57 ∨ how = 58) (hB : Base W Fc Lf o how b3 b6 b7) (hend : TC (.fol (ph W Fc Lf o N v) (.send1 j)) ⟨Tryz.prog, Tryz.f88.ntmps, ⟨W, [], fun _ => False⟩, [], none⟩ (baseD 88) cs (n + 20) (.inRegion o118 [6] :: k) [(10, .agg #[int j, int (numN how off r s)]), (9, int (numN how off r s)), (8, .agg #[int s, ruleV r]), (7, .func (.func how) #[] #[]), (6, int j), (5, .chan (some Fc)), (0, .pointer (b4 b6)), (1, .pointer (b4 g8)), (2, .pointer (b4 b3)), (3, .pointer (b4 g9)), (4, .pointer (b4 b7))] [(g9, Obj.cells #[int s, ruleV r] 95 (0, 0)), (g8, Obj.cells #[int j] 3 (0, 0))]) : TA (.fol (ph W Fc Lf o N v) (.send1 j)) ⟨Tryz.prog, Tryz.f88.ntmps, ⟨W, [], fun _ => False⟩, [], none⟩ (baseD 88) cs k o118 (n + 125) 6 #[true, false, false, false, false, false, false] [(5, .chan (some Fc)), (0, .pointer (b4 b6)), (1, .pointer (b4 g8)), (2, .pointer (b4 b3)), (3, .pointer (b4 g9)), (4, .pointer (b4 b7))] [(g9, Obj.cells #[int s, ruleV r] 95 (0, 0)), (g8, Obj.cells #[int j] 3 (0, 0))] := by
  refine C6 (l := [1, 2, 3]) (by kernel_rfl) (by simp) fun j hj rest hr => ?_; obtain ⟨t, rfl⟩ := hr; simp only [List.mem_cons, List.not_mem_nil, or_false] at hj
  rcases hj with rfl | rfl | rfl
  · refine w9 (v := int j) rfl rfl (fun h => by cases h) T.i7 rfl (L9 (vs := #[int j]) (List.mem_cons_of_mem _ (List.mem_cons_self ..)) rfl) ?_
    exact u7 (by repeat constructor) (qx9 hs ho hr hw hB hend t)
  · refine w9 (v := .func (.func how) #[] #[]) rfl rfl (fun h => by cases h) T.y8 rfl (C7 hB.h3 hB.n3.1 hB.n3.2.1 hB.n3.2.2 rfl) ?_
    exact u7 (by repeat constructor) (qx8 hs ho hr hw hB hend t)
  refine N8 (vs := [int s, ruleV r]) rfl rfl (fun h => by cases h) T.B3 T.w5 rfl rfl (Q2 (vs := #[int s, ruleV r]) (List.mem_cons_self ..) fun i u hu => by rw [Nat.zero_add]; simpa using hu) ?_; exact u7 (by repeat constructor) (qx6 hs ho hr hw hB hend t)
theorem s118_2 (hs : 0 ≤ s ∧ s ≤ 1000000) (ho : 0 ≤ off ∧ off ≤ 100) (hr : RuleAt W Fc Lf o off r) (hw : how = 57 ∨ how = 58) (hB : Base W Fc Lf o how b3 b6 b7) (hend : TC (.fol (ph W Fc Lf o N v) (.send1 j)) ⟨Tryz.prog, Tryz.f88.ntmps, ⟨W, [], fun _ => False⟩, [], none⟩ (baseD 88) cs (n + 20) (.inRegion o118 [6] :: k) [(10, .agg #[int j, int (numN how off r s)]), (9, int (numN how off r s)), (8, .agg #[int s, ruleV r]), (7, .func (.func how) #[] #[]), (6, int j), (5, .chan (some Fc)), (0, .pointer (b4 b6)), (1, .pointer (b4 g8)), (2, .pointer (b4 b3)), (3, .pointer (b4 g9)), (4, .pointer (b4 b7))] [(g9, Obj.cells #[int s, ruleV r] 95 (0, 0)), (g8, Obj.cells #[int j] 3 (0, 0))]) : TA (.fol (ph W Fc Lf o N v) (.send1 j)) ⟨Tryz.prog, Tryz.f88.ntmps, ⟨W, [], fun _ => False⟩, [], none⟩ (baseD 88) cs k o118 (n + 125) 6 #[false, true, false, false, false, false, false] [(6, int j), (0, .pointer (b4 b6)), (1, .pointer (b4 g8)), (2, .pointer (b4 b3)), (3, .pointer (b4 g9)), (4, .pointer (b4 b7))] [(g9, Obj.cells #[int s, ruleV r] 95 (0, 0)), (g8, Obj.cells #[int j] 3 (0, 0))] := by
  refine C6 (l := [0, 2, 3]) (by kernel_rfl) (by simp) fun j hj rest hr => ?_; obtain ⟨t, rfl⟩ := hr; simp only [List.mem_cons, List.not_mem_nil, or_false] at hj
  rcases hj with rfl | rfl | rfl
  · refine w9 (v := .chan (some Fc)) rfl rfl (fun h => by cases h) T.u3 rfl (C7 hB.h6 hB.n6.1 hB.n6.2.1 hB.n6.2.2 rfl) ?_
    exact u7 (by repeat constructor) (qx9 hs ho hr hw hB hend t)
  · refine w9 (v := .func (.func how) #[] #[]) rfl rfl (fun h => by cases h) T.y8 rfl (C7 hB.h3 hB.n3.1 hB.n3.2.1 hB.n3.2.2 rfl) ?_
    exact u7 (by repeat constructor) (qx7 hs ho hr hw hB hend t)
  refine N8 (vs := [int s, ruleV r]) rfl rfl (fun h => by cases h) T.B3 T.w5 rfl rfl (Q2 (vs := #[int s, ruleV r]) (List.mem_cons_self ..) fun i u hu => by rw [Nat.zero_add]; simpa using hu) ?_; exact u7 (by repeat constructor) (mq9 hs ho hr hw hB hend t)
theorem s118_4 (hs : 0 ≤ s ∧ s ≤ 1000000) (ho : 0 ≤ off ∧ off ≤ 100) (hr : RuleAt W Fc Lf o off r) (hw : how = 57 ∨ how = 58) (hB : Base W Fc Lf o how b3 b6 b7) (hend : TC (.fol (ph W Fc Lf o N v) (.send1 j)) ⟨Tryz.prog, Tryz.f88.ntmps, ⟨W, [], fun _ => False⟩, [], none⟩ (baseD 88) cs (n + 20) (.inRegion o118 [6] :: k) [(10, .agg #[int j, int (numN how off r s)]), (9, int (numN how off r s)), (8, .agg #[int s, ruleV r]), (7, .func (.func how) #[] #[]), (6, int j), (5, .chan (some Fc)), (0, .pointer (b4 b6)), (1, .pointer (b4 g8)), (2, .pointer (b4 b3)), (3, .pointer (b4 g9)), (4, .pointer (b4 b7))] [(g9, Obj.cells #[int s, ruleV r] 95 (0, 0)), (g8, Obj.cells #[int j] 3 (0, 0))]) : TA (.fol (ph W Fc Lf o N v) (.send1 j)) ⟨Tryz.prog, Tryz.f88.ntmps, ⟨W, [], fun _ => False⟩, [], none⟩ (baseD 88) cs k o118 (n + 125) 6 #[false, false, true, false, false, false, false] [(7, .func (.func how) #[] #[]), (0, .pointer (b4 b6)), (1, .pointer (b4 g8)), (2, .pointer (b4 b3)), (3, .pointer (b4 g9)), (4, .pointer (b4 b7))] [(g9, Obj.cells #[int s, ruleV r] 95 (0, 0)), (g8, Obj.cells #[int j] 3 (0, 0))] := by
  refine C6 (l := [0, 1, 3]) (by kernel_rfl) (by simp) fun j hj rest hr => ?_; obtain ⟨t, rfl⟩ := hr; simp only [List.mem_cons, List.not_mem_nil, or_false] at hj
  rcases hj with rfl | rfl | rfl
  · refine w9 (v := .chan (some Fc)) rfl rfl (fun h => by cases h) T.u3 rfl (C7 hB.h6 hB.n6.1 hB.n6.2.1 hB.n6.2.2 rfl) ?_
    exact u7 (by repeat constructor) (qx8 hs ho hr hw hB hend t)
  · refine w9 (v := int j) rfl rfl (fun h => by cases h) T.i7 rfl (L9 (vs := #[int j]) (List.mem_cons_of_mem _ (List.mem_cons_self ..)) rfl) ?_
    exact u7 (by repeat constructor) (qx7 hs ho hr hw hB hend t)
  refine N8 (vs := [int s, ruleV r]) rfl rfl (fun h => by cases h) T.B3 T.w5 rfl rfl (Q2 (vs := #[int s, ruleV r]) (List.mem_cons_self ..) fun i u hu => by rw [Nat.zero_add]; simpa using hu) ?_; exact u7 (by repeat constructor) (mq8 hs ho hr hw hB hend t)
theorem s118_8 (hs : 0 ≤ s ∧ s ≤ 1000000) (ho : 0 ≤ off ∧ off ≤ 100) (hr : RuleAt W Fc Lf o off r) (hw : how = 57 ∨ how = 58) (hB : Base W Fc Lf o how b3 b6 b7) (hend : TC (.fol (ph W Fc Lf o N v) (.send1 j)) ⟨Tryz.prog, Tryz.f88.ntmps, ⟨W, [], fun _ => False⟩, [], none⟩ (baseD 88) cs (n + 20) (.inRegion o118 [6] :: k) [(10, .agg #[int j, int (numN how off r s)]), (9, int (numN how off r s)), (8, .agg #[int s, ruleV r]), (7, .func (.func how) #[] #[]), (6, int j), (5, .chan (some Fc)), (0, .pointer (b4 b6)), (1, .pointer (b4 g8)), (2, .pointer (b4 b3)), (3, .pointer (b4 g9)), (4, .pointer (b4 b7))] [(g9, Obj.cells #[int s, ruleV r] 95 (0, 0)), (g8, Obj.cells #[int j] 3 (0, 0))]) : TA (.fol (ph W Fc Lf o N v) (.send1 j)) ⟨Tryz.prog, Tryz.f88.ntmps, ⟨W, [], fun _ => False⟩, [], none⟩ (baseD 88) cs k o118 (n + 125) 6 #[false, false, false, true, false, false, false] [(8, .agg #[int s, ruleV r]), (0, .pointer (b4 b6)), (1, .pointer (b4 g8)), (2, .pointer (b4 b3)), (3, .pointer (b4 g9)), (4, .pointer (b4 b7))] [(g9, Obj.cells #[int s, ruleV r] 95 (0, 0)), (g8, Obj.cells #[int j] 3 (0, 0))] := by
  refine C6 (l := [0, 1, 2]) (by kernel_rfl) (by simp) fun j hj rest hr => ?_; obtain ⟨t, rfl⟩ := hr; simp only [List.mem_cons, List.not_mem_nil, or_false] at hj
  rcases hj with rfl | rfl | rfl
  · refine w9 (v := .chan (some Fc)) rfl rfl (fun h => by cases h) T.u3 rfl (C7 hB.h6 hB.n6.1 hB.n6.2.1 hB.n6.2.2 rfl) ?_
    exact u7 (by repeat constructor) (qx6 hs ho hr hw hB hend t)
  · refine w9 (v := int j) rfl rfl (fun h => by cases h) T.i7 rfl (L9 (vs := #[int j]) (List.mem_cons_of_mem _ (List.mem_cons_self ..)) rfl) ?_
    exact u7 (by repeat constructor) (mq9 hs ho hr hw hB hend t)
  refine w9 (v := .func (.func how) #[] #[]) rfl rfl (fun h => by cases h) T.y8 rfl (C7 hB.h3 hB.n3.1 hB.n3.2.1 hB.n3.2.2 rfl) ?_; exact u7 (by repeat constructor) (mq8 hs ho hr hw hB hend t)
theorem s118_0 (hs : 0 ≤ s ∧ s ≤ 1000000) (ho : 0 ≤ off ∧ off ≤ 100) (hr : RuleAt W Fc Lf o off r) (hw : how = 57 ∨ how = 58) (hB : Base W Fc Lf o how b3 b6 b7) (hend : TC (.fol (ph W Fc Lf o N v) (.send1 j)) ⟨Tryz.prog, Tryz.f88.ntmps, ⟨W, [], fun _ => False⟩, [], none⟩ (baseD 88) cs (n + 20) (.inRegion o118 [6] :: k) [(10, .agg #[int j, int (numN how off r s)]), (9, int (numN how off r s)), (8, .agg #[int s, ruleV r]), (7, .func (.func how) #[] #[]), (6, int j), (5, .chan (some Fc)), (0, .pointer (b4 b6)), (1, .pointer (b4 g8)), (2, .pointer (b4 b3)), (3, .pointer (b4 g9)), (4, .pointer (b4 b7))] [(g9, Obj.cells #[int s, ruleV r] 95 (0, 0)), (g8, Obj.cells #[int j] 3 (0, 0))]) : TA (.fol (ph W Fc Lf o N v) (.send1 j)) ⟨Tryz.prog, Tryz.f88.ntmps, ⟨W, [], fun _ => False⟩, [], none⟩ (baseD 88) cs k o118 (n + 126) 7 #[false, false, false, false, false, false, false] [(0, .pointer (b4 b6)), (1, .pointer (b4 g8)), (2, .pointer (b4 b3)), (3, .pointer (b4 g9)), (4, .pointer (b4 b7))] [(g9, Obj.cells #[int s, ruleV r] 95 (0, 0)), (g8, Obj.cells #[int j] 3 (0, 0))] := by
  refine C6 (l := [0, 1, 2, 3]) (by kernel_rfl) (by simp) fun j hj rest hr => ?_; obtain ⟨t, rfl⟩ := hr; simp only [List.mem_cons, List.not_mem_nil, or_false] at hj
  rcases hj with rfl | rfl | rfl | rfl
  · refine w9 (v := .chan (some Fc)) rfl rfl (fun h => by cases h) T.u3 rfl (C7 hB.h6 hB.n6.1 hB.n6.2.1 hB.n6.2.2 rfl) ?_
    exact u7 (by repeat constructor) (s118_1 hs ho hr hw hB hend t)
  · refine w9 (v := int j) rfl rfl (fun h => by cases h) T.i7 rfl (L9 (vs := #[int j]) (List.mem_cons_of_mem _ (List.mem_cons_self ..)) rfl) ?_
    exact u7 (by repeat constructor) (s118_2 hs ho hr hw hB hend t)
  · refine w9 (v := .func (.func how) #[] #[]) rfl rfl (fun h => by cases h) T.y8 rfl (C7 hB.h3 hB.n3.1 hB.n3.2.1 hB.n3.2.2 rfl) ?_
    exact u7 (by repeat constructor) (s118_4 hs ho hr hw hB hend t)
  refine N8 (vs := [int s, ruleV r]) rfl rfl (fun h => by cases h) T.B3 T.w5 rfl rfl (Q2 (vs := #[int s, ruleV r]) (List.mem_cons_self ..) fun i u hu => by rw [Nat.zero_add]; simpa using hu) ?_; exact u7 (by repeat constructor) (s118_8 hs ho hr hw hB hend t)
end
theorem fol_w {how b3 b6 b7 g8 g9 j : Nat} {s off : Int} {r : Option Nat} (hs : 0 ≤ s ∧ s ≤ 1000000) (ho : 0 ≤ off ∧ off ≤ 100) (hr : RuleAt W Fc Lf o off r) (hw : how = 57 ∨ how = 58) (hB : Base W Fc Lf o how b3 b6 b7) (hv : v j = .agg #[int j, int (numN how off r s)]) :
    Fol (ph W Fc Lf o N v) 300 (.send1 j) (born Tryz.prog ⟨.fn (.func 88) [Value.pointer (b4 b6), .pointer (b4 g8), .pointer (b4 b3), .pointer (b4 g9), .pointer (b4 b7)].toArray, #[]⟩).frame [] [(g9, Obj.cells #[int s, ruleV r] 95 (0, 0)), (g8, Obj.cells #[int j] 3 (0, 0))] := by
  refine kj9 (m := 299) (p := ph W Fc Lf o N v) F.lG rfl rfl ⟨W, [], fun _ => False⟩ t4 ?_; refine G7 ?_; refine R9 (m := 150 + 20 + 106 + 1) (by omega) (bq5 mixed ?_); refine (fun t => s118_0 hs ho hr hw hB ?_ t); refine sx2 (j := j) rfl (fun h => by cases h) rfl (by show _ = some (v j); rw [hv]; rfl) ?_; refine J1 (A9 ?_); refine w9 (v := .chan (some Lf)) rfl rfl (fun h => by cases h) T.pG rfl (C7 hB.h7 hB.n7.1 hB.n7.2.1 hB.n7.2.2 rfl) ?_; refine sx1 rfl (fun h => by cases h) rfl rfl fun a ha => ?_; refine QuitsD.ctl rfl (fun w => stepG_region_end) ?_; refine QuitsD.ctl rfl (fun w => stepG_end) ?_; exact zI (bx7 F.lG rfl ha.d) (by omega)
end Go.Proofs.YtdlbbfcfahahdaaGreat
end
section
namespace Go.Proofs.YtdlbbfcfahahdaaGreat
open Go Go.W Go.Conc
set_option maxRecDepth 20000
attribute [local irreducible] HL HC HQ HB Row Rows2 Blk Facts
set_option maxRecDepth 20000
def blockAt (id : Nat) : Code → Code
  | .block i x => if i = id then x else blockAt id x
  | .seq x y => match blockAt id x with
    | .skip => blockAt id y
    | c => c
  | .loop x => blockAt id x
  | .cond _ x y => match blockAt id x with
    | .skip => blockAt id y
    | c => c
  | _ => .skip
def unLoop : Code → Code
  | .loop x => x
  | _ => .skip
variable {W : World} {Fc Lf o N : Nat} {v : Nat → Value} {hp : Hq}
noncomputable def body119 : Code := unLoop (blockAt 0 (Tryz.f89.body.getD .skip))
theorem loop119 {b3 b5 b6 b7 how : Nat} {c : Cx} {cs : List Frame} {k : List Item} (hP : c.P = Tryz.prog) (hn : c.n = 11) (hN : N ≤ 1000) (hB : Base W Fc Lf o how b3 b6 b7)
    (hend : TC (.fol (ph W Fc Lf o N v) .close) c (baseD 89) cs 20 k [(4, int N), (0, .pointer (b4 b5)), (1, .pointer (b4 b7)), (2, .pointer (b4 b6))] hp) :
    ∀ (m i : Nat), i + m = N → TC (.fol (ph W Fc Lf o N v) (nxt m)) c (baseD 89) cs (30 * m + 30) (.code body119 :: .inLoop body119 :: .inBlock 0 :: k) [(5, int i), (4, int N), (0, .pointer (b4 b5)), (1, .pointer (b4 b7)), (2, .pointer (b4 b6))] hp := by
  obtain ⟨P, cn, cb, D, rd⟩ := c; simp only at hP hn; subst hP hn; intro m
  induction m with
  | zero =>
    intro i hi; refine G7 (A9 ?_); refine hx5 rfl rfl (fun h => by cases h) rfl rfl ?_; refine J1 (G7 ?_); refine uO false (by show some (Value.bool (decide ((i : Int) < (N : Int)))) = _; rw [decide_eq_false (by omega)]) ?_; refine mq3 k rfl ?_; exact R9 (m := 20) (by omega) (u7 (by repeat constructor) hend)
  | succ m ih =>
    intro i hi; rw [show 30 * (m + 1) + 30 = (30 * m + 30) + 30 by omega]; refine G7 (A9 ?_); refine hx5 rfl rfl (fun h => by cases h) rfl rfl ?_; refine J1 (G7 ?_); refine uO true (by show some (Value.bool (decide ((i : Int) < (N : Int)))) = _; rw [decide_eq_true (by omega)]) ?_; refine hx9 (G7 (hJ (A9 ?_))); refine w9 (v := .chan (some Lf)) rfl rfl (fun h => by cases h) T.pG rfl (C7 hB.h7 hB.n7.1 hB.n7.2.1 hB.n7.2.2 rfl) ?_; refine at_recv rfl rfl (fun h => by cases h) Tryz.underlying137 (z := .bool false) (fun _ => by kernel_rfl) rfl ?_; refine J1 (rT (A9 ?_)); refine kz9 ((i + 1 : Nat) : Int) rfl rfl (fun h => by cases h) rfl rfl (by omega) m6 ?_; refine pR rfl rfl (fun h => by cases h) rfl ?_; refine J1 (gq4 ?_); exact R9 (m := 30 * m + 30) (by omega) (u7 (by repeat constructor) (ih (i + 1) (by omega)))
theorem fol_c {how b3 b5 b6 b7 : Nat} (hN : N ≤ 1000) (hB : Base W Fc Lf o how b3 b6 b7) {fz : Nat × Nat} (h5 : W.heap[b5]? = some (.cells #[.slice (b4 o) N N] 24 fz)) (n5 : b5 ≠ Fc ∧ b5 ≠ Lf ∧ b5 ≠ o) :
    Fol (ph W Fc Lf o N v) (60 * N + 60) (nxt N) (born Tryz.prog ⟨.fn (.func 89) [Value.pointer (b4 b5), .pointer (b4 b7), .pointer (b4 b6)].toArray, #[]⟩).frame [] [] := by
  refine kj9 (m := 60 * N + 59) (p := ph W Fc Lf o N v) F.lF rfl rfl ⟨W, [], fun _ => False⟩ t4 (R9 (m := 30 * N + 30 + 10) (by omega) ?_); refine G7 (G7 (A9 ?_)); refine w9 (v := .slice (b4 o) N N) rfl rfl (fun h => by cases h) T.m8 rfl (C7 h5 n5.1 n5.2.1 n5.2.2 rfl) ?_; refine tr_len rfl rfl (fun h => by cases h) Tryz.underlying24 rfl ?_; refine pR rfl rfl (fun h => by cases h) rfl ?_; refine J1 (hJ (hz8 ?_)); refine R9 (m := 30 * N + 30) (by omega) ?_; refine u7 (by repeat constructor) (loop119 (b3 := b3) (b5 := b5) (b6 := b6) (b7 := b7) (how := how) rfl rfl hN hB ?_ N 0 (by omega)); refine A9 ?_; refine w9 (v := .chan (some Fc)) rfl rfl (fun h => by cases h) T.u3 rfl (C7 hB.h6 hB.n6.1 hB.n6.2.1 hB.n6.2.2 rfl) ?_; refine sx5 rfl (fun h => by cases h) rfl rfl (by kernel_rfl) fun a ha => ?_; refine QuitsD.ctl rfl (fun w => stepG_region_end) ?_; refine QuitsD.ctl rfl (fun w => stepG_end) ?_; exact zI (bx7 F.lF rfl ha.d) (by omega)
end Go.Proofs.YtdlbbfcfahahdaaGreat
end
section
namespace Go.W
open Go Go.Conc Go.RowKit
theorem qq3 {p : Ph} {b : Bx} {w : World} {hp0 rest : Hp} {L : List Fact} {f l o o' : Obj} (h : WI b p.W hp0 L) (hpp : hp0.Perm ((p.F, f) :: (p.Lf, l) :: (p.o, o) :: rest)) (he : Sur p w) (ho : w.heap[p.o]? = some o') : WI b w ((p.o, o') :: rest) L := by
  have h := h.perm hpp; have nd := h.nd; simp only [List.map_cons, List.nodup_cons, List.mem_cons, not_or] at nd; obtain ⟨⟨n1, n2, n3⟩, ⟨n4, n5⟩, n6, n7⟩ := nd; have hlt : ∀ {k : Nat} {x : Obj}, (k, x) ∈ ((p.F, f) :: (p.Lf, l) :: (p.o, o) :: rest) → k < p.W.heap.size := fun hm => D6 (h.own _ hm); have hkeep : ∀ k, k < p.W.heap.size → k ≠ p.F → k ≠ p.Lf → k ≠ p.o → w.heap[k]? = p.W.heap[k]? := he.block; have hs : ∀ q ∈ ((p.F, f) :: (p.Lf, l) :: (p.o, o) :: rest), q.1 ∈ b.S0 ∨ b.w0.heap.size ≤ q.1 := h.s0; refine { ext := ⟨he.os.trans h.ext.os, he.tape.trans h.ext.tape, he.output.trans h.ext.output, Nat.le_trans h.ext.size he.size, fun k hk hn => ?_, h.ext.dr⟩, own := fun q hq => ?_, nd := ?_, s0 := fun q hq => ?_, fs := fun F hF => ?_, ap := fun F hF q hq => ?_, al := h.al }
  · have no : ∀ q ∈ ((p.F, f) :: (p.Lf, l) :: (p.o, o) :: rest), k ≠ q.1 := fun q hq e => by
      rcases hs q hq with h1 | h1
      · exact hn (e ▸ h1)
      omega
    exact (hkeep k (Nat.lt_of_lt_of_le hk h.ext.size) (no (p.F, f) (by simp)) (no (p.Lf, l) (by simp)) (no (p.o, o) (by simp))).trans (h.ext.block k hk hn)
  · rcases List.mem_cons.1 hq with rfl | hq
    · exact ho
    have hm : q ∈ ((p.F, f) :: (p.Lf, l) :: (p.o, o) :: rest) := by simp [hq]
    have h1 := h.own q hm; have hne : ∀ z, z ∉ rest.map (·.1) → q.1 ≠ z := fun z hz e => hz (List.mem_map.2 ⟨q, hq, e⟩); exact (hkeep q.1 (D6 h1) (hne _ n3) (hne _ n5) (hne _ n6)).trans h1
  · simp only [List.map_cons, List.nodup_cons]
    exact ⟨n6, n7⟩
  · rcases List.mem_cons.1 hq with rfl | hq
    · exact hs (p.o, o) (by simp)
    exact hs q (by simp [hq])
  · have ap := h.ap F hF
    refine F.st p.W w (fun k hk => ?_) (h.fs F hF); have no : ∀ q ∈ ((p.F, f) :: (p.Lf, l) :: (p.o, o) :: rest), k ≠ q.1 := fun q hq e => ap q hq (e ▸ hk); exact hkeep k (F.lt _ (h.fs F hF) k hk) (no (p.F, f) (by simp)) (no (p.Lf, l) (by simp)) (no (p.o, o) (by simp))
  rcases List.mem_cons.1 hq with rfl | hq
  · exact h.ap F hF (p.o, o) (by simp)
  exact h.ap F hF q (by simp [hq])
theorem hc_co {c : Cx} {x : Code} {Q : Exit → Act → World → Prop} {fr : Fr} {hp : Hp} {L : List Fact}
    (h : ∀ a w, Ok c a fr → WI c.b w hp L → ∀ (b : Frame) (k : List Item) (cs : List Frame) (Goal : Goroutine → World → Prop), b.kind = .normal → (∀ e a' w', Q e a' w' → Conts c.P b k cs Goal e a' w') → Co c.P (G (b.at a (.code x :: k)) cs) w Goal) : HC c x Q fr hp L := h
theorem co_hc {c : Cx} {x : Code} {Q : Exit → Act → World → Prop} {fr : Fr} {hp : Hp} {L : List Fact} (h : HC c x Q fr hp L) {a : Act} {w : World} (ha : Ok c a fr) (hw : WI c.b w hp L) {b : Frame} {k : List Item} {cs : List Frame} {Goal : Goroutine → World → Prop} (hk : b.kind = .normal)
    (hc : ∀ e a' w', Q e a' w' → Conts c.P b k cs Goal e a' w') : Co c.P (G (b.at a (.code x :: k)) cs) w Goal := h a w ha hw b k cs Goal hk hc
theorem hq_of {c : Cx} {e : Exit} {Q : Exit → Act → World → Prop} {fr : Fr} {hp : Hp} {L : List Fact} (h : ∀ a w, Ok c a fr → WI c.b w hp L → Q e a w) : HQ c Q e fr hp L := h
theorem blk_P {g : Nat} {o : Obj} {w : World} (h : (Blk g o).P w) : w.heap[g]? = some o := h
theorem blk_ne {b : Bx} {w : World} {hp : Hp} {L : List Fact} {g : Nat} {o : Obj} (h : WI b w hp L) (hm : Blk g o ∈ L) (q : Nat × Obj) (hq : q ∈ hp) : q.1 ≠ g := fun e => h.ap _ hm q hq e
theorem row_ne {b : Bx} {w : World} {hp : Hp} {L : List Fact} {ad : Addr} {us : List Value} (h : WI b w hp L) (hm : Row (some ad) us ∈ L) (hne : us ≠ []) (q : Nat × Obj) (hq : q ∈ hp) : q.1 ≠ ad.block := fun e => h.ap _ hm q hq ⟨ad, rfl, e.symm, hne⟩
theorem folM_of {p : Ph} {Goal : Goroutine → World → Prop} {ms : Ms} {c : Cx} {b : Frame} {cs : List Frame} {n : Nat} {ks : List Item} {fr : Fr} {hp : Hq} {a : Act} (h : TC (.folM p Goal ms) c b cs n ks fr hp) (ha : Ok c a fr) : FolM p Goal n ms (b.at a ks) cs hp := h a ha
section
variable {X : TX} {c : Cx} {b : Frame} {cs : List Frame} {n : Nat} {k : List Item} {fr : Fr} {hp hp' : Hq}
theorem lj0 {x : Code} (hs : ∀ q ∈ hp', q ∈ hp) (kk : TC X c b cs n (.code x :: .inLoop x :: k) fr hp') : TC X c b cs (n + 1) (.inLoop x :: k) fr hp := fun a ha =>
  X.lift _ _ _ _ fun w he hh => ⟨_, _, w, #[], hp', stepG_inLoop, by simp, jq9 hh hs, kk a ha⟩
end
end Go.W
end
section
namespace Go.Proofs.YtdlbbfcfahahdaaGreat
open Go Go.W Go.Conc
set_option maxRecDepth 20000
attribute [local irreducible] HL HC HQ HB Row Rows2 Blk Facts
set_option maxRecDepth 20000
abbrev Ac := Int × Option Nat
instance : El Ac where
  default := (0, none)
  cells x := [int x.1, ruleV x.2]
  sz := 2
  len _ := rfl
  one a u h := by
    simp at h
    rcases h with h | h <;> subst h
    · rfl
    cases a.2 <;> rfl
def acN (how : Nat) (off : Int) (acc : List Ac) (j : Nat) : Int := numN how off (acc.getD j default).2 (acc.getD j default).1
def acV (how : Nat) (off : Int) (acc : List Ac) (j : Nat) : Value := .agg #[int j, int (acN how off acc j)]
structure Main0 (W : World) (Fc Lf o how b3 b5 b6 b7 : Nat) (ad : Addr) (off : Int) (acc : List Ac) : Prop where
  hB : Base W Fc Lf o how b3 b6 b7
  hw : how = 57 ∨ how = 58
  h5 : W.heap[b5]? = some (.cells #[.slice (b4 o) acc.length acc.length] 24 (0, 0))
  n5 : b5 ≠ Fc ∧ b5 ≠ Lf ∧ b5 ≠ o
  row : (Row (some ad) (rows acc)).P W
  nA : ad.block ≠ Fc ∧ ad.block ≠ Lf ∧ ad.block ≠ o
  lenA : acc.length ≤ 1000
  offB : 0 ≤ off ∧ off ≤ 100
  each : ∀ x ∈ acc, (0 ≤ x.1 ∧ x.1 ≤ 1000000) ∧ RuleAt W Fc Lf o off x.2
section
variable {W : World} {Fc Lf o how b3 b5 b6 b7 : Nat} {ad : Addr} {off : Int} {acc : List Ac} {cap : Nat} {Goal : Goroutine → World → Prop}
abbrev ptrB (g : Nat) : Value := .pointer (b4 g)
abbrev fr0 (b2 b3 b5 b6 b7 : Nat) : Fr := [(2, ptrB b2), (3, ptrB b3), (5, ptrB b5), (6, ptrB b6), (7, ptrB b7)]
noncomputable def bodyA : Code := unLoop (blockAt 0 (Tryz.f56.body.getD .skip))
noncomputable def bodyB : Code := unLoop (blockAt 2 (Tryz.f56.body.getD .skip))
theorem spawns {b2 : Nat} {c : Cx} {b : Frame} {cs : List Frame} {k : List Item} {ob : Obj} (hP : c.P = Tryz.prog) (hn : c.n = 41) (hk : b.kind = .normal) (h : Main0 W Fc Lf o how b3 b5 b6 b7 ad off acc)
    (n : Nat) (hend : TC (.folM (ph W Fc Lf o acc.length (acV how off acc)) Goal (.sp acc.length)) c b cs n k (fr0 b2 b3 b5 b6 b7) [(o, ob)]) :
    ∀ (m i : Nat), i + m = acc.length → TC (.folM (ph W Fc Lf o acc.length (acV how off acc)) Goal (.sp i)) c b cs (n + 10 + 40 * m) (.code bodyA :: .inLoop bodyA :: .inBlock 0 :: k) ((22, int i) :: (20, .slice (some ad) acc.length cap) :: (21, int acc.length) :: fr0 b2 b3 b5 b6 b7) [(o, ob)] := by
  obtain ⟨P, cn, cb, D, rd⟩ := c; simp only at hP hn; subst hP hn; have hk' : b.kind ≠ .early := by rw [hk]; exact (fun h => by cases h)
  have hl := h.lenA; intro m
  induction m with
  | zero =>
    intro i hi; obtain rfl : i = acc.length := by omega
    refine R9 (m := n + 7) (by omega) ?_; refine G7 (A9 ?_); refine hx5 rfl rfl hk' rfl rfl ?_; refine J1 (G7 ?_); refine uO false (by show some (Value.bool (decide ((acc.length : Int) < (acc.length : Int)))) = _; rw [decide_eq_false (by omega)]) ?_; refine mq3 k rfl ?_; exact u7 (by repeat constructor) hend
  | succ m ih =>
    intro i hi; have hi' : i < acc.length := by omega
    have hx := h.each (acc.getD i default) (by rw [List.getD_eq_getElem?_getD, List.getElem?_eq_getElem hi']; exact List.getElem_mem hi'); rw [show n + 10 + 40 * (m + 1) = (n + 10 + 40 * m) + 40 by omega]; refine G7 (A9 ?_); refine hx5 rfl rfl hk' rfl rfl ?_; refine J1 (G7 ?_); refine uO true (by show some (Value.bool (decide ((i : Int) < (acc.length : Int)))) = _; rw [decide_eq_true (by omega)]) ?_; refine hx9 (G7 (hJ (G7 (A9 ?_)))); refine pR rfl rfl hk' rfl ?_; refine uN i (ad.add (i * 2)) rfl rfl hk' Tryz.underlying138 T.w5 rfl rfl rfl hi' rfl ?_; refine N8 (vs := [int (acc.getD i default).1, ruleV (acc.getD i default).2]) rfl rfl hk' T.B3 T.w5 rfl rfl (sx0 h.row (by simp) h.nA.1 h.nA.2.1 h.nA.2.2 fun j u hu => D1 (α := Ac) hi' j u hu) ?_; refine bq4 rfl rfl hk' T.sz0 (fun _ _ => by kernel_rfl) fun g8 hg8 hn8 => ?_; refine bq4 rfl rfl hk' T.az2 (fun _ _ => by kernel_rfl) fun g9 hg9 hn9 => ?_; have n8 : g8 ≠ o := fun e => hn8 ⟨_, List.mem_cons_self .., e.symm⟩; have n98 : g9 ≠ g8 := fun e => hn9 ⟨_, List.mem_cons_self .., e.symm⟩; have n9 : g9 ≠ o := fun e => hn9 ⟨_, List.mem_cons_of_mem _ (List.mem_cons_self ..), e.symm⟩; refine jx1 (hp' := [(g9, Obj.cells #[.int .i64 0, .nilFunc] 95 (0, 0)), (o, ob)]) rfl hk' rfl rfl (List.Perm.swap _ _ _) (by rintro ⟨q, hq, e⟩; simp at hq; rcases hq with rfl | rfl <;> simp at e <;> omega) T.q7 rfl rfl ?_; refine gq2 (hp' := [(g8, Obj.cells #[int i] 3 (0, 0)), (o, ob)]) rfl hk' rfl rfl (List.Perm.swap _ _ _) (by rintro ⟨q, hq, e⟩; simp at hq; rcases hq with rfl | rfl <;> simp at e <;> omega) T.w5 rfl (by show ([int (acc.getD i default).1, ruleV (acc.getD i default).2]).all _ = true; rw [List.all_eq_true]; intro u hu; exact El.one (acc.getD i default) u hu) ?_; refine J1 (A9 ?_); refine zG rfl rfl hk' rfl rfl ?_
    refine at_go (f := 88) (cap := [ptrB b6, ptrB g8, ptrB b3, ptrB g9, ptrB b7]) (h1 := [(g9, Obj.cells #[int (acc.getD i default).1, ruleV (acc.getD i default).2] 95 (0, 0)), (g8, Obj.cells #[int i] 3 (0, 0))]) (h2 := [(o, ob)]) rfl hk' rfl (by intro q hq; simp at hq; rcases hq with rfl | rfl <;> simp) (by intro q hq; simp at hq; subst hq; simp)
      (by rintro k ⟨q, hq, e⟩ ⟨q', hq', e'⟩; simp at hq hq'; subst hq'; rcases hq with rfl | rfl <;> simp at e e' <;> omega) (by intro q hq; simp at hq; rcases hq with rfl | rfl; exact hg9; exact hg8)
      (.inl ⟨hi', fol_w hx.1 h.offB hx.2 h.hw h.hB rfl, ?_⟩)
    refine J1 (rT (A9 ?_)); refine kz9 ((i + 1 : Nat) : Int) rfl rfl hk' rfl rfl (by omega) m6 (pR rfl rfl hk' rfl ?_); refine J1 (gq4 ?_); exact R9 (m := n + 10 + 40 * m) (by omega) (u7 (by repeat constructor) (ih (i + 1) (by omega)))
end
end Go.Proofs.YtdlbbfcfahahdaaGreat
end
section
namespace Go.Proofs.YtdlbbfcfahahdaaGreat
open Go Go.W Go.Conc
set_option maxRecDepth 20000
attribute [local irreducible] HL HC HQ HB Row Rows2 Blk Facts
set_option maxRecDepth 20000
section
variable {W : World} {Fc Lf o how b3 b5 b6 b7 : Nat} {ad : Addr} {off : Int} {acc : List Ac} {cap : Nat} {Goal : Goroutine → World → Prop}
def acOut (how : Nat) (off : Int) (acc : List Ac) : List Int := (List.range acc.length).map fun j => acN how off acc j
theorem gets {b2 : Nat} {c : Cx} {b : Frame} {cs : List Frame} {k : List Item} (hP : c.P = Tryz.prog) (hn : c.n = 41) (hD : c.D = []) (hk : b.kind = .normal) (h : Main0 W Fc Lf o how b3 b5 b6 b7 ad off acc)
    (hend : ∀ w, Sur (ph W Fc Lf o acc.length (acV how off acc)) w → w.heap[o]? = some (.cells (rows (acOut how off acc)).toArray 3 (0, 0)) → ∀ a, Ok c a (fr0 b2 b3 b5 b6 b7) → Co Tryz.prog (G (b.at a k) cs) w Goal) :
    ∀ (m : Nat) (R : List Nat) (us : Array Value), R.length = m → R.Nodup → (∀ j ∈ R, j < acc.length) → us.size = acc.length → (∀ j, j < acc.length → j ∉ R → us[j]? = some (int (acN how off acc j))) →
      TC (.folM (ph W Fc Lf o acc.length (acV how off acc)) Goal (.ga R)) c b cs (40 * m + 20) (.code bodyB :: .inLoop bodyB :: .inBlock 2 :: k) ((30, .chan (some Fc)) :: fr0 b2 b3 b5 b6 b7) [(o, .cells us 3 (0, 0))] := by
  obtain ⟨P, cn, cb, D, rd⟩ := c; simp only at hP hn hD; subst hP hn hD; have hk' : b.kind ≠ .early := by rw [hk]; exact (fun h => by cases h)
  have hl := h.lenA; intro m
  induction m with
  | zero =>
    intro R us hR hnd hlt hsz hus; obtain rfl : R = [] := List.eq_nil_of_length_eq_zero hR; refine G7 (A9 ?_); refine sx3 rfl rfl hk' Tryz.underlying136 (fun _ => by kernel_rfl) rfl (fun j hj => by cases hj) fun _ w he hh a ha => ?_; refine co_op (K := fun a' w' => a' = a.put (some 32) (.bool false) ∧ ∃ d, w' = w.at d) (Q := fun _ _ _ => False) hk rfl rfl (fun d => ⟨Y4 rfl _, ?_⟩) fun a' w' hK => ?_
    · have h1 := ha.ev (x := .tmp 31) rfl
      have : (execOp a.eval (⟨some 32, .extract (.tmp 31) 1, 4, "bold.go:186", #[⟨0, .data⟩], none⟩ : Oper)).run Tryz.prog (w.at d) = .ok (.value (.bool false)) (w.at d) := by simp [execOp, h1, Instr.extract]
      show uponB Tryz.prog (⟨some 32, .extract (.tmp 31) 1, 4, "bold.go:186", #[⟨0, .data⟩], none⟩ : Oper) a _ ((execOp a.eval (⟨some 32, .extract (.tmp 31) 1, 4, "bold.go:186", #[⟨0, .data⟩], none⟩ : Oper)).run Tryz.prog (w.at d))
      rw [this]; exact ⟨rfl, d, rfl⟩
    obtain ⟨rfl, d, rfl⟩ := hK; have ha' := ha.put (d := 32) (by show 32 < 41; decide) (.bool false); refine J3 rfl (fun _ => stepG_region_end) (J3 rfl (fun _ => stepG_seq) (J3 rfl (fun _ => stepG_cond (t := false) (ha'.ev rfl)) (J3 rfl (fun _ => stepG_exit (k' := k) rfl) ?_))); refine hend (w.at d) (he.at d) ?_ _ (ha'.sub (by repeat constructor)); have h1 := hh _ (List.mem_cons_self ..)
    have e : us = (rows (acOut how off acc)).toArray := by
      apply Array.ext_getElem?
      intro j
      have hrl : rows (acOut how off acc) = (acOut how off acc).map int := by
        unfold rows
        induction acOut how off acc with
        | nil => rfl
        | cons x l ih => rw [List.flatMap_cons, ih]; rfl
      have e2 : (rows (acOut how off acc)).toArray[j]? = ((acOut how off acc).map int)[j]? := by rw [hrl]; simp
      rw [e2, List.getElem?_map]
      by_cases hj : j < acc.length
      · rw [hus j hj (by simp)]
        unfold acOut; rw [List.getElem?_map, List.getElem?_range hj]
        rfl
      rw [Array.getElem?_eq_none (by omega), List.getElem?_eq_none (by unfold acOut; simp; omega)]
      rfl
    rw [← e]; exact h1
  | succ m ih =>
    intro R us hR hnd hlt hsz hus; refine G7 (A9 ?_); refine R9 (m := 40 * m + 20 + 30) (by omega) ?_; refine sx3 rfl rfl hk' Tryz.underlying136 (fun _ => by kernel_rfl) rfl (fun j hj => ?_) (fun e => by subst e; cases hR); have hjl := hlt j hj; refine bq2 rfl rfl hk' rfl rfl ?_; refine J1 (G7 (uO true rfl (hx9 (hJ (G7 (A9 ?_)))))); refine bq2 (v := acV how off acc j) rfl rfl hk' rfl rfl ?_; refine bq4 rfl rfl hk' T.zD (fun _ _ => by kernel_rfl) fun g hg hng => ?_; have ngo : ¬ Has [(o, Obj.cells us 3 (0, 0))] g := hng; refine gq2 (us := #[int j, int (acN how off acc j)]) (hp' := [(o, Obj.cells us 3 (0, 0))]) rfl hk' rfl rfl l7 ngo T.xK rfl rfl ?_; refine J1 (A9 ?_); refine w9 (v := .slice (b4 o) acc.length acc.length) rfl rfl hk' T.m8 rfl (C7 h.h5 h.n5.1 h.n5.2.1 h.n5.2.2 rfl) ?_; refine J0 ⟨g, 0, none⟩ rfl rfl hk' rfl T.tH (fun _ _ _ => by kernel_rfl) rfl ?_; refine w9 (v := int j) rfl rfl hk' T.i7 rfl (L9 (vs := #[int j, int (acN how off acc j)]) (List.mem_cons_self ..) rfl) ?_; refine J0 ⟨g, 1, none⟩ rfl rfl hk' rfl T.tG (fun _ _ _ => by kernel_rfl) rfl ?_; refine w9 (v := int (acN how off acc j)) rfl rfl hk' T.i7 rfl (L9 (vs := #[int j, int (acN how off acc j)]) (List.mem_cons_self ..) rfl) ?_; refine uN j ⟨o, j, none⟩ rfl rfl hk' Tryz.underlying24 T.q7 rfl rfl rfl hjl (by rw [aM]; simp) ?_
    have nog : ¬ Has [(g, Obj.cells #[int j, int (acN how off acc j)] 141 (0, 0))] o := by
      rintro ⟨q, hq, e⟩
      simp at hq
      subst hq; exact ngo ⟨_, List.mem_cons_self .., e.symm⟩
    refine jx1 (u := us[j]'(by omega)) (hp' := [(g, Obj.cells #[int j, int (acN how off acc j)] 141 (0, 0))]) rfl hk' rfl rfl (List.Perm.swap _ _ _) nog T.q7 (Array.getElem?_eq_getElem (by omega)) rfl ?_; refine J1 (rT ?_); refine lj0 (hp' := [(o, Obj.cells (us.setIfInBounds j (int (acN how off acc j))) 3 (0, 0))]) (by intro q hq; simp at hq; subst hq; simp) ?_; refine R9 (m := 40 * m + 20) (by omega) (u7 (by repeat constructor) (ih (R.erase j) _ ?_ (hnd.erase j) (fun i hi => hlt i (List.mem_of_mem_erase hi)) (by simp [hsz]) fun i hi hni => ?_))
    · rw [List.length_erase_of_mem hj]; omega
    by_cases hij : j = i
    · subst hij
      rw [Array.getElem?_setIfInBounds_self_of_lt (by omega)]
    rw [Array.getElem?_setIfInBounds_ne hij]; exact hus i hi fun hm => hni ((hnd.mem_erase_iff).2 ⟨Ne.symm hij, hm⟩)
end
end Go.Proofs.YtdlbbfcfahahdaaGreat
end
