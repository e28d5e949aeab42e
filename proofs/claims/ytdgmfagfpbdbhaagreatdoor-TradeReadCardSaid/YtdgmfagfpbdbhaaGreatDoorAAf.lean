/- Texts. -/
import Derived.Sort.Walk0
import Derived.Test.YtdgmfagfpbdbhaaGreatDoorAAe
set_option linter.unusedVariables false
set_option linter.unusedSimpArgs false
section
namespace Go.Proofs.YtdgmfagfpbdbhaaGreatDoor
open Go Go.W Tryz T F
set_option maxRecDepth 20000
attribute [local irreducible] HL HC HQ HB Row Rows2 Blk Facts
instance : El Cl where
  default := ([], 0)
  cells m := [str m.1, int m.2]
  sz := 2
  len _ := rfl
  one a u h := by simp at h; rcases h with h | h <;> subst h <;> rfl
abbrev Hd := Str × Int × Int × Sl Int
instance : El Hd where
  default := ([], 0, 0, ⟨none, 0, []⟩)
  cells m := [str m.1, int m.2.1, int m.2.2.1, .slice m.2.2.2.a m.2.2.2.l.length m.2.2.2.c]
  sz := 4
  len _ := rfl
  one a u h := by simp at h; rcases h with h | h | h | h <;> subst h <;> rfl
def Hd.p (h : Hd) : PH := (h.1, h.2.1, h.2.2.1, h.2.2.2.l)
abbrev Hd.row (h : Hd) : Fact := Row h.2.2.2.a (rows h.2.2.2.l)
abbrev trOf (cs : List Cl) (hs : List Hd) : Tr := ⟨cs, hs.map Hd.p⟩
theorem gx7 (a b : Str) : Op.bytesLess a b = decide (a < b) := bytesLess_eq a b
theorem w7 {α : Type} [Inhabited α] {l : List α} {k : Nat} (hk : k < l.length) : l.getD k default = l[k] := by simp [List.getD_eq_getElem?_getD, hk]
theorem A9 {α : Type} [Inhabited α] {l : List α} {k : Nat} (hk : k < l.length) : l.getD k default ∈ l := by rw [w7 hk]; exact List.getElem_mem hk
theorem N4 {hs : List Hd} {k : Nat} (hk : k < hs.length) : (hs.map Hd.p).getD k default = (hs.getD k default).p := by
  rw [w7 hk, w7 (by simpa using hk)]; simp
theorem E4 (n lo hi : Int) : Meets prog dI [int n, int lo, int hi] { val := fun _ : Unit => .bool (decide (lo ≤ n ∧ n ≤ hi)) } := by
 refine i5 tX rfl t3 fun w0 => ?_; refine i3 (c8 rfl (n9 (b6 rfl (b6 rfl (ij6 rfl rfl rfl (b6 rfl ?_)))))); refine v4 rfl rfl ?_ ?_
 ·intro hg1; have hg1' := hg1; try simp at hg1'
  refine k9 hg1 (b6 rfl (k9 hg1 (b6 rfl (k9 hg1 (ij6 rfl rfl rfl ?_))))); refine p_t rfl rfl (bt1 hg1) rfl ?_; refine c8 rfl (c9 (k8 ?_)); exact ret1 () rfl (congrArg (fun b => some (Value.bool b)) (by simp [hg1'])) rfl tK nK tK
 intro hg1; have hg1' := hg1; try simp at hg1'
 refine q7 hg1 (q7 hg1 (q7 hg1 ?_)); refine p_f rfl rfl (bf2 hg1) rfl ?_; refine c8 rfl (c9 (k8 ?_)); exact ret1 () rfl (congrArg (fun b => some (Value.bool b)) (by simp [Int.not_le.2 hg1'])) rfl tK nK tK
theorem bq3 {s : Str} {p : Nat} (hp : p < s.length) (h : s[p].toNat < 97 ∨ 122 < s[p].toNat) : wordB s = false := by
  have : s.all azB = false := by
    rw [List.all_eq_false]; refine ⟨s[p], List.getElem_mem hp, ?_⟩; simp only [azB, Bool.and_eq_true, decide_eq_true_eq]
    omega
  simp [wordB, this]
theorem mj4 {s : Str} {k : Nat} (hk : k < s.length) (h : (s.take k).all azB = true) (h1 : 97 ≤ s[k].toNat ∧ s[k].toNat ≤ 122) : (s.take (k + 1)).all azB = true := by
  rw [List.take_succ_eq_append_getElem hk, List.all_append, h]
  simp [azB, h1]
theorem iz5 {s : Str} (h1 : ¬ s = []) (h2 : (s.length : Int) ≤ 12) (h3 : ¬ s = wClass) (h4 : ¬ s = wFinis) (h5 : s.all azB = true) : wordB s = true := by
  have h0 : 0 < s.length := List.length_pos_iff.2 h1; have h2' : s.length ≤ 12 := by omega
  simp only [wordB, h5, h3, h4, h0, h2', decide_true, Bool.and_true, not_false_eq_true]
theorem D2 (s : Str) : Meets prog kP [str s] { val := fun _ : Unit => .bool (wordB s) } := by
 refine i5 zH rfl t3 fun w0 => ?_; refine i3 (c8 rfl (c9 (d7 (i3 (b6 rfl ?_))))); refine K0 rfl r9 rfl ?_; refine H5 rfl rfl rfl (b6 rfl ?_); refine v4 rfl rfl ?_ ?_
 ·intro hg1; have hg1' := hg1; try simp at hg1'
  refine k9 hg1 (b6 rfl (k9 hg1 ?_)); refine K0 rfl r9 rfl ?_; refine k9 hg1 (cR rfl rfl rfl ?_); refine p_f rfl rfl (bf1 hg1) rfl (b6 rfl ?_); refine v4 rfl rfl ?_ ?_
  ·intro hg2; have hg2' := hg2; try simp at hg2'
   refine k9 hg2 (b6 rfl (k9 hg2 (K4 rfl rfl rfl ?_))); refine p_f rfl rfl (bf1 hg2) rfl (b6 rfl ?_); refine v4 rfl rfl ?_ ?_
   ·intro hg3; have hg3' := hg3; try simp at hg3'
    refine k9 hg3 (b6 rfl (k9 hg3 (K4 rfl rfl rfl ?_))); refine p_f rfl rfl (bf1 hg3) rfl (c9 ?_)
    first | refine k6 rfl (fun hb1 => ?_) (fun hb1 => ?_) | refine i6 rfl (fun hb1 => ?_) (fun hb1 => ?_)
    ·have hb1' := hb1; try simp at hb1'
     refine i3 (c8 rfl (c9 (J0 ?_))); exact ret1 () rfl (congrArg (fun b => some (Value.bool b)) (by rw [hb1]; decide)) rfl tK nK tK
    have hb1' := hb1; try simp at hb1'
    have h4 := hb1; refine i9 (i2 (d7 (i3 (b6 rfl ?_)))); refine dq7 rfl r9 rfl fun gI => ?_; refine c9 (j4 ?_); refine t8 (β := Nat) ⟨fun k => k ≤ s.length ∧ (s.take k).all azB = true, fun k => [(0, str s), (22, .pointer (c5 gI))], fun k => [(gI, iter s k)], fun _ => []⟩ (fun k => s.length - k) 0 ⟨Nat.zero_le _, rfl⟩ mC (.refl _) tK fun k hk => ?_; obtain ⟨hk, ht⟩ := hk; refine i3 (ij5 rfl rfl (.refl _) ?_); refine kx2 rfl rfl (c9 (d7 ?_))
    first | refine k6 rfl (fun hb2 => ?_) (fun hb2 => ?_) | refine i6 rfl (fun hb2 => ?_) (fun hb2 => ?_)
    ·have hb2' := hb2; try simp at hb2'
     refine i9 (i2 (j4 (i3 (r_ext2 rfl rfl hb2 (c8 rfl (n9 (b6 rfl ?_))))))); refine z6 rfl rfl rfl (b6 rfl ?_); refine v4 rfl rfl ?_ ?_
     ·intro hg4; have hg4' := hg4; try simp at hg4'
      refine k9 hg4 (b6 rfl (k9 hg4 (cR rfl rfl rfl ?_))); refine p_f rfl rfl (bf1 hg4) rfl (c9 ?_)
      first | refine k6 rfl (fun hb3 => ?_) (fun hb3 => ?_) | refine i6 rfl (fun hb3 => ?_) (fun hb3 => ?_)
      ·have hb3' := hb3; try simp at hb3'
       refine i3 (c8 rfl (c9 (k8 (D6 (D6 ?_))))); exact ret1 () rfl (congrArg (fun b => some (Value.bool b)) (by exact (bq3 hb2 (ix4 hb2 (lo := 97) (hi := 122) (by decide) (.inr (by omega)))).symm)) rfl tK nK tK
      have hb3' := hb3; try simp at hb3'
      refine i9 (v5 ?_); have hin := dec_in (p := k) (s := s) hb2 (lo := 97) (hi := 122) (by decide) (by simp at hg4; omega); refine again _ (k + 1) ⟨by omega, mj4 hb2 ht ⟨hin.1, hin.2.1⟩⟩ (z8 (by omega)) mC ?_ tK; rw [hin.2.2]; exact (.refl _)
     intro hg4; have hg4' := hg4; try simp at hg4'
     refine q7 hg4 (q7 hg4 ?_); refine p_t rfl rfl (bt2 hg4) rfl ?_; refine c9 (c_t rfl rfl (i3 (c8 rfl (c9 (k8 (D6 (kA ?_))))))); refine w8 ?_; exact ret1 () rfl (congrArg (fun b => some (Value.bool b)) (by exact (bq3 hb2 (ix4 hb2 (lo := 97) (hi := 122) (by decide) (.inl (by simp at hg4; omega)))).symm)) rfl tK nK tK
    have hb2' := hb2; try simp at hb2'
    have hk2 : k = s.length := by omega
    subst hk2; rw [List.take_length] at ht; refine q9 (C3 (r7 (i2 (i3 (c8 rfl (c9 (k8 ?_))))))); exact ret1 () rfl (congrArg (fun b => some (Value.bool b)) (by exact (iz5 hg1' hg2' hg3' h4 ht).symm)) rfl tK nK tK
   intro hg3; have hg3' := hg3; try simp at hg3'
   refine q7 hg3 (q7 hg3 ?_); refine p_t rfl rfl (bt2 hg3) rfl ?_; refine c9 (c_t rfl rfl (i3 (c8 rfl (c9 (J0 ?_))))); exact ret1 () rfl (congrArg (fun b => some (Value.bool b)) (by simp at hg3; rw [hg3]; decide)) rfl tK nK tK
  intro hg2; have hg2' := hg2; try simp at hg2'
  refine q7 hg2 (q7 hg2 ?_); refine p_t rfl rfl (bt2 hg2) rfl ?_; refine b6 rfl (bW rfl rfl rfl rfl rfl rfl (bW rfl rfl rfl rfl rfl rfl (p_t rfl rfl rfl rfl (c9 (c_t rfl rfl (i3 (c8 rfl (c9 ?_)))))))); refine J0 ?_; exact ret1 () rfl (congrArg (fun b => some (Value.bool b)) (by simp at hg2; simp [wordB, Nat.not_le.2 (show 12 < s.length by omega)])) rfl tK nK tK
 intro hg1; have hg1' := hg1; try simp at hg1'
 refine q7 hg1 (q7 hg1 (q7 hg1 ?_)); refine p_t rfl rfl (bt2 hg1) rfl ?_; refine b6 rfl (bW rfl rfl rfl rfl rfl rfl (bW rfl rfl rfl rfl rfl rfl (p_t rfl rfl rfl rfl (b6 rfl (bW rfl rfl rfl rfl rfl rfl (bW rfl rfl rfl rfl rfl rfl (p_t rfl rfl rfl rfl (c9 (c_t rfl rfl (d7 ?_)))))))))); refine d4 (c8 rfl (c9 (J0 ?_))); exact ret1 () rfl (congrArg (fun b => some (Value.bool b)) (by simp at hg1; simp [wordB, hg1])) rfl tK nK tK
theorem dz2 {α : Type} [Inhabited α] (f : α → Str) {l : List α} {k : Nat} {s : Str} (hk : k < l.length) (ht : s ∉ (l.take k).map f) (h : ¬ f (l.getD k default) = s) : s ∉ (l.take (k + 1)).map f := by
  rw [y0 l k hk, List.map_append]; simp only [List.mem_append, List.map_cons, List.map_nil, List.mem_singleton, not_or]; exact ⟨ht, fun e => h e.symm⟩
theorem kK {g : Nat} (x c : Cl) : Meets prog H3 [.agg (El.cells x).toArray, .pointer (c5 g)] { LI := [Row (c5 g) (rows [c])], val := fun _ : Unit => .bool (decide (x.1 = c.1)) } := by
 refine i5 lY rfl t3 fun w0 => i3 (O9 rfl rfl fun gB => ?_); refine c8 rfl (n9 ?_)
 first | refine a6 ⟨_, 0, none⟩ rfl rfl y8 rfl ?_ | refine a6 _ rfl rfl y8 rfl ?_
 first | refine a7 rfl a9 rfl (d5 mB rfl) ?_ | refine a7 rfl a9 rfl (d3 mB rfl) ?_ | refine a7 rfl a9 rfl (b7 mB (b2 (by omega) rfl)) ?_ | refine a7 rfl a9 rfl (b8 mB (rows_get (by omega) rfl)) ?_ | refine a7 rfl a9 rfl (d6 mB rfl) ?_
 first | refine a6 ⟨_, 0, none⟩ rfl rfl y8 rfl ?_ | refine a6 _ rfl rfl y8 rfl ?_
 first | refine a7 rfl a9 rfl (d5 mB rfl) ?_ | refine a7 rfl a9 rfl (d3 mB rfl) ?_ | refine a7 rfl a9 rfl (b7 mB (b2 (by omega) rfl)) ?_ | refine a7 rfl a9 rfl (b8 mB (rows_get (by omega) rfl)) ?_ | refine a7 rfl a9 rfl (d6 mB rfl) ?_
 refine K4 rfl rfl rfl (c8 rfl (c9 (k8 ?_))); exact ret1 () rfl rfl rfl tK nK tK
theorem mS {A : Option Addr} {cp g : Nat} (l : List Cl) (c : Cl) (hl : l.length ≤ 1000000) : Meets prog X8 [.slice A l.length cp, .func (.func H3) #[] #[.pointer (c5 g)]] { LI := [Row A (rows l), Row (c5 g) (rows [c])], inv := fun z : Int => (0 ≤ z ↔ c.1 ∈ l.map (·.1)), val := fun z => int z } := by
 refine i5 qE rfl t3 fun w0 => ?_; refine i3 (c8 rfl (c9 (d7 (i3 (b6 rfl ?_))))); refine j9 rfl p9 rfl ?_; refine b6 rfl (c9 (j4 ?_)); refine t8 (β := Nat) ⟨fun k => k ≤ l.length ∧ c.1 ∉ (l.take k).map (·.1), fun k => [(0, .slice A l.length cp), (1, .func (.func H3) #[] #[.pointer (c5 g)]), (7, int l.length), (8, int k)], fun _ => [], fun _ => [Row A (rows l), Row (c5 g) (rows [c])]⟩ (fun k => l.length - k) 0 ⟨Nat.zero_le _, by simp⟩ mC (.refl _) ⟨m0, m1, tK⟩ fun k hk => ?_; obtain ⟨hk, ht⟩ := hk; refine i3 (z6 rfl rfl rfl (c9 (d7 ?_)))
 first | refine k6 rfl (fun hb1 => ?_) (fun hb1 => ?_) | refine i6 rfl (fun hb1 => ?_) (fun hb1 => ?_)
 ·have hb1' := hb1; try simp at hb1'
  have hk2 : k < l.length := by omega
  refine i9 (i2 (d7 (j4 (i3 (b6 rfl (c8 rfl (n9 ?_))))))); refine b6 rfl (b6 rfl (b6 rfl ?_)); refine q8 (α := Cl) _ _ rfl p9 u7 rfl rfl rfl mB rfl (by omega) (by decide) (u0 rfl J7 u7 rfl rfl (r4 mB (u5 (by omega))) (R6 (vs := [.agg (El.cells (l.getD k default)).toArray]) (cap := [.pointer (c5 g)]) kT rfl rfl rfl (kK (l.getD k default) c) n4 ⟨m1, tK⟩ fun _ _ => c9 ?_))
  first | refine k6 rfl (fun hb2 => ?_) (fun hb2 => ?_) | refine i6 rfl (fun hb2 => ?_) (fun hb2 => ?_)
  ·have hb2' := hb2; try simp at hb2'
   refine i3 (b6 rfl (c8 rfl (c9 (k8 (D6 (w8 (D6 ?_))))))); exact ret1 (k : Int) rfl rfl rfl ⟨fun _ => List.mem_map.2 ⟨_, A9 hk2, hb2⟩, fun _ => by omega⟩ nK tK
  have hb2' := hb2; try simp at hb2'
  refine i9 (v5 (i2 (d4 ?_))); refine t7 _ rfl rfl rfl rfl p8 ?_; refine b6 rfl (b5 ?_); exact again _ (k + 1) ⟨by omega, dz2 (·.1) hk2 ht hb2⟩ (z8 (by omega)) mC nK ⟨m0, m1, tK⟩
 have hb1' := hb1; try simp at hb1'
 have hk2 : k = l.length := by omega
 subst hk2; rw [List.take_length] at ht; refine q9 (C3 (r7 (i2 (i3 (c8 rfl (c9 (k8 ?_))))))); exact ret1 (-1) rfl rfl rfl ⟨fun h => by omega, fun h => absurd h ht⟩ (.refl _) tK
theorem jN {A : Option Addr} {cp g : Nat} (l : List Cl) (c : Cl) (hl : l.length ≤ 1000000) : Meets prog Q8 [.slice A l.length cp, .func (.func H3) #[] #[.pointer (c5 g)]] { LI := [Row A (rows l), Row (c5 g) (rows [c])], val := fun _ : Unit => .bool (decide (c.1 ∈ l.map (·.1))) } := by
 refine i5 kV rfl t3 fun w0 => ?_; refine i3 (c8 rfl (n9 (b6 rfl (b6 rfl ?_)))); refine i8 nN rfl rfl (mS l c hl) (.refl _) ⟨m0, m1, tK⟩ fun z hz => ?_; refine nV rfl rfl rfl (c8 rfl (c9 (k8 ?_))); exact ret1 () rfl (congrArg (fun b => some (Value.bool b)) (decide_eq_decide.2 hz)) rfl tK nK tK
theorem lB {g : Nat} (x c : Hd) : Meets prog H7 [.agg (El.cells x).toArray, .pointer (c5 g)] { LI := [Row (c5 g) (rows [c])], val := fun _ : Unit => .bool (decide (x.1 = c.1)) } := by
 refine i5 nG rfl t3 fun w0 => i3 (O9 rfl rfl fun gB => ?_); refine c8 rfl (n9 ?_)
 first | refine a6 ⟨_, 0, none⟩ rfl rfl n6 rfl ?_ | refine a6 _ rfl rfl n6 rfl ?_
 first | refine a7 rfl a9 rfl (d5 mB rfl) ?_ | refine a7 rfl a9 rfl (d3 mB rfl) ?_ | refine a7 rfl a9 rfl (b7 mB (b2 (by omega) rfl)) ?_ | refine a7 rfl a9 rfl (b8 mB (rows_get (by omega) rfl)) ?_ | refine a7 rfl a9 rfl (d6 mB rfl) ?_
 first | refine a6 ⟨_, 0, none⟩ rfl rfl n6 rfl ?_ | refine a6 _ rfl rfl n6 rfl ?_
 first | refine a7 rfl a9 rfl (d5 mB rfl) ?_ | refine a7 rfl a9 rfl (d3 mB rfl) ?_ | refine a7 rfl a9 rfl (b7 mB (b2 (by omega) rfl)) ?_ | refine a7 rfl a9 rfl (b8 mB (rows_get (by omega) rfl)) ?_ | refine a7 rfl a9 rfl (d6 mB rfl) ?_
 refine K4 rfl rfl rfl (c8 rfl (c9 (k8 ?_))); exact ret1 () rfl rfl rfl tK nK tK
theorem lK {A : Option Addr} {cp g : Nat} (l : List Hd) (c : Hd) (hl : l.length ≤ 1000000) : Meets prog V0 [.slice A l.length cp, .func (.func H7) #[] #[.pointer (c5 g)]] { LI := [Row A (rows l), Row (c5 g) (rows [c])], inv := fun z : Int => (0 ≤ z ↔ c.1 ∈ l.map (·.1)), val := fun z => int z } := by
 refine i5 nM rfl t3 fun w0 => ?_; refine i3 (c8 rfl (c9 (d7 (i3 (b6 rfl ?_))))); refine j9 rfl n7 rfl ?_; refine b6 rfl (c9 (j4 ?_)); refine t8 (β := Nat) ⟨fun k => k ≤ l.length ∧ c.1 ∉ (l.take k).map (·.1), fun k => [(0, .slice A l.length cp), (1, .func (.func H7) #[] #[.pointer (c5 g)]), (7, int l.length), (8, int k)], fun _ => [], fun _ => [Row A (rows l), Row (c5 g) (rows [c])]⟩ (fun k => l.length - k) 0 ⟨Nat.zero_le _, by simp⟩ mC (.refl _) ⟨m0, m1, tK⟩ fun k hk => ?_; obtain ⟨hk, ht⟩ := hk; refine i3 (z6 rfl rfl rfl (c9 (d7 ?_)))
 first | refine k6 rfl (fun hb1 => ?_) (fun hb1 => ?_) | refine i6 rfl (fun hb1 => ?_) (fun hb1 => ?_)
 ·have hb1' := hb1; try simp at hb1'
  have hk2 : k < l.length := by omega
  refine i9 (i2 (d7 (j4 (i3 (b6 rfl (c8 rfl (n9 ?_))))))); refine b6 rfl (b6 rfl (b6 rfl ?_)); refine q8 (α := Hd) _ _ rfl n7 l4 rfl rfl rfl mB rfl (by omega) (by decide) (u0 rfl w5 l4 rfl rfl (r4 mB (u5 (by omega))) (R6 (vs := [.agg (El.cells (l.getD k default)).toArray]) (cap := [.pointer (c5 g)]) lX rfl rfl rfl (lB (l.getD k default) c) n4 ⟨m1, tK⟩ fun _ _ => c9 ?_))
  first | refine k6 rfl (fun hb2 => ?_) (fun hb2 => ?_) | refine i6 rfl (fun hb2 => ?_) (fun hb2 => ?_)
  ·have hb2' := hb2; try simp at hb2'
   refine i3 (b6 rfl (c8 rfl (c9 (k8 (D6 (w8 (D6 ?_))))))); exact ret1 (k : Int) rfl rfl rfl ⟨fun _ => List.mem_map.2 ⟨_, A9 hk2, hb2⟩, fun _ => by omega⟩ nK tK
  have hb2' := hb2; try simp at hb2'
  refine i9 (v5 (i2 (d4 ?_))); refine t7 _ rfl rfl rfl rfl p8 ?_; refine b6 rfl (b5 ?_); exact again _ (k + 1) ⟨by omega, dz2 (·.1) hk2 ht hb2⟩ (z8 (by omega)) mC nK ⟨m0, m1, tK⟩
 have hb1' := hb1; try simp at hb1'
 have hk2 : k = l.length := by omega
 subst hk2; rw [List.take_length] at ht; refine q9 (C3 (r7 (i2 (i3 (c8 rfl (c9 (k8 ?_))))))); exact ret1 (-1) rfl rfl rfl ⟨fun h => by omega, fun h => absurd h ht⟩ (.refl _) tK
theorem iS {A : Option Addr} {cp g : Nat} (l : List Hd) (c : Hd) (hl : l.length ≤ 1000000) : Meets prog Q0 [.slice A l.length cp, .func (.func H7) #[] #[.pointer (c5 g)]] { LI := [Row A (rows l), Row (c5 g) (rows [c])], val := fun _ : Unit => .bool (decide (c.1 ∈ l.map (·.1))) } := by
 refine i5 jQ rfl t3 fun w0 => ?_; refine i3 (c8 rfl (n9 (b6 rfl (b6 rfl ?_)))); refine i8 mG rfl rfl (lK l c hl) (.refl _) ⟨m0, m1, tK⟩ fun z hz => ?_; refine nV rfl rfl rfl (c8 rfl (c9 (k8 ?_))); exact ret1 () rfl (congrArg (fun b => some (Value.bool b)) (decide_eq_decide.2 hz)) rfl tK nK tK
theorem mO {A : Option Addr} {cp : Nat} (cs : List Cl) (i : Nat) (h6 : cs.length ≤ 6) (hc : cs.length ≤ cp) (hi : i < cs.length) : Meets prog X6 [.slice A cs.length cp, int i] { LI := [Row A (rows cs)], val := fun _ : Unit => int (clsErr cs i) } := by
 refine i5 qB rfl t3 fun w0 => ?_; refine i3 (c8 rfl (n9 (b6 rfl (b6 rfl ?_)))); refine q8 (α := Cl) _ _ rfl p9 u7 rfl rfl rfl mB rfl (by omega) (by decide) (u0 rfl J7 u7 rfl rfl (r4 mB (u5 (by omega))) (q6 rfl (fun _ => Z2 _) fun gA => l6 rfl rfl aJ u7 (by rfl) (by rfl) ?_)); refine c9 (d7 (j4 (d7 ?_))); refine P7 (rows [cs.getD i default]) ⟨[], List.append_nil _⟩ (d4 ?_)
 first | refine a6 ⟨_, 0, none⟩ rfl rfl y8 rfl ?_ | refine a6 _ rfl rfl y8 rfl ?_
 first | refine a7 rfl a9 rfl (d5 mB rfl) ?_ | refine a7 rfl a9 rfl (d3 mB rfl) ?_ | refine a7 rfl a9 rfl (b7 mB (b2 (by omega) rfl)) ?_ | refine a7 rfl a9 rfl (b8 mB (rows_get (by omega) rfl)) ?_ | refine a7 rfl a9 rfl (d6 mB rfl) ?_
 refine i8 D5 rfl rfl (D2 (cs.getD i default).1) (.refl _) tK fun _ _ => ?_; refine I4 rfl rfl (c8 rfl (c9 ?_))
 first | refine k6 rfl (fun hb1 => ?_) (fun hb1 => ?_) | refine i6 rfl (fun hb1 => ?_) (fun hb1 => ?_)
 ·have hb1' := hb1; try simp at hb1'
  have h1 : wordB (cs.getD i default).1 = false := by simpa using hb1
  refine i3 (c8 rfl (c9 (k8 (D6 ?_)))); exact ret1 () rfl (congrArg (fun b => some (int b)) (by rw [clsErr, if_pos h1])) rfl tK nK tK
 have hb1' := hb1; try simp at hb1'
 have h1 : ¬ wordB (cs.getD i default).1 = false := by simpa using hb1
 refine i3 (b6 rfl (b6 rfl ?_)); refine iT (cs.take i).length rfl p9 u7 rfl rfl (by simp; omega) (by simp; omega) ?_; refine ax2 i m1 (dA rfl rfl rfl ?_); refine i8 jR rfl rfl (jN (cs.take i) (cs.getD i default) (by simp; omega)) (.refl _) ⟨m0, m1, tK⟩ fun _ _ => ?_; refine c8 rfl (c9 ?_)
 first | refine k6 rfl (fun hb2 => ?_) (fun hb2 => ?_) | refine i6 rfl (fun hb2 => ?_) (fun hb2 => ?_)
 ·have hb2' := hb2; try simp at hb2'
  refine i3 (c8 rfl (c9 (k8 (D6 ?_)))); exact ret1 () rfl (congrArg (fun b => some (int b)) (by rw [clsErr, if_neg h1, if_pos hb2])) rfl tK nK tK
 have hb2' := hb2; try simp at hb2'
 refine i3 ?_
 first | refine a6 ⟨_, 1, none⟩ rfl rfl y5 rfl ?_ | refine a6 _ rfl rfl y5 rfl ?_
 first | refine a7 rfl a8 rfl (d5 mB rfl) ?_ | refine a7 rfl a8 rfl (d3 mB rfl) ?_ | refine a7 rfl a8 rfl (b7 mB (b2 (by omega) rfl)) ?_ | refine a7 rfl a8 rfl (b8 mB (rows_get (by omega) rfl)) ?_ | refine a7 rfl a8 rfl (d6 mB rfl) ?_
 refine b6 rfl (j9 rfl p9 rfl (O7 _ rfl rfl rfl rfl p8 (i8 E6 rfl rfl (E4 _ _ _) (.refl _) tK fun _ _ => ?_))); refine I4 rfl rfl (c8 rfl (c9 ?_))
 first | refine k6 rfl (fun hb3 => ?_) (fun hb3 => ?_) | refine i6 rfl (fun hb3 => ?_) (fun hb3 => ?_)
 ·have hb3' := hb3; try simp at hb3'
  have h3 : ¬ (-1 ≤ (cs.getD i default).2 ∧ (cs.getD i default).2 ≤ (cs.length : Int) - 1) := fun e => by rw [decide_eq_true e] at hb3; cases hb3
  refine i3 (c8 rfl (c9 (k8 (D6 ?_)))); exact ret1 () rfl (congrArg (fun b => some (int b)) (by rw [clsErr, if_neg h1, if_neg hb2, if_pos (by omega)])) rfl tK nK tK
 have hb3' := hb3; try simp at hb3'
 have h3 : -1 ≤ (cs.getD i default).2 ∧ (cs.getD i default).2 ≤ (cs.length : Int) - 1 := by simpa using hb3
 refine i3 ?_
 first | refine a6 ⟨_, 1, none⟩ rfl rfl y5 rfl ?_ | refine a6 _ rfl rfl y5 rfl ?_
 first | refine a7 rfl a8 rfl (d5 mB rfl) ?_ | refine a7 rfl a8 rfl (d3 mB rfl) ?_ | refine a7 rfl a8 rfl (b7 mB (b2 (by omega) rfl)) ?_ | refine a7 rfl a8 rfl (b8 mB (rows_get (by omega) rfl)) ?_ | refine a7 rfl a8 rfl (d6 mB rfl) ?_
 refine b6 rfl (nV rfl rfl rfl (c8 rfl (c9 ?_)))
 first | refine k6 rfl (fun hb4 => ?_) (fun hb4 => ?_) | refine i6 rfl (fun hb4 => ?_) (fun hb4 => ?_)
 ·have hb4' := hb4; try simp at hb4'
  refine i3 (c8 rfl (c9 (k8 (D6 ?_)))); exact ret1 () rfl (congrArg (fun b => some (int b)) (by rw [clsErr, if_neg h1, if_neg hb2, if_neg (by omega), if_pos hb4])) rfl tK nK tK
 have hb4' := hb4; try simp at hb4'
 refine i9 (v5 (i2 (i3 (c8 rfl (c9 (k8 ?_)))))); exact ret1 () rfl (congrArg (fun b => some (int b)) (by rw [clsErr, if_neg h1, if_neg hb2, if_neg (by omega), if_neg hb4])) rfl tK nK tK
theorem ps_take {hs : List Hd} {n : Nat} : ((hs.map Hd.p).take n).map (·.1) = (hs.take n).map (·.1) := by rw [← List.map_take, List.map_map]; rfl
theorem dD (cs : List Cl) (hs : List Hd) {i : Nat} (hi : i < hs.length) : headErr (trOf cs hs) i =
  if wordB (hs.getD i default).1 = false then 2
  else if (hs.getD i default).1 ∈ (hs.take i).map (·.1) then 4
  else if 0 < i ∧ (hs.getD i default).1 < (hs.getD (i - 1) default).1 then 5
  else if (hs.getD i default).2.1 < -1 ∨ (cs.length : Int) ≤ (hs.getD i default).2.1 ∨ (hs.getD i default).2.2.1 < -1 ∨ (hs.length : Int) ≤ (hs.getD i default).2.2.1 then 3
  else if (hs.getD i default).2.2.1 = (i : Int) then 9
  else if ¬ firstE (alsoErr hs.length i (hs.getD i default).2.2.2.l) (hs.getD i default).2.2.2.l.length = 0 then firstE (alsoErr hs.length i (hs.getD i default).2.2.2.l) (hs.getD i default).2.2.2.l.length
  else if kindBad (hs.getD i default).p = true then 8 else 0 := by
  unfold headErr; simp only [trOf, N4 hi, N4 (show i - 1 < hs.length by omega), ps_take, List.length_map]
  rfl
theorem nbw {a b c : Int} (h : (!decide (a ≤ b ∧ b ≤ c)) = true) : ¬ (a ≤ b ∧ b ≤ c) := fun e => by rw [decide_eq_true e] at h; cases h
theorem bw {a b c : Int} (h : (!decide (a ≤ b ∧ b ≤ c)) = false) : a ≤ b ∧ b ≤ c := Classical.byContradiction fun e => by rw [decide_eq_false e] at h; cases h
set_option maxHeartbeats 2000000 in
theorem pI {A B : Option Addr} {ca cb : Nat} (cs : List Cl) (hs : List Hd) (i : Nat) (h6 : hs.length ≤ 6) (hc6 : cs.length ≤ 6) (hc : hs.length ≤ cb) (hi : i < hs.length) (ha : ∀ h ∈ hs, h.2.2.2.l.length ≤ 1000000) : Meets prog aP [.agg #[.slice A cs.length ca, .slice B hs.length cb], int i] { LI := [Row A (rows cs), RowsF B hs Hd.row], val := fun _ : Unit => int (headErr (trOf cs hs) i) } := by
 refine i5 rE rfl t3 fun w0 => i3 (O9 rfl rfl fun gB => ?_); refine c8 rfl (c9 (d7 (V9 m1 ?_))); refine rZ m2 (A9 hi) ?_; have hal := ha _ (A9 hi); refine G4 ([]) (_) (.refl _) 9 [7] mixed (by decide) (by decide) (by decide) rfl rfl rfl ?_
 apply j8 _ rfl rfl rfl
 ·intro w1
  first | refine a6 ⟨_, 1, none⟩ rfl rfl j0 rfl ?_ | refine a6 _ rfl rfl j0 rfl ?_
  refine b5 ?_; exact i1 rfl
 apply j8 _ rfl rfl rfl
 ·intro w1
  first | refine a7 rfl b4 rfl (d3 mB rfl) ?_ | refine a7 rfl b4 rfl (d5 mB rfl) ?_ | refine a7 rfl b4 rfl (b7 mB (b2 (by omega) rfl)) ?_ | refine a7 rfl b4 rfl (b8 mB (rows_get (by omega) rfl)) ?_ | refine a7 rfl b4 rfl (d6 mB rfl) ?_
  refine b5 ?_; exact i1 rfl
 apply j8 _ rfl rfl rfl
 ·intro w1
  first | refine a6 ⟨_, 1, none⟩ rfl rfl j0 rfl ?_ | refine a6 _ rfl rfl j0 rfl ?_
  refine b5 ?_; exact i1 rfl
 apply j8 _ rfl rfl rfl
 ·intro w1
  first | refine a7 rfl b4 rfl (d3 mB rfl) ?_ | refine a7 rfl b4 rfl (d5 mB rfl) ?_ | refine a7 rfl b4 rfl (b7 mB (b2 (by omega) rfl)) ?_ | refine a7 rfl b4 rfl (b8 mB (rows_get (by omega) rfl)) ?_ | refine a7 rfl b4 rfl (d6 mB rfl) ?_
  refine b5 ?_; exact i1 rfl
 refine p6 rfl (k7 (fun w1 => q8 (α := Hd) _ _ rfl n7 l4 rfl rfl rfl mB rfl (by omega) (by decide) (q_z rfl)) (k7 (fun w1 => u0 rfl w5 l4 rfl rfl (r4 mB (u5 (by omega))) (q_z rfl)) ?_)); refine nX ⟨Nat, fun _ => True, fun g => .pointer (c5 g), fun _ => [], fun g => [(g, Obj.cells #[str [], int 0, int 0, .slice none 0 0] C1 (0, 0))]⟩ rfl rfl rfl ?_ ?_
 ·intro w1; refine q6 rfl (fun _ => E1 _) fun gA => b5 ?_; exact H1 gA tK (fun _ => rfl) (.refl _) tK
 refine k7 (fun w1 => c8 rfl (q_z rfl)) ?_; refine u4 ⟨rfl, ?_⟩; intro x7 hx7; refine l6 rfl rfl aJ l4 (by rfl) (by rfl) ?_; refine c9 (d7 (j4 (d7 ?_))); refine P7 (rows [hs.getD i default]) ⟨[], List.append_nil _⟩ (d4 ?_)
 first | refine a6 ⟨_, 0, none⟩ rfl rfl n6 rfl ?_ | refine a6 _ rfl rfl n6 rfl ?_
 first | refine a7 rfl a9 rfl (d5 mB rfl) ?_ | refine a7 rfl a9 rfl (d3 mB rfl) ?_ | refine a7 rfl a9 rfl (b7 mB (b2 (by omega) rfl)) ?_ | refine a7 rfl a9 rfl (b8 mB (rows_get (by omega) rfl)) ?_ | refine a7 rfl a9 rfl (d6 mB rfl) ?_
 refine i8 D5 rfl rfl (D2 (hs.getD i default).1) n4 tK fun _ _ => ?_; refine I4 rfl rfl (c8 rfl (c9 ?_))
 first | refine k6 rfl (fun hb1 => ?_) (fun hb1 => ?_) | refine i6 rfl (fun hb1 => ?_) (fun hb1 => ?_)
 ·have hb1' := hb1; try simp at hb1'
  have h1 : wordB (hs.getD i default).1 = false := by simpa using hb1
  refine i3 (c8 rfl (c9 (k8 (D6 ?_)))); exact ret1 () rfl (congrArg (fun b => some (int b)) (by rw [dD cs hs hi, if_pos h1])) rfl tK nK tK
 have hb1' := hb1; try simp at hb1'
 have h1 : ¬ wordB (hs.getD i default).1 = false := by simpa using hb1
 refine i3 (b6 rfl (b6 rfl ?_)); refine iT (hs.take i).length rfl n7 l4 rfl rfl (by simp; omega) (by simp; omega) ?_; refine ax2 (ps := hs) i mB (dA rfl rfl rfl ?_); refine i8 jG rfl rfl (iS (hs.take i) (hs.getD i default) (by simp; omega)) n4 mC fun _ _ => ?_; refine c8 rfl (c9 ?_)
 first | refine k6 rfl (fun hb2 => ?_) (fun hb2 => ?_) | refine i6 rfl (fun hb2 => ?_) (fun hb2 => ?_)
 ·have hb2' := hb2; try simp at hb2'
  refine i3 (c8 rfl (c9 (k8 (D6 ?_)))); exact ret1 () rfl (congrArg (fun b => some (int b)) (by rw [dD cs hs hi, if_neg h1, if_pos hb2])) rfl tK nK tK
 have hb2' := hb2; try simp at hb2'
 refine I6 ⟨fun _ : Unit => True, fun _ => [(1, int i), (2, .pointer (c5 gB)), (5, .slice B hs.length cb), (6, .pointer (c5 x7)), (27, .bool (decide (0 < i ∧ (hs.getD i default).1 < (hs.getD (i - 1) default).1)))], fun _ => [(gB, .cells #[.slice A cs.length ca, .slice B hs.length cb] r5 (0, 0))], fun _ => [Row (c5 x7) (rows [hs.getD i default]), Row B (rows hs), Row (hs.getD i default).2.2.2.a (rows (hs.getD i default).2.2.2.l)]⟩ ?_ ?_
 ·skip
  refine A7 11 mixed (by decide) (by decide) rfl rfl (p6 rfl (k7 (fun w1 => cR rfl rfl rfl (q_z rfl)) (p6 rfl ?_))); refine N5 (t := 30) (want := true) rfl ?_ ?_
  ·intro hg1; have hg1' := hg1; try simp at hg1'
   apply j8 _ rfl rfl rfl
   ·intro w1; refine k9 hg1 ?_
    first | refine a6 ⟨_, 0, none⟩ rfl rfl n6 rfl ?_ | refine a6 _ rfl rfl n6 rfl ?_
    refine b5 ?_; exact i1 rfl
   apply j8 _ rfl rfl rfl
   ·intro w1; refine k9 hg1 ?_
    first | refine a7 rfl a9 rfl (d3 mB rfl) ?_ | refine a7 rfl a9 rfl (d5 mB rfl) ?_ | refine a7 rfl a9 rfl (b7 mB (b2 (by omega) rfl)) ?_ | refine a7 rfl a9 rfl (b8 mB (rows_get (by omega) rfl)) ?_ | refine a7 rfl a9 rfl (d6 mB rfl) ?_
    refine b5 ?_; exact i1 rfl
   apply j8 _ rfl rfl rfl
   ·intro w1; refine k9 hg1 (b6 rfl (b5 ?_)); exact i1 rfl
   apply j8 _ rfl rfl rfl
   ·intro w1; refine k9 hg1 (b6 rfl (b5 ?_)); exact i1 rfl
   apply j8 _ rfl rfl rfl
   ·intro w1; refine k9 hg1 (O7 ((i - 1 : Nat) : Int) rfl rfl rfl (by omega) p8 (b5 ?_)); exact i1 rfl
   apply j8 _ rfl rfl rfl
   ·intro w1; refine k9 hg1 (q8 (α := Hd) hs (i - 1) rfl n7 l4 rfl rfl rfl mB rfl (by omega) (by decide) (b5 ?_)); exact i1 rfl
   apply j8 _ rfl rfl rfl
   ·intro w1; refine k9 hg1 ?_
    first | refine a6 ⟨_, 0, none⟩ rfl rfl n6 rfl ?_ | refine a6 _ rfl rfl n6 rfl ?_
    refine b5 ?_; exact i1 rfl
   apply j8 _ rfl rfl rfl
   ·intro w1; refine k9 hg1 (a7 rfl a9 rfl (b7 (cs := rows hs) mB (b2 (by omega) rfl)) (b5 ?_)); exact i1 rfl
   refine u4 ⟨rfl, ?_⟩; refine k9 hg1 (r_slss rfl rfl rfl ?_); refine p_t rfl rfl (bt1 hg1) rfl ?_; refine c8 rfl (b5 ?_); exact D0 _ () tK ⟨rfl, rfl, rfl, rfl, congrArg (fun b => some (Value.bool b)) (by rw [gx7]; exact decide_eq_decide.2 ⟨fun e => ⟨by omega, e⟩, fun e => e.2⟩), tK⟩ (List.Sublist.refl _) mC
  intro hg1; have hg1' := hg1; try simp at hg1'
  refine k7 (fun w1 => q7 hg1 (q_z rfl)) (k7 (fun w1 => q7 hg1 (q_z rfl)) (k7 (fun w1 => q7 hg1 (q_z rfl)) (k7 (fun w1 => q7 hg1 (q_z rfl)) (k7 (fun w1 => q7 hg1 (q_z rfl)) (k7 (fun w1 => q7 hg1 (q_z rfl)) (k7 (fun w1 => q7 hg1 (q_z rfl)) (k7 (fun w1 => q7 hg1 (q_z rfl)) ?_))))))); refine u4 ⟨rfl, ?_⟩; refine q7 hg1 (p_f rfl rfl (bf2 hg1) rfl ?_); refine c8 rfl (b5 ?_); exact D0 _ () tK ⟨rfl, rfl, rfl, rfl, congrArg (fun b => some (Value.bool b)) (by exact (decide_eq_false (by simp at hg1; omega)).symm), tK⟩ (List.Sublist.refl _) mC
 refine fun _ _ => ?_
 first | refine k6 rfl (fun hb3 => ?_) (fun hb3 => ?_) | refine i6 rfl (fun hb3 => ?_) (fun hb3 => ?_)
 ·have hb3' := hb3; try simp at hb3'
  refine i3 (c8 rfl (c9 (k8 (D6 ?_)))); exact ret1 () rfl (congrArg (fun b => some (int b)) (by rw [dD cs hs hi, if_neg h1, if_neg hb2, if_pos hb3])) rfl tK nK tK
 have hb3' := hb3; try simp at hb3'
 refine I6 ⟨fun _ : Unit => True, fun _ => [(1, int i), (2, .pointer (c5 gB)), (5, .slice B hs.length cb), (6, .pointer (c5 x7)), (41, .bool (decide (¬ ((-1 ≤ (hs.getD i default).2.1 ∧ (hs.getD i default).2.1 ≤ (cs.length : Int) - 1) ∧ (-1 ≤ (hs.getD i default).2.2.1 ∧ (hs.getD i default).2.2.1 ≤ (hs.length : Int) - 1)))))], fun _ => [(gB, .cells #[.slice A cs.length ca, .slice B hs.length cb] r5 (0, 0))], fun _ => [Row (c5 x7) (rows [hs.getD i default]), Row B (rows hs), Row (hs.getD i default).2.2.2.a (rows (hs.getD i default).2.2.2.l)]⟩ ?_ ?_
 ·skip
  refine i3 ?_
  first | refine a6 ⟨_, 1, none⟩ rfl rfl m7 rfl ?_ | refine a6 _ rfl rfl m7 rfl ?_
  first | refine a7 rfl a8 rfl (d5 mB rfl) ?_ | refine a7 rfl a8 rfl (d3 mB rfl) ?_ | refine a7 rfl a8 rfl (b7 mB (b2 (by omega) rfl)) ?_ | refine a7 rfl a8 rfl (b8 mB (rows_get (by omega) rfl)) ?_ | refine a7 rfl a8 rfl (d6 mB rfl) ?_
  first | refine a6 ⟨_, 0, none⟩ rfl rfl j3 rfl ?_ | refine a6 _ rfl rfl j3 rfl ?_
  first | refine a7 rfl b3 rfl (d5 mB rfl) ?_ | refine a7 rfl b3 rfl (d3 mB rfl) ?_ | refine a7 rfl b3 rfl (b7 mB (b2 (by omega) rfl)) ?_ | refine a7 rfl b3 rfl (b8 mB (rows_get (by omega) rfl)) ?_ | refine a7 rfl b3 rfl (d6 mB rfl) ?_
  refine j9 rfl p9 rfl (O7 _ rfl rfl rfl rfl p8 (i8 E6 rfl rfl (E4 _ _ _) n4 tK fun _ _ => ?_)); refine I4 rfl rfl (c8 rfl (c9 ?_))
  first | refine k6 rfl (fun hb4 => ?_) (fun hb4 => ?_) | refine i6 rfl (fun hb4 => ?_) (fun hb4 => ?_)
  ·have hb4' := hb4; try simp at hb4'
   refine i9 ?_; exact D0 _ () tK ⟨rfl, rfl, rfl, rfl, congrArg (fun b => some (Value.bool b)) (by rw [hb4]; symm; rw [decide_eq_true_eq]; exact fun e => nbw hb4 e.1), tK⟩ (List.Sublist.refl _) mC
  have hb4' := hb4; try simp at hb4'
  refine d4 ?_
  first | refine a6 ⟨_, 2, none⟩ rfl rfl n5 rfl ?_ | refine a6 _ rfl rfl n5 rfl ?_
  first | refine a7 rfl a8 rfl (d5 mB rfl) ?_ | refine a7 rfl a8 rfl (d3 mB rfl) ?_ | refine a7 rfl a8 rfl (b7 mB (b2 (by omega) rfl)) ?_ | refine a7 rfl a8 rfl (b8 mB (rows_get (by omega) rfl)) ?_ | refine a7 rfl a8 rfl (d6 mB rfl) ?_
  refine b6 rfl (j9 rfl n7 rfl (O7 _ rfl rfl rfl rfl p8 (i8 E6 rfl rfl (E4 _ _ _) n4 tK fun _ _ => ?_))); refine I4 rfl rfl (c8 rfl (b5 ?_)); exact D0 _ () tK ⟨rfl, rfl, rfl, rfl, congrArg (fun b => some (Value.bool b)) (by have := bw hb4; rw [Bool.eq_iff_iff]; simp only [Bool.not_eq_true', decide_eq_false_iff_not, decide_eq_true_eq]; exact ⟨fun e f => e f.2, fun e f => e ⟨this, f⟩⟩), tK⟩ (List.Sublist.refl _) mC
 refine fun _ _ => ?_
 first | refine k6 rfl (fun hb5 => ?_) (fun hb5 => ?_) | refine i6 rfl (fun hb5 => ?_) (fun hb5 => ?_)
 ·have hb5' := hb5; try simp at hb5'
  refine i3 (c8 rfl (c9 (k8 (D6 ?_)))); exact ret1 () rfl (congrArg (fun b => some (int b)) (by rw [dD cs hs hi, if_neg h1, if_neg hb2, if_neg hb3, if_pos (by omega)])) rfl tK nK tK
 have hb5' := hb5; try simp at hb5'
 refine i3 ?_
 first | refine a6 ⟨_, 2, none⟩ rfl rfl n5 rfl ?_ | refine a6 _ rfl rfl n5 rfl ?_
 first | refine a7 rfl a8 rfl (d5 mB rfl) ?_ | refine a7 rfl a8 rfl (d3 mB rfl) ?_ | refine a7 rfl a8 rfl (b7 mB (b2 (by omega) rfl)) ?_ | refine a7 rfl a8 rfl (b8 mB (rows_get (by omega) rfl)) ?_ | refine a7 rfl a8 rfl (d6 mB rfl) ?_
 refine b6 rfl (H5 rfl rfl rfl (c8 rfl (c9 ?_)))
 first | refine k6 rfl (fun hb6 => ?_) (fun hb6 => ?_) | refine i6 rfl (fun hb6 => ?_) (fun hb6 => ?_)
 ·have hb6' := hb6; try simp at hb6'
  refine i3 (c8 rfl (c9 (k8 (D6 ?_)))); exact ret1 () rfl (congrArg (fun b => some (int b)) (by rw [dD cs hs hi, if_neg h1, if_neg hb2, if_neg hb3, if_neg (by omega), if_pos hb6])) rfl tK nK tK
 have hb6' := hb6; try simp at hb6'
 have hH : headErr (trOf cs hs) i = if ¬ firstE (alsoErr hs.length i (hs.getD i default).2.2.2.l) (hs.getD i default).2.2.2.l.length = 0 then firstE (alsoErr hs.length i (hs.getD i default).2.2.2.l) (hs.getD i default).2.2.2.l.length else if kindBad (hs.getD i default).p = true then 8 else 0 := by rw [dD cs hs hi, if_neg h1, if_neg hb2, if_neg hb3, if_neg (by omega), if_neg hb6]
 refine i9 (v5 (i2 (d7 (i3 ?_))))
 first | refine a6 ⟨_, 3, none⟩ rfl rfl m6 rfl ?_ | refine a6 _ rfl rfl m6 rfl ?_
 first | refine a7 rfl j2 rfl (d5 mB rfl) ?_ | refine a7 rfl j2 rfl (d3 mB rfl) ?_ | refine a7 rfl j2 rfl (b7 mB (b2 (by omega) rfl)) ?_ | refine a7 rfl j2 rfl (b8 mB (rows_get (by omega) rfl)) ?_ | refine a7 rfl j2 rfl (d6 mB rfl) ?_
 refine j9 rfl v9 rfl ?_; refine b6 rfl (c9 (j4 ?_)); refine t8 (β := Nat) ⟨fun k => k ≤ (hs.getD i default).2.2.2.l.length ∧ firstE (alsoErr hs.length i (hs.getD i default).2.2.2.l) k = 0, fun k => [(1, int i), (2, .pointer (c5 gB)), (5, .slice B hs.length cb), (6, .pointer (c5 x7)), (63, .slice (hs.getD i default).2.2.2.a (hs.getD i default).2.2.2.l.length (hs.getD i default).2.2.2.c), (64, int (hs.getD i default).2.2.2.l.length), (65, int k)], fun _ => [(gB, .cells #[.slice A cs.length ca, .slice B hs.length cb] r5 (0, 0))], fun _ => [Row (c5 x7) (rows [hs.getD i default]), Row B (rows hs), Row (hs.getD i default).2.2.2.a (rows (hs.getD i default).2.2.2.l)]⟩ (fun k => (hs.getD i default).2.2.2.l.length - k) 0 ⟨Nat.zero_le _, rfl⟩ mC (List.Sublist.refl _) mC fun k hk => ?_; obtain ⟨hk, ht⟩ := hk; refine i3 (z6 rfl rfl rfl (c9 (d7 ?_)))
 first | refine k6 rfl (fun hb7 => ?_) (fun hb7 => ?_) | refine i6 rfl (fun hb7 => ?_) (fun hb7 => ?_)
 ·have hb7' := hb7; try simp at hb7'
  have hk2 : k < (hs.getD i default).2.2.2.l.length := by omega
  refine i9 (i2 (d7 (j4 (i3 (b6 rfl ?_))))); refine q8 (α := Int) _ _ rfl v9 D3 rfl rfl rfl mB rfl (by omega) (by decide) (a7 rfl a8 rfl (b7 mB (b2 (by omega) rfl)) ?_); refine c8 rfl (c8 rfl (c9 (j4 (i3 (b6 rfl (b6 rfl ?_)))))); refine j9 rfl n7 rfl (O7 _ rfl rfl rfl rfl p8 (i8 E6 rfl rfl (E4 _ _ _) n4 tK fun _ _ => ?_)); refine I4 rfl rfl (c8 rfl (c9 ?_))
  first | refine k6 rfl (fun hb8 => ?_) (fun hb8 => ?_) | refine i6 rfl (fun hb8 => ?_) (fun hb8 => ?_)
  ·have hb8' := hb8; try simp at hb8'
   refine i3 (c8 rfl (c9 (k8 (kA (D6 (w8 (D6 ?_))))))); exact ret1 () rfl (congrArg (fun b => some (int b)) (by have he : alsoErr hs.length i (hs.getD i default).2.2.2.l k = 3 := (by unfold alsoErr; rw [if_pos (by have := nbw hb8; omega)]); rw [hH, bC ht (by rw [he]; omega) _ hk2, if_pos (by rw [he]; omega), he])) rfl tK nK tK
  have hb8' := hb8; try simp at hb8'
  refine i3 (b6 rfl (b6 rfl (H5 rfl rfl rfl (c8 rfl (c9 ?_)))))
  first | refine k6 rfl (fun hb9 => ?_) (fun hb9 => ?_) | refine i6 rfl (fun hb9 => ?_) (fun hb9 => ?_)
  ·have hb9' := hb9; try simp at hb9'
   refine i3 (c8 rfl (c9 (k8 (kA (D6 (w8 (D6 ?_))))))); exact ret1 () rfl (congrArg (fun b => some (int b)) (by have he : alsoErr hs.length i (hs.getD i default).2.2.2.l k = 9 := (by unfold alsoErr; rw [if_neg (by have := bw hb8; omega), if_pos hb9]); rw [hH, bC ht (by rw [he]; omega) _ hk2, if_pos (by rw [he]; omega), he])) rfl tK nK tK
  have hb9' := hb9; try simp at hb9'
  refine I6 ⟨fun _ : Unit => True, fun _ => [(1, int i), (2, .pointer (c5 gB)), (5, .slice B hs.length cb), (6, .pointer (c5 x7)), (63, .slice (hs.getD i default).2.2.2.a (hs.getD i default).2.2.2.l.length (hs.getD i default).2.2.2.c), (64, int (hs.getD i default).2.2.2.l.length), (65, int k), (81, .bool (decide (0 < k ∧ (hs.getD i default).2.2.2.l.getD k default ≤ (hs.getD i default).2.2.2.l.getD (k - 1) default)))], fun _ => [(gB, .cells #[.slice A cs.length ca, .slice B hs.length cb] r5 (0, 0))], fun _ => [Row (c5 x7) (rows [hs.getD i default]), Row B (rows hs), Row (hs.getD i default).2.2.2.a (rows (hs.getD i default).2.2.2.l)]⟩ ?_ ?_
  ·skip
   refine d4 (b6 rfl (cR rfl rfl rfl (b6 rfl ?_))); refine v4 rfl rfl ?_ ?_
   ·intro hg2; have hg2' := hg2; try simp at hg2'
    refine k9 hg2 (b6 rfl (k9 hg2 ?_))
    first | refine a6 ⟨_, 3, none⟩ rfl rfl m6 rfl ?_ | refine a6 _ rfl rfl m6 rfl ?_
    refine k9 hg2 ?_
    first | refine a7 rfl j2 rfl (d5 mB rfl) ?_ | refine a7 rfl j2 rfl (d3 mB rfl) ?_ | refine a7 rfl j2 rfl (b7 mB (b2 (by omega) rfl)) ?_ | refine a7 rfl j2 rfl (b8 mB (rows_get (by omega) rfl)) ?_ | refine a7 rfl j2 rfl (d6 mB rfl) ?_
    refine k9 hg2 (b6 rfl (k9 hg2 ?_)); refine O7 ((k - 1 : Nat) : Int) rfl rfl rfl (by omega) p8 (k9 hg2 (q8 (α := Int) _ _ rfl v9 D3 rfl rfl rfl mB rfl (by omega) (by decide) (k9 hg2 (a7 rfl a8 rfl (b7 mB (b2 (by omega) rfl)) ?_)))); refine k9 hg2 (ij6 rfl rfl rfl ?_); refine p_t rfl rfl (bt1 hg2) rfl ?_; refine c8 rfl (b5 ?_); exact D0 _ () tK ⟨rfl, rfl, rfl, rfl, rfl, rfl, rfl, congrArg (fun b => some (Value.bool b)) (by exact decide_eq_decide.2 ⟨fun e => ⟨by omega, e⟩, fun e => e.2⟩), tK⟩ (List.Sublist.refl _) mC
   intro hg2; have hg2' := hg2; try simp at hg2'
   refine q7 hg2 (q7 hg2 (q7 hg2 (q7 hg2 (q7 hg2 (q7 hg2 (q7 hg2 (q7 hg2 ?_))))))); refine p_f rfl rfl (bf2 hg2) rfl ?_; refine c8 rfl (b5 ?_); exact D0 _ () tK ⟨rfl, rfl, rfl, rfl, rfl, rfl, rfl, congrArg (fun b => some (Value.bool b)) (by exact (decide_eq_false (by simp at hg2; omega)).symm), tK⟩ (List.Sublist.refl _) mC
  refine fun _ _ => ?_
  first | refine k6 rfl (fun hb10 => ?_) (fun hb10 => ?_) | refine i6 rfl (fun hb10 => ?_) (fun hb10 => ?_)
  ·have hb10' := hb10; try simp at hb10'
   refine i3 (c8 rfl (c9 (k8 (kA (D6 (w8 (D6 ?_))))))); exact ret1 () rfl (congrArg (fun b => some (int b)) (by have he : alsoErr hs.length i (hs.getD i default).2.2.2.l k = 5 := (by unfold alsoErr; rw [if_neg (by have := bw hb8; omega), if_neg hb9, if_pos hb10]); rw [hH, bC ht (by rw [he]; omega) _ hk2, if_pos (by rw [he]; omega), he])) rfl tK nK tK
  have hb10' := hb10; try simp at hb10'
  refine i9 (v5 (v5 (i2 (d4 ?_)))); refine t7 _ rfl rfl rfl rfl p8 ?_; refine b6 rfl (b5 ?_); exact again _ (k + 1) ⟨by omega, by rw [rJ ht]; unfold alsoErr; rw [if_neg (by have := bw hb8; omega), if_neg hb9, if_neg hb10]⟩ (z8 (by omega)) mC (List.Sublist.refl _) mC
 have hb7' := hb7; try simp at hb7'
 have hk2 : k = (hs.getD i default).2.2.2.l.length := by omega
 subst hk2; rw [if_neg (not_not_intro ht)] at hH; refine q9 (C3 (r7 (i2 (d7 ?_)))); refine I6 ⟨fun _ : Unit => True, fun _ => [(1, int i), (2, .pointer (c5 gB)), (5, .slice B hs.length cb), (6, .pointer (c5 x7)), (124, .bool (kindBad (hs.getD i default).p))], fun _ => [(gB, .cells #[.slice A cs.length ca, .slice B hs.length cb] r5 (0, 0))], fun _ => [Row (c5 x7) (rows [hs.getD i default]), Row B (rows hs), Row (hs.getD i default).2.2.2.a (rows (hs.getD i default).2.2.2.l)]⟩ ?_ ?_
 ·skip
  clear hH ht hk hb1 hb1' h1 hb2 hb2' hb3 hb3' hb5 hb5' hb6 hb6' hb7 hb7' ha h6 hc6 hc hi hal; refine d4 ?_
  first | refine a6 ⟨_, 2, none⟩ rfl rfl n5 rfl ?_ | refine a6 _ rfl rfl n5 rfl ?_
  first | refine a7 rfl a8 rfl (d5 mB rfl) ?_ | refine a7 rfl a8 rfl (d3 mB rfl) ?_ | refine a7 rfl a8 rfl (b7 mB (b2 (by omega) rfl)) ?_ | refine a7 rfl a8 rfl (b8 mB (rows_get (by omega) rfl)) ?_ | refine a7 rfl a8 rfl (d6 mB rfl) ?_
  refine L5 rfl rfl rfl (b6 rfl ?_); refine v4 rfl rfl ?_ ?_
  ·intro hg3; have hg3' := hg3; try simp at hg3'
   refine k9 hg3 ?_
   first | refine a6 ⟨_, 1, none⟩ rfl rfl m7 rfl ?_ | refine a6 _ rfl rfl m7 rfl ?_
   refine k9 hg3 ?_
   first | refine a7 rfl a8 rfl (d5 mB rfl) ?_ | refine a7 rfl a8 rfl (d3 mB rfl) ?_ | refine a7 rfl a8 rfl (b7 mB (b2 (by omega) rfl)) ?_ | refine a7 rfl a8 rfl (b8 mB (rows_get (by omega) rfl)) ?_ | refine a7 rfl a8 rfl (d6 mB rfl) ?_
   refine k9 hg3 (L5 rfl rfl rfl (k9 hg3 (b6 rfl ?_))); refine v4 rfl rfl ?_ ?_
   ·intro hg4; have hg4' := hg4; try simp at hg4'
    refine k9 hg4 ?_
    first | refine a6 ⟨_, 3, none⟩ rfl rfl m6 rfl ?_ | refine a6 _ rfl rfl m6 rfl ?_
    refine k9 hg4 ?_
    first | refine a7 rfl j2 rfl (d5 mB rfl) ?_ | refine a7 rfl j2 rfl (d3 mB rfl) ?_ | refine a7 rfl j2 rfl (b7 mB (b2 (by omega) rfl)) ?_ | refine a7 rfl j2 rfl (b8 mB (rows_get (by omega) rfl)) ?_ | refine a7 rfl j2 rfl (d6 mB rfl) ?_
    refine k9 hg4 (j9 rfl v9 rfl ?_); refine k9 hg4 (cR rfl rfl rfl (k9 hg3 ?_)); refine p_f rfl rfl (bf1 hg4) rfl (p_t rfl rfl (bt1 hg3) rfl (b6 rfl ?_)); refine v4 rfl rfl ?_ ?_
    ·intro hg5; have hg5' := hg5; try simp at hg5'
     refine k9 hg5 ?_
     first | refine a6 ⟨_, 2, none⟩ rfl rfl n5 rfl ?_ | refine a6 _ rfl rfl n5 rfl ?_
     refine k9 hg5 ?_
     first | refine a7 rfl a8 rfl (d5 mB rfl) ?_ | refine a7 rfl a8 rfl (d3 mB rfl) ?_ | refine a7 rfl a8 rfl (b7 mB (b2 (by omega) rfl)) ?_ | refine a7 rfl a8 rfl (b8 mB (rows_get (by omega) rfl)) ?_ | refine a7 rfl a8 rfl (d6 mB rfl) ?_
     refine k9 hg5 (H5 rfl rfl rfl (k9 hg5 (b6 rfl ?_))); refine v4 rfl rfl ?_ ?_
     ·intro hg6; have hg6' := hg6; try simp at hg6'
      refine k9 hg6 ?_
      first | refine a6 ⟨_, 1, none⟩ rfl rfl m7 rfl ?_ | refine a6 _ rfl rfl m7 rfl ?_
      refine k9 hg6 ?_
      first | refine a7 rfl a8 rfl (d5 mB rfl) ?_ | refine a7 rfl a8 rfl (d3 mB rfl) ?_ | refine a7 rfl a8 rfl (b7 mB (b2 (by omega) rfl)) ?_ | refine a7 rfl a8 rfl (b8 mB (rows_get (by omega) rfl)) ?_ | refine a7 rfl a8 rfl (d6 mB rfl) ?_
      refine k9 hg6 (H5 rfl rfl rfl (k9 hg5 ?_)); refine p_t rfl rfl (bt1 hg6) rfl ?_; refine k9 hg5 (b6 rfl ?_); refine v4 rfl rfl ?_ ?_
      ·intro hg7; have hg7' := hg7; try simp at hg7'
       refine k9 hg7 ?_
       first | refine a6 ⟨_, 3, none⟩ rfl rfl m6 rfl ?_ | refine a6 _ rfl rfl m6 rfl ?_
       refine k9 hg7 ?_
       first | refine a7 rfl j2 rfl (d5 mB rfl) ?_ | refine a7 rfl j2 rfl (d3 mB rfl) ?_ | refine a7 rfl j2 rfl (b7 mB (b2 (by omega) rfl)) ?_ | refine a7 rfl j2 rfl (b8 mB (rows_get (by omega) rfl)) ?_ | refine a7 rfl j2 rfl (d6 mB rfl) ?_
       refine k9 hg7 (j9 rfl v9 rfl ?_); refine k9 hg7 (H5 rfl rfl rfl (k9 hg5 ?_)); refine p_t rfl rfl (bt1 hg7) rfl (p_f rfl rfl (bf1 hg5) rfl (b5 ?_)); exact D0 _ () tK ⟨rfl, rfl, rfl, rfl, congrArg (fun b => some (Value.bool b)) (by simp only [kindBad, Hd.p]; simp_all), tK⟩ (List.Sublist.refl _) mC
      intro hg7; have hg7' := hg7; try simp at hg7'
      refine q7 hg7 (q7 hg7 (q7 hg7 (q7 hg7 (k9 hg5 ?_)))); refine p_f rfl rfl (bf2 hg7) rfl (p_f rfl rfl (bf1 hg5) rfl (b5 ?_)); exact D0 _ () tK ⟨rfl, rfl, rfl, rfl, congrArg (fun b => some (Value.bool b)) (by simp only [kindBad, Hd.p]; simp_all), tK⟩ (List.Sublist.refl _) mC
     intro hg6; have hg6' := hg6; try simp at hg6'
     refine q7 hg6 (q7 hg6 (q7 hg6 (k9 hg5 ?_))); refine p_f rfl rfl (bf2 hg6) rfl ?_; refine k9 hg5 (b6 rfl (bW rfl rfl rfl rfl rfl rfl (bW rfl rfl rfl rfl rfl rfl (bW rfl rfl rfl rfl rfl rfl (bW rfl rfl rfl rfl rfl rfl (k9 hg5 (p_f rfl rfl rfl rfl ?_))))))); refine p_f rfl rfl (bf1 hg5) rfl (b5 ?_); exact D0 _ () tK ⟨rfl, rfl, rfl, rfl, congrArg (fun b => some (Value.bool b)) (by simp only [kindBad, Hd.p]; simp_all), tK⟩ (List.Sublist.refl _) mC
    intro hg5; have hg5' := hg5; try simp at hg5'
    refine q7 hg5 (q7 hg5 (q7 hg5 (q7 hg5 (N9 rfl rfl rfl rfl rfl rfl (N9 rfl rfl rfl rfl rfl rfl (N9 rfl rfl rfl rfl rfl rfl (q7 hg5 (q7 hg5 (N9 rfl rfl rfl rfl rfl rfl (N9 rfl rfl rfl rfl rfl rfl (N9 rfl rfl rfl rfl rfl rfl ?_))))))))))); refine N9 rfl rfl rfl rfl rfl rfl (q7 hg5 ?_); refine p_t rfl rfl (bt2 hg5) rfl (b5 ?_); exact D0 _ () tK ⟨rfl, rfl, rfl, rfl, congrArg (fun b => some (Value.bool b)) (by simp only [kindBad, Hd.p]; simp_all), tK⟩ (List.Sublist.refl _) mC
   intro hg4; have hg4' := hg4; try simp at hg4'
   refine q7 hg4 (q7 hg4 (q7 hg4 (q7 hg4 (k9 hg3 ?_)))); refine p_t rfl rfl (bt2 hg4) rfl (p_t rfl rfl (bt1 hg3) rfl ?_); refine b6 rfl (bW rfl rfl rfl rfl rfl rfl (bW rfl rfl rfl rfl rfl rfl (bW rfl rfl rfl rfl rfl rfl (bW rfl rfl rfl rfl rfl rfl (N9 rfl rfl rfl rfl rfl rfl (N9 rfl rfl rfl rfl rfl rfl (N9 rfl rfl rfl rfl rfl rfl (bW rfl rfl rfl rfl rfl rfl (bW rfl rfl rfl rfl rfl rfl (N9 rfl rfl rfl rfl rfl rfl (N9 rfl rfl rfl rfl rfl rfl ?_))))))))))); refine N9 rfl rfl rfl rfl rfl rfl (N9 rfl rfl rfl rfl rfl rfl (bW rfl rfl rfl rfl rfl rfl (p_t rfl rfl rfl rfl (b5 ?_)))); exact D0 _ () tK ⟨rfl, rfl, rfl, rfl, congrArg (fun b => some (Value.bool b)) (by simp only [kindBad, Hd.p]; simp_all), tK⟩ (List.Sublist.refl _) mC
  intro hg3; have hg3' := hg3; try simp at hg3'
  refine q7 hg3 (q7 hg3 (q7 hg3 (q7 hg3 (N9 rfl rfl rfl rfl rfl rfl (N9 rfl rfl rfl rfl rfl rfl (N9 rfl rfl rfl rfl rfl rfl (N9 rfl rfl rfl rfl rfl rfl (q7 hg3 ?_)))))))); refine p_f rfl rfl (bf2 hg3) rfl ?_; refine b6 rfl (cS rfl rfl rfl ?_)
  first | refine a6 ⟨_, 2, none⟩ rfl rfl n5 rfl ?_ | refine a6 _ rfl rfl n5 rfl ?_
  refine cS rfl rfl rfl ?_
  first | refine a7 rfl a8 rfl (d5 mB rfl) ?_ | refine a7 rfl a8 rfl (d3 mB rfl) ?_ | refine a7 rfl a8 rfl (b7 mB (b2 (by omega) rfl)) ?_ | refine a7 rfl a8 rfl (b8 mB (rows_get (by omega) rfl)) ?_ | refine a7 rfl a8 rfl (d6 mB rfl) ?_
  refine cS rfl rfl rfl (H5 rfl rfl rfl (cS rfl rfl rfl (b6 rfl ?_))); refine v4 rfl rfl ?_ ?_
  ·intro hg8; have hg8' := hg8; try simp at hg8'
   refine k9 hg8 ?_
   first | refine a6 ⟨_, 1, none⟩ rfl rfl m7 rfl ?_ | refine a6 _ rfl rfl m7 rfl ?_
   refine k9 hg8 ?_
   first | refine a7 rfl a8 rfl (d5 mB rfl) ?_ | refine a7 rfl a8 rfl (d3 mB rfl) ?_ | refine a7 rfl a8 rfl (b7 mB (b2 (by omega) rfl)) ?_ | refine a7 rfl a8 rfl (b8 mB (rows_get (by omega) rfl)) ?_ | refine a7 rfl a8 rfl (d6 mB rfl) ?_
   refine k9 hg8 (H5 rfl rfl rfl (cS rfl rfl rfl ?_)); refine p_t rfl rfl (bt1 hg8) rfl ?_; refine cS rfl rfl rfl (b6 rfl ?_); refine v4 rfl rfl ?_ ?_
   ·intro hg9; have hg9' := hg9; try simp at hg9'
    refine k9 hg9 ?_
    first | refine a6 ⟨_, 3, none⟩ rfl rfl m6 rfl ?_ | refine a6 _ rfl rfl m6 rfl ?_
    refine k9 hg9 ?_
    first | refine a7 rfl j2 rfl (d5 mB rfl) ?_ | refine a7 rfl j2 rfl (d3 mB rfl) ?_ | refine a7 rfl j2 rfl (b7 mB (b2 (by omega) rfl)) ?_ | refine a7 rfl j2 rfl (b8 mB (rows_get (by omega) rfl)) ?_ | refine a7 rfl j2 rfl (d6 mB rfl) ?_
    refine k9 hg9 (j9 rfl v9 rfl ?_); refine k9 hg9 (H5 rfl rfl rfl (cS rfl rfl rfl ?_)); refine p_t rfl rfl (bt1 hg9) rfl ?_; refine p_f rfl rfl rfl rfl (b5 ?_); exact D0 _ () tK ⟨rfl, rfl, rfl, rfl, congrArg (fun b => some (Value.bool b)) (by simp only [kindBad, Hd.p]; simp_all), tK⟩ (List.Sublist.refl _) mC
   intro hg9; have hg9' := hg9; try simp at hg9'
   refine q7 hg9 (q7 hg9 (q7 hg9 (q7 hg9 (cS rfl rfl rfl ?_)))); refine p_f rfl rfl (bf2 hg9) rfl ?_; refine p_f rfl rfl rfl rfl (b5 ?_); exact D0 _ () tK ⟨rfl, rfl, rfl, rfl, congrArg (fun b => some (Value.bool b)) (by simp only [kindBad, Hd.p]; simp_all), tK⟩ (List.Sublist.refl _) mC
  intro hg8; have hg8' := hg8; try simp at hg8'
  refine q7 hg8 (q7 hg8 (q7 hg8 (cS rfl rfl rfl ?_))); refine p_f rfl rfl (bf2 hg8) rfl ?_; refine cS rfl rfl rfl (b6 rfl (bW rfl rfl rfl rfl rfl rfl (bW rfl rfl rfl rfl rfl rfl (bW rfl rfl rfl rfl rfl rfl (bW rfl rfl rfl rfl rfl rfl (cS rfl rfl rfl (p_f rfl rfl rfl rfl (p_f rfl rfl rfl rfl (b5 ?_))))))))); exact D0 _ () tK ⟨rfl, rfl, rfl, rfl, congrArg (fun b => some (Value.bool b)) (by simp only [kindBad, Hd.p]; simp_all), tK⟩ (List.Sublist.refl _) mC
 refine fun _ _ => ?_
 first | refine k6 rfl (fun hb11 => ?_) (fun hb11 => ?_) | refine i6 rfl (fun hb11 => ?_) (fun hb11 => ?_)
 ·have hb11' := hb11; try simp at hb11'
  refine i3 (c8 rfl (c9 (J0 ?_))); exact ret1 () rfl (congrArg (fun b => some (int b)) (by rw [hH, if_pos hb11])) rfl tK nK tK
 have hb11' := hb11; try simp at hb11'
 refine i9 (i2 (i3 (c8 rfl (c9 (k8 ?_))))); exact ret1 () rfl (congrArg (fun b => some (int b)) (by rw [hH, if_neg (by rw [hb11]; simp)])) rfl tK nK tK
theorem C9 (cs : List Cl) (hs : List Hd) : (trOf cs hs).hs.length = hs.length := List.length_map ..
theorem jU {A B : Option Addr} {ca cb : Nat} (cs : List Cl) (hs : List Hd) (hca : cs.length ≤ ca) (hcb : hs.length ≤ cb) (ha : ∀ h ∈ hs, h.2.2.2.l.length ≤ 1000000) : Meets prog jC [.agg #[.slice A cs.length ca, .slice B hs.length cb]] { LI := [Row A (rows cs), RowsF B hs Hd.row], val := fun _ : Unit => int (checkT (trOf cs hs)) } := by
 refine i5 xU rfl t3 fun w0 => i3 (O9 rfl rfl fun gB => ?_); refine c8 rfl (c9 (bT ?_)); have hl := C9 cs hs; refine d4 ?_
 first | refine a6 ⟨_, 0, none⟩ rfl rfl j3 rfl ?_ | refine a6 _ rfl rfl j3 rfl ?_
 first | refine a7 rfl b3 rfl (d5 mB rfl) ?_ | refine a7 rfl b3 rfl (d3 mB rfl) ?_ | refine a7 rfl b3 rfl (b7 mB (b2 (by omega) rfl)) ?_ | refine a7 rfl b3 rfl (b8 mB (rows_get (by omega) rfl)) ?_ | refine a7 rfl b3 rfl (d6 mB rfl) ?_
 refine j9 rfl p9 rfl ?_; refine cR rfl rfl rfl (b6 rfl ?_); refine v4 rfl rfl ?_ ?_
 ·intro hg1; have hg1' := hg1; try simp at hg1'
  have h6 : cs.length ≤ 6 := by simp at hg1; omega
  refine k9 hg1 ?_
  first | refine a6 ⟨_, 1, none⟩ rfl rfl j0 rfl ?_ | refine a6 _ rfl rfl j0 rfl ?_
  refine k9 hg1 ?_
  first | refine a7 rfl b4 rfl (d5 mB rfl) ?_ | refine a7 rfl b4 rfl (d3 mB rfl) ?_ | refine a7 rfl b4 rfl (b7 mB (b2 (by omega) rfl)) ?_ | refine a7 rfl b4 rfl (b8 mB (rows_get (by omega) rfl)) ?_ | refine a7 rfl b4 rfl (d6 mB rfl) ?_
  refine k9 hg1 (j9 rfl n7 rfl ?_); refine k9 hg1 (cR rfl rfl rfl ?_); refine p_f rfl rfl (bf1 hg1) rfl (c9 ?_)
  first | refine k6 rfl (fun hb1 => ?_) (fun hb1 => ?_) | refine i6 rfl (fun hb1 => ?_) (fun hb1 => ?_)
  ·have hb1' := hb1; try simp at hb1'
   refine i3 (c8 rfl (c9 (J0 ?_))); exact ret1 () rfl (congrArg (fun b => some (int b)) (by rw [checkT, if_pos (by rw [hl]; simp only; omega)])) rfl tK nK tK
  have hb1' := hb1; try simp at hb1'
  have h6h : hs.length ≤ 6 := by omega
  have hT : checkT (trOf cs hs) = if ¬ firstE (clsErr cs) cs.length = 0 then firstE (clsErr cs) cs.length else firstE (headErr (trOf cs hs)) hs.length := by rw [checkT, if_neg (by rw [hl]; simp only; omega), hl]
  refine i9 (i2 (d7 (i3 ?_)))
  first | refine a6 ⟨_, 0, none⟩ rfl rfl j3 rfl ?_ | refine a6 _ rfl rfl j3 rfl ?_
  first | refine a7 rfl b3 rfl (d5 mB rfl) ?_ | refine a7 rfl b3 rfl (d3 mB rfl) ?_ | refine a7 rfl b3 rfl (b7 mB (b2 (by omega) rfl)) ?_ | refine a7 rfl b3 rfl (b8 mB (rows_get (by omega) rfl)) ?_ | refine a7 rfl b3 rfl (d6 mB rfl) ?_
  refine j9 rfl p9 rfl ?_; refine b6 rfl (c9 (j4 ?_)); refine t8 (β := Nat) ⟨fun k => k ≤ cs.length ∧ firstE (clsErr cs) k = 0, fun k => [(1, .pointer (c5 gB)), (19, int cs.length), (20, int k)], fun _ => [(gB, .cells #[.slice A cs.length ca, .slice B hs.length cb] r5 (0, 0))], fun _ => [Row A (rows cs), RowsF B hs Hd.row]⟩ (fun k => cs.length - k) 0 ⟨Nat.zero_le _, rfl⟩ mC (List.Sublist.refl _) mC fun k hk => ?_; obtain ⟨hk, ht⟩ := hk; refine i3 (z6 rfl rfl rfl (c9 (d7 ?_)))
  first | refine k6 rfl (fun hb2 => ?_) (fun hb2 => ?_) | refine i6 rfl (fun hb2 => ?_) (fun hb2 => ?_)
  ·have hb2' := hb2; try simp at hb2'
   have hk2 : k < cs.length := by omega
   refine i9 (i2 (d7 (j4 (i3 (b6 rfl (c8 rfl (n9 ?_)))))))
   first | refine a6 ⟨_, 0, none⟩ rfl rfl j3 rfl ?_ | refine a6 _ rfl rfl j3 rfl ?_
   first | refine a7 rfl b3 rfl (d5 mB rfl) ?_ | refine a7 rfl b3 rfl (d3 mB rfl) ?_ | refine a7 rfl b3 rfl (b7 mB (b2 (by omega) rfl)) ?_ | refine a7 rfl b3 rfl (b8 mB (rows_get (by omega) rfl)) ?_ | refine a7 rfl b3 rfl (d6 mB rfl) ?_
   refine b6 rfl (i8 nH rfl rfl (mO cs k (by omega) hca hk2) n4 mC fun _ _ => ?_); refine c8 rfl (n9 (b6 rfl (L5 rfl rfl rfl (c9 ?_))))
   first | refine k6 rfl (fun hb3 => ?_) (fun hb3 => ?_) | refine i6 rfl (fun hb3 => ?_) (fun hb3 => ?_)
   ·have hb3' := hb3; try simp at hb3'
    refine i3 (b6 rfl (c8 rfl (c9 (k8 (D6 (w8 (D6 ?_))))))); exact ret1 () rfl (congrArg (fun b => some (int b)) (by rw [hT, bC ht hb3 _ hk2, if_pos hb3])) rfl tK nK tK
   have hb3' := hb3; try simp at hb3'
   refine i9 (v5 (i2 (d4 ?_))); refine t7 _ rfl rfl rfl rfl p8 ?_; refine b6 rfl (b5 ?_); exact again _ (k + 1) ⟨by omega, by rw [rJ ht]; exact Classical.not_not.1 hb3⟩ (z8 (by omega)) mC (List.Sublist.refl _) mC
  have hb2' := hb2; try simp at hb2'
  have hk2 : k = cs.length := by omega
  subst hk2; rw [if_neg (not_not_intro ht)] at hT; refine q9 (C3 (r7 (i2 (d7 (i3 ?_)))))
  first | refine a6 ⟨_, 1, none⟩ rfl rfl j0 rfl ?_ | refine a6 _ rfl rfl j0 rfl ?_
  first | refine a7 rfl b4 rfl (d5 mB rfl) ?_ | refine a7 rfl b4 rfl (d3 mB rfl) ?_ | refine a7 rfl b4 rfl (b7 mB (b2 (by omega) rfl)) ?_ | refine a7 rfl b4 rfl (b8 mB (rows_get (by omega) rfl)) ?_ | refine a7 rfl b4 rfl (d6 mB rfl) ?_
  refine j9 rfl n7 rfl ?_; refine b6 rfl (c9 (j4 ?_)); refine t8 (β := Nat) ⟨fun k => k ≤ hs.length ∧ firstE (headErr (trOf cs hs)) k = 0, fun k => [(1, .pointer (c5 gB)), (33, int hs.length), (34, int k)], fun _ => [(gB, .cells #[.slice A cs.length ca, .slice B hs.length cb] r5 (0, 0))], fun _ => [Row A (rows cs), RowsF B hs Hd.row]⟩ (fun k => hs.length - k) 0 ⟨Nat.zero_le _, rfl⟩ mC (List.Sublist.refl _) mC fun k hk => ?_; obtain ⟨hk, ht⟩ := hk; refine i3 (z6 rfl rfl rfl (c9 (d7 ?_)))
  first | refine k6 rfl (fun hb4 => ?_) (fun hb4 => ?_) | refine i6 rfl (fun hb4 => ?_) (fun hb4 => ?_)
  ·have hb4' := hb4; try simp at hb4'
   have hk2 : k < hs.length := by omega
   refine i9 (i2 (d7 (j4 (i3 (b6 rfl (c8 rfl (n9 ?_)))))))
   first | refine D1 rfl d9 c7 rfl mB (by rfl) ?_ | refine G0 rfl d9 c7 rfl mB (by rfl) ?_ | refine u0 rfl d9 c7 rfl rfl (r4 mB (u5 (by omega))) ?_
   refine b6 rfl (i8 qA rfl rfl (pI cs hs k h6h h6 hcb hk2 ha) n4 mC fun _ _ => ?_); refine c8 rfl (n9 (b6 rfl (L5 rfl rfl rfl (c9 ?_))))
   first | refine k6 rfl (fun hb5 => ?_) (fun hb5 => ?_) | refine i6 rfl (fun hb5 => ?_) (fun hb5 => ?_)
   ·have hb5' := hb5; try simp at hb5'
    refine i3 (b6 rfl (c8 rfl (c9 (k8 (D6 (w8 (D6 ?_))))))); exact ret1 () rfl (congrArg (fun b => some (int b)) (by rw [hT, bC ht hb5 _ hk2])) rfl tK nK tK
   have hb5' := hb5; try simp at hb5'
   refine i9 (v5 (i2 (d4 ?_))); refine t7 _ rfl rfl rfl rfl p8 ?_; refine b6 rfl (b5 ?_); exact again _ (k + 1) ⟨by omega, by rw [rJ ht]; exact Classical.not_not.1 hb5⟩ (z8 (by omega)) mC (List.Sublist.refl _) mC
  have hb4' := hb4; try simp at hb4'
  have hk2 : k = hs.length := by omega
  subst hk2; refine q9 (C3 (r7 (i2 (i3 (c8 rfl (c9 (k8 ?_))))))); exact ret1 () rfl (congrArg (fun b => some (int b)) (by rw [hT, ht])) rfl tK nK tK
 intro hg1; have hg1' := hg1; try simp at hg1'
 refine q7 hg1 (q7 hg1 (q7 hg1 (q7 hg1 ?_))); refine p_t rfl rfl (bt2 hg1) rfl ?_; refine c9 (c_t rfl rfl (i3 (c8 rfl (c9 (J0 ?_))))); exact ret1 () rfl (congrArg (fun b => some (int b)) (by rw [checkT, if_pos (by simp at hg1; simp only; omega)])) rfl tK nK tK
instance : El Nat where
  default := 0
  cells m := [u8 m]
  sz := 1
  len _ := rfl
  one a u h := by simp at h; subst h; rfl
inductive Kd where
  | art (c : Int) (al : Sl Int)
  | ptr (s : Int)
  | idx (al : Sl Int)
def Kd.v : Kd → Value
  | .art c al => .iface J6 (.agg #[int c, .slice al.a al.l.length al.c])
  | .ptr s => .iface J5 (.agg #[int s])
  | .idx al => .iface qI (.agg #[.slice al.a al.l.length al.c])
instance : El Kd where
  default := .ptr 0
  cells m := [m.v]
  sz := 1
  len _ := rfl
  one a u h := by simp at h; subst h; cases a <;> rfl
def kindOf (h : Hd) : Kd := if ¬ h.2.2.1 = -1 then .ptr h.2.2.1 else if ¬ h.2.1 = -1 then .art h.2.1 h.2.2.2 else .idx h.2.2.2
def kindsN (hs : List Hd) (k : Nat) : List Kd := (hs.take k).map kindOf
theorem I8 {hs : List Hd} {k : Nat} (h : k ≤ hs.length) : (kindsN hs k).length = k := by simp [kindsN, h]
theorem tN {hs : List Hd} {k : Nat} (h : k < hs.length) : kindsN hs (k + 1) = kindsN hs k ++ [kindOf (hs.getD k default)] := by
  unfold kindsN; rw [y0 hs k h, List.map_append]
  rfl
def maskOf (l : List Int) : Nat := l.foldl (fun m x => m ||| 2 ^ x.toNat) 0
theorem jq8 (l : List Int) (x : Int) : maskOf (l ++ [x]) = maskOf l ||| 2 ^ x.toNat := by unfold maskOf; rw [List.foldl_append]; rfl
theorem dx7 : ∀ (l : List Int) (m : Nat), m < 256 → (∀ x ∈ l, x.toNat < 8) → l.foldl (fun m x => m ||| 2 ^ x.toNat) m < 256
  | [], m, hm, _ => hm
  | x :: l, m, hm, h => by
    rw [List.foldl_cons]; refine dx7 l _ (Nat.or_lt_two_pow (n := 8) hm ?_) (fun y hy => h y (List.mem_cons_of_mem _ hy)); exact Nat.pow_lt_pow_right (by omega) (h x (List.mem_cons_self ..))
theorem mask_lt {l : List Int} (h : ∀ x ∈ l, x.toNat < 8) : maskOf l < 256 := dx7 l 0 (by decide) h
theorem aq7 : ∀ (l : List Int) (m j : Nat), (l.foldl (fun m x => m ||| 2 ^ x.toNat) m).testBit j = (m.testBit j || l.any fun x => x.toNat = j)
  | [], m, j => by simp
  | x :: l, m, j => by
    rw [List.foldl_cons, aq7 l, Nat.testBit_or, Nat.testBit_two_pow, List.any_cons, Bool.or_assoc]
theorem xI {l : List Int} (h : ∀ x ∈ l, 0 ≤ x) (j : Nat) : (maskOf l).testBit j = decide ((j : Int) ∈ l) := by
  unfold maskOf; rw [aq7, Nat.zero_testBit, Bool.false_or, Bool.eq_iff_iff, List.any_eq_true, decide_eq_true_eq]
  constructor
  · rintro ⟨x, hx, e⟩
    rw [decide_eq_true_eq] at e; have := h x hx
    rwa [show (j : Int) = x by omega]
  intro hj; exact ⟨_, hj, by simp⟩
def masksN (cs : List Cl) (k : Nat) : List Nat := (List.range k).map fun i : Nat => maskOf (pathT cs (i : Int))
theorem P6 (cs : List Cl) (k : Nat) : (masksN cs k).length = k := by simp [masksN]
theorem hj9 (cs : List Cl) (k : Nat) : masksN cs (k + 1) = masksN cs k ++ [maskOf (pathT cs (k : Int))] := by unfold masksN; rw [List.range_succ, List.map_append]; rfl
theorem rV {cs : List Cl} {k i : Nat} (h : i < k) : (masksN cs k).getD i default = maskOf (pathT cs (i : Int)) := by
  rw [w7 (by rw [P6]; exact h)]
  simp [masksN]
theorem mU {cs : List Cl} (h6 : cs.length ≤ 6) (hc : ∀ i, i < cs.length → ClsOK cs i) {c : Int} (hl : c < (cs.length : Int)) : ∀ x ∈ pathT cs c, 0 ≤ x ∧ x < 6 := fun x hx => by
  have := (vI cs hc c.toNat c (Nat.le_refl _) hl).2 x hx
  omega
theorem xJ {cs : List Cl} (h6 : cs.length ≤ 6) (hc : ∀ i, i < cs.length → ClsOK cs i) {c : Int} (hl : c < (cs.length : Int)) : maskOf (pathT cs c) < 256 := mask_lt fun x hx => by have := mU h6 hc hl x hx; omega
theorem bz4 {cs : List Cl} (h6 : cs.length ≤ 6) (hc : ∀ i, i < cs.length → ClsOK cs i) {k : Nat} (hk : k < cs.length) : maskOf (pathT cs (k : Int)) = 2 ^ k ||| maskOf (pathT cs (cs.getD k default).2) := by
  rw [bz2 cs hc (by omega) (by omega), jq8, Nat.or_comm]
  rfl
theorem lj2 {cs : List Cl} {c : Int} (h : c < 0) : maskOf (pathT cs c) = 0 := by rw [vH cs h]; rfl
theorem pmA {α : Type} (l : List α) (a b : α) : (l ++ [a, b]).Perm (a :: (l ++ [b])) := A6 fun p => by simp only [List.countP_append, List.countP_cons, List.countP_nil]; omega
theorem pmB {α : Type} (l : List α) (a b : α) : (a :: (l ++ [b])).Perm (l ++ [a, b]) := (pmA l a b).symm
theorem pmC {α : Type} (l : List α) (a : α) : (l ++ [a]).Perm (a :: l) := List.perm_append_comm (l₂ := [a])
def beginL (cs : List Cl) (hs : List Hd) (A : Option Addr) (ca : Nat) (B : Option Addr) (cb : Nat) (x : Nat × OutC × OutC) : List Fact := [Row (some ⟨x.1, 0, none⟩) [.slice A cs.length ca, .slice B hs.length cb, .slice x.2.1.1 cs.length x.2.1.2, .slice x.2.2.1 hs.length x.2.2.2], Row x.2.1.1 (rows (masksN cs cs.length)), Row x.2.2.1 (rows (kindsN hs hs.length))]
theorem kJ (m i : Nat) (hm : m < 256) (hi : i < 8) : Meets prog S3 [u8 m, int i] { val := fun _ : Unit => u8 (m ||| 2 ^ i) } := by
 refine i5 lW rfl t3 fun w0 => ?_; refine i3 (c8 rfl (n9 (b6 rfl (b6 rfl (kq8 i rfl rfl rfl rfl hi ?_))))); refine ij4 rfl rfl rfl hm (Nat.pow_lt_pow_right (by omega) hi : 2 ^ i < 2 ^ 8) ?_; refine c8 rfl (c9 (k8 ?_)); exact ret1 () rfl rfl rfl tK nK tK
theorem aT (m i : Nat) (hm : m < 256) (hi : i < 8) : Meets prog U8 [u8 m, int i] { val := fun _ : Unit => .bool (m.testBit i) } := by
 refine i5 nF rfl t3 fun w0 => ?_; refine i3 (c8 rfl (n9 (b6 rfl (b6 rfl (kq7 i rfl rfl rfl rfl hi ?_))))); refine gz9 (b := 1) rfl rfl rfl (Nat.lt_of_le_of_lt (Nat.div_le_self _ _) hm) (by decide) ?_; refine H5 rfl rfl rfl (c8 rfl (c9 (k8 ?_))); exact ret1 () rfl (congrArg (fun b => some (Value.bool b)) (by exact mj1 m i)) rfl tK nK tK
set_option maxHeartbeats 1000000 in
theorem K9 {A B : Option Addr} {ca cb : Nat} (cs : List Cl) (hs : List Hd) (hca : cs.length ≤ ca) (hcb : hs.length ≤ cb) (ha : ∀ h ∈ hs, h.2.2.2.l.length ≤ 1000000) : Meets prog jD [.agg #[.slice A cs.length ca, .slice B hs.length cb]] { LI := [Row A (rows cs), RowsF B hs Hd.row], val := fun x : Nat × OutC × OutC => .tuple #[if checkT (trOf cs hs) = 0 then .pointer (some ⟨x.1, 0, none⟩) else .pointer none, int (checkT (trOf cs hs))], LO := fun x => if checkT (trOf cs hs) = 0 then beginL cs hs A ca B cb x else [] } := by
 refine i5 xV rfl t3 fun w0 => i3 (O9 rfl rfl fun gB => ?_); refine c8 rfl (c8 rfl (c9 (d7 (i3 ?_))))
 first | refine D1 rfl d9 c7 rfl mB (by rfl) ?_ | refine G0 rfl d9 c7 rfl mB (by rfl) ?_ | refine u0 rfl d9 c7 rfl rfl (r4 mB (u5 (by omega))) ?_
 refine i8 kD rfl rfl (jU cs hs hca hcb ha) n4 mC fun _ _ => ?_; refine c8 rfl (n9 (b6 rfl (L5 rfl rfl rfl (c9 ?_))))
 first | refine k6 rfl (fun hb1 => ?_) (fun hb1 => ?_) | refine i6 rfl (fun hb1 => ?_) (fun hb1 => ?_)
 ·have hb1' := hb1; try simp at hb1'
  refine i3 (b6 rfl (c8 rfl (c8 rfl (c9 (J0 ?_))))); exact ret2 (0, (none, 0), (none, 0)) rfl rfl rfl (by show Value.tuple #[if checkT (trOf cs hs) = 0 then _ else _, _] = _; rw [if_neg hb1]) rfl tK nK (by show LSub _ (if checkT (trOf cs hs) = 0 then _ else []); rw [if_neg hb1]; trivial)
 have hb1' := hb1; try simp at hb1'
 have hok := lD (Classical.not_not.1 hb1); have h6 : cs.length ≤ 6 := hok.c6; have h6h := hok.h6; rw [C9] at h6h; have hcl : ∀ i, i < cs.length → ClsOK cs i := hok.c; refine i9 (i2 (i3 ?_))
 first | refine D1 rfl d9 c7 rfl mB (by rfl) ?_ | refine G0 rfl d9 c7 rfl mB (by rfl) ?_ | refine u0 rfl d9 c7 rfl rfl (r4 mB (u5 (by omega))) ?_
 refine t5 _ rfl rfl (fun _ => tE ..) (O9 rfl rfl fun gB_1 => ?_); refine c8 rfl (c9 (d7 (i3 ?_)))
 first | refine a6 ⟨_, 0, none⟩ rfl rfl j3 rfl ?_ | refine a6 _ rfl rfl j3 rfl ?_
 first | refine a7 rfl b3 rfl (d5 mB rfl) ?_ | refine a7 rfl b3 rfl (d3 mB rfl) ?_ | refine a7 rfl b3 rfl (b7 mB (b2 (by omega) rfl)) ?_ | refine a7 rfl b3 rfl (b8 mB (rows_get (by omega) rfl)) ?_ | refine a7 rfl b3 rfl (d6 mB rfl) ?_
 refine j9 rfl p9 rfl ?_; refine b6 rfl (c9 (j4 ?_)); refine t8 (β := Nat × OutC × Hp) ⟨fun x => x.1 ≤ cs.length ∧ Grow cW 1 x.2.1.1 x.1 x.2.1.2 (rows (masksN cs x.1)) x.2.2, fun x => [(1, .pointer (c5 gB)), (5, .pointer (c5 gB_1)), (20, .slice A cs.length ca), (21, int cs.length), (22, int x.1)], fun x => (gB_1, .cells #[.slice A cs.length ca, .slice B hs.length cb, .slice x.2.1.1 x.1 x.2.1.2, .slice none 0 0] kM (0, 0)) :: (x.2.2 ++ [(gB, .cells #[.slice A cs.length ca, .slice B hs.length cb] r5 (0, 0))]), fun _ => [Row A (rows cs), RowsF B hs Hd.row]⟩ (fun x => cs.length - x.1) (0, (none, 0), []) ⟨Nat.zero_le _, Grow.nil _ _⟩ mC (List.Sublist.refl _) mC fun x hx => ?_; obtain ⟨k, ⟨oa, oc⟩, og⟩ := x; obtain ⟨hk, hG⟩ := hx; simp only at hk hG; refine i3 (z6 rfl rfl rfl (c9 (d7 ?_)))
 first | refine k6 rfl (fun hb2 => ?_) (fun hb2 => ?_) | refine i6 rfl (fun hb2 => ?_) (fun hb2 => ?_)
 ·have hb2' := hb2; try simp at hb2'
  have hk2 : k < cs.length := by omega
  have hck := hcl k hk2; have hlo := hck.lo; have hhi := hck.hi; refine i9 (i2 (d7 (j4 (i3 (b6 rfl ?_))))); refine q8 (α := Cl) cs k rfl p9 u7 rfl rfl rfl mB rfl hk2 (by decide) (u0 rfl J7 u7 rfl rfl (r4 mB (u5 (by omega))) (q6 rfl (fun _ => Z2 _) fun gA => c8 rfl (l6 rfl rfl aJ u7 (by rfl) (by rfl) ?_))); refine n9 (b6 rfl ?_); refine i8 kS rfl rfl (kJ 0 k (by decide) (by omega)) n4 tK fun _ _ => ?_; refine c8 rfl (c9 ?_); refine I6 ⟨fun _ : Unit => True, fun _ => [(1, .pointer (c5 gB)), (5, .pointer (c5 gB_1)), (20, .slice A cs.length ca), (21, int cs.length), (22, int k), (8, u8 (maskOf (pathT cs (k : Int))))], fun _ => (gB_1, .cells #[.slice A cs.length ca, .slice B hs.length cb, .slice oa k oc, .slice none 0 0] kM (0, 0)) :: (og ++ [(gB, .cells #[.slice A cs.length ca, .slice B hs.length cb] r5 (0, 0))]), fun _ => [Row A (rows cs), RowsF B hs Hd.row]⟩ ?_ ?_
  ·skip
   refine i3 ?_
   first | refine a6 ⟨_, 1, none⟩ rfl rfl y5 rfl ?_ | refine a6 _ rfl rfl y5 rfl ?_
   first | refine a7 rfl a8 rfl (d5 mB rfl) ?_ | refine a7 rfl a8 rfl (d3 mB rfl) ?_ | refine a7 rfl a8 rfl (b7 mB (b2 (by omega) rfl)) ?_ | refine a7 rfl a8 rfl (b8 mB (rows_get (by omega) rfl)) ?_ | refine a7 rfl a8 rfl (d6 mB rfl) ?_
   refine nV rfl rfl rfl (c9 ?_)
   first | refine k6 rfl (fun hb3 => ?_) (fun hb3 => ?_) | refine i6 rfl (fun hb3 => ?_) (fun hb3 => ?_)
   ·have hb3' := hb3; try simp at hb3'
    obtain ⟨gC, cur, e1, e2, hnc, hcm, hcs, hct, _⟩ := hG.open_ (by omega); subst e1; subst e2
    have hcell : cur[0 + (cs.getD k default).2.toNat * 1]? = some (u8 (maskOf (pathT cs (cs.getD k default).2))) := by
      have h1 : (rows (masksN cs k))[(cs.getD k default).2.toNat * 1]? = some (u8 (maskOf (pathT cs (cs.getD k default).2))) := b2 (by rw [P6]; omega) (by rw [rV (by omega), Int.toNat_of_nonneg hb3]; rfl); rw [← hct, List.getElem?_take, if_pos (by omega)] at h1; rw [Nat.zero_add, ← Array.getElem?_toList]; exact h1
    refine A7 9 mixed (by decide) (by decide) rfl rfl (p6 rfl (p6 rfl (k7 (fun w1 => l5 rfl rfl (q_z rfl)) ?_)))
    apply j8 _ rfl rfl rfl
    ·intro w1
     first | refine a6 ⟨_, 2, none⟩ rfl rfl B6 rfl ?_ | refine a6 _ rfl rfl B6 rfl ?_
     refine b5 ?_; exact i1 rfl
    apply j8 _ rfl rfl rfl
    ·intro w1
     first | refine a7 rfl l3 rfl (d3 mB rfl) ?_ | refine a7 rfl l3 rfl (d5 mB rfl) ?_ | refine a7 rfl l3 rfl (b7 mB (b2 (by omega) rfl)) ?_ | refine a7 rfl l3 rfl (b8 mB (rows_get (by omega) rfl)) ?_ | refine a7 rfl l3 rfl (d6 mB rfl) ?_
     refine b5 ?_; exact i1 rfl
    apply j8 _ rfl rfl rfl
    ·intro w1
     first | refine a6 ⟨_, 1, none⟩ rfl rfl y5 rfl ?_ | refine a6 _ rfl rfl y5 rfl ?_
     refine b5 ?_; exact i1 rfl
    apply j8 _ rfl rfl rfl
    ·intro w1
     first | refine a7 rfl a8 rfl (d3 mB rfl) ?_ | refine a7 rfl a8 rfl (d5 mB rfl) ?_ | refine a7 rfl a8 rfl (b7 mB (b2 (by omega) rfl)) ?_ | refine a7 rfl a8 rfl (b8 mB (rows_get (by omega) rfl)) ?_ | refine a7 rfl a8 rfl (d6 mB rfl) ?_
     refine b5 ?_; exact i1 rfl
    refine k7 (fun w1 => u9 (cs.getD k default).2.toNat _ rfl O4 P0 rfl rfl (Int.toNat_of_nonneg hb3).symm (by omega) rfl (q_z rfl)) (k7 (fun w1 => a7 rfl N7 rfl (d3 mB hcell) (q_z rfl)) ?_); refine u4 ⟨rfl, ?_⟩; refine ij4 rfl rfl rfl (by rw [Nat.zero_or]; exact (Nat.pow_lt_pow_right (by omega) (by omega) : 2 ^ k < 2 ^ 8)) (xJ h6 hcl (by omega)) ?_; refine c8 rfl (b5 ?_); exact D0 _ () tK ⟨rfl, rfl, rfl, rfl, rfl, congrArg (fun b => some (u8 b)) (by rw [Nat.zero_or]; exact (bz4 h6 hcl hk2).symm), tK⟩ (List.sublist_cons_self _ _) mC
   have hb3' := hb3; try simp at hb3'
   refine i9 ?_; exact D0 _ () tK ⟨rfl, rfl, rfl, rfl, rfl, congrArg (fun b => some (u8 b)) (by rw [bz4 h6 hcl hk2, lj2 (by omega), Nat.or_zero, Nat.zero_or]), tK⟩ (List.sublist_cons_self _ _) mC
  refine fun _ _ => ?_; refine d4 (b6 rfl (b6 rfl (l5 rfl rfl ?_)))
  first | refine a6 ⟨_, 2, none⟩ rfl rfl B6 rfl ?_ | refine a6 _ rfl rfl B6 rfl ?_
  first | refine a7 rfl l3 rfl (d5 mB rfl) ?_ | refine a7 rfl l3 rfl (d3 mB rfl) ?_ | refine a7 rfl l3 rfl (b7 mB (b2 (by omega) rfl)) ?_ | refine a7 rfl l3 rfl (b8 mB (rows_get (by omega) rfl)) ?_ | refine a7 rfl l3 rfl (d6 mB rfl) ?_
  refine b6 rfl (l9 _ rfl rfl (fun _ => lH ..) fun gS => A8 (rows [maskOf (pathT cs (k : Int))]) (List.prefix_refl _) ?_); refine D9 (k + 1) (rows (masksN cs k ++ [maskOf (pathT cs (k : Int))])) pK rfl rfl rfl hG (pmB _ _ _) (Src.row (news := rows [maskOf (pathT cs (k : Int))]) (m := 1) m0 rfl (D4 _) (by decide)) rfl (v7 _ _).symm (by unfold maxLen; omega) (by omega) fun A' c' og' hG' => ?_; refine l5 rfl rfl ?_
  first | refine a6 ⟨_, 2, none⟩ rfl rfl B6 rfl ?_ | refine a6 _ rfl rfl B6 rfl ?_
  refine B0 rfl rfl (pmA _ _ _) pJ (by rfl) (by rfl) ?_; refine b5 (v5 (i2 (d4 ?_))); refine t7 _ rfl rfl rfl rfl p8 ?_; refine b6 rfl (b5 ?_); exact again _ (k + 1, (A', c'), og') ⟨by show k + 1 ≤ cs.length; omega, by show Grow _ _ _ _ _ (rows (masksN cs (k + 1))) _; rw [hj9]; exact hG'⟩ (z8 (by omega)) mC (List.Sublist.refl _) mC
 have hb2' := hb2; try simp at hb2'
 have hk2 : k = cs.length := by omega
 subst hk2; refine q9 (C3 (r7 (i2 (bT ?_)))); refine bV (pmB _ _ _) (lQ hG ?_); clear hG; refine d4 ?_
 first | refine a6 ⟨_, 1, none⟩ rfl rfl j0 rfl ?_ | refine a6 _ rfl rfl j0 rfl ?_
 first | refine a7 rfl b4 rfl (d5 mB rfl) ?_ | refine a7 rfl b4 rfl (d3 mB rfl) ?_ | refine a7 rfl b4 rfl (b7 mB (b2 (by omega) rfl)) ?_ | refine a7 rfl b4 rfl (b8 mB (rows_get (by omega) rfl)) ?_ | refine a7 rfl b4 rfl (d6 mB rfl) ?_
 refine j9 rfl n7 rfl ?_; refine b6 rfl (c9 (j4 (V9 mB ?_))); refine t8 (β := Nat × OutC × Hp) ⟨fun x => x.1 ≤ hs.length ∧ Grow R8 1 x.2.1.1 x.1 x.2.1.2 (rows (kindsN hs x.1)) x.2.2, fun x => [(5, .pointer (c5 gB_1)), (54, .slice B hs.length cb), (55, int hs.length), (56, int x.1)], fun x => (gB_1, .cells #[.slice A cs.length ca, .slice B hs.length cb, .slice oa cs.length oc, .slice x.2.1.1 x.1 x.2.1.2] kM (0, 0)) :: x.2.2, fun _ => [Row oa (rows (masksN cs cs.length)), Row A (rows cs), RowsF B hs Hd.row, Row B (rows hs)]⟩ (fun x => hs.length - x.1) (0, (none, 0), []) ⟨Nat.zero_le _, Grow.nil _ _⟩ mC (nK.cons_cons _) mC fun x hx => ?_; obtain ⟨k, ⟨ka, kc⟩, og2⟩ := x; obtain ⟨hk, hG⟩ := hx; simp only at hk hG; refine i3 (z6 rfl rfl rfl (c9 (d7 ?_)))
 first | refine k6 rfl (fun hb4 => ?_) (fun hb4 => ?_) | refine i6 rfl (fun hb4 => ?_) (fun hb4 => ?_)
 ·have hb4' := hb4; try simp at hb4'
  have hk2 : k < hs.length := by omega
  refine i9 (i2 (d7 (j4 (i3 ?_)))); refine q8 (α := Hd) hs k rfl n7 l4 rfl rfl rfl mB rfl hk2 (by decide) (u0 rfl w5 l4 rfl rfl (r4 mB (u5 (by omega))) (q6 rfl (fun _ => E1 _) fun gA => l6 rfl rfl aJ l4 (by rfl) (by rfl) ?_)); refine c9 (j4 (d7 ?_)); refine P7 (rows [hs.getD k default]) ⟨[], List.append_nil _⟩ (d4 ?_)
  first | refine a6 ⟨_, 2, none⟩ rfl rfl n5 rfl ?_ | refine a6 _ rfl rfl n5 rfl ?_
  first | refine a7 rfl a8 rfl (d5 mB rfl) ?_ | refine a7 rfl a8 rfl (d3 mB rfl) ?_ | refine a7 rfl a8 rfl (b7 mB (b2 (by omega) rfl)) ?_ | refine a7 rfl a8 rfl (b8 mB (rows_get (by omega) rfl)) ?_ | refine a7 rfl a8 rfl (d6 mB rfl) ?_
  refine L5 rfl rfl rfl (c8 rfl (c9 ?_))
  first | refine k6 rfl (fun hb5 => ?_) (fun hb5 => ?_) | refine i6 rfl (fun hb5 => ?_) (fun hb5 => ?_)
  ·have hb5' := hb5; try simp at hb5'
   refine G4 (og2) ([_]) (List.perm_append_comm (l₁ := [_])) 11 [10] mixed (by decide) (by decide) (by decide) rfl rfl rfl (p6 rfl (p6 rfl (k7 (fun w1 => l5 rfl rfl (q_z rfl)) ?_)))
   apply j8 _ rfl rfl rfl
   ·intro w1
    first | refine a6 ⟨_, 3, none⟩ rfl rfl l7 rfl ?_ | refine a6 _ rfl rfl l7 rfl ?_
    refine b5 ?_; exact i1 rfl
   apply j8 _ rfl rfl rfl
   ·intro w1
    first | refine a7 rfl i4 rfl (d3 mB rfl) ?_ | refine a7 rfl i4 rfl (d5 mB rfl) ?_ | refine a7 rfl i4 rfl (b7 mB (b2 (by omega) rfl)) ?_ | refine a7 rfl i4 rfl (b8 mB (rows_get (by omega) rfl)) ?_ | refine a7 rfl i4 rfl (d6 mB rfl) ?_
    refine b5 ?_; exact i1 rfl
   apply j8 _ rfl rfl rfl
   ·intro w1
    first | refine a6 ⟨_, 2, none⟩ rfl rfl n5 rfl ?_ | refine a6 _ rfl rfl n5 rfl ?_
    refine b5 ?_; exact i1 rfl
   apply j8 _ rfl rfl rfl
   ·intro w1
    first | refine a7 rfl a8 rfl (d3 mB rfl) ?_ | refine a7 rfl a8 rfl (d5 mB rfl) ?_ | refine a7 rfl a8 rfl (b7 mB (b2 (by omega) rfl)) ?_ | refine a7 rfl a8 rfl (b8 mB (rows_get (by omega) rfl)) ?_ | refine a7 rfl a8 rfl (d6 mB rfl) ?_
    refine b5 ?_; exact i1 rfl
   refine k7 (fun w1 => t5 _ rfl rfl (fun _ => pL ..) (q_z rfl)) (k7 (fun w1 => iU rfl ⟨_, underlying122, rfl⟩ rfl (q_z rfl)) ?_); refine aY ⟨Nat, fun _ => True, fun g => .slice (c5 g) 1 1, fun g => [Row (c5 g) (rows [Kd.ptr (hs.getD k default).2.2.1])]⟩ rfl rfl rfl ?_ ?_
   ·intro w1; refine l9 _ rfl rfl (fun _ => S9 ..) fun gS => b5 (Y5 (rows [Kd.ptr (hs.getD k default).2.2.1]) (List.prefix_refl _) ?_); exact L6 gS tK rfl ⟨m0, tK⟩
   refine nX ⟨OutC × Hp, fun x => Grow R8 1 x.1.1 (k + 1) x.1.2 (rows (kindsN hs k ++ [Kd.ptr (hs.getD k default).2.2.1])) x.2, fun x => .slice x.1.1 (k + 1) x.1.2, fun _ => [], fun x => x.2⟩ rfl rfl rfl ?_ ?_
   ·intro g9 _; intro w1; refine D9 (k + 1) (rows (kindsN hs k ++ [Kd.ptr (hs.getD k default).2.2.1])) aE rfl rfl rfl hG (hp' := []) (by rw [List.append_nil]) (Src.row (news := rows [Kd.ptr (hs.getD k default).2.2.1]) (m := 1) m0 rfl (D4 _) (by decide)) rfl (v7 _ _).symm (by unfold maxLen; omega) (by omega) fun A' c' og' hG' => ?_; refine b5 ?_; exact H1 ((A', c'), og') hG' (fun _ => rfl) (by rw [List.append_nil]; exact .refl _) tK
   refine u4 ⟨rfl, ?_⟩; intro g9 _ x hx; obtain ⟨⟨xa, xc⟩, xo⟩ := x; simp only at hx; refine l5 rfl rfl ?_
   first | refine a6 ⟨_, 3, none⟩ rfl rfl l7 rfl ?_ | refine a6 _ rfl rfl l7 rfl ?_
   refine B0 rfl rfl (pmC _ _) aB (by rfl) (by rfl) ?_; refine b5 (v5 (v5 (i2 (d4 ?_)))); refine t7 _ rfl rfl rfl rfl p8 ?_; refine b6 rfl (b5 ?_); exact again _ (k + 1, (xa, xc), xo) ⟨by show k + 1 ≤ hs.length; omega, by show Grow _ _ _ _ _ (rows (kindsN hs (k + 1))) _; rw [tN hk2, kindOf, if_pos hb5]; exact hx⟩ (z8 (by omega)) mC (List.Sublist.refl _) mC
  have hb5' := hb5; try simp at hb5'
  refine i3 ?_
  first | refine a6 ⟨_, 1, none⟩ rfl rfl m7 rfl ?_ | refine a6 _ rfl rfl m7 rfl ?_
  first | refine a7 rfl a8 rfl (d5 mB rfl) ?_ | refine a7 rfl a8 rfl (d3 mB rfl) ?_ | refine a7 rfl a8 rfl (b7 mB (b2 (by omega) rfl)) ?_ | refine a7 rfl a8 rfl (b8 mB (rows_get (by omega) rfl)) ?_ | refine a7 rfl a8 rfl (d6 mB rfl) ?_
  refine L5 rfl rfl rfl (c8 rfl (c9 ?_))
  first | refine k6 rfl (fun hb6 => ?_) (fun hb6 => ?_) | refine i6 rfl (fun hb6 => ?_) (fun hb6 => ?_)
  ·have hb6' := hb6; try simp at hb6'
   refine G4 (og2) ([_]) (List.perm_append_comm (l₁ := [_])) 13 [12] mixed (by decide) (by decide) (by decide) rfl rfl rfl (p6 rfl (p6 rfl (k7 (fun w1 => l5 rfl rfl (q_z rfl)) ?_)))
   apply j8 _ rfl rfl rfl
   ·intro w1
    first | refine a6 ⟨_, 3, none⟩ rfl rfl l7 rfl ?_ | refine a6 _ rfl rfl l7 rfl ?_
    refine b5 ?_; exact i1 rfl
   apply j8 _ rfl rfl rfl
   ·intro w1
    first | refine a7 rfl i4 rfl (d3 mB rfl) ?_ | refine a7 rfl i4 rfl (d5 mB rfl) ?_ | refine a7 rfl i4 rfl (b7 mB (b2 (by omega) rfl)) ?_ | refine a7 rfl i4 rfl (b8 mB (rows_get (by omega) rfl)) ?_ | refine a7 rfl i4 rfl (d6 mB rfl) ?_
    refine b5 ?_; exact i1 rfl
   apply j8 _ rfl rfl rfl
   ·intro w1
    first | refine a6 ⟨_, 1, none⟩ rfl rfl m7 rfl ?_ | refine a6 _ rfl rfl m7 rfl ?_
    refine b5 ?_; exact i1 rfl
   apply j8 _ rfl rfl rfl
   ·intro w1
    first | refine a7 rfl a8 rfl (d3 mB rfl) ?_ | refine a7 rfl a8 rfl (d5 mB rfl) ?_ | refine a7 rfl a8 rfl (b7 mB (b2 (by omega) rfl)) ?_ | refine a7 rfl a8 rfl (b8 mB (rows_get (by omega) rfl)) ?_ | refine a7 rfl a8 rfl (d6 mB rfl) ?_
    refine b5 ?_; exact i1 rfl
   apply j8 _ rfl rfl rfl
   ·intro w1
    first | refine a6 ⟨_, 3, none⟩ rfl rfl m6 rfl ?_ | refine a6 _ rfl rfl m6 rfl ?_
    refine b5 ?_; exact i1 rfl
   apply j8 _ rfl rfl rfl
   ·intro w1
    first | refine a7 rfl j2 rfl (d3 mB rfl) ?_ | refine a7 rfl j2 rfl (d5 mB rfl) ?_ | refine a7 rfl j2 rfl (b7 mB (b2 (by omega) rfl)) ?_ | refine a7 rfl j2 rfl (b8 mB (rows_get (by omega) rfl)) ?_ | refine a7 rfl j2 rfl (d6 mB rfl) ?_
    refine b5 ?_; exact i1 rfl
   refine k7 (fun w1 => t5 _ rfl rfl (fun _ => lI ..) (q_z rfl)) (k7 (fun w1 => iU rfl ⟨_, underlying124, rfl⟩ rfl (q_z rfl)) ?_); refine aY ⟨Nat, fun _ => True, fun g => .slice (c5 g) 1 1, fun g => [Row (c5 g) (rows [Kd.art (hs.getD k default).2.1 (hs.getD k default).2.2.2])]⟩ rfl rfl rfl ?_ ?_
   ·intro w1; refine l9 _ rfl rfl (fun _ => S9 ..) fun gS => b5 (Y5 (rows [Kd.art (hs.getD k default).2.1 (hs.getD k default).2.2.2]) (List.prefix_refl _) ?_); exact L6 gS tK rfl ⟨m0, tK⟩
   refine nX ⟨OutC × Hp, fun x => Grow R8 1 x.1.1 (k + 1) x.1.2 (rows (kindsN hs k ++ [Kd.art (hs.getD k default).2.1 (hs.getD k default).2.2.2])) x.2, fun x => .slice x.1.1 (k + 1) x.1.2, fun _ => [], fun x => x.2⟩ rfl rfl rfl ?_ ?_
   ·intro g9 _; intro w1; refine D9 (k + 1) (rows (kindsN hs k ++ [Kd.art (hs.getD k default).2.1 (hs.getD k default).2.2.2])) aE rfl rfl rfl hG (hp' := []) (by rw [List.append_nil]) (Src.row (news := rows [Kd.art (hs.getD k default).2.1 (hs.getD k default).2.2.2]) (m := 1) m0 rfl (D4 _) (by decide)) rfl (v7 _ _).symm (by unfold maxLen; omega) (by omega) fun A' c' og' hG' => ?_; refine b5 ?_; exact H1 ((A', c'), og') hG' (fun _ => rfl) (by rw [List.append_nil]; exact .refl _) tK
   refine u4 ⟨rfl, ?_⟩; intro g9 _ x hx; obtain ⟨⟨xa, xc⟩, xo⟩ := x; simp only at hx; refine l5 rfl rfl ?_
   first | refine a6 ⟨_, 3, none⟩ rfl rfl l7 rfl ?_ | refine a6 _ rfl rfl l7 rfl ?_
   refine B0 rfl rfl (pmC _ _) aB (by rfl) (by rfl) ?_; refine b5 (v5 (v5 (i2 (d4 ?_)))); refine t7 _ rfl rfl rfl rfl p8 ?_; refine b6 rfl (b5 ?_); exact again _ (k + 1, (xa, xc), xo) ⟨by show k + 1 ≤ hs.length; omega, by show Grow _ _ _ _ _ (rows (kindsN hs (k + 1))) _; rw [tN hk2, kindOf, if_neg hb5, if_pos hb6]; exact hx⟩ (z8 (by omega)) mC (List.Sublist.refl _) mC
  have hb6' := hb6; try simp at hb6'
  refine G4 (og2) ([_]) (List.perm_append_comm (l₁ := [_])) 11 [10] mixed (by decide) (by decide) (by decide) rfl rfl rfl (p6 rfl (p6 rfl (k7 (fun w1 => l5 rfl rfl (q_z rfl)) ?_)))
  apply j8 _ rfl rfl rfl
  ·intro w1
   first | refine a6 ⟨_, 3, none⟩ rfl rfl l7 rfl ?_ | refine a6 _ rfl rfl l7 rfl ?_
   refine b5 ?_; exact i1 rfl
  apply j8 _ rfl rfl rfl
  ·intro w1
   first | refine a7 rfl i4 rfl (d3 mB rfl) ?_ | refine a7 rfl i4 rfl (d5 mB rfl) ?_ | refine a7 rfl i4 rfl (b7 mB (b2 (by omega) rfl)) ?_ | refine a7 rfl i4 rfl (b8 mB (rows_get (by omega) rfl)) ?_ | refine a7 rfl i4 rfl (d6 mB rfl) ?_
   refine b5 ?_; exact i1 rfl
  apply j8 _ rfl rfl rfl
  ·intro w1
   first | refine a6 ⟨_, 3, none⟩ rfl rfl m6 rfl ?_ | refine a6 _ rfl rfl m6 rfl ?_
   refine b5 ?_; exact i1 rfl
  apply j8 _ rfl rfl rfl
  ·intro w1
   first | refine a7 rfl j2 rfl (d3 mB rfl) ?_ | refine a7 rfl j2 rfl (d5 mB rfl) ?_ | refine a7 rfl j2 rfl (b7 mB (b2 (by omega) rfl)) ?_ | refine a7 rfl j2 rfl (b8 mB (rows_get (by omega) rfl)) ?_ | refine a7 rfl j2 rfl (d6 mB rfl) ?_
   refine b5 ?_; exact i1 rfl
  refine k7 (fun w1 => t5 _ rfl rfl (fun _ => sH ..) (q_z rfl)) (k7 (fun w1 => iU rfl ⟨_, underlying126, rfl⟩ rfl (q_z rfl)) ?_); refine aY ⟨Nat, fun _ => True, fun g => .slice (c5 g) 1 1, fun g => [Row (c5 g) (rows [Kd.idx (hs.getD k default).2.2.2])]⟩ rfl rfl rfl ?_ ?_
  ·intro w1; refine l9 _ rfl rfl (fun _ => S9 ..) fun gS => b5 (Y5 (rows [Kd.idx (hs.getD k default).2.2.2]) (List.prefix_refl _) ?_); exact L6 gS tK rfl ⟨m0, tK⟩
  refine nX ⟨OutC × Hp, fun x => Grow R8 1 x.1.1 (k + 1) x.1.2 (rows (kindsN hs k ++ [Kd.idx (hs.getD k default).2.2.2])) x.2, fun x => .slice x.1.1 (k + 1) x.1.2, fun _ => [], fun x => x.2⟩ rfl rfl rfl ?_ ?_
  ·intro g9 _; intro w1; refine D9 (k + 1) (rows (kindsN hs k ++ [Kd.idx (hs.getD k default).2.2.2])) aE rfl rfl rfl hG (hp' := []) (by rw [List.append_nil]) (Src.row (news := rows [Kd.idx (hs.getD k default).2.2.2]) (m := 1) m0 rfl (D4 _) (by decide)) rfl (v7 _ _).symm (by unfold maxLen; omega) (by omega) fun A' c' og' hG' => ?_; refine b5 ?_; exact H1 ((A', c'), og') hG' (fun _ => rfl) (by rw [List.append_nil]; exact .refl _) tK
  refine u4 ⟨rfl, ?_⟩; intro g9 _ x hx; obtain ⟨⟨xa, xc⟩, xo⟩ := x; simp only at hx; refine l5 rfl rfl ?_
  first | refine a6 ⟨_, 3, none⟩ rfl rfl l7 rfl ?_ | refine a6 _ rfl rfl l7 rfl ?_
  refine B0 rfl rfl (pmC _ _) aB (by rfl) (by rfl) ?_; refine b5 (v5 (v5 (i2 (d4 ?_)))); refine t7 _ rfl rfl rfl rfl p8 ?_; refine b6 rfl (b5 ?_); exact again _ (k + 1, (xa, xc), xo) ⟨by show k + 1 ≤ hs.length; omega, by show Grow _ _ _ _ _ (rows (kindsN hs (k + 1))) _; rw [tN hk2, kindOf, if_neg hb5, if_neg hb6]; exact hx⟩ (z8 (by omega)) mC (List.Sublist.refl _) mC
 have hb4' := hb4; try simp at hb4'
 have hk2 : k = hs.length := by omega
 subst hk2; refine q9 (C3 (r7 (i2 (i3 (b6 rfl (c8 rfl (c8 rfl (c9 ?_)))))))); refine k8 ?_; have h0 := Classical.not_not.1 hb1; refine Y5 [.slice A cs.length ca, .slice B hs.length cb, .slice oa cs.length oc, .slice ka hs.length kc] (List.prefix_refl _) (lO hG ?_); exact ret2 (gB_1, (oa, oc), (ka, kc)) rfl rfl rfl (by show Value.tuple #[if checkT (trOf cs hs) = 0 then _ else _, int (checkT (trOf cs hs))] = _; rw [if_pos h0, h0]) rfl tK nK (by show LSub _ (if checkT (trOf cs hs) = 0 then _ else []); rw [if_pos h0]; exact mC)
theorem aq6 {cs : List Cl} (h6 : cs.length ≤ 6) (hc : ∀ i, i < cs.length → ClsOK cs i) {i : Nat} (h : i < cs.length) : (masksN cs cs.length).getD i default < 256 := by
  rw [rV h]; exact xJ h6 hc (by omega)
theorem rW {cs : List Cl} (h6 : cs.length ≤ 6) (hc : ∀ i, i < cs.length → ClsOK cs i) {a : Int} (h0 : 0 ≤ a) (h : a < (cs.length : Int)) (j : Nat) : ((masksN cs cs.length).getD a.toNat default).testBit j = decide ((j : Int) ∈ pathT cs a) := by
  rw [rV (by omega), Int.toNat_of_nonneg h0, xI fun x hx => (mU h6 hc h x hx).1]
def leastE (t : Tr) (a b : Int) : Int × Int := if ¬ checkT t = 0 then (0, checkT t) else if ¬ ((0 ≤ a ∧ a ≤ (t.cs.length : Int) - 1) ∧ (0 ≤ b ∧ b ≤ (t.cs.length : Int) - 1)) then (0, 3) else (leastT t a b, 0)
theorem dz0 (p q : List Int) (k : Nat) : leastN p q (k + 1) = if (k : Int) ∈ p ∧ (k : Int) ∈ q then (k : Int) else leastN p q k := rfl
set_option maxHeartbeats 1000000 in
theorem uW {A B : Option Addr} {ca cb : Nat} (cs : List Cl) (hs : List Hd) (a b : Int) (hca : cs.length ≤ ca) (hcb : hs.length ≤ cb) (ha : ∀ h ∈ hs, h.2.2.2.l.length ≤ 1000000) : Meets prog cE [.agg #[.slice A cs.length ca, .slice B hs.length cb], int a, int b] { LI := [Row A (rows cs), RowsF B hs Hd.row], val := fun _ : Unit => .tuple #[int (leastE (trOf cs hs) a b).1, int (leastE (trOf cs hs) a b).2] } := by
 refine i5 xY rfl t3 fun w0 => i3 (O9 rfl rfl fun gB => ?_); refine c8 rfl (c8 rfl (c9 ?_)); refine I6 ⟨fun _ : Nat × OutC × OutC => True, fun x => [(1, int a), (2, int b), (3, .pointer (c5 gB)), (8, if checkT (trOf cs hs) = 0 then .pointer (some ⟨x.1, 0, none⟩) else .pointer none), (9, int (checkT (trOf cs hs)))], fun _ => [(gB, .cells #[.slice A cs.length ca, .slice B hs.length cb] r5 (0, 0))], fun x => (if checkT (trOf cs hs) = 0 then beginL cs hs A ca B cb x else []) ++ [Row A (rows cs), RowsF B hs Hd.row]⟩ ?_ ?_
 ·skip
  refine d4 ?_
  first | refine D1 rfl d9 c7 rfl mB (by rfl) ?_ | refine G0 rfl d9 c7 rfl mB (by rfl) ?_ | refine u0 rfl d9 c7 rfl rfl (r4 mB (u5 (by omega))) ?_
  refine i8 L9 rfl rfl (K9 cs hs hca hcb ha) n4 mC fun x _ => ?_; refine b6 rfl (j7 rfl rfl rfl (j7 rfl rfl rfl (c8 rfl (c8 rfl (b5 ?_))))); exact D0 _ x tK mC (List.Sublist.refl _) (LSub.of_mem fun F h => h)
 refine fun x _ => ?_
 dsimp only
 refine d7 (j4 (i3 (b6 rfl (L5 rfl rfl rfl (c8 rfl (c9 ?_))))))
 first | refine k6 rfl (fun hb1 => ?_) (fun hb1 => ?_) | refine i6 rfl (fun hb1 => ?_) (fun hb1 => ?_)
 ·have hb1' := hb1; try simp at hb1'
  refine i3 (b6 rfl (c8 rfl (c8 rfl (c9 (k8 (D6 ?_)))))); exact ret2 () rfl rfl rfl (by show Value.tuple #[int (leastE _ _ _).1, int (leastE _ _ _).2] = _; rw [leastE, if_pos hb1]) rfl tK nK tK
 have hb1' := hb1; try simp at hb1'
 have h0 := Classical.not_not.1 hb1; rw [if_pos h0, if_pos h0]; have hok := lD h0; have h6 : cs.length ≤ 6 := hok.c6; have h6h := hok.h6; rw [C9] at h6h; have hcl : ∀ i, i < cs.length → ClsOK cs i := hok.c; obtain ⟨gl, ⟨oa, oc⟩, ⟨ka, kc⟩⟩ := x; show HC _ _ _ _ _ [Row (c5 gl) [.slice A cs.length ca, .slice B hs.length cb, .slice oa cs.length oc, .slice ka hs.length kc], Row oa (rows (masksN cs cs.length)), Row ka (rows (kindsN hs hs.length)), Row A (rows cs), RowsF B hs Hd.row]; refine I6 ⟨fun _ : Unit => True, fun _ => [(1, int a), (2, int b), (3, .pointer (c5 gB)), (8, .pointer (c5 gl)), (20, .bool (decide (¬ ((0 ≤ a ∧ a ≤ (cs.length : Int) - 1) ∧ (0 ≤ b ∧ b ≤ (cs.length : Int) - 1)))))], fun _ => [(gB, .cells #[.slice A cs.length ca, .slice B hs.length cb] r5 (0, 0))], fun _ => [Row (c5 gl) [.slice A cs.length ca, .slice B hs.length cb, .slice oa cs.length oc, .slice ka hs.length kc], Row oa (rows (masksN cs cs.length)), Row ka (rows (kindsN hs hs.length)), Row A (rows cs), RowsF B hs Hd.row]⟩ ?_ ?_
 ·skip
  refine i3 (b6 rfl ?_)
  first | refine a6 ⟨_, 0, none⟩ rfl rfl j3 rfl ?_ | refine a6 _ rfl rfl j3 rfl ?_
  first | refine a7 rfl b3 rfl (d5 mB rfl) ?_ | refine a7 rfl b3 rfl (d3 mB rfl) ?_ | refine a7 rfl b3 rfl (b7 mB (b2 (by omega) rfl)) ?_ | refine a7 rfl b3 rfl (b8 mB (rows_get (by omega) rfl)) ?_ | refine a7 rfl b3 rfl (d6 mB rfl) ?_
  refine j9 rfl p9 rfl (O7 _ rfl rfl rfl rfl p8 (i8 E6 rfl rfl (E4 _ _ _) n4 tK fun _ _ => ?_)); refine I4 rfl rfl (c8 rfl (c9 ?_))
  first | refine k6 rfl (fun hb2 => ?_) (fun hb2 => ?_) | refine i6 rfl (fun hb2 => ?_) (fun hb2 => ?_)
  ·have hb2' := hb2; try simp at hb2'
   refine i9 ?_; exact D0 _ () tK ⟨rfl, rfl, rfl, rfl, congrArg (fun b => some (Value.bool b)) (by rw [hb2]; symm; rw [decide_eq_true_eq]; exact fun e => nbw hb2 e.1), tK⟩ (List.Sublist.refl _) mC
  have hb2' := hb2; try simp at hb2'
  refine d4 (b6 rfl ?_)
  first | refine a6 ⟨_, 0, none⟩ rfl rfl j3 rfl ?_ | refine a6 _ rfl rfl j3 rfl ?_
  first | refine a7 rfl b3 rfl (d5 mB rfl) ?_ | refine a7 rfl b3 rfl (d3 mB rfl) ?_ | refine a7 rfl b3 rfl (b7 mB (b2 (by omega) rfl)) ?_ | refine a7 rfl b3 rfl (b8 mB (rows_get (by omega) rfl)) ?_ | refine a7 rfl b3 rfl (d6 mB rfl) ?_
  refine j9 rfl p9 rfl (O7 _ rfl rfl rfl rfl p8 (i8 E6 rfl rfl (E4 _ _ _) n4 tK fun _ _ => ?_)); refine I4 rfl rfl (c8 rfl (b5 ?_)); exact D0 _ () tK ⟨rfl, rfl, rfl, rfl, congrArg (fun b => some (Value.bool b)) (by have := bw hb2; rw [Bool.eq_iff_iff]; simp only [Bool.not_eq_true', decide_eq_false_iff_not, decide_eq_true_eq]; exact ⟨fun e f => e f.2, fun e f => e ⟨this, f⟩⟩), tK⟩ (List.Sublist.refl _) mC
 refine fun _ _ => ?_
 first | refine k6 rfl (fun hb3 => ?_) (fun hb3 => ?_) | refine i6 rfl (fun hb3 => ?_) (fun hb3 => ?_)
 ·have hb3' := hb3; try simp at hb3'
  refine i3 (c8 rfl (c8 rfl (c9 (k8 (D6 ?_))))); exact ret2 () rfl rfl rfl (by show Value.tuple #[int (leastE _ _ _).1, int (leastE _ _ _).2] = _; rw [leastE, if_neg hb1, if_pos hb3]) rfl tK nK tK
 have hb3' := hb3; try simp at hb3'
 have hr := Classical.not_not.1 hb3; have hE : leastE (trOf cs hs) a b = (leastN (pathT cs a) (pathT cs b) cs.length, 0) := by rw [leastE, if_neg hb1, if_neg hb3]; rfl
 refine i9 (v5 (i2 (d7 (i3 ?_))))
 first | refine a6 ⟨_, 0, none⟩ rfl rfl j3 rfl ?_ | refine a6 _ rfl rfl j3 rfl ?_
 first | refine a7 rfl b3 rfl (d5 mB rfl) ?_ | refine a7 rfl b3 rfl (d3 mB rfl) ?_ | refine a7 rfl b3 rfl (b7 mB (b2 (by omega) rfl)) ?_ | refine a7 rfl b3 rfl (b8 mB (rows_get (by omega) rfl)) ?_ | refine a7 rfl b3 rfl (d6 mB rfl) ?_
 refine j9 rfl p9 rfl (O7 _ rfl rfl rfl rfl p8 ?_); refine c8 rfl (c9 (j4 ?_)); refine t8 (β := Nat) ⟨fun k => k ≤ cs.length ∧ leastN (pathT cs a) (pathT cs b) cs.length = leastN (pathT cs a) (pathT cs b) k, fun k => [(1, int a), (2, int b), (8, .pointer (c5 gl)), (10, int ((k : Int) - 1))], fun _ => [], fun _ => [Row (c5 gl) [.slice A cs.length ca, .slice B hs.length cb, .slice oa cs.length oc, .slice ka hs.length kc], Row oa (rows (masksN cs cs.length)), Row ka (rows (kindsN hs hs.length)), Row A (rows cs), RowsF B hs Hd.row]⟩ (fun k => k) cs.length ⟨Nat.le_refl _, rfl⟩ mC nK mC fun k hk => ?_; obtain ⟨hk, ht⟩ := hk; refine d7 (i3 (b6 rfl (nV rfl rfl rfl (c9 ?_))))
 first | refine k6 rfl (fun hb4 => ?_) (fun hb4 => ?_) | refine i6 rfl (fun hb4 => ?_) (fun hb4 => ?_)
 ·have hb4' := hb4; try simp at hb4'
  obtain ⟨j, rfl⟩ : ∃ j, k = j + 1 := ⟨k - 1, by omega⟩; rw [dz0] at ht; have hj1 : (((j + 1 : Nat) : Int) - 1) = (j : Int) := by omega
  refine i9 (i2 (d7 (j4 (d7 ?_)))); refine A7 16 mixed (by decide) (by decide) rfl rfl (p6 rfl (k7 (fun w1 => l5 rfl rfl (q_z rfl)) ?_))
  apply j8 _ rfl rfl rfl
  ·intro w1
   first | refine a6 ⟨_, 2, none⟩ rfl rfl B6 rfl ?_ | refine a6 _ rfl rfl B6 rfl ?_
   refine b5 ?_; exact i1 rfl
  apply j8 _ rfl rfl rfl
  ·intro w1
   first | refine a7 rfl l3 rfl (d3 mB rfl) ?_ | refine a7 rfl l3 rfl (d5 mB rfl) ?_ | refine a7 rfl l3 rfl (b7 mB (b2 (by omega) rfl)) ?_ | refine a7 rfl l3 rfl (b8 mB (rows_get (by omega) rfl)) ?_ | refine a7 rfl l3 rfl (d6 mB rfl) ?_
   refine b5 ?_; exact i1 rfl
  refine p6 rfl ?_; refine k7 (fun w1 => q8 (α := Nat) (masksN cs cs.length) a.toNat rfl O4 P0 rfl rfl (Int.toNat_of_nonneg hr.1.1).symm mB (P6 _ _).symm (by rw [P6]; omega) (by decide) (q_z rfl)) ?_; refine k7 (fun w1 => a7 (v := u8 ((masksN cs cs.length).getD a.toNat default)) rfl N7 rfl (b7 mB (b2 (by rw [P6]; omega) rfl)) (q_z rfl)) ?_; refine p6 rfl (k7 (fun w1 => l5 rfl rfl (q_z rfl)) ?_)
  apply j8 _ rfl rfl rfl
  ·intro w1
   first | refine a6 ⟨_, 2, none⟩ rfl rfl B6 rfl ?_ | refine a6 _ rfl rfl B6 rfl ?_
   refine b5 ?_; exact i1 rfl
  apply j8 _ rfl rfl rfl
  ·intro w1
   first | refine a7 rfl l3 rfl (d3 mB rfl) ?_ | refine a7 rfl l3 rfl (d5 mB rfl) ?_ | refine a7 rfl l3 rfl (b7 mB (b2 (by omega) rfl)) ?_ | refine a7 rfl l3 rfl (b8 mB (rows_get (by omega) rfl)) ?_ | refine a7 rfl l3 rfl (d6 mB rfl) ?_
   refine b5 ?_; exact i1 rfl
  refine p6 rfl ?_; refine k7 (fun w1 => q8 (α := Nat) (masksN cs cs.length) b.toNat rfl O4 P0 rfl rfl (Int.toNat_of_nonneg hr.2.1).symm mB (P6 _ _).symm (by rw [P6]; omega) (by decide) (q_z rfl)) ?_; refine k7 (fun w1 => a7 (v := u8 ((masksN cs cs.length).getD b.toNat default)) rfl N7 rfl (b7 mB (b2 (by rw [P6]; omega) rfl)) (q_z rfl)) ?_; refine k7 (fun w1 => gz9 (a := ((masksN cs cs.length).getD a.toNat default)) (b := ((masksN cs cs.length).getD b.toNat default)) rfl rfl rfl (aq6 (i := a.toNat) h6 hcl (by omega)) (aq6 (i := b.toNat) h6 hcl (by omega)) (q_z rfl)) ?_; refine k7 (fun w1 => mT (v := int j) rfl (congrArg (fun z => some (int z)) hj1) (q_z rfl)) ?_; refine u4 ⟨rfl, ?_⟩; refine i8 bB rfl rfl (aT ((masksN cs cs.length).getD a.toNat default &&& (masksN cs cs.length).getD b.toNat default) j (Nat.lt_of_le_of_lt Nat.and_le_left (aq6 (i := a.toNat) h6 hcl (by omega))) (by omega)) n4 tK fun _ _ => c9 ?_
  first | refine k6 rfl (fun hb5 => ?_) (fun hb5 => ?_) | refine i6 rfl (fun hb5 => ?_) (fun hb5 => ?_)
  ·have hb5' := hb5; try simp at hb5'
   rw [Nat.testBit_and, rW h6 hcl hr.1.1 (by omega), rW h6 hcl hr.2.1 (by omega), ← Bool.decide_and, decide_eq_true_eq] at hb5; rw [if_pos hb5] at ht; refine i3 (b6 rfl (c8 rfl (c8 rfl (c9 (k8 (D6 (w8 (kA ?_)))))))); refine w8 ?_; exact ret2 () rfl rfl rfl (by rw [hE, ht, hj1]) rfl tK nK tK
  have hb5' := hb5; try simp at hb5'
  rw [Nat.testBit_and, rW h6 hcl hr.1.1 (by omega), rW h6 hcl hr.2.1 (by omega), ← Bool.decide_and, decide_eq_false_iff_not] at hb5; rw [if_neg hb5] at ht; refine i9 (v5 (i2 (d4 (b6 rfl ?_)))); refine O7 ((j : Int) - 1) rfl rfl rfl (by omega) p8 ?_; refine c8 rfl (b5 ?_); exact again _ j ⟨by omega, ht⟩ (by show j < j + 1; omega) mC nK mC
 have hb4' := hb4; try simp at hb4'
 have hk0 : k = 0 := by omega
 subst hk0; refine q9 (C3 (r7 (i2 (i3 (c8 rfl (c8 rfl (c9 (k8 ?_)))))))); exact ret2 () rfl rfl rfl (by rw [hE, ht]; rfl) rfl tK nK tK
theorem zv_ptr (w : World) : (zeroValue J5).run prog w = .ok (.agg #[int 0]) w := m9
theorem zv_art (w : World) : (zeroValue J6).run prog w = .ok (.agg #[int 0, .slice none 0 0]) w := m9
def Kd.isP : Kd → Bool | .ptr _ => true | _ => false
def Kd.isA : Kd → Bool | .art _ _ => true | _ => false
def Kd.see : Kd → Int | .ptr s => s | _ => 0
def Kd.cls : Kd → Int | .art c _ => c | _ => 0
def Kd.als : Kd → Sl Int | .art _ a => a | _ => ⟨none, 0, []⟩
section
variable {c : Cx} {Q : Exit → Act → World → Prop} {fr : Fr} {hp : Hp} {L : List Fact} {ops : Array Oper} {rest : List Oper} {d : Tmp} {ty : TypeId} {pos : String} {af : Array Edge}
theorem r_asP {xt : TypeId} {x : Operand} {kd : Kd} (hd : Nat.blt d c.n = true) (hP : c.P = prog) (hx : ev fr x = some kd.v) (k : HL c ops Q rest ((d, .tuple #[.agg #[int kd.see], .bool kd.isP]) :: fr) hp L) : HL c ops Q (⟨some d, .typeAssert x xt J5 true, ty, pos, af, none⟩ :: rest) fr hp L := by
  have ht : NoI c.P J5 := by rw [hP]; exact ⟨_, underlying122, rfl⟩
  have hz : ∀ w, (zeroValue J5).run c.P w = .ok (.agg #[int 0]) w := by rw [hP]; exact zv_ptr
  cases kd with
  | ptr s => exact bz0 hd ht hx k
  | art a b => exact rR hd ht hx rfl hz k
  | idx b => exact rR hd ht hx rfl hz k
theorem r_asA {xt : TypeId} {x : Operand} {kd : Kd} (hd : Nat.blt d c.n = true) (hP : c.P = prog) (hx : ev fr x = some kd.v) (k : HL c ops Q rest ((d, .tuple #[.agg #[int kd.cls, .slice kd.als.a kd.als.l.length kd.als.c], .bool kd.isA]) :: fr) hp L) : HL c ops Q (⟨some d, .typeAssert x xt J6 true, ty, pos, af, none⟩ :: rest) fr hp L := by
  have ht : NoI c.P J6 := by rw [hP]; exact ⟨_, underlying124, rfl⟩
  have hz : ∀ w, (zeroValue J6).run c.P w = .ok (.agg #[int 0, .slice none 0 0]) w := by rw [hP]; exact zv_art
  cases kd with
  | art a b => exact bz0 hd ht hx k
  | ptr s => exact rR hd ht hx rfl hz k
  | idx b => exact rR hd ht hx rfl hz k
end
theorem qV {hs : List Hd} {i : Nat} (h : i < hs.length) : (kindsN hs hs.length).getD i default = kindOf (hs.getD i default) := by
  rw [w7 (by rw [I8 (Nat.le_refl _)]; exact h), w7 h]
  simp [kindsN]
theorem cx5 (h : Hd) : (kindOf h).isP = decide (¬ h.2.2.1 = -1) := by
  unfold kindOf
  split
  · rename_i e; simp [Kd.isP, e]
  rename_i e; split <;> simp [Kd.isP, Classical.not_not.1 e]
theorem see_of {h : Hd} (e : ¬ h.2.2.1 = -1) : (kindOf h).see = h.2.2.1 := by unfold kindOf; rw [if_pos e]; rfl
theorem isA_of (h : Hd) : (kindOf h).isA = (decide (h.2.2.1 = -1) && decide (¬ h.2.1 = -1)) := by
  unfold kindOf
  split
  · rename_i e; simp [Kd.isA, e]
  rename_i e
  split
  · rename_i e2; simp [Kd.isA, Classical.not_not.1 e, e2]
  rename_i e2; simp [Kd.isA, Classical.not_not.1 e2]
theorem isTr_at (cs : List Cl) {hs : List Hd} {i : Int} (h0 : 0 ≤ i) (h : i < (hs.length : Int)) : (kindOf (hs.getD i.toNat default)).isA = isTrB (trOf cs hs) i := by
  rw [isA_of, isTrB]; simp only [trOf, N4 (show i.toNat < hs.length by omega)]
  rfl
abbrev folR (o : Option (Int × Int)) : Value := .tuple #[int (o.getD (0, 0)).1, int (o.getD (0, 0)).2, .bool o.isSome]
def SeesOK (hs : List Hd) : Prop := ∀ i, i < hs.length → -1 ≤ (hs.getD i default).2.2.1 ∧ (hs.getD i default).2.2.1 < (hs.length : Int)
theorem ij2 {cs : List Cl} {hs : List Hd} (h : TrOK (trOf cs hs)) : SeesOK hs := fun i hi => by
  have h1 := (h.h i (by rw [C9]; exact hi)).s; simp only [trOf, N4 hi] at h1; have h2 := h1.2.1; rw [List.length_map] at h2; exact ⟨h1.1, h2⟩
theorem p_see (h : Hd) : h.p.2.2.1 = h.2.2.1 := rfl
theorem Y4 {A B oa ka : Option Addr} {ca cb oc kc gl : Nat} (cs : List Cl) (hs : List Hd) (i : Int) (h0 : 0 ≤ i) (h : i < (hs.length : Int)) (hl : hs.length ≤ 6) : Meets prog S2 [.pointer (c5 gl), int i] { LI := [Row (c5 gl) [.slice A cs.length ca, .slice B hs.length cb, .slice oa cs.length oc, .slice ka hs.length kc], Row ka (rows (kindsN hs hs.length))], val := fun _ : Unit => .bool (isTrB (trOf cs hs) i) } := by
 refine i5 lV rfl t3 fun w0 => ?_; refine i3 (c8 rfl (n9 (b6 rfl (l5 rfl rfl ?_))))
 first | refine a6 ⟨_, 3, none⟩ rfl rfl l7 rfl ?_ | refine a6 _ rfl rfl l7 rfl ?_
 first | refine a7 rfl i4 rfl (d5 mB rfl) ?_ | refine a7 rfl i4 rfl (d3 mB rfl) ?_ | refine a7 rfl i4 rfl (b7 mB (b2 (by omega) rfl)) ?_ | refine a7 rfl i4 rfl (b8 mB (rows_get (by omega) rfl)) ?_ | refine a7 rfl i4 rfl (d6 mB rfl) ?_
 refine b6 rfl ?_; refine q8 (α := Kd) (kindsN hs hs.length) i.toNat rfl C5 P3 rfl rfl (Int.toNat_of_nonneg h0).symm mB (I8 (Nat.le_refl _)).symm (by rw [I8 (Nat.le_refl _)]; omega) (by decide) ?_; refine a7 (v := Kd.v (kindOf (hs.getD i.toNat default))) rfl N1 rfl (b7 mB (b2 (by rw [I8 (Nat.le_refl _)]; omega) (by rw [qV (by omega)]; rfl))) ?_; refine r_asA rfl rfl rfl (b6 rfl (j7 rfl rfl rfl (j7 rfl rfl rfl ?_))); refine q6 rfl (fun _ => sI _) fun gA => l6 rfl rfl aJ sF (by rfl) (by rfl) ?_; refine c8 rfl (n9 (b6 rfl (c8 rfl (c9 (k8 ?_))))); exact ret1 () rfl (congrArg (fun b => some (Value.bool b)) (by exact isTr_at cs h0 h)) rfl tK nK tK
theorem aS {A B oa ka : Option Addr} {ca cb oc kc gl : Nat} (cs : List Cl) (hs : List Hd) (h : Int) (h0 : 0 ≤ h) (hh : h < (hs.length : Int)) (hl : hs.length ≤ 6) (hS : SeesOK hs) : Meets prog U7 [.pointer (c5 gl), int h] { LI := [Row (c5 gl) [.slice A cs.length ca, .slice B hs.length cb, .slice oa cs.length oc, .slice ka hs.length kc], Row ka (rows (kindsN hs hs.length))], val := fun _ : Unit => folR (followT (trOf cs hs) h) } := by
 refine i5 nD rfl t3 fun w0 => ?_; refine i3 (c8 rfl (c8 rfl (c8 rfl (c9 (d7 (i3 (b6 rfl (l5 rfl rfl ?_))))))))
 first | refine a6 ⟨_, 3, none⟩ rfl rfl l7 rfl ?_ | refine a6 _ rfl rfl l7 rfl ?_
 first | refine a7 rfl i4 rfl (d5 mB rfl) ?_ | refine a7 rfl i4 rfl (d3 mB rfl) ?_ | refine a7 rfl i4 rfl (b7 mB (b2 (by omega) rfl)) ?_ | refine a7 rfl i4 rfl (b8 mB (rows_get (by omega) rfl)) ?_ | refine a7 rfl i4 rfl (d6 mB rfl) ?_
 refine j9 rfl C5 rfl (t7 _ rfl rfl rfl rfl p8 ?_); refine b6 rfl (c9 (j4 ?_)); refine t8 (β := Nat × Int) ⟨fun x => x.1 ≤ hs.length + 1 ∧ 0 ≤ x.2 ∧ x.2 < (hs.length : Int) ∧ followT (trOf cs hs) h = followN (hs.map Hd.p) (hs.length + 1 - x.1) x.2 (x.1 : Int), fun x => [(0, .pointer (c5 gl)), (1, int x.2), (15, int ((hs.length : Int) + 1)), (16, int x.1)], fun _ => [], fun _ => [Row (c5 gl) [.slice A cs.length ca, .slice B hs.length cb, .slice oa cs.length oc, .slice ka hs.length kc], Row ka (rows (kindsN hs hs.length))]⟩ (fun x => hs.length + 1 - x.1) (0, h) ⟨Nat.zero_le _, h0, hh, by rw [followT, C9]; rfl⟩ mC (List.Sublist.refl _) mC fun x hx => ?_; obtain ⟨k, y⟩ := x; obtain ⟨hk, h0, hy, ht⟩ := hx; simp only at hk h0 hy ht; refine i3 (z6 rfl rfl rfl (c9 (d7 ?_)))
 first | refine k6 rfl (fun hb1 => ?_) (fun hb1 => ?_) | refine i6 rfl (fun hb1 => ?_) (fun hb1 => ?_)
 ·have hb1' := hb1; try simp at hb1'
  have hk2 : k < hs.length + 1 := by omega
  rw [show hs.length + 1 - k = (hs.length - k) + 1 by omega, followN, N4 (show y.toNat < hs.length by omega), p_see] at ht; have hsy := hS y.toNat (by omega); refine i9 (i2 (d7 (j4 (i3 (b6 rfl (c8 rfl (n9 ?_))))))); refine b6 rfl (l5 rfl rfl ?_)
  first | refine a6 ⟨_, 3, none⟩ rfl rfl l7 rfl ?_ | refine a6 _ rfl rfl l7 rfl ?_
  first | refine a7 rfl i4 rfl (d5 mB rfl) ?_ | refine a7 rfl i4 rfl (d3 mB rfl) ?_ | refine a7 rfl i4 rfl (b7 mB (b2 (by omega) rfl)) ?_ | refine a7 rfl i4 rfl (b8 mB (rows_get (by omega) rfl)) ?_ | refine a7 rfl i4 rfl (d6 mB rfl) ?_
  refine b6 rfl ?_; refine q8 (α := Kd) (kindsN hs hs.length) y.toNat rfl C5 P3 rfl rfl (Int.toNat_of_nonneg h0).symm mB (I8 (Nat.le_refl _)).symm (by rw [I8 (Nat.le_refl _)]; omega) (by decide) ?_; refine a7 (v := Kd.v (kindOf (hs.getD y.toNat default))) rfl N1 rfl (b7 mB (b2 (by rw [I8 (Nat.le_refl _)]; omega) (by rw [qV (by omega)]; rfl))) ?_; refine c9 (j4 (i3 (r_asP rfl rfl rfl (j7 rfl rfl rfl (j7 rfl rfl rfl (c9 ?_))))))
  first | refine k6 rfl (fun hb2 => ?_) (fun hb2 => ?_) | refine i6 rfl (fun hb2 => ?_) (fun hb2 => ?_)
  ·have hb2' := hb2; try simp at hb2'
   rw [cx5, decide_eq_true_eq] at hb2; rw [see_of hb2]; rw [if_neg (by exact hb2)] at ht; refine i3 (q6 rfl (fun _ => iB _) fun gA => l6 rfl rfl aJ gX (by rfl) (by rfl) ?_); refine c9 (d4 ?_)
   first | refine a6 ⟨_, 0, none⟩ rfl rfl N6 rfl ?_ | refine a6 _ rfl rfl N6 rfl ?_
   first | refine a7 rfl a8 rfl (d5 mB rfl) ?_ | refine a7 rfl a8 rfl (d3 mB rfl) ?_ | refine a7 rfl a8 rfl (b7 mB (b2 (by omega) rfl)) ?_ | refine a7 rfl a8 rfl (b8 mB (rows_get (by omega) rfl)) ?_ | refine a7 rfl a8 rfl (d6 mB rfl) ?_
   refine c8 rfl (b5 (v5 (v5 (i2 (d4 ?_))))); refine t7 _ rfl rfl rfl rfl p8 ?_; refine b6 rfl (b5 ?_); exact again _ (k + 1, (hs.getD y.toNat default).2.2.1) ⟨by show k + 1 ≤ hs.length + 1; omega, by show 0 ≤ (hs.getD y.toNat default).2.2.1; omega, hsy.2, by show _ = followN _ (hs.length + 1 - (k + 1)) _ _; rw [ht, Nat.add_sub_add_right]; rfl⟩ (z8 (by omega)) mC nK mC
  have hb2' := hb2; try simp at hb2'
  rw [cx5, decide_eq_false_iff_not] at hb2; rw [if_pos (Classical.not_not.1 hb2)] at ht; refine i3 (c8 rfl (n9 (b6 rfl (b6 rfl (c8 rfl (c8 rfl (c8 rfl ?_))))))); refine c9 (k8 (kA (D6 (w8 (D6 ?_))))); exact ret3 () rfl rfl rfl rfl (by show folR (followT (trOf cs hs) h) = _; rw [ht]; rfl) rfl tK nK tK
 have hb1' := hb1; try simp at hb1'
 have hk2 : k = hs.length + 1 := by omega
 rw [hk2, Nat.sub_self, followN] at ht; refine q9 (C3 (r7 (i2 (i3 (c8 rfl (c8 rfl (c8 rfl (c9 ?_)))))))); refine k8 ?_; exact ret3 () rfl rfl rfl rfl (by show folR (followT (trOf cs hs) h) = _; rw [ht]; rfl) rfl tK nK tK
def askE (t : Tr) (l : List Int) : Int := if ¬ checkT t = 0 then checkT t else if l.all (fun x => decide (0 ≤ x ∧ x ≤ (t.hs.length : Int) - 1)) then 0 else 3
theorem ask_bad {t : Tr} {l : List Int} {k : Nat} (h0 : checkT t = 0) (hk : k < l.length) (h : ¬ (0 ≤ l.getD k default ∧ l.getD k default ≤ (t.hs.length : Int) - 1)) : askE t l = 3 := by
  rw [askE, if_neg (not_not_intro h0), if_neg]; intro e; exact h (of_decide_eq_true (List.all_eq_true.1 e _ (A9 hk)))
theorem ask_ok {t : Tr} {l : List Int} (h0 : checkT t = 0) (h : ∀ i, i < l.length → 0 ≤ l.getD i default ∧ l.getD i default ≤ (t.hs.length : Int) - 1) : askE t l = 0 := by
  rw [askE, if_neg (not_not_intro h0), if_pos]; rw [List.all_eq_true]; intro x hx; obtain ⟨i, hi, rfl⟩ := List.getElem_of_mem hx; rw [decide_eq_true_eq, ← w7 hi]; exact h i hi
theorem sC {t : Tr} {l : List Int} (h : askE t l = 0) : checkT t = 0 := by
  unfold askE at h
  split at h
  · exact h
  rename_i h1; exact Classical.not_not.1 h1
theorem hz8 {t : Tr} {l : List Int} (h : askE t l = 0) {x : Int} (hx : x ∈ l) : 0 ≤ x ∧ x ≤ (t.hs.length : Int) - 1 := by
  have h0 := sC h; rw [askE, if_neg (not_not_intro h0)] at h
  split at h
  · rename_i h1; exact of_decide_eq_true (List.all_eq_true.1 h1 x hx)
  omega
set_option maxHeartbeats 1000000 in
theorem gE {C : Option Addr} {cc : Nat} {A B : Option Addr} {ca cb : Nat} (cs : List Cl) (hs : List Hd) (l : List Int) (hca : cs.length ≤ ca) (hcb : hs.length ≤ cb) (ha : ∀ h ∈ hs, h.2.2.2.l.length ≤ 1000000) (hl : l.length ≤ 1000000) : Meets prog nI [.agg #[.slice A cs.length ca, .slice B hs.length cb], .slice C l.length cc] { LI := [Row A (rows cs), RowsF B hs Hd.row, Row C (rows l)], val := fun x : Nat × OutC × OutC => .tuple #[if askE (trOf cs hs) l = 0 then .pointer (some ⟨x.1, 0, none⟩) else .pointer none, int (askE (trOf cs hs) l)], LO := fun x => if askE (trOf cs hs) l = 0 then beginL cs hs A ca B cb x else [] } := by
 refine i5 ax8 rfl t3 fun w0 => i3 (O9 rfl rfl fun gB => ?_); refine c8 rfl (c8 rfl (c9 ?_)); refine I6 ⟨fun _ : Nat × OutC × OutC => True, fun x => [(1, .slice C l.length cc), (2, .pointer (c5 gB)), (6, if checkT (trOf cs hs) = 0 then .pointer (some ⟨x.1, 0, none⟩) else .pointer none), (7, int (checkT (trOf cs hs)))], fun _ => [(gB, .cells #[.slice A cs.length ca, .slice B hs.length cb] r5 (0, 0))], fun x => (if checkT (trOf cs hs) = 0 then beginL cs hs A ca B cb x else []) ++ [Row A (rows cs), RowsF B hs Hd.row, Row C (rows l)]⟩ ?_ ?_
 ·skip
  refine d4 ?_
  first | refine D1 rfl d9 c7 rfl mB (by rfl) ?_ | refine G0 rfl d9 c7 rfl mB (by rfl) ?_ | refine u0 rfl d9 c7 rfl rfl (r4 mB (u5 (by omega))) ?_
  refine i8 L9 rfl rfl (K9 cs hs hca hcb ha) n4 mC fun x _ => ?_; refine b6 rfl (j7 rfl rfl rfl (j7 rfl rfl rfl (c8 rfl (c8 rfl (b5 ?_))))); exact D0 _ x tK mC (List.Sublist.refl _) (LSub.of_mem fun F h => h)
 refine fun x _ => ?_
 dsimp only
 refine d7 (i3 (b6 rfl (L5 rfl rfl rfl (c9 ?_))))
 first | refine k6 rfl (fun hb1 => ?_) (fun hb1 => ?_) | refine i6 rfl (fun hb1 => ?_) (fun hb1 => ?_)
 ·have hb1' := hb1; try simp at hb1'
  have hE : askE (trOf cs hs) l = checkT (trOf cs hs) := by rw [askE, if_pos hb1]
  have hnz : ¬ askE (trOf cs hs) l = 0 := by rw [hE]; exact hb1
  refine i3 (b6 rfl (c8 rfl (c8 rfl (c9 (J0 ?_))))); exact ret2 (0, (none, 0), (none, 0)) rfl rfl rfl (by show Value.tuple #[if askE (trOf cs hs) l = 0 then _ else _, int (askE (trOf cs hs) l)] = _; rw [if_neg hnz, hE]) rfl tK nK (by show LSub _ (if askE (trOf cs hs) l = 0 then _ else []); rw [if_neg hnz]; trivial)
 have hb1' := hb1; try simp at hb1'
 have h0 := Classical.not_not.1 hb1; rw [if_pos h0, if_pos h0]; have hln := C9 cs hs; have hok := lD h0; have h6 : cs.length ≤ 6 := hok.c6; have h6h := hok.h6; rw [C9] at h6h; have hcl : ∀ i, i < cs.length → ClsOK cs i := hok.c; obtain ⟨gl, ⟨oa, oc⟩, ⟨ka, kc⟩⟩ := x; show HC _ _ _ _ _ [Row (c5 gl) [.slice A cs.length ca, .slice B hs.length cb, .slice oa cs.length oc, .slice ka hs.length kc], Row oa (rows (masksN cs cs.length)), Row ka (rows (kindsN hs hs.length)), Row A (rows cs), RowsF B hs Hd.row, Row C (rows l)]; refine i9 (i2 (d7 (i3 (b6 rfl ?_)))); refine j9 rfl v9 rfl ?_; refine b6 rfl (c9 (j4 ?_)); refine t8 (β := Nat) ⟨fun k => k ≤ l.length ∧ ∀ i, i < k → 0 ≤ l.getD i default ∧ l.getD i default ≤ (hs.length : Int) - 1, fun k => [(2, .pointer (c5 gB)), (6, .pointer (c5 gl)), (18, .slice C l.length cc), (19, int l.length), (20, int k)], fun _ => [(gB, .cells #[.slice A cs.length ca, .slice B hs.length cb] r5 (0, 0))], fun _ => [Row (c5 gl) [.slice A cs.length ca, .slice B hs.length cb, .slice oa cs.length oc, .slice ka hs.length kc], Row oa (rows (masksN cs cs.length)), Row ka (rows (kindsN hs hs.length)), Row A (rows cs), RowsF B hs Hd.row, Row C (rows l)]⟩ (fun k => l.length - k) 0 ⟨Nat.zero_le _, fun i hi => by omega⟩ mC (List.Sublist.refl _) mC fun k hk => ?_; obtain ⟨hk, ht⟩ := hk; refine i3 (z6 rfl rfl rfl (c9 (d7 ?_)))
 first | refine k6 rfl (fun hb2 => ?_) (fun hb2 => ?_) | refine i6 rfl (fun hb2 => ?_) (fun hb2 => ?_)
 ·have hb2' := hb2; try simp at hb2'
  have hk2 : k < l.length := by omega
  refine i9 (i2 (d7 (j4 (i3 ?_)))); refine q8 (α := Int) _ _ rfl v9 D3 rfl rfl rfl mB rfl (by omega) (by decide) (a7 rfl a8 rfl (b7 mB (b2 (by omega) rfl)) ?_); refine c8 rfl (n9 (b6 rfl ?_))
  first | refine a6 ⟨_, 1, none⟩ rfl rfl j0 rfl ?_ | refine a6 _ rfl rfl j0 rfl ?_
  first | refine a7 rfl b4 rfl (d5 mB rfl) ?_ | refine a7 rfl b4 rfl (d3 mB rfl) ?_ | refine a7 rfl b4 rfl (b7 mB (b2 (by omega) rfl)) ?_ | refine a7 rfl b4 rfl (b8 mB (rows_get (by omega) rfl)) ?_ | refine a7 rfl b4 rfl (d6 mB rfl) ?_
  refine j9 rfl n7 rfl (O7 _ rfl rfl rfl rfl p8 (i8 E6 rfl rfl (E4 _ _ _) n4 tK fun _ _ => ?_)); refine I4 rfl rfl (c9 ?_)
  first | refine k6 rfl (fun hb3 => ?_) (fun hb3 => ?_) | refine i6 rfl (fun hb3 => ?_) (fun hb3 => ?_)
  ·have hb3' := hb3; try simp at hb3'
   have hE : askE (trOf cs hs) l = 3 := ask_bad h0 hk2 (by rw [hln]; exact nbw hb3); have hnz : ¬ askE (trOf cs hs) l = 0 := by rw [hE]; decide
   refine i3 (c8 rfl (c8 rfl (c9 (k8 (D6 (w8 (D6 ?_))))))); exact ret2 (0, (none, 0), (none, 0)) rfl rfl rfl (by show Value.tuple #[if askE (trOf cs hs) l = 0 then _ else _, int (askE (trOf cs hs) l)] = _; rw [if_neg hnz, hE]) rfl tK nK (by show LSub _ (if askE (trOf cs hs) l = 0 then _ else []); rw [if_neg hnz]; trivial)
  have hb3' := hb3; try simp at hb3'
  refine i9 (v5 (i2 (d4 ?_))); refine t7 _ rfl rfl rfl rfl p8 ?_; refine b6 rfl (b5 ?_); have hin := bw hb3; exact again _ (k + 1) ⟨by omega, fun i hi => by rcases Nat.lt_or_ge i k with h | h; exact ht i h; rw [show i = k by omega]; exact hin⟩ (z8 (by omega)) mC (List.Sublist.refl _) mC
 have hb2' := hb2; try simp at hb2'
 have hk2 : k = l.length := by omega
 subst hk2; have hE : askE (trOf cs hs) l = 0 := ask_ok h0 (by rw [hln]; exact ht); refine q9 (C3 (r7 (i2 (i3 (b6 rfl (c8 rfl (c8 rfl (c9 ?_)))))))); refine k8 ?_; exact ret2 (gl, (oa, oc), (ka, kc)) rfl rfl rfl (by show Value.tuple #[if askE (trOf cs hs) l = 0 then _ else _, int (askE (trOf cs hs) l)] = _; rw [if_pos hE, hE]) rfl tK nK (by show LSub _ (if askE (trOf cs hs) l = 0 then _ else []); rw [if_pos hE]; exact mC)
end Go.Proofs.YtdgmfagfpbdbhaaGreatDoor
end
