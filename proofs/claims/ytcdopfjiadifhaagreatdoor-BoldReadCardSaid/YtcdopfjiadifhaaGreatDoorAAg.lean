/- Texts of this claim, one behind another. -/
import Derived.Sort.Walk0
import Derived.Test.YtcdopfjiadifhaaGreatDoorAAf
set_option linter.unusedVariables false
set_option linter.unusedSimpArgs false
section
namespace Go.Proofs.YtcdopfjiadifhaaGreatDoor
open Go Go.W
set_option maxRecDepth 20000
attribute [local irreducible] HL HC HQ HB Row Rows2 Blk Facts
instance : El Cl where
  default := ([], 0)
  cells m := [str m.1, int m.2]
  sz := 2
  len _ := rfl
  one a u h := by simp at h; rcases h with h | h <;> subst h <;> rfl
abbrev Hd := Str × Int × Int × Sl Int
instance : El Hd where
  default := ([], 0, 0, ⟨none, 0, []⟩)
  cells m := [str m.1, int m.2.1, int m.2.2.1, .slice m.2.2.2.a m.2.2.2.l.length m.2.2.2.c]
  sz := 4
  len _ := rfl
  one a u h := by simp at h; rcases h with h | h | h | h <;> subst h <;> rfl
def Hd.p (h : Hd) : PH := (h.1, h.2.1, h.2.2.1, h.2.2.2.l)
abbrev Hd.row (h : Hd) : Fact := Row h.2.2.2.a (rows h.2.2.2.l)
abbrev trOf (cs : List Cl) (hs : List Hd) : Tr := ⟨cs, hs.map Hd.p⟩
theorem nq0 (a b : Str) : Op.bytesLess a b = decide (a < b) := bytesLess_eq a b
theorem A7 {α : Type} [Inhabited α] {l : List α} {k : Nat} (hk : k < l.length) : l.getD k default = l[k] := by simp [List.getD_eq_getElem?_getD, hk]
theorem w7 {α : Type} [Inhabited α] {l : List α} {k : Nat} (hk : k < l.length) : l.getD k default ∈ l := by rw [A7 hk]; exact List.getElem_mem hk
theorem dq6 {hs : List Hd} {k : Nat} (hk : k < hs.length) : (hs.map Hd.p).getD k default = (hs.getD k default).p := by
  rw [A7 hk, A7 (by simpa using hk)]; simp
theorem K4 (n lo hi : Int) : Meets Tryz.prog F.jH [int n, int lo, int hi] { val := fun _ : Unit => .bool (decide (lo ≤ n ∧ n ≤ hi)) } := by
 refine i9 F.bj2 rfl r6 fun w0 => ?_; refine i8 (d5 rfl (k8 (c7 rfl (c7 rfl (ax0 rfl rfl rfl (c7 rfl ?_)))))); refine u6 rfl rfl ?_ ?_
 ·intro hg1; have hg1' := hg1; try simp at hg1'
  refine l3 rfl rfl hg1 (c7 rfl (l3 rfl rfl hg1 (c7 rfl (l3 rfl rfl hg1 (ax0 rfl rfl rfl ?_))))); refine p_t rfl rfl (bt1 hg1) rfl ?_; refine d5 rfl (d8 (l5 ?_)); exact ret1 () rfl (congrArg (fun b => some (Value.bool b)) (by simp [hg1'])) rfl trivial nil_sb trivial
 intro hg1; have hg1' := hg1; try simp at hg1'
 refine t4 rfl rfl rfl rfl rfl hg1 (t4 rfl rfl rfl rfl rfl hg1 (t4 rfl rfl rfl rfl rfl hg1 ?_)); refine p_f rfl rfl (bf2 hg1) rfl ?_; refine d5 rfl (d8 (l5 ?_)); exact ret1 () rfl (congrArg (fun b => some (Value.bool b)) (by simp [Int.not_le.2 hg1'])) rfl trivial nil_sb trivial
theorem hz3 {s : Str} {p : Nat} (hp : p < s.length) (h : s[p].toNat < 97 ∨ 122 < s[p].toNat) : wordB s = false := by
  have : s.all azB = false := by
    rw [List.all_eq_false]; refine ⟨s[p], List.getElem_mem hp, ?_⟩; simp only [azB, Bool.and_eq_true, decide_eq_true_eq]
    omega
  simp [wordB, this]
theorem ux5 {s : Str} {k : Nat} (hk : k < s.length) (h : (s.take k).all azB = true) (h1 : 97 ≤ s[k].toNat ∧ s[k].toNat ≤ 122) : (s.take (k + 1)).all azB = true := by
  rw [List.take_succ_eq_append_getElem hk, List.all_append, h]
  simp [azB, h1]
theorem qq9 {s : Str} (h1 : ¬ s = []) (h2 : (s.length : Int) ≤ 12) (h3 : ¬ s = wClass) (h4 : ¬ s = wFinis) (h5 : s.all azB = true) : wordB s = true := by
  have h0 : 0 < s.length := List.length_pos_iff.2 h1; have h2' : s.length ≤ 12 := by omega
  simp only [wordB, h5, h3, h4, h0, h2', decide_true, Bool.and_true, not_false_eq_true]
theorem kE (s : Str) : Meets Tryz.prog F.tY [str s] { val := fun _ : Unit => .bool (wordB s) } := by
 refine i9 F.jj7 rfl r6 fun w0 => ?_; refine i8 (d5 rfl (d8 (j4 (i8 (c7 rfl ?_))))); refine E6 rfl T.v8 rfl ?_; refine H0 rfl rfl rfl (c7 rfl ?_); refine u6 rfl rfl ?_ ?_
 ·intro hg1; have hg1' := hg1; try simp at hg1'
  refine l3 rfl rfl hg1 (c7 rfl (l3 rfl rfl hg1 ?_)); refine E6 rfl T.v8 rfl ?_; refine l3 rfl rfl hg1 (R0 rfl rfl rfl ?_); refine p_f rfl rfl (bf1 hg1) rfl (c7 rfl ?_); refine u6 rfl rfl ?_ ?_
  ·intro hg2; have hg2' := hg2; try simp at hg2'
   refine l3 rfl rfl hg2 (c7 rfl (l3 rfl rfl hg2 (hU rfl rfl rfl ?_))); refine p_f rfl rfl (bf1 hg2) rfl (c7 rfl ?_); refine u6 rfl rfl ?_ ?_
   ·intro hg3; have hg3' := hg3; try simp at hg3'
    refine l3 rfl rfl hg3 (c7 rfl (l3 rfl rfl hg3 (hU rfl rfl rfl ?_))); refine p_f rfl rfl (bf1 hg3) rfl ?_; refine d8 ?_
    first | refine m3 rfl (fun hb1 => ?_) (fun hb1 => ?_) | refine j7 rfl (fun hb1 => ?_) (fun hb1 => ?_)
    ·have hb1' := hb1; try simp at hb1'
     refine i8 (d5 rfl (d8 (N4 ?_))); exact ret1 () rfl (congrArg (fun b => some (Value.bool b)) (by rw [hb1]; decide)) rfl trivial nil_sb trivial
    have hb1' := hb1; try simp at hb1'
    have h4 := hb1; refine k6 (j6 (j4 (i8 (c7 rfl ?_)))); refine sz5 rfl T.v8 rfl fun gI => ?_; refine d8 (k9 ?_); refine w3 (β := Nat) ⟨fun k => k ≤ s.length ∧ (s.take k).all azB = true, fun k => [(0, str s), (22, .pointer (c8 gI))], fun k => [(gI, iter s k)], fun _ => []⟩ (fun k => s.length - k) 0 ⟨Nat.zero_le _, rfl⟩ mC (.refl _) trivial fun k hk => ?_; obtain ⟨hk, ht⟩ := hk; refine i8 ?_; refine r_nextS rfl rfl (.refl _) ?_; refine r_ext0 rfl rfl (d8 (j4 ?_))
    first | refine m3 rfl (fun hb2 => ?_) (fun hb2 => ?_) | refine j7 rfl (fun hb2 => ?_) (fun hb2 => ?_)
    ·have hb2' := hb2; try simp at hb2'
     refine k6 (j6 (k9 (i8 (r_ext2 rfl rfl hb2 (d5 rfl (k8 (c7 rfl ?_))))))); refine B6 rfl rfl rfl (c7 rfl ?_); refine u6 rfl rfl ?_ ?_
     ·intro hg4; have hg4' := hg4; try simp at hg4'
      refine l3 rfl rfl hg4 (c7 rfl (l3 rfl rfl hg4 (R0 rfl rfl rfl ?_))); refine p_f rfl rfl (bf1 hg4) rfl ?_; refine d8 ?_
      first | refine m3 rfl (fun hb3 => ?_) (fun hb3 => ?_) | refine j7 rfl (fun hb3 => ?_) (fun hb3 => ?_)
      ·have hb3' := hb3; try simp at hb3'
       refine i8 (d5 rfl (d8 (l5 (G8 (G8 ?_))))); exact ret1 () rfl (congrArg (fun b => some (Value.bool b)) (by exact (hz3 hb2 (qj3 hb2 (lo := 97) (hi := 122) (by decide) (.inr (by omega)))).symm)) rfl trivial nil_sb trivial
      have hb3' := hb3; try simp at hb3'
      refine k6 (y6 ?_); have hin := dec_in (p := k) (s := s) hb2 (lo := 97) (hi := 122) (by decide) (by simp at hg4; omega); refine again _ (k + 1) ⟨by omega, ux5 hb2 ht ⟨hin.1, hin.2.1⟩⟩ (D5 (by omega)) mC ?_ trivial; rw [hin.2.2]; exact (.refl _)
     intro hg4; have hg4' := hg4; try simp at hg4'
     refine t4 rfl rfl rfl rfl rfl hg4 (t4 rfl rfl rfl rfl rfl hg4 ?_); refine p_t rfl rfl (bt2 hg4) rfl ?_; refine d8 (c_t rfl rfl (i8 (d5 rfl (d8 (l5 (G8 (mP ?_))))))); refine C4 ?_; exact ret1 () rfl (congrArg (fun b => some (Value.bool b)) (by exact (hz3 hb2 (qj3 hb2 (lo := 97) (hi := 122) (by decide) (.inl (by simp at hg4; omega)))).symm)) rfl trivial nil_sb trivial
    have hb2' := hb2; try simp at hb2'
    have hk2 : k = s.length := by omega
    subst hk2; rw [List.take_length] at ht; refine u9 (D6 (u5 (j6 (i8 (d5 rfl (d8 (l5 ?_))))))); exact ret1 () rfl (congrArg (fun b => some (Value.bool b)) (by exact (qq9 hg1' hg2' hg3' h4 ht).symm)) rfl trivial nil_sb trivial
   intro hg3; have hg3' := hg3; try simp at hg3'
   refine t4 rfl rfl rfl rfl rfl hg3 (t4 rfl rfl rfl rfl rfl hg3 ?_); refine p_t rfl rfl (bt2 hg3) rfl ?_; refine d8 (c_t rfl rfl (i8 (d5 rfl (d8 (N4 ?_))))); exact ret1 () rfl (congrArg (fun b => some (Value.bool b)) (by simp at hg3; rw [hg3]; decide)) rfl trivial nil_sb trivial
  intro hg2; have hg2' := hg2; try simp at hg2'
  refine t4 rfl rfl rfl rfl rfl hg2 (t4 rfl rfl rfl rfl rfl hg2 ?_); refine p_t rfl rfl (bt2 hg2) rfl ?_; refine c7 rfl (t4 rfl rfl rfl rfl rfl rfl (t4 rfl rfl rfl rfl rfl rfl (p_t rfl rfl rfl rfl (d8 (c_t rfl rfl (i8 (d5 rfl (d8 ?_)))))))); refine N4 ?_; exact ret1 () rfl (congrArg (fun b => some (Value.bool b)) (by simp at hg2; simp [wordB, Nat.not_le.2 (show 12 < s.length by omega)])) rfl trivial nil_sb trivial
 intro hg1; have hg1' := hg1; try simp at hg1'
 refine t4 rfl rfl rfl rfl rfl hg1 (t4 rfl rfl rfl rfl rfl hg1 (t4 rfl rfl rfl rfl rfl hg1 ?_)); refine p_t rfl rfl (bt2 hg1) rfl ?_; refine c7 rfl (t4 rfl rfl rfl rfl rfl rfl (t4 rfl rfl rfl rfl rfl rfl (p_t rfl rfl rfl rfl (c7 rfl (t4 rfl rfl rfl rfl rfl rfl (t4 rfl rfl rfl rfl rfl rfl (p_t rfl rfl rfl rfl (d8 (c_t rfl rfl (j4 ?_)))))))))); refine j8 (d5 rfl (d8 (N4 ?_))); exact ret1 () rfl (congrArg (fun b => some (Value.bool b)) (by simp at hg1; simp [wordB, hg1])) rfl trivial nil_sb trivial
theorem mj0 {α : Type} [Inhabited α] (f : α → Str) {l : List α} {k : Nat} {s : Str} (hk : k < l.length) (ht : s ∉ (l.take k).map f) (h : ¬ f (l.getD k default) = s) : s ∉ (l.take (k + 1)).map f := by
  rw [M5 l k hk, List.map_append]; simp only [List.mem_append, List.map_cons, List.map_nil, List.mem_singleton, not_or]; exact ⟨ht, fun e => h e.symm⟩
theorem jG {g : Nat} (x c : Cl) : Meets Tryz.prog F.J1 [.agg (El.cells x).toArray, .pointer (c8 g)] { LI := [Row (c8 g) (rows [c])], val := fun _ : Unit => .bool (decide (x.1 = c.1)) } := by
 refine i9 F.pU rfl r6 fun w0 => ?_; refine i8 ?_; refine H6 rfl rfl fun gB => ?_; refine d5 rfl (k8 ?_)
 first | refine a9 ⟨_, 0, none⟩ rfl rfl T.Q6 rfl ?_ | refine a9 _ rfl rfl T.Q6 rfl ?_
 first | refine b8 rfl T.m5 rfl (j0 mB rfl) ?_ | refine b8 rfl T.m5 rfl (j3 mB rfl) ?_ | refine b8 rfl T.m5 rfl (d6 mB (c9 (by omega) rfl)) ?_ | refine b8 rfl T.m5 rfl (d7 mB (rows_get (by omega) rfl)) ?_ | refine b8 rfl T.m5 rfl (j5 mB rfl) ?_
 first | refine a9 ⟨_, 0, none⟩ rfl rfl T.Q6 rfl ?_ | refine a9 _ rfl rfl T.Q6 rfl ?_
 first | refine b8 rfl T.m5 rfl (j0 mB rfl) ?_ | refine b8 rfl T.m5 rfl (j3 mB rfl) ?_ | refine b8 rfl T.m5 rfl (d6 mB (c9 (by omega) rfl)) ?_ | refine b8 rfl T.m5 rfl (d7 mB (rows_get (by omega) rfl)) ?_ | refine b8 rfl T.m5 rfl (j5 mB rfl) ?_
 refine hU rfl rfl rfl (d5 rfl (d8 (l5 ?_))); exact ret1 () rfl rfl rfl trivial nil_sb trivial
theorem lW {A : Option Addr} {cp g : Nat} (l : List Cl) (c : Cl) (hl : l.length ≤ 1000000) : Meets Tryz.prog F.bH [.slice A l.length cp, .func (.func F.J1) #[] #[.pointer (c8 g)]] { LI := [Row A (rows l), Row (c8 g) (rows [c])], inv := fun z : Int => (0 ≤ z ↔ c.1 ∈ l.map (·.1)), val := fun z => int z } := by
 refine i9 F.uI rfl r6 fun w0 => ?_; refine i8 (d5 rfl (d8 (j4 (i8 (c7 rfl ?_))))); refine l7 rfl T.I0 rfl ?_; refine c7 rfl (d8 (k9 ?_)); refine w3 (β := Nat) ⟨fun k => k ≤ l.length ∧ c.1 ∉ (l.take k).map (·.1), fun k => [(0, .slice A l.length cp), (1, .func (.func F.J1) #[] #[.pointer (c8 g)]), (7, int l.length), (8, int k)], fun _ => [], fun _ => [Row A (rows l), Row (c8 g) (rows [c])]⟩ (fun k => l.length - k) 0 ⟨Nat.zero_le _, by simp⟩ mC (.refl _) ⟨m0, m1, trivial⟩ fun k hk => ?_; obtain ⟨hk, ht⟩ := hk; refine i8 (B6 rfl rfl rfl (d8 (j4 ?_)))
 first | refine m3 rfl (fun hb1 => ?_) (fun hb1 => ?_) | refine j7 rfl (fun hb1 => ?_) (fun hb1 => ?_)
 ·have hb1' := hb1; try simp at hb1'
  have hk2 : k < l.length := by omega
  refine k6 (j6 (j4 (k9 (i8 (c7 rfl (d5 rfl (k8 ?_))))))); refine c7 rfl (c7 rfl (c7 rfl ?_)); refine v6 (α := Cl) _ _ rfl T.I0 T.K8 rfl rfl rfl mB rfl (by omega) (by decide) (u7 rfl T.jQ T.K8 rfl rfl (t5 mB (t9 (by omega))) ?_); refine W2 (vs := [.agg (El.cells (l.getD k default)).toArray]) (cap := [.pointer (c8 g)]) F.pB rfl rfl rfl (jG (l.getD k default) c) p6 ⟨m1, trivial⟩ fun _ _ => ?_; refine d8 ?_
  first | refine m3 rfl (fun hb2 => ?_) (fun hb2 => ?_) | refine j7 rfl (fun hb2 => ?_) (fun hb2 => ?_)
  ·have hb2' := hb2; try simp at hb2'
   refine i8 (c7 rfl (d5 rfl (d8 (l5 (G8 (C4 (G8 ?_))))))); exact ret1 (k : Int) rfl rfl rfl ⟨fun _ => List.mem_map.2 ⟨_, w7 hk2, hb2⟩, fun _ => by omega⟩ nil_sb trivial
  have hb2' := hb2; try simp at hb2'
  refine k6 (y6 (j6 (j8 ?_))); refine v4 _ rfl rfl rfl rfl r5 ?_; refine c7 rfl (d4 ?_); exact again _ (k + 1) ⟨by omega, mj0 (·.1) hk2 ht hb2⟩ (D5 (by omega)) mC nil_sb ⟨m0, m1, trivial⟩
 have hb1' := hb1; try simp at hb1'
 have hk2 : k = l.length := by omega
 subst hk2; rw [List.take_length] at ht; refine u9 (D6 (u5 (j6 (i8 (d5 rfl (d8 (l5 ?_))))))); exact ret1 (-1) rfl rfl rfl ⟨fun h => by omega, fun h => absurd h ht⟩ (.refl _) trivial
theorem iQ {A : Option Addr} {cp g : Nat} (l : List Cl) (c : Cl) (hl : l.length ≤ 1000000) : Meets Tryz.prog F.X3 [.slice A l.length cp, .func (.func F.J1) #[] #[.pointer (c8 g)]] { LI := [Row A (rows l), Row (c8 g) (rows [c])], val := fun _ : Unit => .bool (decide (c.1 ∈ l.map (·.1))) } := by
 refine i9 F.pG rfl r6 fun w0 => ?_; refine i8 (d5 rfl (k8 (c7 rfl (c7 rfl ?_)))); refine k5 F.tF rfl rfl (lW l c hl) (.refl _) ⟨m0, m1, trivial⟩ fun z hz => ?_; refine X2 rfl rfl rfl (d5 rfl (d8 (l5 ?_))); exact ret1 () rfl (congrArg (fun b => some (Value.bool b)) (decide_eq_decide.2 hz)) rfl trivial nil_sb trivial
theorem kF {g : Nat} (x c : Hd) : Meets Tryz.prog F.K0 [.agg (El.cells x).toArray, .pointer (c8 g)] { LI := [Row (c8 g) (rows [c])], val := fun _ : Unit => .bool (decide (x.1 = c.1)) } := by
 refine i9 F.sW rfl r6 fun w0 => ?_; refine i8 ?_; refine H6 rfl rfl fun gB => ?_; refine d5 rfl (k8 ?_)
 first | refine a9 ⟨_, 0, none⟩ rfl rfl T.I1 rfl ?_ | refine a9 _ rfl rfl T.I1 rfl ?_
 first | refine b8 rfl T.m5 rfl (j0 mB rfl) ?_ | refine b8 rfl T.m5 rfl (j3 mB rfl) ?_ | refine b8 rfl T.m5 rfl (d6 mB (c9 (by omega) rfl)) ?_ | refine b8 rfl T.m5 rfl (d7 mB (rows_get (by omega) rfl)) ?_ | refine b8 rfl T.m5 rfl (j5 mB rfl) ?_
 first | refine a9 ⟨_, 0, none⟩ rfl rfl T.I1 rfl ?_ | refine a9 _ rfl rfl T.I1 rfl ?_
 first | refine b8 rfl T.m5 rfl (j0 mB rfl) ?_ | refine b8 rfl T.m5 rfl (j3 mB rfl) ?_ | refine b8 rfl T.m5 rfl (d6 mB (c9 (by omega) rfl)) ?_ | refine b8 rfl T.m5 rfl (d7 mB (rows_get (by omega) rfl)) ?_ | refine b8 rfl T.m5 rfl (j5 mB rfl) ?_
 refine hU rfl rfl rfl (d5 rfl (d8 (l5 ?_))); exact ret1 () rfl rfl rfl trivial nil_sb trivial
theorem kL {A : Option Addr} {cp g : Nat} (l : List Hd) (c : Hd) (hl : l.length ≤ 1000000) : Meets Tryz.prog F.aI [.slice A l.length cp, .func (.func F.K0) #[] #[.pointer (c8 g)]] { LI := [Row A (rows l), Row (c8 g) (rows [c])], inv := fun z : Int => (0 ≤ z ↔ c.1 ∈ l.map (·.1)), val := fun z => int z } := by
 refine i9 F.tE rfl r6 fun w0 => ?_; refine i8 (d5 rfl (d8 (j4 (i8 (c7 rfl ?_))))); refine l7 rfl T.B4 rfl ?_; refine c7 rfl (d8 (k9 ?_)); refine w3 (β := Nat) ⟨fun k => k ≤ l.length ∧ c.1 ∉ (l.take k).map (·.1), fun k => [(0, .slice A l.length cp), (1, .func (.func F.K0) #[] #[.pointer (c8 g)]), (7, int l.length), (8, int k)], fun _ => [], fun _ => [Row A (rows l), Row (c8 g) (rows [c])]⟩ (fun k => l.length - k) 0 ⟨Nat.zero_le _, by simp⟩ mC (.refl _) ⟨m0, m1, trivial⟩ fun k hk => ?_; obtain ⟨hk, ht⟩ := hk; refine i8 (B6 rfl rfl rfl (d8 (j4 ?_)))
 first | refine m3 rfl (fun hb1 => ?_) (fun hb1 => ?_) | refine j7 rfl (fun hb1 => ?_) (fun hb1 => ?_)
 ·have hb1' := hb1; try simp at hb1'
  have hk2 : k < l.length := by omega
  refine k6 (j6 (j4 (k9 (i8 (c7 rfl (d5 rfl (k8 ?_))))))); refine c7 rfl (c7 rfl (c7 rfl ?_)); refine v6 (α := Hd) _ _ rfl T.B4 T.J6 rfl rfl rfl mB rfl (by omega) (by decide) (u7 rfl T.mD T.J6 rfl rfl (t5 mB (t9 (by omega))) ?_); refine W2 (vs := [.agg (El.cells (l.getD k default)).toArray]) (cap := [.pointer (c8 g)]) F.pT rfl rfl rfl (kF (l.getD k default) c) p6 ⟨m1, trivial⟩ fun _ _ => ?_; refine d8 ?_
  first | refine m3 rfl (fun hb2 => ?_) (fun hb2 => ?_) | refine j7 rfl (fun hb2 => ?_) (fun hb2 => ?_)
  ·have hb2' := hb2; try simp at hb2'
   refine i8 (c7 rfl (d5 rfl (d8 (l5 (G8 (C4 (G8 ?_))))))); exact ret1 (k : Int) rfl rfl rfl ⟨fun _ => List.mem_map.2 ⟨_, w7 hk2, hb2⟩, fun _ => by omega⟩ nil_sb trivial
  have hb2' := hb2; try simp at hb2'
  refine k6 (y6 (j6 (j8 ?_))); refine v4 _ rfl rfl rfl rfl r5 ?_; refine c7 rfl (d4 ?_); exact again _ (k + 1) ⟨by omega, mj0 (·.1) hk2 ht hb2⟩ (D5 (by omega)) mC nil_sb ⟨m0, m1, trivial⟩
 have hb1' := hb1; try simp at hb1'
 have hk2 : k = l.length := by omega
 subst hk2; rw [List.take_length] at ht; refine u9 (D6 (u5 (j6 (i8 (d5 rfl (d8 (l5 ?_))))))); exact ret1 (-1) rfl rfl rfl ⟨fun h => by omega, fun h => absurd h ht⟩ (.refl _) trivial
theorem gW {A : Option Addr} {cp g : Nat} (l : List Hd) (c : Hd) (hl : l.length ≤ 1000000) : Meets Tryz.prog F.V7 [.slice A l.length cp, .func (.func F.K0) #[] #[.pointer (c8 g)]] { LI := [Row A (rows l), Row (c8 g) (rows [c])], val := fun _ : Unit => .bool (decide (c.1 ∈ l.map (·.1))) } := by
 refine i9 F.lY rfl r6 fun w0 => ?_; refine i8 (d5 rfl (k8 (c7 rfl (c7 rfl ?_)))); refine k5 F.qJ rfl rfl (kL l c hl) (.refl _) ⟨m0, m1, trivial⟩ fun z hz => ?_; refine X2 rfl rfl rfl (d5 rfl (d8 (l5 ?_))); exact ret1 () rfl (congrArg (fun b => some (Value.bool b)) (decide_eq_decide.2 hz)) rfl trivial nil_sb trivial
theorem lQ {A : Option Addr} {cp : Nat} (cs : List Cl) (i : Nat) (h6 : cs.length ≤ 6) (hc : cs.length ≤ cp) (hi : i < cs.length) : Meets Tryz.prog F.bF [.slice A cs.length cp, int i] { LI := [Row A (rows cs)], val := fun _ : Unit => int (clsErr cs i) } := by
 refine i9 F.uD rfl r6 fun w0 => ?_; refine i8 (d5 rfl (k8 (c7 rfl (c7 rfl ?_)))); refine v6 (α := Cl) _ _ rfl T.I0 T.K8 rfl rfl rfl mB rfl (by omega) (by decide) (u7 rfl T.jQ T.K8 rfl rfl (t5 mB (t9 (by omega))) ?_); refine y9 rfl (fun _ => T.yS _) fun gA => ?_; refine w4 rfl rfl (by first | exact .refl _ | exact perm2 _ _ _ | exact perm3 _ _ _ _ | exact perm4 _ _ _ _ _) T.K8 (by rfl) (by rfl) ?_; refine d8 (j4 (k9 (j4 ?_))); refine dq7 (rows [cs.getD i default]) ⟨[], List.append_nil _⟩ ?_; refine j8 ?_
 first | refine a9 ⟨_, 0, none⟩ rfl rfl T.Q6 rfl ?_ | refine a9 _ rfl rfl T.Q6 rfl ?_
 first | refine b8 rfl T.m5 rfl (j0 mB rfl) ?_ | refine b8 rfl T.m5 rfl (j3 mB rfl) ?_ | refine b8 rfl T.m5 rfl (d6 mB (c9 (by omega) rfl)) ?_ | refine b8 rfl T.m5 rfl (d7 mB (rows_get (by omega) rfl)) ?_ | refine b8 rfl T.m5 rfl (j5 mB rfl) ?_
 refine k5 F.tN rfl rfl (kE (cs.getD i default).1) (.refl _) trivial fun _ _ => ?_; refine M7 rfl rfl (d5 rfl (d8 ?_))
 first | refine m3 rfl (fun hb1 => ?_) (fun hb1 => ?_) | refine j7 rfl (fun hb1 => ?_) (fun hb1 => ?_)
 ·have hb1' := hb1; try simp at hb1'
  have h1 : wordB (cs.getD i default).1 = false := by simpa using hb1
  refine i8 (d5 rfl (d8 (l5 (G8 ?_)))); exact ret1 () rfl (congrArg (fun b => some (int b)) (by rw [clsErr, if_pos h1])) rfl trivial nil_sb trivial
 have hb1' := hb1; try simp at hb1'
 have h1 : ¬ wordB (cs.getD i default).1 = false := by simpa using hb1
 refine i8 (c7 rfl (c7 rfl ?_)); refine mG (cs.take i).length rfl T.I0 T.K8 rfl rfl (by simp; omega) (by simp; omega) ?_; refine dq4 i m1 (hY rfl rfl rfl ?_); refine k5 F.lZ rfl rfl (iQ (cs.take i) (cs.getD i default) (by simp; omega)) (.refl _) ⟨m0, m1, trivial⟩ fun _ _ => ?_; refine d5 rfl (d8 ?_)
 first | refine m3 rfl (fun hb2 => ?_) (fun hb2 => ?_) | refine j7 rfl (fun hb2 => ?_) (fun hb2 => ?_)
 ·have hb2' := hb2; try simp at hb2'
  refine i8 (d5 rfl (d8 (l5 (G8 ?_)))); exact ret1 () rfl (congrArg (fun b => some (int b)) (by rw [clsErr, if_neg h1, if_pos hb2])) rfl trivial nil_sb trivial
 have hb2' := hb2; try simp at hb2'
 refine i8 ?_
 first | refine a9 ⟨_, 1, none⟩ rfl rfl T.J8 rfl ?_ | refine a9 _ rfl rfl T.J8 rfl ?_
 first | refine b8 rfl T.b9 rfl (j0 mB rfl) ?_ | refine b8 rfl T.b9 rfl (j3 mB rfl) ?_ | refine b8 rfl T.b9 rfl (d6 mB (c9 (by omega) rfl)) ?_ | refine b8 rfl T.b9 rfl (d7 mB (rows_get (by omega) rfl)) ?_ | refine b8 rfl T.b9 rfl (j5 mB rfl) ?_
 refine c7 rfl (l7 rfl T.I0 rfl (S1 _ rfl rfl rfl rfl r5 ?_)); refine k5 F.Q3 rfl rfl (K4 _ _ _) (.refl _) trivial fun _ _ => ?_; refine M7 rfl rfl (d5 rfl (d8 ?_))
 first | refine m3 rfl (fun hb3 => ?_) (fun hb3 => ?_) | refine j7 rfl (fun hb3 => ?_) (fun hb3 => ?_)
 ·have hb3' := hb3; try simp at hb3'
  have h3 : ¬ (-1 ≤ (cs.getD i default).2 ∧ (cs.getD i default).2 ≤ (cs.length : Int) - 1) := fun e => by rw [decide_eq_true e] at hb3; cases hb3
  refine i8 (d5 rfl (d8 (l5 (G8 ?_)))); exact ret1 () rfl (congrArg (fun b => some (int b)) (by rw [clsErr, if_neg h1, if_neg hb2, if_pos (by omega)])) rfl trivial nil_sb trivial
 have hb3' := hb3; try simp at hb3'
 have h3 : -1 ≤ (cs.getD i default).2 ∧ (cs.getD i default).2 ≤ (cs.length : Int) - 1 := by simpa using hb3
 refine i8 ?_
 first | refine a9 ⟨_, 1, none⟩ rfl rfl T.J8 rfl ?_ | refine a9 _ rfl rfl T.J8 rfl ?_
 first | refine b8 rfl T.b9 rfl (j0 mB rfl) ?_ | refine b8 rfl T.b9 rfl (j3 mB rfl) ?_ | refine b8 rfl T.b9 rfl (d6 mB (c9 (by omega) rfl)) ?_ | refine b8 rfl T.b9 rfl (d7 mB (rows_get (by omega) rfl)) ?_ | refine b8 rfl T.b9 rfl (j5 mB rfl) ?_
 refine c7 rfl (X2 rfl rfl rfl (d5 rfl (d8 ?_)))
 first | refine m3 rfl (fun hb4 => ?_) (fun hb4 => ?_) | refine j7 rfl (fun hb4 => ?_) (fun hb4 => ?_)
 ·have hb4' := hb4; try simp at hb4'
  refine i8 (d5 rfl (d8 (l5 (G8 ?_)))); exact ret1 () rfl (congrArg (fun b => some (int b)) (by rw [clsErr, if_neg h1, if_neg hb2, if_neg (by omega), if_pos hb4])) rfl trivial nil_sb trivial
 have hb4' := hb4; try simp at hb4'
 refine k6 (y6 (j6 (i8 (d5 rfl (d8 (l5 ?_)))))); exact ret1 () rfl (congrArg (fun b => some (int b)) (by rw [clsErr, if_neg h1, if_neg hb2, if_neg (by omega), if_neg hb4])) rfl trivial nil_sb trivial
end Go.Proofs.YtcdopfjiadifhaaGreatDoor
end
section
namespace Go.Proofs.YtcdopfjiadifhaaGreatDoor
open Go Go.W
set_option maxRecDepth 20000
attribute [local irreducible] HL HC HQ HB Row Rows2 Blk Facts
theorem ps_take {hs : List Hd} {n : Nat} : ((hs.map Hd.p).take n).map (·.1) = (hs.take n).map (·.1) := by rw [← List.map_take, List.map_map]; rfl
theorem bR (cs : List Cl) (hs : List Hd) {i : Nat} (hi : i < hs.length) : headErr (trOf cs hs) i =
  if wordB (hs.getD i default).1 = false then 2
  else if (hs.getD i default).1 ∈ (hs.take i).map (·.1) then 4
  else if 0 < i ∧ (hs.getD i default).1 < (hs.getD (i - 1) default).1 then 5
  else if (hs.getD i default).2.1 < -1 ∨ (cs.length : Int) ≤ (hs.getD i default).2.1 ∨ (hs.getD i default).2.2.1 < -1 ∨ (hs.length : Int) ≤ (hs.getD i default).2.2.1 then 3
  else if (hs.getD i default).2.2.1 = (i : Int) then 9
  else if ¬ firstE (alsoErr hs.length i (hs.getD i default).2.2.2.l) (hs.getD i default).2.2.2.l.length = 0 then firstE (alsoErr hs.length i (hs.getD i default).2.2.2.l) (hs.getD i default).2.2.2.l.length
  else if kindBad (hs.getD i default).p = true then 8 else 0 := by
  unfold headErr; simp only [trOf, dq6 hi, dq6 (show i - 1 < hs.length by omega), ps_take, List.length_map]
  rfl
theorem nbw {a b c : Int} (h : (!decide (a ≤ b ∧ b ≤ c)) = true) : ¬ (a ≤ b ∧ b ≤ c) := fun e => by rw [decide_eq_true e] at h; cases h
theorem bw {a b c : Int} (h : (!decide (a ≤ b ∧ b ≤ c)) = false) : a ≤ b ∧ b ≤ c := Classical.byContradiction fun e => by rw [decide_eq_false e] at h; cases h
set_option maxHeartbeats 2000000 in
theorem nZ {A B : Option Addr} {ca cb : Nat} (cs : List Cl) (hs : List Hd) (i : Nat) (h6 : hs.length ≤ 6) (hc6 : cs.length ≤ 6) (hc : hs.length ≤ cb) (hi : i < hs.length) (ha : ∀ h ∈ hs, h.2.2.2.l.length ≤ 1000000) : Meets Tryz.prog F.cQ [.agg #[.slice A cs.length ca, .slice B hs.length cb], int i] { LI := [Row A (rows cs), RowsF B hs Hd.row], val := fun _ : Unit => int (headErr (trOf cs hs) i) } := by
 refine i9 F.wL rfl r6 fun w0 => ?_; refine i8 ?_; refine H6 rfl rfl fun gB => ?_; refine d5 rfl (d8 (j4 (ix6 m1 ?_))); refine rq5 m2 (w7 hi) ?_; have hal := ha _ (w7 hi); refine S6 ([]) (_) (.refl _) 9 [7] mixed (by decide) (by decide) (by decide) rfl rfl rfl ?_
 apply m8 _ rfl rfl rfl
 ·intro w1
  first | refine a9 ⟨_, 1, none⟩ rfl rfl T.t3 rfl ?_ | refine a9 _ rfl rfl T.t3 rfl ?_
  refine d4 ?_; exact k4 rfl
 apply m8 _ rfl rfl rfl
 ·intro w1
  first | refine b8 rfl T.m6 rfl (j3 mB rfl) ?_ | refine b8 rfl T.m6 rfl (j0 mB rfl) ?_ | refine b8 rfl T.m6 rfl (d6 mB (c9 (by omega) rfl)) ?_ | refine b8 rfl T.m6 rfl (d7 mB (rows_get (by omega) rfl)) ?_ | refine b8 rfl T.m6 rfl (j5 mB rfl) ?_
  refine d4 ?_; exact k4 rfl
 apply m8 _ rfl rfl rfl
 ·intro w1
  first | refine a9 ⟨_, 1, none⟩ rfl rfl T.t3 rfl ?_ | refine a9 _ rfl rfl T.t3 rfl ?_
  refine d4 ?_; exact k4 rfl
 apply m8 _ rfl rfl rfl
 ·intro w1
  first | refine b8 rfl T.m6 rfl (j3 mB rfl) ?_ | refine b8 rfl T.m6 rfl (j0 mB rfl) ?_ | refine b8 rfl T.m6 rfl (d6 mB (c9 (by omega) rfl)) ?_ | refine b8 rfl T.m6 rfl (d7 mB (rows_get (by omega) rfl)) ?_ | refine b8 rfl T.m6 rfl (j5 mB rfl) ?_
  refine d4 ?_; exact k4 rfl
 refine l9 (fun w1 => c7 rfl (q_z rfl)) (l9 (fun w1 => v6 (α := Hd) _ _ rfl T.B4 T.J6 rfl rfl rfl mB rfl (by omega) (by decide) (q_z rfl)) (l9 (fun w1 => u7 rfl T.mD T.J6 rfl rfl (t5 mB (t9 (by omega))) (q_z rfl)) ?_)); refine iZ ⟨Nat, fun _ => True, fun g => .pointer (c8 g), fun _ => [], fun g => [(g, Obj.cells #[str [], int 0, int 0, .slice none 0 0] T.yR (0, 0))]⟩ rfl rfl rfl ?_ ?_
 ·intro w1; refine y9 rfl (fun _ => T.az9 _) fun gA => ?_; refine d4 ?_; exact O8 gA trivial (fun _ => rfl) (.refl _) trivial
 refine l9 (fun w1 => d5 rfl (q_z rfl)) ?_; refine D1 ⟨rfl, ?_⟩; intro x7 hx7; refine w4 rfl rfl (by first | exact .refl _ | exact perm2 _ _ _ | exact perm3 _ _ _ _ | exact perm4 _ _ _ _ _) T.J6 (by rfl) (by rfl) ?_; refine d8 (j4 (k9 (j4 ?_))); refine dq7 (rows [hs.getD i default]) ⟨[], List.append_nil _⟩ ?_; refine j8 ?_
 first | refine a9 ⟨_, 0, none⟩ rfl rfl T.I1 rfl ?_ | refine a9 _ rfl rfl T.I1 rfl ?_
 first | refine b8 rfl T.m5 rfl (j0 mB rfl) ?_ | refine b8 rfl T.m5 rfl (j3 mB rfl) ?_ | refine b8 rfl T.m5 rfl (d6 mB (c9 (by omega) rfl)) ?_ | refine b8 rfl T.m5 rfl (d7 mB (rows_get (by omega) rfl)) ?_ | refine b8 rfl T.m5 rfl (j5 mB rfl) ?_
 refine k5 F.tN rfl rfl (kE (hs.getD i default).1) p6 trivial fun _ _ => ?_; refine M7 rfl rfl (d5 rfl (d8 ?_))
 first | refine m3 rfl (fun hb1 => ?_) (fun hb1 => ?_) | refine j7 rfl (fun hb1 => ?_) (fun hb1 => ?_)
 ·have hb1' := hb1; try simp at hb1'
  have h1 : wordB (hs.getD i default).1 = false := by simpa using hb1
  refine i8 (d5 rfl (d8 (l5 (G8 ?_)))); exact ret1 () rfl (congrArg (fun b => some (int b)) (by rw [bR cs hs hi, if_pos h1])) rfl trivial nil_sb trivial
 have hb1' := hb1; try simp at hb1'
 have h1 : ¬ wordB (hs.getD i default).1 = false := by simpa using hb1
 refine i8 (c7 rfl (c7 rfl ?_)); refine mG (hs.take i).length rfl T.B4 T.J6 rfl rfl (by simp; omega) (by simp; omega) ?_; refine dq4 (ps := hs) i mB (hY rfl rfl rfl ?_); refine k5 F.kO rfl rfl (gW (hs.take i) (hs.getD i default) (by simp; omega)) p6 mC fun _ _ => ?_; refine d5 rfl (d8 ?_)
 first | refine m3 rfl (fun hb2 => ?_) (fun hb2 => ?_) | refine j7 rfl (fun hb2 => ?_) (fun hb2 => ?_)
 ·have hb2' := hb2; try simp at hb2'
  refine i8 (d5 rfl (d8 (l5 (G8 ?_)))); exact ret1 () rfl (congrArg (fun b => some (int b)) (by rw [bR cs hs hi, if_neg h1, if_pos hb2])) rfl trivial nil_sb trivial
 have hb2' := hb2; try simp at hb2'
 refine mT ⟨fun _ : Unit => True, fun _ => [(1, int i), (2, .pointer (c8 gB)), (5, .slice B hs.length cb), (6, .pointer (c8 x7)), (27, .bool (decide (0 < i ∧ (hs.getD i default).1 < (hs.getD (i - 1) default).1)))], fun _ => [(gB, .cells #[.slice A cs.length ca, .slice B hs.length cb] T.C2 (0, 0))], fun _ => [Row (c8 x7) (rows [hs.getD i default]), Row B (rows hs), Row (hs.getD i default).2.2.2.a (rows (hs.getD i default).2.2.2.l)]⟩ ?_ ?_
 ·skip
  refine I5 11 mixed (by decide) (by decide) rfl rfl (l9 (fun w1 => c7 rfl (q_z rfl)) (l9 (fun w1 => R0 rfl rfl rfl (q_z rfl)) (l9 (fun w1 => c7 rfl (q_z rfl)) ?_))); refine mj5 (t := 30) (want := true) rfl ?_ ?_
  ·intro hg1; have hg1' := hg1; try simp at hg1'
   apply m8 _ rfl rfl rfl
   ·intro w1; refine l3 rfl rfl hg1 ?_
    first | refine a9 ⟨_, 0, none⟩ rfl rfl T.I1 rfl ?_ | refine a9 _ rfl rfl T.I1 rfl ?_
    refine d4 ?_; exact k4 rfl
   apply m8 _ rfl rfl rfl
   ·intro w1; refine l3 rfl rfl hg1 ?_
    first | refine b8 rfl T.m5 rfl (j3 mB rfl) ?_ | refine b8 rfl T.m5 rfl (j0 mB rfl) ?_ | refine b8 rfl T.m5 rfl (d6 mB (c9 (by omega) rfl)) ?_ | refine b8 rfl T.m5 rfl (d7 mB (rows_get (by omega) rfl)) ?_ | refine b8 rfl T.m5 rfl (j5 mB rfl) ?_
    refine d4 ?_; exact k4 rfl
   apply m8 _ rfl rfl rfl
   ·intro w1; refine l3 rfl rfl hg1 (c7 rfl (d4 ?_)); exact k4 rfl
   apply m8 _ rfl rfl rfl
   ·intro w1; refine l3 rfl rfl hg1 (c7 rfl (d4 ?_)); exact k4 rfl
   apply m8 _ rfl rfl rfl
   ·intro w1; refine l3 rfl rfl hg1 (S1 ((i - 1 : Nat) : Int) rfl rfl rfl (by omega) r5 ?_); refine d4 ?_; exact k4 rfl
   apply m8 _ rfl rfl rfl
   ·intro w1; refine l3 rfl rfl hg1 (v6 (α := Hd) hs (i - 1) rfl T.B4 T.J6 rfl rfl rfl mB rfl (by omega) (by decide) ?_); refine d4 ?_; exact k4 rfl
   apply m8 _ rfl rfl rfl
   ·intro w1; refine l3 rfl rfl hg1 ?_
    first | refine a9 ⟨_, 0, none⟩ rfl rfl T.I1 rfl ?_ | refine a9 _ rfl rfl T.I1 rfl ?_
    refine d4 ?_; exact k4 rfl
   apply m8 _ rfl rfl rfl
   ·intro w1; refine l3 rfl rfl hg1 (b8 rfl T.m5 rfl (d6 (cs := rows hs) mB (c9 (by omega) rfl)) ?_); refine d4 ?_; exact k4 rfl
   refine D1 ⟨rfl, ?_⟩; refine l3 rfl rfl hg1 (r_slss rfl rfl rfl ?_); refine p_t rfl rfl (bt1 hg1) rfl ?_; refine d5 rfl (d4 ?_); exact Y0 _ () trivial ⟨rfl, rfl, rfl, rfl, congrArg (fun b => some (Value.bool b)) (by rw [nq0]; exact decide_eq_decide.2 ⟨fun e => ⟨by omega, e⟩, fun e => e.2⟩), trivial⟩ (List.Sublist.refl _) mC
  intro hg1; have hg1' := hg1; try simp at hg1'
  refine l9 (fun w1 => t4 rfl rfl rfl rfl rfl hg1 (q_z rfl)) (l9 (fun w1 => t4 rfl rfl rfl rfl rfl hg1 (q_z rfl)) (l9 (fun w1 => t4 rfl rfl rfl rfl rfl hg1 (q_z rfl)) (l9 (fun w1 => t4 rfl rfl rfl rfl rfl hg1 (q_z rfl)) (l9 (fun w1 => t4 rfl rfl rfl rfl rfl hg1 (q_z rfl)) (l9 (fun w1 => t4 rfl rfl rfl rfl rfl hg1 (q_z rfl)) (l9 (fun w1 => t4 rfl rfl rfl rfl rfl hg1 (q_z rfl)) (l9 (fun w1 => t4 rfl rfl rfl rfl rfl hg1 (q_z rfl)) ?_))))))); refine D1 ⟨rfl, ?_⟩; refine t4 rfl rfl rfl rfl rfl hg1 (p_f rfl rfl (bf2 hg1) rfl ?_); refine d5 rfl (d4 ?_); exact Y0 _ () trivial ⟨rfl, rfl, rfl, rfl, congrArg (fun b => some (Value.bool b)) (by exact (decide_eq_false (by simp at hg1; omega)).symm), trivial⟩ (List.Sublist.refl _) mC
 refine fun _ _ => ?_
 first | refine m3 rfl (fun hb3 => ?_) (fun hb3 => ?_) | refine j7 rfl (fun hb3 => ?_) (fun hb3 => ?_)
 ·have hb3' := hb3; try simp at hb3'
  refine i8 (d5 rfl (d8 (l5 (G8 ?_)))); exact ret1 () rfl (congrArg (fun b => some (int b)) (by rw [bR cs hs hi, if_neg h1, if_neg hb2, if_pos hb3])) rfl trivial nil_sb trivial
 have hb3' := hb3; try simp at hb3'
 refine mT ⟨fun _ : Unit => True, fun _ => [(1, int i), (2, .pointer (c8 gB)), (5, .slice B hs.length cb), (6, .pointer (c8 x7)), (41, .bool (decide (¬ ((-1 ≤ (hs.getD i default).2.1 ∧ (hs.getD i default).2.1 ≤ (cs.length : Int) - 1) ∧ (-1 ≤ (hs.getD i default).2.2.1 ∧ (hs.getD i default).2.2.1 ≤ (hs.length : Int) - 1)))))], fun _ => [(gB, .cells #[.slice A cs.length ca, .slice B hs.length cb] T.C2 (0, 0))], fun _ => [Row (c8 x7) (rows [hs.getD i default]), Row B (rows hs), Row (hs.getD i default).2.2.2.a (rows (hs.getD i default).2.2.2.l)]⟩ ?_ ?_
 ·skip
  refine i8 ?_
  first | refine a9 ⟨_, 1, none⟩ rfl rfl T.D9 rfl ?_ | refine a9 _ rfl rfl T.D9 rfl ?_
  first | refine b8 rfl T.b9 rfl (j0 mB rfl) ?_ | refine b8 rfl T.b9 rfl (j3 mB rfl) ?_ | refine b8 rfl T.b9 rfl (d6 mB (c9 (by omega) rfl)) ?_ | refine b8 rfl T.b9 rfl (d7 mB (rows_get (by omega) rfl)) ?_ | refine b8 rfl T.b9 rfl (j5 mB rfl) ?_
  first | refine a9 ⟨_, 0, none⟩ rfl rfl T.G2 rfl ?_ | refine a9 _ rfl rfl T.G2 rfl ?_
  first | refine b8 rfl T.r9 rfl (j0 mB rfl) ?_ | refine b8 rfl T.r9 rfl (j3 mB rfl) ?_ | refine b8 rfl T.r9 rfl (d6 mB (c9 (by omega) rfl)) ?_ | refine b8 rfl T.r9 rfl (d7 mB (rows_get (by omega) rfl)) ?_ | refine b8 rfl T.r9 rfl (j5 mB rfl) ?_
  refine l7 rfl T.I0 rfl (S1 _ rfl rfl rfl rfl r5 ?_); refine k5 F.Q3 rfl rfl (K4 _ _ _) p6 trivial fun _ _ => ?_; refine M7 rfl rfl (d5 rfl (d8 ?_))
  first | refine m3 rfl (fun hb4 => ?_) (fun hb4 => ?_) | refine j7 rfl (fun hb4 => ?_) (fun hb4 => ?_)
  ·have hb4' := hb4; try simp at hb4'
   refine k6 ?_; exact Y0 _ () trivial ⟨rfl, rfl, rfl, rfl, congrArg (fun b => some (Value.bool b)) (by rw [hb4]; symm; rw [decide_eq_true_eq]; exact fun e => nbw hb4 e.1), trivial⟩ (List.Sublist.refl _) mC
  have hb4' := hb4; try simp at hb4'
  refine j8 ?_
  first | refine a9 ⟨_, 2, none⟩ rfl rfl T.D8 rfl ?_ | refine a9 _ rfl rfl T.D8 rfl ?_
  first | refine b8 rfl T.b9 rfl (j0 mB rfl) ?_ | refine b8 rfl T.b9 rfl (j3 mB rfl) ?_ | refine b8 rfl T.b9 rfl (d6 mB (c9 (by omega) rfl)) ?_ | refine b8 rfl T.b9 rfl (d7 mB (rows_get (by omega) rfl)) ?_ | refine b8 rfl T.b9 rfl (j5 mB rfl) ?_
  refine c7 rfl (l7 rfl T.B4 rfl (S1 _ rfl rfl rfl rfl r5 ?_)); refine k5 F.Q3 rfl rfl (K4 _ _ _) p6 trivial fun _ _ => ?_; refine M7 rfl rfl (d5 rfl (d4 ?_)); exact Y0 _ () trivial ⟨rfl, rfl, rfl, rfl, congrArg (fun b => some (Value.bool b)) (by have := bw hb4; rw [Bool.eq_iff_iff]; simp only [Bool.not_eq_true', decide_eq_false_iff_not, decide_eq_true_eq]; exact ⟨fun e f => e f.2, fun e f => e ⟨this, f⟩⟩), trivial⟩ (List.Sublist.refl _) mC
 refine fun _ _ => ?_
 first | refine m3 rfl (fun hb5 => ?_) (fun hb5 => ?_) | refine j7 rfl (fun hb5 => ?_) (fun hb5 => ?_)
 ·have hb5' := hb5; try simp at hb5'
  refine i8 (d5 rfl (d8 (l5 (G8 ?_)))); exact ret1 () rfl (congrArg (fun b => some (int b)) (by rw [bR cs hs hi, if_neg h1, if_neg hb2, if_neg hb3, if_pos (by omega)])) rfl trivial nil_sb trivial
 have hb5' := hb5; try simp at hb5'
 refine i8 ?_
 first | refine a9 ⟨_, 2, none⟩ rfl rfl T.D8 rfl ?_ | refine a9 _ rfl rfl T.D8 rfl ?_
 first | refine b8 rfl T.b9 rfl (j0 mB rfl) ?_ | refine b8 rfl T.b9 rfl (j3 mB rfl) ?_ | refine b8 rfl T.b9 rfl (d6 mB (c9 (by omega) rfl)) ?_ | refine b8 rfl T.b9 rfl (d7 mB (rows_get (by omega) rfl)) ?_ | refine b8 rfl T.b9 rfl (j5 mB rfl) ?_
 refine c7 rfl (H0 rfl rfl rfl (d5 rfl (d8 ?_)))
 first | refine m3 rfl (fun hb6 => ?_) (fun hb6 => ?_) | refine j7 rfl (fun hb6 => ?_) (fun hb6 => ?_)
 ·have hb6' := hb6; try simp at hb6'
  refine i8 (d5 rfl (d8 (l5 (G8 ?_)))); exact ret1 () rfl (congrArg (fun b => some (int b)) (by rw [bR cs hs hi, if_neg h1, if_neg hb2, if_neg hb3, if_neg (by omega), if_pos hb6])) rfl trivial nil_sb trivial
 have hb6' := hb6; try simp at hb6'
 have hH : headErr (trOf cs hs) i = if ¬ firstE (alsoErr hs.length i (hs.getD i default).2.2.2.l) (hs.getD i default).2.2.2.l.length = 0 then firstE (alsoErr hs.length i (hs.getD i default).2.2.2.l) (hs.getD i default).2.2.2.l.length else if kindBad (hs.getD i default).p = true then 8 else 0 := by rw [bR cs hs hi, if_neg h1, if_neg hb2, if_neg hb3, if_neg (by omega), if_neg hb6]
 refine k6 (y6 (j6 (j4 (i8 ?_))))
 first | refine a9 ⟨_, 3, none⟩ rfl rfl T.D7 rfl ?_ | refine a9 _ rfl rfl T.D7 rfl ?_
 first | refine b8 rfl T.i7 rfl (j0 mB rfl) ?_ | refine b8 rfl T.i7 rfl (j3 mB rfl) ?_ | refine b8 rfl T.i7 rfl (d6 mB (c9 (by omega) rfl)) ?_ | refine b8 rfl T.i7 rfl (d7 mB (rows_get (by omega) rfl)) ?_ | refine b8 rfl T.i7 rfl (j5 mB rfl) ?_
 refine l7 rfl T.t7 rfl ?_; refine c7 rfl (d8 (k9 ?_)); refine w3 (β := Nat) ⟨fun k => k ≤ (hs.getD i default).2.2.2.l.length ∧ firstE (alsoErr hs.length i (hs.getD i default).2.2.2.l) k = 0, fun k => [(1, int i), (2, .pointer (c8 gB)), (5, .slice B hs.length cb), (6, .pointer (c8 x7)), (63, .slice (hs.getD i default).2.2.2.a (hs.getD i default).2.2.2.l.length (hs.getD i default).2.2.2.c), (64, int (hs.getD i default).2.2.2.l.length), (65, int k)], fun _ => [(gB, .cells #[.slice A cs.length ca, .slice B hs.length cb] T.C2 (0, 0))], fun _ => [Row (c8 x7) (rows [hs.getD i default]), Row B (rows hs), Row (hs.getD i default).2.2.2.a (rows (hs.getD i default).2.2.2.l)]⟩ (fun k => (hs.getD i default).2.2.2.l.length - k) 0 ⟨Nat.zero_le _, rfl⟩ mC (List.Sublist.refl _) mC fun k hk => ?_; obtain ⟨hk, ht⟩ := hk; refine i8 (B6 rfl rfl rfl (d8 (j4 ?_)))
 first | refine m3 rfl (fun hb7 => ?_) (fun hb7 => ?_) | refine j7 rfl (fun hb7 => ?_) (fun hb7 => ?_)
 ·have hb7' := hb7; try simp at hb7'
  have hk2 : k < (hs.getD i default).2.2.2.l.length := by omega
  refine k6 (j6 (j4 (k9 (i8 (c7 rfl ?_))))); refine v6 (α := Int) _ _ rfl T.t7 T.w9 rfl rfl rfl mB rfl (by omega) (by decide) (b8 rfl T.b9 rfl (d6 mB (c9 (by omega) rfl)) ?_); refine d5 rfl (d5 rfl (d8 (k9 (i8 (c7 rfl (c7 rfl ?_)))))); refine l7 rfl T.B4 rfl (S1 _ rfl rfl rfl rfl r5 ?_); refine k5 F.Q3 rfl rfl (K4 _ _ _) p6 trivial fun _ _ => ?_; refine M7 rfl rfl (d5 rfl (d8 ?_))
  first | refine m3 rfl (fun hb8 => ?_) (fun hb8 => ?_) | refine j7 rfl (fun hb8 => ?_) (fun hb8 => ?_)
  ·have hb8' := hb8; try simp at hb8'
   refine i8 (d5 rfl (d8 (l5 (mP (G8 (C4 (G8 ?_))))))); exact ret1 () rfl (congrArg (fun b => some (int b)) (by have he : alsoErr hs.length i (hs.getD i default).2.2.2.l k = 3 := (by unfold alsoErr; rw [if_pos (by have := nbw hb8; omega)]); rw [hH, Z6 ht (by rw [he]; omega) _ hk2, if_pos (by rw [he]; omega), he])) rfl trivial nil_sb trivial
  have hb8' := hb8; try simp at hb8'
  refine i8 (c7 rfl (c7 rfl (H0 rfl rfl rfl (d5 rfl (d8 ?_)))))
  first | refine m3 rfl (fun hb9 => ?_) (fun hb9 => ?_) | refine j7 rfl (fun hb9 => ?_) (fun hb9 => ?_)
  ·have hb9' := hb9; try simp at hb9'
   refine i8 (d5 rfl (d8 (l5 (mP (G8 (C4 (G8 ?_))))))); exact ret1 () rfl (congrArg (fun b => some (int b)) (by have he : alsoErr hs.length i (hs.getD i default).2.2.2.l k = 9 := (by unfold alsoErr; rw [if_neg (by have := bw hb8; omega), if_pos hb9]); rw [hH, Z6 ht (by rw [he]; omega) _ hk2, if_pos (by rw [he]; omega), he])) rfl trivial nil_sb trivial
  have hb9' := hb9; try simp at hb9'
  refine mT ⟨fun _ : Unit => True, fun _ => [(1, int i), (2, .pointer (c8 gB)), (5, .slice B hs.length cb), (6, .pointer (c8 x7)), (63, .slice (hs.getD i default).2.2.2.a (hs.getD i default).2.2.2.l.length (hs.getD i default).2.2.2.c), (64, int (hs.getD i default).2.2.2.l.length), (65, int k), (81, .bool (decide (0 < k ∧ (hs.getD i default).2.2.2.l.getD k default ≤ (hs.getD i default).2.2.2.l.getD (k - 1) default)))], fun _ => [(gB, .cells #[.slice A cs.length ca, .slice B hs.length cb] T.C2 (0, 0))], fun _ => [Row (c8 x7) (rows [hs.getD i default]), Row B (rows hs), Row (hs.getD i default).2.2.2.a (rows (hs.getD i default).2.2.2.l)]⟩ ?_ ?_
  ·skip
   refine j8 (c7 rfl (R0 rfl rfl rfl (c7 rfl ?_))); refine u6 rfl rfl ?_ ?_
   ·intro hg2; have hg2' := hg2; try simp at hg2'
    refine l3 rfl rfl hg2 (c7 rfl (l3 rfl rfl hg2 ?_))
    first | refine a9 ⟨_, 3, none⟩ rfl rfl T.D7 rfl ?_ | refine a9 _ rfl rfl T.D7 rfl ?_
    refine l3 rfl rfl hg2 ?_
    first | refine b8 rfl T.i7 rfl (j0 mB rfl) ?_ | refine b8 rfl T.i7 rfl (j3 mB rfl) ?_ | refine b8 rfl T.i7 rfl (d6 mB (c9 (by omega) rfl)) ?_ | refine b8 rfl T.i7 rfl (d7 mB (rows_get (by omega) rfl)) ?_ | refine b8 rfl T.i7 rfl (j5 mB rfl) ?_
    refine l3 rfl rfl hg2 (c7 rfl (l3 rfl rfl hg2 ?_)); refine S1 ((k - 1 : Nat) : Int) rfl rfl rfl (by omega) r5 (l3 rfl rfl hg2 (v6 (α := Int) _ _ rfl T.t7 T.w9 rfl rfl rfl mB rfl (by omega) (by decide) (l3 rfl rfl hg2 (b8 rfl T.b9 rfl (d6 mB (c9 (by omega) rfl)) ?_)))); refine l3 rfl rfl hg2 (ax0 rfl rfl rfl ?_); refine p_t rfl rfl (bt1 hg2) rfl ?_; refine d5 rfl (d4 ?_); exact Y0 _ () trivial ⟨rfl, rfl, rfl, rfl, rfl, rfl, rfl, congrArg (fun b => some (Value.bool b)) (by exact decide_eq_decide.2 ⟨fun e => ⟨by omega, e⟩, fun e => e.2⟩), trivial⟩ (List.Sublist.refl _) mC
   intro hg2; have hg2' := hg2; try simp at hg2'
   refine t4 rfl rfl rfl rfl rfl hg2 (t4 rfl rfl rfl rfl rfl hg2 (t4 rfl rfl rfl rfl rfl hg2 (t4 rfl rfl rfl rfl rfl hg2 (t4 rfl rfl rfl rfl rfl hg2 (t4 rfl rfl rfl rfl rfl hg2 (t4 rfl rfl rfl rfl rfl hg2 (t4 rfl rfl rfl rfl rfl hg2 ?_))))))); refine p_f rfl rfl (bf2 hg2) rfl ?_; refine d5 rfl (d4 ?_); exact Y0 _ () trivial ⟨rfl, rfl, rfl, rfl, rfl, rfl, rfl, congrArg (fun b => some (Value.bool b)) (by exact (decide_eq_false (by simp at hg2; omega)).symm), trivial⟩ (List.Sublist.refl _) mC
  refine fun _ _ => ?_
  first | refine m3 rfl (fun hb10 => ?_) (fun hb10 => ?_) | refine j7 rfl (fun hb10 => ?_) (fun hb10 => ?_)
  ·have hb10' := hb10; try simp at hb10'
   refine i8 (d5 rfl (d8 (l5 (mP (G8 (C4 (G8 ?_))))))); exact ret1 () rfl (congrArg (fun b => some (int b)) (by have he : alsoErr hs.length i (hs.getD i default).2.2.2.l k = 5 := (by unfold alsoErr; rw [if_neg (by have := bw hb8; omega), if_neg hb9, if_pos hb10]); rw [hH, Z6 ht (by rw [he]; omega) _ hk2, if_pos (by rw [he]; omega), he])) rfl trivial nil_sb trivial
  have hb10' := hb10; try simp at hb10'
  refine k6 (y6 (y6 (j6 (j8 ?_)))); refine v4 _ rfl rfl rfl rfl r5 ?_; refine c7 rfl (d4 ?_); exact again _ (k + 1) ⟨by omega, by rw [rI ht]; unfold alsoErr; rw [if_neg (by have := bw hb8; omega), if_neg hb9, if_neg hb10]⟩ (D5 (by omega)) mC (List.Sublist.refl _) mC
 have hb7' := hb7; try simp at hb7'
 have hk2 : k = (hs.getD i default).2.2.2.l.length := by omega
 subst hk2; rw [if_neg (not_not_intro ht)] at hH; refine u9 (D6 (u5 (j6 (j4 ?_)))); refine mT ⟨fun _ : Unit => True, fun _ => [(1, int i), (2, .pointer (c8 gB)), (5, .slice B hs.length cb), (6, .pointer (c8 x7)), (124, .bool (kindBad (hs.getD i default).p))], fun _ => [(gB, .cells #[.slice A cs.length ca, .slice B hs.length cb] T.C2 (0, 0))], fun _ => [Row (c8 x7) (rows [hs.getD i default]), Row B (rows hs), Row (hs.getD i default).2.2.2.a (rows (hs.getD i default).2.2.2.l)]⟩ ?_ ?_
 ·skip
  clear hH ht hk hb1 hb1' h1 hb2 hb2' hb3 hb3' hb5 hb5' hb6 hb6' hb7 hb7' ha h6 hc6 hc hi hal; refine j8 ?_
  first | refine a9 ⟨_, 2, none⟩ rfl rfl T.D8 rfl ?_ | refine a9 _ rfl rfl T.D8 rfl ?_
  first | refine b8 rfl T.b9 rfl (j0 mB rfl) ?_ | refine b8 rfl T.b9 rfl (j3 mB rfl) ?_ | refine b8 rfl T.b9 rfl (d6 mB (c9 (by omega) rfl)) ?_ | refine b8 rfl T.b9 rfl (d7 mB (rows_get (by omega) rfl)) ?_ | refine b8 rfl T.b9 rfl (j5 mB rfl) ?_
  refine N5 rfl rfl rfl (c7 rfl ?_); refine u6 rfl rfl ?_ ?_
  ·intro hg3; have hg3' := hg3; try simp at hg3'
   refine l3 rfl rfl hg3 ?_
   first | refine a9 ⟨_, 1, none⟩ rfl rfl T.D9 rfl ?_ | refine a9 _ rfl rfl T.D9 rfl ?_
   refine l3 rfl rfl hg3 ?_
   first | refine b8 rfl T.b9 rfl (j0 mB rfl) ?_ | refine b8 rfl T.b9 rfl (j3 mB rfl) ?_ | refine b8 rfl T.b9 rfl (d6 mB (c9 (by omega) rfl)) ?_ | refine b8 rfl T.b9 rfl (d7 mB (rows_get (by omega) rfl)) ?_ | refine b8 rfl T.b9 rfl (j5 mB rfl) ?_
   refine l3 rfl rfl hg3 (N5 rfl rfl rfl (l3 rfl rfl hg3 (c7 rfl ?_))); refine u6 rfl rfl ?_ ?_
   ·intro hg4; have hg4' := hg4; try simp at hg4'
    refine l3 rfl rfl hg4 ?_
    first | refine a9 ⟨_, 3, none⟩ rfl rfl T.D7 rfl ?_ | refine a9 _ rfl rfl T.D7 rfl ?_
    refine l3 rfl rfl hg4 ?_
    first | refine b8 rfl T.i7 rfl (j0 mB rfl) ?_ | refine b8 rfl T.i7 rfl (j3 mB rfl) ?_ | refine b8 rfl T.i7 rfl (d6 mB (c9 (by omega) rfl)) ?_ | refine b8 rfl T.i7 rfl (d7 mB (rows_get (by omega) rfl)) ?_ | refine b8 rfl T.i7 rfl (j5 mB rfl) ?_
    refine l3 rfl rfl hg4 (l7 rfl T.t7 rfl ?_); refine l3 rfl rfl hg4 (R0 rfl rfl rfl (l3 rfl rfl hg3 ?_)); refine p_f rfl rfl (bf1 hg4) rfl (p_t rfl rfl (bt1 hg3) rfl (c7 rfl ?_)); refine u6 rfl rfl ?_ ?_
    ·intro hg5; have hg5' := hg5; try simp at hg5'
     refine l3 rfl rfl hg5 ?_
     first | refine a9 ⟨_, 2, none⟩ rfl rfl T.D8 rfl ?_ | refine a9 _ rfl rfl T.D8 rfl ?_
     refine l3 rfl rfl hg5 ?_
     first | refine b8 rfl T.b9 rfl (j0 mB rfl) ?_ | refine b8 rfl T.b9 rfl (j3 mB rfl) ?_ | refine b8 rfl T.b9 rfl (d6 mB (c9 (by omega) rfl)) ?_ | refine b8 rfl T.b9 rfl (d7 mB (rows_get (by omega) rfl)) ?_ | refine b8 rfl T.b9 rfl (j5 mB rfl) ?_
     refine l3 rfl rfl hg5 (H0 rfl rfl rfl (l3 rfl rfl hg5 (c7 rfl ?_))); refine u6 rfl rfl ?_ ?_
     ·intro hg6; have hg6' := hg6; try simp at hg6'
      refine l3 rfl rfl hg6 ?_
      first | refine a9 ⟨_, 1, none⟩ rfl rfl T.D9 rfl ?_ | refine a9 _ rfl rfl T.D9 rfl ?_
      refine l3 rfl rfl hg6 ?_
      first | refine b8 rfl T.b9 rfl (j0 mB rfl) ?_ | refine b8 rfl T.b9 rfl (j3 mB rfl) ?_ | refine b8 rfl T.b9 rfl (d6 mB (c9 (by omega) rfl)) ?_ | refine b8 rfl T.b9 rfl (d7 mB (rows_get (by omega) rfl)) ?_ | refine b8 rfl T.b9 rfl (j5 mB rfl) ?_
      refine l3 rfl rfl hg6 (H0 rfl rfl rfl (l3 rfl rfl hg5 ?_)); refine p_t rfl rfl (bt1 hg6) rfl ?_; refine l3 rfl rfl hg5 (c7 rfl ?_); refine u6 rfl rfl ?_ ?_
      ·intro hg7; have hg7' := hg7; try simp at hg7'
       refine l3 rfl rfl hg7 ?_
       first | refine a9 ⟨_, 3, none⟩ rfl rfl T.D7 rfl ?_ | refine a9 _ rfl rfl T.D7 rfl ?_
       refine l3 rfl rfl hg7 ?_
       first | refine b8 rfl T.i7 rfl (j0 mB rfl) ?_ | refine b8 rfl T.i7 rfl (j3 mB rfl) ?_ | refine b8 rfl T.i7 rfl (d6 mB (c9 (by omega) rfl)) ?_ | refine b8 rfl T.i7 rfl (d7 mB (rows_get (by omega) rfl)) ?_ | refine b8 rfl T.i7 rfl (j5 mB rfl) ?_
       refine l3 rfl rfl hg7 (l7 rfl T.t7 rfl ?_); refine l3 rfl rfl hg7 (H0 rfl rfl rfl (l3 rfl rfl hg5 ?_)); refine p_t rfl rfl (bt1 hg7) rfl (p_f rfl rfl (bf1 hg5) rfl ?_); refine d4 ?_; exact Y0 _ () trivial ⟨rfl, rfl, rfl, rfl, congrArg (fun b => some (Value.bool b)) (by simp only [kindBad, Hd.p]; simp_all), trivial⟩ (List.Sublist.refl _) mC
      intro hg7; have hg7' := hg7; try simp at hg7'
      refine t4 rfl rfl rfl rfl rfl hg7 (t4 rfl rfl rfl rfl rfl hg7 (t4 rfl rfl rfl rfl rfl hg7 (t4 rfl rfl rfl rfl rfl hg7 (l3 rfl rfl hg5 ?_)))); refine p_f rfl rfl (bf2 hg7) rfl (p_f rfl rfl (bf1 hg5) rfl ?_); refine d4 ?_; exact Y0 _ () trivial ⟨rfl, rfl, rfl, rfl, congrArg (fun b => some (Value.bool b)) (by simp only [kindBad, Hd.p]; simp_all), trivial⟩ (List.Sublist.refl _) mC
     intro hg6; have hg6' := hg6; try simp at hg6'
     refine t4 rfl rfl rfl rfl rfl hg6 (t4 rfl rfl rfl rfl rfl hg6 (t4 rfl rfl rfl rfl rfl hg6 (l3 rfl rfl hg5 ?_))); refine p_f rfl rfl (bf2 hg6) rfl ?_; refine l3 rfl rfl hg5 (c7 rfl (t4 rfl rfl rfl rfl rfl rfl (t4 rfl rfl rfl rfl rfl rfl (t4 rfl rfl rfl rfl rfl rfl (t4 rfl rfl rfl rfl rfl rfl (l3 rfl rfl hg5 (p_f rfl rfl rfl rfl ?_))))))); refine p_f rfl rfl (bf1 hg5) rfl ?_; refine d4 ?_; exact Y0 _ () trivial ⟨rfl, rfl, rfl, rfl, congrArg (fun b => some (Value.bool b)) (by simp only [kindBad, Hd.p]; simp_all), trivial⟩ (List.Sublist.refl _) mC
    intro hg5; have hg5' := hg5; try simp at hg5'
    refine t4 rfl rfl rfl rfl rfl hg5 (t4 rfl rfl rfl rfl rfl hg5 (t4 rfl rfl rfl rfl rfl hg5 (t4 rfl rfl rfl rfl rfl hg5 (P0 rfl rfl rfl rfl rfl rfl (P0 rfl rfl rfl rfl rfl rfl (P0 rfl rfl rfl rfl rfl rfl (t4 rfl rfl rfl rfl rfl hg5 (t4 rfl rfl rfl rfl rfl hg5 (P0 rfl rfl rfl rfl rfl rfl (P0 rfl rfl rfl rfl rfl rfl (P0 rfl rfl rfl rfl rfl rfl ?_))))))))))); refine P0 rfl rfl rfl rfl rfl rfl (t4 rfl rfl rfl rfl rfl hg5 ?_); refine p_t rfl rfl (bt2 hg5) rfl ?_; refine d4 ?_; exact Y0 _ () trivial ⟨rfl, rfl, rfl, rfl, congrArg (fun b => some (Value.bool b)) (by simp only [kindBad, Hd.p]; simp_all), trivial⟩ (List.Sublist.refl _) mC
   intro hg4; have hg4' := hg4; try simp at hg4'
   refine t4 rfl rfl rfl rfl rfl hg4 (t4 rfl rfl rfl rfl rfl hg4 (t4 rfl rfl rfl rfl rfl hg4 (t4 rfl rfl rfl rfl rfl hg4 (l3 rfl rfl hg3 ?_)))); refine p_t rfl rfl (bt2 hg4) rfl (p_t rfl rfl (bt1 hg3) rfl ?_); refine c7 rfl (t4 rfl rfl rfl rfl rfl rfl (t4 rfl rfl rfl rfl rfl rfl (t4 rfl rfl rfl rfl rfl rfl (t4 rfl rfl rfl rfl rfl rfl (P0 rfl rfl rfl rfl rfl rfl (P0 rfl rfl rfl rfl rfl rfl (P0 rfl rfl rfl rfl rfl rfl (t4 rfl rfl rfl rfl rfl rfl (t4 rfl rfl rfl rfl rfl rfl (P0 rfl rfl rfl rfl rfl rfl (P0 rfl rfl rfl rfl rfl rfl ?_))))))))))); refine P0 rfl rfl rfl rfl rfl rfl (P0 rfl rfl rfl rfl rfl rfl (t4 rfl rfl rfl rfl rfl rfl (p_t rfl rfl rfl rfl (d4 ?_)))); exact Y0 _ () trivial ⟨rfl, rfl, rfl, rfl, congrArg (fun b => some (Value.bool b)) (by simp only [kindBad, Hd.p]; simp_all), trivial⟩ (List.Sublist.refl _) mC
  intro hg3; have hg3' := hg3; try simp at hg3'
  refine t4 rfl rfl rfl rfl rfl hg3 (t4 rfl rfl rfl rfl rfl hg3 (t4 rfl rfl rfl rfl rfl hg3 (t4 rfl rfl rfl rfl rfl hg3 (P0 rfl rfl rfl rfl rfl rfl (P0 rfl rfl rfl rfl rfl rfl (P0 rfl rfl rfl rfl rfl rfl (P0 rfl rfl rfl rfl rfl rfl (t4 rfl rfl rfl rfl rfl hg3 ?_)))))))); refine p_f rfl rfl (bf2 hg3) rfl ?_; refine c7 rfl (l3 rfl rfl rfl ?_)
  first | refine a9 ⟨_, 2, none⟩ rfl rfl T.D8 rfl ?_ | refine a9 _ rfl rfl T.D8 rfl ?_
  refine l3 rfl rfl rfl ?_
  first | refine b8 rfl T.b9 rfl (j0 mB rfl) ?_ | refine b8 rfl T.b9 rfl (j3 mB rfl) ?_ | refine b8 rfl T.b9 rfl (d6 mB (c9 (by omega) rfl)) ?_ | refine b8 rfl T.b9 rfl (d7 mB (rows_get (by omega) rfl)) ?_ | refine b8 rfl T.b9 rfl (j5 mB rfl) ?_
  refine l3 rfl rfl rfl (H0 rfl rfl rfl (l3 rfl rfl rfl (c7 rfl ?_))); refine u6 rfl rfl ?_ ?_
  ·intro hg8; have hg8' := hg8; try simp at hg8'
   refine l3 rfl rfl hg8 ?_
   first | refine a9 ⟨_, 1, none⟩ rfl rfl T.D9 rfl ?_ | refine a9 _ rfl rfl T.D9 rfl ?_
   refine l3 rfl rfl hg8 ?_
   first | refine b8 rfl T.b9 rfl (j0 mB rfl) ?_ | refine b8 rfl T.b9 rfl (j3 mB rfl) ?_ | refine b8 rfl T.b9 rfl (d6 mB (c9 (by omega) rfl)) ?_ | refine b8 rfl T.b9 rfl (d7 mB (rows_get (by omega) rfl)) ?_ | refine b8 rfl T.b9 rfl (j5 mB rfl) ?_
   refine l3 rfl rfl hg8 (H0 rfl rfl rfl (l3 rfl rfl rfl ?_)); refine p_t rfl rfl (bt1 hg8) rfl ?_; refine l3 rfl rfl rfl (c7 rfl ?_); refine u6 rfl rfl ?_ ?_
   ·intro hg9; have hg9' := hg9; try simp at hg9'
    refine l3 rfl rfl hg9 ?_
    first | refine a9 ⟨_, 3, none⟩ rfl rfl T.D7 rfl ?_ | refine a9 _ rfl rfl T.D7 rfl ?_
    refine l3 rfl rfl hg9 ?_
    first | refine b8 rfl T.i7 rfl (j0 mB rfl) ?_ | refine b8 rfl T.i7 rfl (j3 mB rfl) ?_ | refine b8 rfl T.i7 rfl (d6 mB (c9 (by omega) rfl)) ?_ | refine b8 rfl T.i7 rfl (d7 mB (rows_get (by omega) rfl)) ?_ | refine b8 rfl T.i7 rfl (j5 mB rfl) ?_
    refine l3 rfl rfl hg9 (l7 rfl T.t7 rfl ?_); refine l3 rfl rfl hg9 (H0 rfl rfl rfl (l3 rfl rfl rfl ?_)); refine p_t rfl rfl (bt1 hg9) rfl ?_; refine p_f rfl rfl rfl rfl (d4 ?_); exact Y0 _ () trivial ⟨rfl, rfl, rfl, rfl, congrArg (fun b => some (Value.bool b)) (by simp only [kindBad, Hd.p]; simp_all), trivial⟩ (List.Sublist.refl _) mC
   intro hg9; have hg9' := hg9; try simp at hg9'
   refine t4 rfl rfl rfl rfl rfl hg9 (t4 rfl rfl rfl rfl rfl hg9 (t4 rfl rfl rfl rfl rfl hg9 (t4 rfl rfl rfl rfl rfl hg9 (l3 rfl rfl rfl ?_)))); refine p_f rfl rfl (bf2 hg9) rfl ?_; refine p_f rfl rfl rfl rfl (d4 ?_); exact Y0 _ () trivial ⟨rfl, rfl, rfl, rfl, congrArg (fun b => some (Value.bool b)) (by simp only [kindBad, Hd.p]; simp_all), trivial⟩ (List.Sublist.refl _) mC
  intro hg8; have hg8' := hg8; try simp at hg8'
  refine t4 rfl rfl rfl rfl rfl hg8 (t4 rfl rfl rfl rfl rfl hg8 (t4 rfl rfl rfl rfl rfl hg8 (l3 rfl rfl rfl ?_))); refine p_f rfl rfl (bf2 hg8) rfl ?_; refine l3 rfl rfl rfl (c7 rfl (t4 rfl rfl rfl rfl rfl rfl (t4 rfl rfl rfl rfl rfl rfl (t4 rfl rfl rfl rfl rfl rfl (t4 rfl rfl rfl rfl rfl rfl (l3 rfl rfl rfl (p_f rfl rfl rfl rfl (p_f rfl rfl rfl rfl (d4 ?_))))))))); exact Y0 _ () trivial ⟨rfl, rfl, rfl, rfl, congrArg (fun b => some (Value.bool b)) (by simp only [kindBad, Hd.p]; simp_all), trivial⟩ (List.Sublist.refl _) mC
 refine fun _ _ => ?_
 first | refine m3 rfl (fun hb11 => ?_) (fun hb11 => ?_) | refine j7 rfl (fun hb11 => ?_) (fun hb11 => ?_)
 ·have hb11' := hb11; try simp at hb11'
  refine i8 (d5 rfl (d8 (N4 ?_))); exact ret1 () rfl (congrArg (fun b => some (int b)) (by rw [hH, if_pos hb11])) rfl trivial nil_sb trivial
 have hb11' := hb11; try simp at hb11'
 refine k6 (j6 (i8 (d5 rfl (d8 (l5 ?_))))); exact ret1 () rfl (congrArg (fun b => some (int b)) (by rw [hH, if_neg (by rw [hb11]; simp)])) rfl trivial nil_sb trivial
theorem W1 (cs : List Cl) (hs : List Hd) : (trOf cs hs).hs.length = hs.length := List.length_map ..
theorem iU {A B : Option Addr} {ca cb : Nat} (cs : List Cl) (hs : List Hd) (hca : cs.length ≤ ca) (hcb : hs.length ≤ cb) (ha : ∀ h ∈ hs, h.2.2.2.l.length ≤ 1000000) : Meets Tryz.prog F.pV [.agg #[.slice A cs.length ca, .slice B hs.length cb]] { LI := [Row A (rows cs), RowsF B hs Hd.row], val := fun _ : Unit => int (checkT (trOf cs hs)) } := by
 refine i9 F.gq4 rfl r6 fun w0 => ?_; refine i8 ?_; refine H6 rfl rfl fun gB => ?_; refine d5 rfl (d8 (dq1 ?_)); have hl := W1 cs hs; refine j8 ?_
 first | refine a9 ⟨_, 0, none⟩ rfl rfl T.G2 rfl ?_ | refine a9 _ rfl rfl T.G2 rfl ?_
 first | refine b8 rfl T.r9 rfl (j0 mB rfl) ?_ | refine b8 rfl T.r9 rfl (j3 mB rfl) ?_ | refine b8 rfl T.r9 rfl (d6 mB (c9 (by omega) rfl)) ?_ | refine b8 rfl T.r9 rfl (d7 mB (rows_get (by omega) rfl)) ?_ | refine b8 rfl T.r9 rfl (j5 mB rfl) ?_
 refine l7 rfl T.I0 rfl ?_; refine R0 rfl rfl rfl (c7 rfl ?_); refine u6 rfl rfl ?_ ?_
 ·intro hg1; have hg1' := hg1; try simp at hg1'
  have h6 : cs.length ≤ 6 := by simp at hg1; omega
  refine l3 rfl rfl hg1 ?_
  first | refine a9 ⟨_, 1, none⟩ rfl rfl T.t3 rfl ?_ | refine a9 _ rfl rfl T.t3 rfl ?_
  refine l3 rfl rfl hg1 ?_
  first | refine b8 rfl T.m6 rfl (j0 mB rfl) ?_ | refine b8 rfl T.m6 rfl (j3 mB rfl) ?_ | refine b8 rfl T.m6 rfl (d6 mB (c9 (by omega) rfl)) ?_ | refine b8 rfl T.m6 rfl (d7 mB (rows_get (by omega) rfl)) ?_ | refine b8 rfl T.m6 rfl (j5 mB rfl) ?_
  refine l3 rfl rfl hg1 (l7 rfl T.B4 rfl ?_); refine l3 rfl rfl hg1 (R0 rfl rfl rfl ?_); refine p_f rfl rfl (bf1 hg1) rfl ?_; refine d8 ?_
  first | refine m3 rfl (fun hb1 => ?_) (fun hb1 => ?_) | refine j7 rfl (fun hb1 => ?_) (fun hb1 => ?_)
  ·have hb1' := hb1; try simp at hb1'
   refine i8 (d5 rfl (d8 (N4 ?_))); exact ret1 () rfl (congrArg (fun b => some (int b)) (by rw [checkT, if_pos (by rw [hl]; simp only; omega)])) rfl trivial nil_sb trivial
  have hb1' := hb1; try simp at hb1'
  have h6h : hs.length ≤ 6 := by omega
  have hT : checkT (trOf cs hs) = if ¬ firstE (clsErr cs) cs.length = 0 then firstE (clsErr cs) cs.length else firstE (headErr (trOf cs hs)) hs.length := by rw [checkT, if_neg (by rw [hl]; simp only; omega), hl]
  refine k6 (j6 (j4 (i8 ?_)))
  first | refine a9 ⟨_, 0, none⟩ rfl rfl T.G2 rfl ?_ | refine a9 _ rfl rfl T.G2 rfl ?_
  first | refine b8 rfl T.r9 rfl (j0 mB rfl) ?_ | refine b8 rfl T.r9 rfl (j3 mB rfl) ?_ | refine b8 rfl T.r9 rfl (d6 mB (c9 (by omega) rfl)) ?_ | refine b8 rfl T.r9 rfl (d7 mB (rows_get (by omega) rfl)) ?_ | refine b8 rfl T.r9 rfl (j5 mB rfl) ?_
  refine l7 rfl T.I0 rfl ?_; refine c7 rfl (d8 (k9 ?_)); refine w3 (β := Nat) ⟨fun k => k ≤ cs.length ∧ firstE (clsErr cs) k = 0, fun k => [(1, .pointer (c8 gB)), (19, int cs.length), (20, int k)], fun _ => [(gB, .cells #[.slice A cs.length ca, .slice B hs.length cb] T.C2 (0, 0))], fun _ => [Row A (rows cs), RowsF B hs Hd.row]⟩ (fun k => cs.length - k) 0 ⟨Nat.zero_le _, rfl⟩ mC (List.Sublist.refl _) mC fun k hk => ?_; obtain ⟨hk, ht⟩ := hk; refine i8 (B6 rfl rfl rfl (d8 (j4 ?_)))
  first | refine m3 rfl (fun hb2 => ?_) (fun hb2 => ?_) | refine j7 rfl (fun hb2 => ?_) (fun hb2 => ?_)
  ·have hb2' := hb2; try simp at hb2'
   have hk2 : k < cs.length := by omega
   refine k6 (j6 (j4 (k9 (i8 (c7 rfl (d5 rfl (k8 ?_)))))))
   first | refine a9 ⟨_, 0, none⟩ rfl rfl T.G2 rfl ?_ | refine a9 _ rfl rfl T.G2 rfl ?_
   first | refine b8 rfl T.r9 rfl (j0 mB rfl) ?_ | refine b8 rfl T.r9 rfl (j3 mB rfl) ?_ | refine b8 rfl T.r9 rfl (d6 mB (c9 (by omega) rfl)) ?_ | refine b8 rfl T.r9 rfl (d7 mB (rows_get (by omega) rfl)) ?_ | refine b8 rfl T.r9 rfl (j5 mB rfl) ?_
   refine c7 rfl ?_; refine k5 F.sX rfl rfl (lQ cs k (by omega) hca hk2) p6 mC fun _ _ => ?_; refine d5 rfl (k8 (c7 rfl (N5 rfl rfl rfl (d8 ?_))))
   first | refine m3 rfl (fun hb3 => ?_) (fun hb3 => ?_) | refine j7 rfl (fun hb3 => ?_) (fun hb3 => ?_)
   ·have hb3' := hb3; try simp at hb3'
    refine i8 (c7 rfl (d5 rfl (d8 (l5 (G8 (C4 (G8 ?_))))))); exact ret1 () rfl (congrArg (fun b => some (int b)) (by rw [hT, Z6 ht hb3 _ hk2, if_pos hb3])) rfl trivial nil_sb trivial
   have hb3' := hb3; try simp at hb3'
   refine k6 (y6 (j6 (j8 ?_))); refine v4 _ rfl rfl rfl rfl r5 ?_; refine c7 rfl (d4 ?_); exact again _ (k + 1) ⟨by omega, by rw [rI ht]; exact Classical.not_not.1 hb3⟩ (D5 (by omega)) mC (List.Sublist.refl _) mC
  have hb2' := hb2; try simp at hb2'
  have hk2 : k = cs.length := by omega
  subst hk2; rw [if_neg (not_not_intro ht)] at hT; refine u9 (D6 (u5 (j6 (j4 (i8 ?_)))))
  first | refine a9 ⟨_, 1, none⟩ rfl rfl T.t3 rfl ?_ | refine a9 _ rfl rfl T.t3 rfl ?_
  first | refine b8 rfl T.m6 rfl (j0 mB rfl) ?_ | refine b8 rfl T.m6 rfl (j3 mB rfl) ?_ | refine b8 rfl T.m6 rfl (d6 mB (c9 (by omega) rfl)) ?_ | refine b8 rfl T.m6 rfl (d7 mB (rows_get (by omega) rfl)) ?_ | refine b8 rfl T.m6 rfl (j5 mB rfl) ?_
  refine l7 rfl T.B4 rfl ?_; refine c7 rfl (d8 (k9 ?_)); refine w3 (β := Nat) ⟨fun k => k ≤ hs.length ∧ firstE (headErr (trOf cs hs)) k = 0, fun k => [(1, .pointer (c8 gB)), (33, int hs.length), (34, int k)], fun _ => [(gB, .cells #[.slice A cs.length ca, .slice B hs.length cb] T.C2 (0, 0))], fun _ => [Row A (rows cs), RowsF B hs Hd.row]⟩ (fun k => hs.length - k) 0 ⟨Nat.zero_le _, rfl⟩ mC (List.Sublist.refl _) mC fun k hk => ?_; obtain ⟨hk, ht⟩ := hk; refine i8 (B6 rfl rfl rfl (d8 (j4 ?_)))
  first | refine m3 rfl (fun hb4 => ?_) (fun hb4 => ?_) | refine j7 rfl (fun hb4 => ?_) (fun hb4 => ?_)
  ·have hb4' := hb4; try simp at hb4'
   have hk2 : k < hs.length := by omega
   refine k6 (j6 (j4 (k9 (i8 (c7 rfl (d5 rfl (k8 ?_)))))))
   first | refine B5 rfl T.v5 T.v9 rfl mB (by rfl) ?_ | refine C1 rfl T.v5 T.v9 rfl mB (by rfl) ?_ | refine u7 rfl T.v5 T.v9 rfl rfl (t5 mB (t9 (by omega))) ?_
   refine c7 rfl ?_; refine k5 F.uC rfl rfl (nZ cs hs k h6h h6 hcb hk2 ha) p6 mC fun _ _ => ?_; refine d5 rfl (k8 (c7 rfl (N5 rfl rfl rfl (d8 ?_))))
   first | refine m3 rfl (fun hb5 => ?_) (fun hb5 => ?_) | refine j7 rfl (fun hb5 => ?_) (fun hb5 => ?_)
   ·have hb5' := hb5; try simp at hb5'
    refine i8 (c7 rfl (d5 rfl (d8 (l5 (G8 (C4 (G8 ?_))))))); exact ret1 () rfl (congrArg (fun b => some (int b)) (by rw [hT, Z6 ht hb5 _ hk2])) rfl trivial nil_sb trivial
   have hb5' := hb5; try simp at hb5'
   refine k6 (y6 (j6 (j8 ?_))); refine v4 _ rfl rfl rfl rfl r5 ?_; refine c7 rfl (d4 ?_); exact again _ (k + 1) ⟨by omega, by rw [rI ht]; exact Classical.not_not.1 hb5⟩ (D5 (by omega)) mC (List.Sublist.refl _) mC
  have hb4' := hb4; try simp at hb4'
  have hk2 : k = hs.length := by omega
  subst hk2; refine u9 (D6 (u5 (j6 (i8 (d5 rfl (d8 (l5 ?_))))))); exact ret1 () rfl (congrArg (fun b => some (int b)) (by rw [hT, ht])) rfl trivial nil_sb trivial
 intro hg1; have hg1' := hg1; try simp at hg1'
 refine t4 rfl rfl rfl rfl rfl hg1 (t4 rfl rfl rfl rfl rfl hg1 (t4 rfl rfl rfl rfl rfl hg1 (t4 rfl rfl rfl rfl rfl hg1 ?_))); refine p_t rfl rfl (bt2 hg1) rfl ?_; refine d8 (c_t rfl rfl (i8 (d5 rfl (d8 (N4 ?_))))); exact ret1 () rfl (congrArg (fun b => some (int b)) (by rw [checkT, if_pos (by simp at hg1; simp only; omega)])) rfl trivial nil_sb trivial
end Go.Proofs.YtcdopfjiadifhaaGreatDoor
end
