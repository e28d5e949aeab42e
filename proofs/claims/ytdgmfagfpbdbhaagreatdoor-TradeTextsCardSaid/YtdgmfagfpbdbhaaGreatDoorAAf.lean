/- Texts. -/
import Derived.Sort.Walk0
import Derived.Test.YtdgmfagfpbdbhaaGreatDoorAAe
set_option linter.unusedVariables false
set_option linter.unusedSimpArgs false
section
namespace Go.Proofs.YtdgmfagfpbdbhaaGreatDoor
open Go Go.W Tryz T F
set_option maxRecDepth 20000
attribute [local irreducible] HL HC HQ HB Row Rows2 Blk Facts
instance : El Cl where
  default := ([], 0)
  cells m := [str m.1, int m.2]
  sz := 2
  len _ := rfl
  one a u h := by simp at h; rcases h with h | h <;> subst h <;> rfl
abbrev Hd := Str × Int × Int × Sl Int
instance : El Hd where
  default := ([], 0, 0, ⟨none, 0, []⟩)
  cells m := [str m.1, int m.2.1, int m.2.2.1, .slice m.2.2.2.a m.2.2.2.l.length m.2.2.2.c]
  sz := 4
  len _ := rfl
  one a u h := by simp at h; rcases h with h | h | h | h <;> subst h <;> rfl
def Hd.p (h : Hd) : PH := (h.1, h.2.1, h.2.2.1, h.2.2.2.l)
abbrev Hd.row (h : Hd) : Fact := Row h.2.2.2.a (rows h.2.2.2.l)
abbrev trOf (cs : List Cl) (hs : List Hd) : Tr := ⟨cs, hs.map Hd.p⟩
theorem cz2 (a b : Str) : Op.bytesLess a b = decide (a < b) := bytesLess_eq a b
theorem B8 {α : Type} [Inhabited α] {l : List α} {k : Nat} (hk : k < l.length) : l.getD k default = l[k] := by simp [List.getD_eq_getElem?_getD, hk]
theorem w8 {α : Type} [Inhabited α] {l : List α} {k : Nat} (hk : k < l.length) : l.getD k default ∈ l := by rw [B8 hk]; exact List.getElem_mem hk
theorem V4 {hs : List Hd} {k : Nat} (hk : k < hs.length) : (hs.map Hd.p).getD k default = (hs.getD k default).p := by
  rw [B8 hk, B8 (by simpa using hk)]; simp
theorem I8 (n lo hi : Int) : Meets prog iT [int n, int lo, int hi] { val := fun _ : Unit => .bool (decide (lo ≤ n ∧ n ≤ hi)) } := by
 refine j3 xD rfl v8 fun w0 => ?_; refine i4 (c5 rfl (t6 (b6 rfl (b6 rfl (cz9 rfl rfl rfl (b6 rfl ?_)))))); refine v6 rfl rfl ?_ ?_
 ·intro hg1; have hg1' := hg1; try simp at hg1'
  refine k5 hg1 (b6 rfl (k5 hg1 (b6 rfl (k5 hg1 (cz9 rfl rfl rfl ?_))))); refine p_t rfl rfl (bt1 hg1) rfl ?_; refine c5 rfl (c8 (l4 ?_)); exact ret1 () rfl (congrArg (fun b => some (Value.bool b)) (by simp [hg1'])) rfl tK nK tK
 intro hg1; have hg1' := hg1; try simp at hg1'
 refine l8 hg1 (l8 hg1 (l8 hg1 ?_)); refine p_f rfl rfl (bf2 hg1) rfl ?_; refine c5 rfl (c8 (l4 ?_)); exact ret1 () rfl (congrArg (fun b => some (Value.bool b)) (by simp [Int.not_le.2 hg1'])) rfl tK nK tK
theorem uQ {s : Str} {p : Nat} (hp : p < s.length) (h : s[p].toNat < 97 ∨ 122 < s[p].toNat) : wordB s = false := by
  have : s.all azB = false := by
    rw [List.all_eq_false]; refine ⟨s[p], List.getElem_mem hp, ?_⟩; simp only [azB, Bool.and_eq_true, decide_eq_true_eq]
    omega
  simp [wordB, this]
theorem jq8 {s : Str} {k : Nat} (hk : k < s.length) (h : (s.take k).all azB = true) (h1 : 97 ≤ s[k].toNat ∧ s[k].toNat ≤ 122) : (s.take (k + 1)).all azB = true := by
  rw [List.take_succ_eq_append_getElem hk, List.all_append, h]
  simp [azB, h1]
theorem lx5 {s : Str} (h1 : ¬ s = []) (h2 : (s.length : Int) ≤ 12) (h3 : ¬ s = wClass) (h4 : ¬ s = wFinis) (h5 : s.all azB = true) : wordB s = true := by
  have h0 : 0 < s.length := List.length_pos_iff.2 h1; have h2' : s.length ≤ 12 := by omega
  simp only [wordB, h5, h3, h4, h0, h2', decide_true, Bool.and_true, not_false_eq_true]
theorem H5 (s : Str) : Meets prog nY [str s] { val := fun _ : Unit => .bool (wordB s) } := by
 refine j3 cj6 rfl v8 fun w0 => ?_; refine i4 (c5 rfl (c8 (d6 (i4 (b6 rfl ?_))))); refine G5 rfl q8 rfl ?_; refine J0 rfl rfl rfl (b6 rfl ?_); refine v6 rfl rfl ?_ ?_
 ·intro hg1; have hg1' := hg1; try simp at hg1'
  refine k5 hg1 (b6 rfl (k5 hg1 ?_)); refine G5 rfl q8 rfl ?_; refine k5 hg1 (Q0 rfl rfl rfl ?_); refine p_f rfl rfl (bf1 hg1) rfl (b6 rfl ?_); refine v6 rfl rfl ?_ ?_
  ·intro hg2; have hg2' := hg2; try simp at hg2'
   refine k5 hg2 (b6 rfl (k5 hg2 (J3 rfl rfl rfl ?_))); refine p_f rfl rfl (bf1 hg2) rfl (b6 rfl ?_); refine v6 rfl rfl ?_ ?_
   ·intro hg3; have hg3' := hg3; try simp at hg3'
    refine k5 hg3 (b6 rfl (k5 hg3 (J3 rfl rfl rfl ?_))); refine p_f rfl rfl (bf1 hg3) rfl (c8 ?_)
    first | refine k9 rfl (fun hb1 => ?_) (fun hb1 => ?_) | refine j0 rfl (fun hb1 => ?_) (fun hb1 => ?_)
    ·have hb1' := hb1; try simp at hb1'
     refine i4 (c5 rfl (c8 (E9 ?_))); exact ret1 () rfl (congrArg (fun b => some (Value.bool b)) (by rw [hb1]; decide)) rfl tK nK tK
    have hb1' := hb1; try simp at hb1'
    have h4 := hb1; refine i8 (i1 (d6 (i4 (b6 rfl ?_)))); refine ix7 rfl q8 rfl fun gI => ?_; refine c8 (j5 ?_); refine u6 (β := Nat) ⟨fun k => k ≤ s.length ∧ (s.take k).all azB = true, fun k => [(0, str s), (22, .pointer (d9 gI))], fun k => [(gI, iter s k)], fun _ => []⟩ (fun k => s.length - k) 0 ⟨Nat.zero_le _, rfl⟩ mC (.refl _) tK fun k hk => ?_; obtain ⟨hk, ht⟩ := hk; refine i4 (kz3 rfl rfl (.refl _) ?_); refine nq9 rfl rfl (c8 (d6 ?_))
    first | refine k9 rfl (fun hb2 => ?_) (fun hb2 => ?_) | refine j0 rfl (fun hb2 => ?_) (fun hb2 => ?_)
    ·have hb2' := hb2; try simp at hb2'
     refine i8 (i1 (j5 (i4 (r_ext2 rfl rfl hb2 (c5 rfl (t6 (b6 rfl ?_))))))); refine B5 rfl rfl rfl (b6 rfl ?_); refine v6 rfl rfl ?_ ?_
     ·intro hg4; have hg4' := hg4; try simp at hg4'
      refine k5 hg4 (b6 rfl (k5 hg4 (Q0 rfl rfl rfl ?_))); refine p_f rfl rfl (bf1 hg4) rfl (c8 ?_)
      first | refine k9 rfl (fun hb3 => ?_) (fun hb3 => ?_) | refine j0 rfl (fun hb3 => ?_) (fun hb3 => ?_)
      ·have hb3' := hb3; try simp at hb3'
       refine i4 (c5 rfl (c8 (l4 (B7 (B7 ?_))))); exact ret1 () rfl (congrArg (fun b => some (Value.bool b)) (by exact (uQ hb2 (lq6 hb2 (lo := 97) (hi := 122) (by decide) (.inr (by omega)))).symm)) rfl tK nK tK
      have hb3' := hb3; try simp at hb3'
      refine i8 (w6 ?_); have hin := dec_in (p := k) (s := s) hb2 (lo := 97) (hi := 122) (by decide) (by simp at hg4; omega); refine again _ (k + 1) ⟨by omega, jq8 hb2 ht ⟨hin.1, hin.2.1⟩⟩ (y8 (by omega)) mC ?_ tK; rw [hin.2.2]; exact (.refl _)
     intro hg4; have hg4' := hg4; try simp at hg4'
     refine l8 hg4 (l8 hg4 ?_); refine p_t rfl rfl (bt2 hg4) rfl ?_; refine c8 (c_t rfl rfl (i4 (c5 rfl (c8 (l4 (B7 (jE ?_))))))); refine u5 ?_; exact ret1 () rfl (congrArg (fun b => some (Value.bool b)) (by exact (uQ hb2 (lq6 hb2 (lo := 97) (hi := 122) (by decide) (.inl (by simp at hg4; omega)))).symm)) rfl tK nK tK
    have hb2' := hb2; try simp at hb2'
    have hk2 : k = s.length := by omega
    subst hk2; rw [List.take_length] at ht; refine t7 (C7 (t8 (i1 (i4 (c5 rfl (c8 (l4 ?_))))))); exact ret1 () rfl (congrArg (fun b => some (Value.bool b)) (by exact (lx5 hg1' hg2' hg3' h4 ht).symm)) rfl tK nK tK
   intro hg3; have hg3' := hg3; try simp at hg3'
   refine l8 hg3 (l8 hg3 ?_); refine p_t rfl rfl (bt2 hg3) rfl ?_; refine c8 (c_t rfl rfl (i4 (c5 rfl (c8 (E9 ?_))))); exact ret1 () rfl (congrArg (fun b => some (Value.bool b)) (by simp at hg3; rw [hg3]; decide)) rfl tK nK tK
  intro hg2; have hg2' := hg2; try simp at hg2'
  refine l8 hg2 (l8 hg2 ?_); refine p_t rfl rfl (bt2 hg2) rfl ?_; refine b6 rfl (S5 rfl rfl rfl rfl rfl rfl (S5 rfl rfl rfl rfl rfl rfl (p_t rfl rfl rfl rfl (c8 (c_t rfl rfl (i4 (c5 rfl (c8 ?_)))))))); refine E9 ?_; exact ret1 () rfl (congrArg (fun b => some (Value.bool b)) (by simp at hg2; simp [wordB, Nat.not_le.2 (show 12 < s.length by omega)])) rfl tK nK tK
 intro hg1; have hg1' := hg1; try simp at hg1'
 refine l8 hg1 (l8 hg1 (l8 hg1 ?_)); refine p_t rfl rfl (bt2 hg1) rfl ?_; refine b6 rfl (S5 rfl rfl rfl rfl rfl rfl (S5 rfl rfl rfl rfl rfl rfl (p_t rfl rfl rfl rfl (b6 rfl (S5 rfl rfl rfl rfl rfl rfl (S5 rfl rfl rfl rfl rfl rfl (p_t rfl rfl rfl rfl (c8 (c_t rfl rfl (d6 ?_)))))))))); refine c9 (c5 rfl (c8 (E9 ?_))); exact ret1 () rfl (congrArg (fun b => some (Value.bool b)) (by simp at hg1; simp [wordB, hg1])) rfl tK nK tK
theorem zJ {α : Type} [Inhabited α] (f : α → Str) {l : List α} {k : Nat} {s : Str} (hk : k < l.length) (ht : s ∉ (l.take k).map f) (h : ¬ f (l.getD k default) = s) : s ∉ (l.take (k + 1)).map f := by
  rw [D6 l k hk, List.map_append]; simp only [List.mem_append, List.map_cons, List.map_nil, List.mem_singleton, not_or]; exact ⟨ht, fun e => h e.symm⟩
theorem nT {g : Nat} (x c : Cl) : Meets prog K7 [.agg (El.cells x).toArray, .pointer (d9 g)] { LI := [Row (d9 g) (rows [c])], val := fun _ : Unit => .bool (decide (x.1 = c.1)) } := by
 refine j3 qH rfl v8 fun w0 => i4 (O3 rfl rfl fun gB => ?_); refine c5 rfl (t6 ?_)
 first | refine a6 ⟨_, 0, none⟩ rfl rfl t9 rfl ?_ | refine a6 _ rfl rfl t9 rfl ?_
 first | refine a7 rfl a9 rfl (i2 mB rfl) ?_ | refine a7 rfl a9 rfl (d8 mB rfl) ?_ | refine a7 rfl a9 rfl (b7 mB (b4 (by omega) rfl)) ?_ | refine a7 rfl a9 rfl (b8 mB (rows_get (by omega) rfl)) ?_ | refine a7 rfl a9 rfl (d7 mB rfl) ?_
 first | refine a6 ⟨_, 0, none⟩ rfl rfl t9 rfl ?_ | refine a6 _ rfl rfl t9 rfl ?_
 first | refine a7 rfl a9 rfl (i2 mB rfl) ?_ | refine a7 rfl a9 rfl (d8 mB rfl) ?_ | refine a7 rfl a9 rfl (b7 mB (b4 (by omega) rfl)) ?_ | refine a7 rfl a9 rfl (b8 mB (rows_get (by omega) rfl)) ?_ | refine a7 rfl a9 rfl (d7 mB rfl) ?_
 refine J3 rfl rfl rfl (c5 rfl (c8 (l4 ?_))); exact ret1 () rfl rfl rfl tK nK tK
theorem qV {A : Option Addr} {cp g : Nat} (l : List Cl) (c : Cl) (hl : l.length ≤ 1000000) : Meets prog bJ [.slice A l.length cp, .func (.func K7) #[] #[.pointer (d9 g)]] { LI := [Row A (rows l), Row (d9 g) (rows [c])], inv := fun z : Int => (0 ≤ z ↔ c.1 ∈ l.map (·.1)), val := fun z => int z } := by
 refine j3 tE rfl v8 fun w0 => ?_; refine i4 (c5 rfl (c8 (d6 (i4 (b6 rfl ?_))))); refine k6 rfl n6 rfl ?_; refine b6 rfl (c8 (j5 ?_)); refine u6 (β := Nat) ⟨fun k => k ≤ l.length ∧ c.1 ∉ (l.take k).map (·.1), fun k => [(0, .slice A l.length cp), (1, .func (.func K7) #[] #[.pointer (d9 g)]), (7, int l.length), (8, int k)], fun _ => [], fun _ => [Row A (rows l), Row (d9 g) (rows [c])]⟩ (fun k => l.length - k) 0 ⟨Nat.zero_le _, by simp⟩ mC (.refl _) ⟨m0, m1, tK⟩ fun k hk => ?_; obtain ⟨hk, ht⟩ := hk; refine i4 (B5 rfl rfl rfl (c8 (d6 ?_)))
 first | refine k9 rfl (fun hb1 => ?_) (fun hb1 => ?_) | refine j0 rfl (fun hb1 => ?_) (fun hb1 => ?_)
 ·have hb1' := hb1; try simp at hb1'
  have hk2 : k < l.length := by omega
  refine i8 (i1 (d6 (j5 (i4 (b6 rfl (c5 rfl (t6 ?_))))))); refine b6 rfl (b6 rfl (b6 rfl ?_)); refine m7 (α := Cl) _ _ rfl n6 u7 rfl rfl rfl mB rfl (by omega) (by decide) (z8 rfl L0 u7 rfl rfl (v9 mB (B3 (by omega))) (X3 (vs := [.agg (El.cells (l.getD k default)).toArray]) (cap := [.pointer (d9 g)]) pD rfl rfl rfl (nT (l.getD k default) c) t4 ⟨m1, tK⟩ fun _ _ => c8 ?_))
  first | refine k9 rfl (fun hb2 => ?_) (fun hb2 => ?_) | refine j0 rfl (fun hb2 => ?_) (fun hb2 => ?_)
  ·have hb2' := hb2; try simp at hb2'
   refine i4 (b6 rfl (c5 rfl (c8 (l4 (B7 (u5 (B7 ?_))))))); exact ret1 (k : Int) rfl rfl rfl ⟨fun _ => List.mem_map.2 ⟨_, w8 hk2, hb2⟩, fun _ => by omega⟩ nK tK
  have hb2' := hb2; try simp at hb2'
  refine i8 (w6 (i1 (c9 ?_))); refine t5 _ rfl rfl rfl rfl q6 ?_; refine b6 rfl (b5 ?_); exact again _ (k + 1) ⟨by omega, zJ (·.1) hk2 ht hb2⟩ (y8 (by omega)) mC nK ⟨m0, m1, tK⟩
 have hb1' := hb1; try simp at hb1'
 have hk2 : k = l.length := by omega
 subst hk2; rw [List.take_length] at ht; refine t7 (C7 (t8 (i1 (i4 (c5 rfl (c8 (l4 ?_))))))); exact ret1 (-1) rfl rfl rfl ⟨fun h => by omega, fun h => absurd h ht⟩ (.refl _) tK
theorem mO {A : Option Addr} {cp g : Nat} (l : List Cl) (c : Cl) (hl : l.length ≤ 1000000) : Meets prog W8 [.slice A l.length cp, .func (.func K7) #[] #[.pointer (d9 g)]] { LI := [Row A (rows l), Row (d9 g) (rows [c])], val := fun _ : Unit => .bool (decide (c.1 ∈ l.map (·.1))) } := by
 refine j3 pF rfl v8 fun w0 => ?_; refine i4 (c5 rfl (t6 (b6 rfl (b6 rfl ?_)))); refine j4 rP rfl rfl (qV l c hl) (.refl _) ⟨m0, m1, tK⟩ fun z hz => ?_; refine Z4 rfl rfl rfl (c5 rfl (c8 (l4 ?_))); exact ret1 () rfl (congrArg (fun b => some (Value.bool b)) (decide_eq_decide.2 hz)) rfl tK nK tK
theorem pO {g : Nat} (x c : Hd) : Meets prog L4 [.agg (El.cells x).toArray, .pointer (d9 g)] { LI := [Row (d9 g) (rows [c])], val := fun _ : Unit => .bool (decide (x.1 = c.1)) } := by
 refine j3 rJ rfl v8 fun w0 => i4 (O3 rfl rfl fun gB => ?_); refine c5 rfl (t6 ?_)
 first | refine a6 ⟨_, 0, none⟩ rfl rfl l9 rfl ?_ | refine a6 _ rfl rfl l9 rfl ?_
 first | refine a7 rfl a9 rfl (i2 mB rfl) ?_ | refine a7 rfl a9 rfl (d8 mB rfl) ?_ | refine a7 rfl a9 rfl (b7 mB (b4 (by omega) rfl)) ?_ | refine a7 rfl a9 rfl (b8 mB (rows_get (by omega) rfl)) ?_ | refine a7 rfl a9 rfl (d7 mB rfl) ?_
 first | refine a6 ⟨_, 0, none⟩ rfl rfl l9 rfl ?_ | refine a6 _ rfl rfl l9 rfl ?_
 first | refine a7 rfl a9 rfl (i2 mB rfl) ?_ | refine a7 rfl a9 rfl (d8 mB rfl) ?_ | refine a7 rfl a9 rfl (b7 mB (b4 (by omega) rfl)) ?_ | refine a7 rfl a9 rfl (b8 mB (rows_get (by omega) rfl)) ?_ | refine a7 rfl a9 rfl (d7 mB rfl) ?_
 refine J3 rfl rfl rfl (c5 rfl (c8 (l4 ?_))); exact ret1 () rfl rfl rfl tK nK tK
theorem pV {A : Option Addr} {cp g : Nat} (l : List Hd) (c : Hd) (hl : l.length ≤ 1000000) : Meets prog aI [.slice A l.length cp, .func (.func L4) #[] #[.pointer (d9 g)]] { LI := [Row A (rows l), Row (d9 g) (rows [c])], inv := fun z : Int => (0 ≤ z ↔ c.1 ∈ l.map (·.1)), val := fun z => int z } := by
 refine j3 rO rfl v8 fun w0 => ?_; refine i4 (c5 rfl (c8 (d6 (i4 (b6 rfl ?_))))); refine k6 rfl n4 rfl ?_; refine b6 rfl (c8 (j5 ?_)); refine u6 (β := Nat) ⟨fun k => k ≤ l.length ∧ c.1 ∉ (l.take k).map (·.1), fun k => [(0, .slice A l.length cp), (1, .func (.func L4) #[] #[.pointer (d9 g)]), (7, int l.length), (8, int k)], fun _ => [], fun _ => [Row A (rows l), Row (d9 g) (rows [c])]⟩ (fun k => l.length - k) 0 ⟨Nat.zero_le _, by simp⟩ mC (.refl _) ⟨m0, m1, tK⟩ fun k hk => ?_; obtain ⟨hk, ht⟩ := hk; refine i4 (B5 rfl rfl rfl (c8 (d6 ?_)))
 first | refine k9 rfl (fun hb1 => ?_) (fun hb1 => ?_) | refine j0 rfl (fun hb1 => ?_) (fun hb1 => ?_)
 ·have hb1' := hb1; try simp at hb1'
  have hk2 : k < l.length := by omega
  refine i8 (i1 (d6 (j5 (i4 (b6 rfl (c5 rfl (t6 ?_))))))); refine b6 rfl (b6 rfl (b6 rfl ?_)); refine m7 (α := Hd) _ _ rfl n4 l7 rfl rfl rfl mB rfl (by omega) (by decide) (z8 rfl C1 l7 rfl rfl (v9 mB (B3 (by omega))) (X3 (vs := [.agg (El.cells (l.getD k default)).toArray]) (cap := [.pointer (d9 g)]) qG rfl rfl rfl (pO (l.getD k default) c) t4 ⟨m1, tK⟩ fun _ _ => c8 ?_))
  first | refine k9 rfl (fun hb2 => ?_) (fun hb2 => ?_) | refine j0 rfl (fun hb2 => ?_) (fun hb2 => ?_)
  ·have hb2' := hb2; try simp at hb2'
   refine i4 (b6 rfl (c5 rfl (c8 (l4 (B7 (u5 (B7 ?_))))))); exact ret1 (k : Int) rfl rfl rfl ⟨fun _ => List.mem_map.2 ⟨_, w8 hk2, hb2⟩, fun _ => by omega⟩ nK tK
  have hb2' := hb2; try simp at hb2'
  refine i8 (w6 (i1 (c9 ?_))); refine t5 _ rfl rfl rfl rfl q6 ?_; refine b6 rfl (b5 ?_); exact again _ (k + 1) ⟨by omega, zJ (·.1) hk2 ht hb2⟩ (y8 (by omega)) mC nK ⟨m0, m1, tK⟩
 have hb1' := hb1; try simp at hb1'
 have hk2 : k = l.length := by omega
 subst hk2; rw [List.take_length] at ht; refine t7 (C7 (t8 (i1 (i4 (c5 rfl (c8 (l4 ?_))))))); exact ret1 (-1) rfl rfl rfl ⟨fun h => by omega, fun h => absurd h ht⟩ (.refl _) tK
theorem lI {A : Option Addr} {cp g : Nat} (l : List Hd) (c : Hd) (hl : l.length ≤ 1000000) : Meets prog V7 [.slice A l.length cp, .func (.func L4) #[] #[.pointer (d9 g)]] { LI := [Row A (rows l), Row (d9 g) (rows [c])], val := fun _ : Unit => .bool (decide (c.1 ∈ l.map (·.1))) } := by
 refine j3 mR rfl v8 fun w0 => ?_; refine i4 (c5 rfl (t6 (b6 rfl (b6 rfl ?_)))); refine j4 qL rfl rfl (pV l c hl) (.refl _) ⟨m0, m1, tK⟩ fun z hz => ?_; refine Z4 rfl rfl rfl (c5 rfl (c8 (l4 ?_))); exact ret1 () rfl (congrArg (fun b => some (Value.bool b)) (decide_eq_decide.2 hz)) rfl tK nK tK
theorem qS {A : Option Addr} {cp : Nat} (cs : List Cl) (i : Nat) (h6 : cs.length ≤ 6) (hc : cs.length ≤ cp) (hi : i < cs.length) : Meets prog bH [.slice A cs.length cp, int i] { LI := [Row A (rows cs)], val := fun _ : Unit => int (clsErr cs i) } := by
 refine j3 tB rfl v8 fun w0 => ?_; refine i4 (c5 rfl (t6 (b6 rfl (b6 rfl ?_)))); refine m7 (α := Cl) _ _ rfl n6 u7 rfl rfl rfl mB rfl (by omega) (by decide) (z8 rfl L0 u7 rfl rfl (v9 mB (B3 (by omega))) (u4 rfl (fun _ => X1 _) fun gA => l6 rfl rfl X2 u7 (by rfl) (by rfl) ?_)); refine c8 (d6 (j5 (d6 ?_))); refine Q1 (rows [cs.getD i default]) ⟨[], List.append_nil _⟩ (c9 ?_)
 first | refine a6 ⟨_, 0, none⟩ rfl rfl t9 rfl ?_ | refine a6 _ rfl rfl t9 rfl ?_
 first | refine a7 rfl a9 rfl (i2 mB rfl) ?_ | refine a7 rfl a9 rfl (d8 mB rfl) ?_ | refine a7 rfl a9 rfl (b7 mB (b4 (by omega) rfl)) ?_ | refine a7 rfl a9 rfl (b8 mB (rows_get (by omega) rfl)) ?_ | refine a7 rfl a9 rfl (d7 mB rfl) ?_
 refine j4 H7 rfl rfl (H5 (cs.getD i default).1) (.refl _) tK fun _ _ => ?_; refine H6 rfl rfl (c5 rfl (c8 ?_))
 first | refine k9 rfl (fun hb1 => ?_) (fun hb1 => ?_) | refine j0 rfl (fun hb1 => ?_) (fun hb1 => ?_)
 ·have hb1' := hb1; try simp at hb1'
  have h1 : wordB (cs.getD i default).1 = false := by simpa using hb1
  refine i4 (c5 rfl (c8 (l4 (B7 ?_)))); exact ret1 () rfl (congrArg (fun b => some (int b)) (by rw [clsErr, if_pos h1])) rfl tK nK tK
 have hb1' := hb1; try simp at hb1'
 have h1 : ¬ wordB (cs.getD i default).1 = false := by simpa using hb1
 refine i4 (b6 rfl (b6 rfl ?_)); refine lJ (cs.take i).length rfl n6 u7 rfl rfl (by simp; omega) (by simp; omega) ?_; refine dj9 i m1 (iL rfl rfl rfl ?_); refine j4 mS rfl rfl (mO (cs.take i) (cs.getD i default) (by simp; omega)) (.refl _) ⟨m0, m1, tK⟩ fun _ _ => ?_; refine c5 rfl (c8 ?_)
 first | refine k9 rfl (fun hb2 => ?_) (fun hb2 => ?_) | refine j0 rfl (fun hb2 => ?_) (fun hb2 => ?_)
 ·have hb2' := hb2; try simp at hb2'
  refine i4 (c5 rfl (c8 (l4 (B7 ?_)))); exact ret1 () rfl (congrArg (fun b => some (int b)) (by rw [clsErr, if_neg h1, if_pos hb2])) rfl tK nK tK
 have hb2' := hb2; try simp at hb2'
 refine i4 ?_
 first | refine a6 ⟨_, 1, none⟩ rfl rfl y5 rfl ?_ | refine a6 _ rfl rfl y5 rfl ?_
 first | refine a7 rfl a8 rfl (i2 mB rfl) ?_ | refine a7 rfl a8 rfl (d8 mB rfl) ?_ | refine a7 rfl a8 rfl (b7 mB (b4 (by omega) rfl)) ?_ | refine a7 rfl a8 rfl (b8 mB (rows_get (by omega) rfl)) ?_ | refine a7 rfl a8 rfl (d7 mB rfl) ?_
 refine b6 rfl (k6 rfl n6 rfl (P9 _ rfl rfl rfl rfl q6 (j4 J1 rfl rfl (I8 _ _ _) (.refl _) tK fun _ _ => ?_))); refine H6 rfl rfl (c5 rfl (c8 ?_))
 first | refine k9 rfl (fun hb3 => ?_) (fun hb3 => ?_) | refine j0 rfl (fun hb3 => ?_) (fun hb3 => ?_)
 ·have hb3' := hb3; try simp at hb3'
  have h3 : ¬ (-1 ≤ (cs.getD i default).2 ∧ (cs.getD i default).2 ≤ (cs.length : Int) - 1) := fun e => by rw [decide_eq_true e] at hb3; cases hb3
  refine i4 (c5 rfl (c8 (l4 (B7 ?_)))); exact ret1 () rfl (congrArg (fun b => some (int b)) (by rw [clsErr, if_neg h1, if_neg hb2, if_pos (by omega)])) rfl tK nK tK
 have hb3' := hb3; try simp at hb3'
 have h3 : -1 ≤ (cs.getD i default).2 ∧ (cs.getD i default).2 ≤ (cs.length : Int) - 1 := by simpa using hb3
 refine i4 ?_
 first | refine a6 ⟨_, 1, none⟩ rfl rfl y5 rfl ?_ | refine a6 _ rfl rfl y5 rfl ?_
 first | refine a7 rfl a8 rfl (i2 mB rfl) ?_ | refine a7 rfl a8 rfl (d8 mB rfl) ?_ | refine a7 rfl a8 rfl (b7 mB (b4 (by omega) rfl)) ?_ | refine a7 rfl a8 rfl (b8 mB (rows_get (by omega) rfl)) ?_ | refine a7 rfl a8 rfl (d7 mB rfl) ?_
 refine b6 rfl (Z4 rfl rfl rfl (c5 rfl (c8 ?_)))
 first | refine k9 rfl (fun hb4 => ?_) (fun hb4 => ?_) | refine j0 rfl (fun hb4 => ?_) (fun hb4 => ?_)
 ·have hb4' := hb4; try simp at hb4'
  refine i4 (c5 rfl (c8 (l4 (B7 ?_)))); exact ret1 () rfl (congrArg (fun b => some (int b)) (by rw [clsErr, if_neg h1, if_neg hb2, if_neg (by omega), if_pos hb4])) rfl tK nK tK
 have hb4' := hb4; try simp at hb4'
 refine i8 (w6 (i1 (i4 (c5 rfl (c8 (l4 ?_)))))); exact ret1 () rfl (congrArg (fun b => some (int b)) (by rw [clsErr, if_neg h1, if_neg hb2, if_neg (by omega), if_neg hb4])) rfl tK nK tK
theorem ps_take {hs : List Hd} {n : Nat} : ((hs.map Hd.p).take n).map (·.1) = (hs.take n).map (·.1) := by rw [← List.map_take, List.map_map]; rfl
theorem K9 (cs : List Cl) (hs : List Hd) {i : Nat} (hi : i < hs.length) : headErr (trOf cs hs) i =
  if wordB (hs.getD i default).1 = false then 2
  else if (hs.getD i default).1 ∈ (hs.take i).map (·.1) then 4
  else if 0 < i ∧ (hs.getD i default).1 < (hs.getD (i - 1) default).1 then 5
  else if (hs.getD i default).2.1 < -1 ∨ (cs.length : Int) ≤ (hs.getD i default).2.1 ∨ (hs.getD i default).2.2.1 < -1 ∨ (hs.length : Int) ≤ (hs.getD i default).2.2.1 then 3
  else if (hs.getD i default).2.2.1 = (i : Int) then 9
  else if ¬ firstE (alsoErr hs.length i (hs.getD i default).2.2.2.l) (hs.getD i default).2.2.2.l.length = 0 then firstE (alsoErr hs.length i (hs.getD i default).2.2.2.l) (hs.getD i default).2.2.2.l.length
  else if kindBad (hs.getD i default).p = true then 8 else 0 := by
  unfold headErr; simp only [trOf, V4 hi, V4 (show i - 1 < hs.length by omega), ps_take, List.length_map]
  rfl
theorem nbw {a b c : Int} (h : (!decide (a ≤ b ∧ b ≤ c)) = true) : ¬ (a ≤ b ∧ b ≤ c) := fun e => by rw [decide_eq_true e] at h; cases h
theorem bw {a b c : Int} (h : (!decide (a ≤ b ∧ b ≤ c)) = false) : a ≤ b ∧ b ≤ c := Classical.byContradiction fun e => by rw [decide_eq_false e] at h; cases h
set_option maxHeartbeats 2000000 in
theorem sI {A B : Option Addr} {ca cb : Nat} (cs : List Cl) (hs : List Hd) (i : Nat) (h6 : hs.length ≤ 6) (hc6 : cs.length ≤ 6) (hc : hs.length ≤ cb) (hi : i < hs.length) (ha : ∀ h ∈ hs, h.2.2.2.l.length ≤ 1000000) : Meets prog cU [.agg #[.slice A cs.length ca, .slice B hs.length cb], int i] { LI := [Row A (rows cs), RowsF B hs Hd.row], val := fun _ : Unit => int (headErr (trOf cs hs) i) } := by
 refine j3 uI rfl v8 fun w0 => i4 (O3 rfl rfl fun gB => ?_); refine c5 rfl (c8 (d6 (S7 m1 ?_))); refine iO m2 (w8 hi) ?_; have hal := ha _ (w8 hi); refine H3 ([]) (_) (.refl _) 9 [7] mixed (by decide) (by decide) (by decide) rfl rfl rfl ?_
 apply k7 _ rfl rfl rfl
 ·intro w1
  first | refine a6 ⟨_, 1, none⟩ rfl rfl i3 rfl ?_ | refine a6 _ rfl rfl i3 rfl ?_
  refine b5 ?_; exact i5 rfl
 apply k7 _ rfl rfl rfl
 ·intro w1
  first | refine a7 rfl b2 rfl (d8 mB rfl) ?_ | refine a7 rfl b2 rfl (i2 mB rfl) ?_ | refine a7 rfl b2 rfl (b7 mB (b4 (by omega) rfl)) ?_ | refine a7 rfl b2 rfl (b8 mB (rows_get (by omega) rfl)) ?_ | refine a7 rfl b2 rfl (d7 mB rfl) ?_
  refine b5 ?_; exact i5 rfl
 apply k7 _ rfl rfl rfl
 ·intro w1
  first | refine a6 ⟨_, 1, none⟩ rfl rfl i3 rfl ?_ | refine a6 _ rfl rfl i3 rfl ?_
  refine b5 ?_; exact i5 rfl
 apply k7 _ rfl rfl rfl
 ·intro w1
  first | refine a7 rfl b2 rfl (d8 mB rfl) ?_ | refine a7 rfl b2 rfl (i2 mB rfl) ?_ | refine a7 rfl b2 rfl (b7 mB (b4 (by omega) rfl)) ?_ | refine a7 rfl b2 rfl (b8 mB (rows_get (by omega) rfl)) ?_ | refine a7 rfl b2 rfl (d7 mB rfl) ?_
  refine b5 ?_; exact i5 rfl
 refine r7 rfl (k8 (fun w1 => m7 (α := Hd) _ _ rfl n4 l7 rfl rfl rfl mB rfl (by omega) (by decide) (q_z rfl)) (k8 (fun w1 => z8 rfl C1 l7 rfl rfl (v9 mB (B3 (by omega))) (q_z rfl)) ?_)); refine nE ⟨Nat, fun _ => True, fun g => .pointer (d9 g), fun _ => [], fun g => [(g, Obj.cells #[str [], int 0, int 0, .slice none 0 0] G0 (0, 0))]⟩ rfl rfl rfl ?_ ?_
 ·intro w1; refine u4 rfl (fun _ => G9 _) fun gA => b5 ?_; exact H4 gA tK (fun _ => rfl) (.refl _) tK
 refine k8 (fun w1 => c5 rfl (q_z rfl)) ?_; refine v7 ⟨rfl, ?_⟩; intro x7 hx7; refine l6 rfl rfl X2 l7 (by rfl) (by rfl) ?_; refine c8 (d6 (j5 (d6 ?_))); refine Q1 (rows [hs.getD i default]) ⟨[], List.append_nil _⟩ (c9 ?_)
 first | refine a6 ⟨_, 0, none⟩ rfl rfl l9 rfl ?_ | refine a6 _ rfl rfl l9 rfl ?_
 first | refine a7 rfl a9 rfl (i2 mB rfl) ?_ | refine a7 rfl a9 rfl (d8 mB rfl) ?_ | refine a7 rfl a9 rfl (b7 mB (b4 (by omega) rfl)) ?_ | refine a7 rfl a9 rfl (b8 mB (rows_get (by omega) rfl)) ?_ | refine a7 rfl a9 rfl (d7 mB rfl) ?_
 refine j4 H7 rfl rfl (H5 (hs.getD i default).1) t4 tK fun _ _ => ?_; refine H6 rfl rfl (c5 rfl (c8 ?_))
 first | refine k9 rfl (fun hb1 => ?_) (fun hb1 => ?_) | refine j0 rfl (fun hb1 => ?_) (fun hb1 => ?_)
 ·have hb1' := hb1; try simp at hb1'
  have h1 : wordB (hs.getD i default).1 = false := by simpa using hb1
  refine i4 (c5 rfl (c8 (l4 (B7 ?_)))); exact ret1 () rfl (congrArg (fun b => some (int b)) (by rw [K9 cs hs hi, if_pos h1])) rfl tK nK tK
 have hb1' := hb1; try simp at hb1'
 have h1 : ¬ wordB (hs.getD i default).1 = false := by simpa using hb1
 refine i4 (b6 rfl (b6 rfl ?_)); refine lJ (hs.take i).length rfl n4 l7 rfl rfl (by simp; omega) (by simp; omega) ?_; refine dj9 (ps := hs) i mB (iL rfl rfl rfl ?_); refine j4 lV rfl rfl (lI (hs.take i) (hs.getD i default) (by simp; omega)) t4 mC fun _ _ => ?_; refine c5 rfl (c8 ?_)
 first | refine k9 rfl (fun hb2 => ?_) (fun hb2 => ?_) | refine j0 rfl (fun hb2 => ?_) (fun hb2 => ?_)
 ·have hb2' := hb2; try simp at hb2'
  refine i4 (c5 rfl (c8 (l4 (B7 ?_)))); exact ret1 () rfl (congrArg (fun b => some (int b)) (by rw [K9 cs hs hi, if_neg h1, if_pos hb2])) rfl tK nK tK
 have hb2' := hb2; try simp at hb2'
 refine I0 ⟨fun _ : Unit => True, fun _ => [(1, int i), (2, .pointer (d9 gB)), (5, .slice B hs.length cb), (6, .pointer (d9 x7)), (27, .bool (decide (0 < i ∧ (hs.getD i default).1 < (hs.getD (i - 1) default).1)))], fun _ => [(gB, .cells #[.slice A cs.length ca, .slice B hs.length cb] p8 (0, 0))], fun _ => [Row (d9 x7) (rows [hs.getD i default]), Row B (rows hs), Row (hs.getD i default).2.2.2.a (rows (hs.getD i default).2.2.2.l)]⟩ ?_ ?_
 ·skip
  refine C0 11 mixed (by decide) (by decide) rfl rfl (r7 rfl (k8 (fun w1 => Q0 rfl rfl rfl (q_z rfl)) (r7 rfl ?_))); refine L3 (t := 30) (want := true) rfl ?_ ?_
  ·intro hg1; have hg1' := hg1; try simp at hg1'
   apply k7 _ rfl rfl rfl
   ·intro w1; refine k5 hg1 ?_
    first | refine a6 ⟨_, 0, none⟩ rfl rfl l9 rfl ?_ | refine a6 _ rfl rfl l9 rfl ?_
    refine b5 ?_; exact i5 rfl
   apply k7 _ rfl rfl rfl
   ·intro w1; refine k5 hg1 ?_
    first | refine a7 rfl a9 rfl (d8 mB rfl) ?_ | refine a7 rfl a9 rfl (i2 mB rfl) ?_ | refine a7 rfl a9 rfl (b7 mB (b4 (by omega) rfl)) ?_ | refine a7 rfl a9 rfl (b8 mB (rows_get (by omega) rfl)) ?_ | refine a7 rfl a9 rfl (d7 mB rfl) ?_
    refine b5 ?_; exact i5 rfl
   apply k7 _ rfl rfl rfl
   ·intro w1; refine k5 hg1 (b6 rfl (b5 ?_)); exact i5 rfl
   apply k7 _ rfl rfl rfl
   ·intro w1; refine k5 hg1 (b6 rfl (b5 ?_)); exact i5 rfl
   apply k7 _ rfl rfl rfl
   ·intro w1; refine k5 hg1 (P9 ((i - 1 : Nat) : Int) rfl rfl rfl (by omega) q6 (b5 ?_)); exact i5 rfl
   apply k7 _ rfl rfl rfl
   ·intro w1; refine k5 hg1 (m7 (α := Hd) hs (i - 1) rfl n4 l7 rfl rfl rfl mB rfl (by omega) (by decide) (b5 ?_)); exact i5 rfl
   apply k7 _ rfl rfl rfl
   ·intro w1; refine k5 hg1 ?_
    first | refine a6 ⟨_, 0, none⟩ rfl rfl l9 rfl ?_ | refine a6 _ rfl rfl l9 rfl ?_
    refine b5 ?_; exact i5 rfl
   apply k7 _ rfl rfl rfl
   ·intro w1; refine k5 hg1 (a7 rfl a9 rfl (b7 (cs := rows hs) mB (b4 (by omega) rfl)) (b5 ?_)); exact i5 rfl
   refine v7 ⟨rfl, ?_⟩; refine k5 hg1 (nq2 rfl rfl rfl ?_); refine p_t rfl rfl (bt1 hg1) rfl ?_; refine c5 rfl (b5 ?_); exact D5 _ () tK ⟨rfl, rfl, rfl, rfl, congrArg (fun b => some (Value.bool b)) (by rw [cz2]; exact decide_eq_decide.2 ⟨fun e => ⟨by omega, e⟩, fun e => e.2⟩), tK⟩ (List.Sublist.refl _) mC
  intro hg1; have hg1' := hg1; try simp at hg1'
  refine k8 (fun w1 => l8 hg1 (q_z rfl)) (k8 (fun w1 => l8 hg1 (q_z rfl)) (k8 (fun w1 => l8 hg1 (q_z rfl)) (k8 (fun w1 => l8 hg1 (q_z rfl)) (k8 (fun w1 => l8 hg1 (q_z rfl)) (k8 (fun w1 => l8 hg1 (q_z rfl)) (k8 (fun w1 => l8 hg1 (q_z rfl)) (k8 (fun w1 => l8 hg1 (q_z rfl)) ?_))))))); refine v7 ⟨rfl, ?_⟩; refine l8 hg1 (p_f rfl rfl (bf2 hg1) rfl ?_); refine c5 rfl (b5 ?_); exact D5 _ () tK ⟨rfl, rfl, rfl, rfl, congrArg (fun b => some (Value.bool b)) (by exact (decide_eq_false (by simp at hg1; omega)).symm), tK⟩ (List.Sublist.refl _) mC
 refine fun _ _ => ?_
 first | refine k9 rfl (fun hb3 => ?_) (fun hb3 => ?_) | refine j0 rfl (fun hb3 => ?_) (fun hb3 => ?_)
 ·have hb3' := hb3; try simp at hb3'
  refine i4 (c5 rfl (c8 (l4 (B7 ?_)))); exact ret1 () rfl (congrArg (fun b => some (int b)) (by rw [K9 cs hs hi, if_neg h1, if_neg hb2, if_pos hb3])) rfl tK nK tK
 have hb3' := hb3; try simp at hb3'
 refine I0 ⟨fun _ : Unit => True, fun _ => [(1, int i), (2, .pointer (d9 gB)), (5, .slice B hs.length cb), (6, .pointer (d9 x7)), (41, .bool (decide (¬ ((-1 ≤ (hs.getD i default).2.1 ∧ (hs.getD i default).2.1 ≤ (cs.length : Int) - 1) ∧ (-1 ≤ (hs.getD i default).2.2.1 ∧ (hs.getD i default).2.2.1 ≤ (hs.length : Int) - 1)))))], fun _ => [(gB, .cells #[.slice A cs.length ca, .slice B hs.length cb] p8 (0, 0))], fun _ => [Row (d9 x7) (rows [hs.getD i default]), Row B (rows hs), Row (hs.getD i default).2.2.2.a (rows (hs.getD i default).2.2.2.l)]⟩ ?_ ?_
 ·skip
  refine i4 ?_
  first | refine a6 ⟨_, 1, none⟩ rfl rfl p7 rfl ?_ | refine a6 _ rfl rfl p7 rfl ?_
  first | refine a7 rfl a8 rfl (i2 mB rfl) ?_ | refine a7 rfl a8 rfl (d8 mB rfl) ?_ | refine a7 rfl a8 rfl (b7 mB (b4 (by omega) rfl)) ?_ | refine a7 rfl a8 rfl (b8 mB (rows_get (by omega) rfl)) ?_ | refine a7 rfl a8 rfl (d7 mB rfl) ?_
  first | refine a6 ⟨_, 0, none⟩ rfl rfl i9 rfl ?_ | refine a6 _ rfl rfl i9 rfl ?_
  first | refine a7 rfl b3 rfl (i2 mB rfl) ?_ | refine a7 rfl b3 rfl (d8 mB rfl) ?_ | refine a7 rfl b3 rfl (b7 mB (b4 (by omega) rfl)) ?_ | refine a7 rfl b3 rfl (b8 mB (rows_get (by omega) rfl)) ?_ | refine a7 rfl b3 rfl (d7 mB rfl) ?_
  refine k6 rfl n6 rfl (P9 _ rfl rfl rfl rfl q6 (j4 J1 rfl rfl (I8 _ _ _) t4 tK fun _ _ => ?_)); refine H6 rfl rfl (c5 rfl (c8 ?_))
  first | refine k9 rfl (fun hb4 => ?_) (fun hb4 => ?_) | refine j0 rfl (fun hb4 => ?_) (fun hb4 => ?_)
  ·have hb4' := hb4; try simp at hb4'
   refine i8 ?_; exact D5 _ () tK ⟨rfl, rfl, rfl, rfl, congrArg (fun b => some (Value.bool b)) (by rw [hb4]; symm; rw [decide_eq_true_eq]; exact fun e => nbw hb4 e.1), tK⟩ (List.Sublist.refl _) mC
  have hb4' := hb4; try simp at hb4'
  refine c9 ?_
  first | refine a6 ⟨_, 2, none⟩ rfl rfl p6 rfl ?_ | refine a6 _ rfl rfl p6 rfl ?_
  first | refine a7 rfl a8 rfl (i2 mB rfl) ?_ | refine a7 rfl a8 rfl (d8 mB rfl) ?_ | refine a7 rfl a8 rfl (b7 mB (b4 (by omega) rfl)) ?_ | refine a7 rfl a8 rfl (b8 mB (rows_get (by omega) rfl)) ?_ | refine a7 rfl a8 rfl (d7 mB rfl) ?_
  refine b6 rfl (k6 rfl n4 rfl (P9 _ rfl rfl rfl rfl q6 (j4 J1 rfl rfl (I8 _ _ _) t4 tK fun _ _ => ?_))); refine H6 rfl rfl (c5 rfl (b5 ?_)); exact D5 _ () tK ⟨rfl, rfl, rfl, rfl, congrArg (fun b => some (Value.bool b)) (by have := bw hb4; rw [Bool.eq_iff_iff]; simp only [Bool.not_eq_true', decide_eq_false_iff_not, decide_eq_true_eq]; exact ⟨fun e f => e f.2, fun e f => e ⟨this, f⟩⟩), tK⟩ (List.Sublist.refl _) mC
 refine fun _ _ => ?_
 first | refine k9 rfl (fun hb5 => ?_) (fun hb5 => ?_) | refine j0 rfl (fun hb5 => ?_) (fun hb5 => ?_)
 ·have hb5' := hb5; try simp at hb5'
  refine i4 (c5 rfl (c8 (l4 (B7 ?_)))); exact ret1 () rfl (congrArg (fun b => some (int b)) (by rw [K9 cs hs hi, if_neg h1, if_neg hb2, if_neg hb3, if_pos (by omega)])) rfl tK nK tK
 have hb5' := hb5; try simp at hb5'
 refine i4 ?_
 first | refine a6 ⟨_, 2, none⟩ rfl rfl p6 rfl ?_ | refine a6 _ rfl rfl p6 rfl ?_
 first | refine a7 rfl a8 rfl (i2 mB rfl) ?_ | refine a7 rfl a8 rfl (d8 mB rfl) ?_ | refine a7 rfl a8 rfl (b7 mB (b4 (by omega) rfl)) ?_ | refine a7 rfl a8 rfl (b8 mB (rows_get (by omega) rfl)) ?_ | refine a7 rfl a8 rfl (d7 mB rfl) ?_
 refine b6 rfl (J0 rfl rfl rfl (c5 rfl (c8 ?_)))
 first | refine k9 rfl (fun hb6 => ?_) (fun hb6 => ?_) | refine j0 rfl (fun hb6 => ?_) (fun hb6 => ?_)
 ·have hb6' := hb6; try simp at hb6'
  refine i4 (c5 rfl (c8 (l4 (B7 ?_)))); exact ret1 () rfl (congrArg (fun b => some (int b)) (by rw [K9 cs hs hi, if_neg h1, if_neg hb2, if_neg hb3, if_neg (by omega), if_pos hb6])) rfl tK nK tK
 have hb6' := hb6; try simp at hb6'
 have hH : headErr (trOf cs hs) i = if ¬ firstE (alsoErr hs.length i (hs.getD i default).2.2.2.l) (hs.getD i default).2.2.2.l.length = 0 then firstE (alsoErr hs.length i (hs.getD i default).2.2.2.l) (hs.getD i default).2.2.2.l.length else if kindBad (hs.getD i default).p = true then 8 else 0 := by rw [K9 cs hs hi, if_neg h1, if_neg hb2, if_neg hb3, if_neg (by omega), if_neg hb6]
 refine i8 (w6 (i1 (d6 (i4 ?_))))
 first | refine a6 ⟨_, 3, none⟩ rfl rfl l5 rfl ?_ | refine a6 _ rfl rfl l5 rfl ?_
 first | refine a7 rfl k4 rfl (i2 mB rfl) ?_ | refine a7 rfl k4 rfl (d8 mB rfl) ?_ | refine a7 rfl k4 rfl (b7 mB (b4 (by omega) rfl)) ?_ | refine a7 rfl k4 rfl (b8 mB (rows_get (by omega) rfl)) ?_ | refine a7 rfl k4 rfl (d7 mB rfl) ?_
 refine k6 rfl A8 rfl ?_; refine b6 rfl (c8 (j5 ?_)); refine u6 (β := Nat) ⟨fun k => k ≤ (hs.getD i default).2.2.2.l.length ∧ firstE (alsoErr hs.length i (hs.getD i default).2.2.2.l) k = 0, fun k => [(1, int i), (2, .pointer (d9 gB)), (5, .slice B hs.length cb), (6, .pointer (d9 x7)), (63, .slice (hs.getD i default).2.2.2.a (hs.getD i default).2.2.2.l.length (hs.getD i default).2.2.2.c), (64, int (hs.getD i default).2.2.2.l.length), (65, int k)], fun _ => [(gB, .cells #[.slice A cs.length ca, .slice B hs.length cb] p8 (0, 0))], fun _ => [Row (d9 x7) (rows [hs.getD i default]), Row B (rows hs), Row (hs.getD i default).2.2.2.a (rows (hs.getD i default).2.2.2.l)]⟩ (fun k => (hs.getD i default).2.2.2.l.length - k) 0 ⟨Nat.zero_le _, rfl⟩ mC (List.Sublist.refl _) mC fun k hk => ?_; obtain ⟨hk, ht⟩ := hk; refine i4 (B5 rfl rfl rfl (c8 (d6 ?_)))
 first | refine k9 rfl (fun hb7 => ?_) (fun hb7 => ?_) | refine j0 rfl (fun hb7 => ?_) (fun hb7 => ?_)
 ·have hb7' := hb7; try simp at hb7'
  have hk2 : k < (hs.getD i default).2.2.2.l.length := by omega
  refine i8 (i1 (d6 (j5 (i4 (b6 rfl ?_))))); refine m7 (α := Int) _ _ rfl A8 E1 rfl rfl rfl mB rfl (by omega) (by decide) (a7 rfl a8 rfl (b7 mB (b4 (by omega) rfl)) ?_); refine c5 rfl (c5 rfl (c8 (j5 (i4 (b6 rfl (b6 rfl ?_)))))); refine k6 rfl n4 rfl (P9 _ rfl rfl rfl rfl q6 (j4 J1 rfl rfl (I8 _ _ _) t4 tK fun _ _ => ?_)); refine H6 rfl rfl (c5 rfl (c8 ?_))
  first | refine k9 rfl (fun hb8 => ?_) (fun hb8 => ?_) | refine j0 rfl (fun hb8 => ?_) (fun hb8 => ?_)
  ·have hb8' := hb8; try simp at hb8'
   refine i4 (c5 rfl (c8 (l4 (jE (B7 (u5 (B7 ?_))))))); exact ret1 () rfl (congrArg (fun b => some (int b)) (by have he : alsoErr hs.length i (hs.getD i default).2.2.2.l k = 3 := (by unfold alsoErr; rw [if_pos (by have := nbw hb8; omega)]); rw [hH, M9 ht (by rw [he]; omega) _ hk2, if_pos (by rw [he]; omega), he])) rfl tK nK tK
  have hb8' := hb8; try simp at hb8'
  refine i4 (b6 rfl (b6 rfl (J0 rfl rfl rfl (c5 rfl (c8 ?_)))))
  first | refine k9 rfl (fun hb9 => ?_) (fun hb9 => ?_) | refine j0 rfl (fun hb9 => ?_) (fun hb9 => ?_)
  ·have hb9' := hb9; try simp at hb9'
   refine i4 (c5 rfl (c8 (l4 (jE (B7 (u5 (B7 ?_))))))); exact ret1 () rfl (congrArg (fun b => some (int b)) (by have he : alsoErr hs.length i (hs.getD i default).2.2.2.l k = 9 := (by unfold alsoErr; rw [if_neg (by have := bw hb8; omega), if_pos hb9]); rw [hH, M9 ht (by rw [he]; omega) _ hk2, if_pos (by rw [he]; omega), he])) rfl tK nK tK
  have hb9' := hb9; try simp at hb9'
  refine I0 ⟨fun _ : Unit => True, fun _ => [(1, int i), (2, .pointer (d9 gB)), (5, .slice B hs.length cb), (6, .pointer (d9 x7)), (63, .slice (hs.getD i default).2.2.2.a (hs.getD i default).2.2.2.l.length (hs.getD i default).2.2.2.c), (64, int (hs.getD i default).2.2.2.l.length), (65, int k), (81, .bool (decide (0 < k ∧ (hs.getD i default).2.2.2.l.getD k default ≤ (hs.getD i default).2.2.2.l.getD (k - 1) default)))], fun _ => [(gB, .cells #[.slice A cs.length ca, .slice B hs.length cb] p8 (0, 0))], fun _ => [Row (d9 x7) (rows [hs.getD i default]), Row B (rows hs), Row (hs.getD i default).2.2.2.a (rows (hs.getD i default).2.2.2.l)]⟩ ?_ ?_
  ·skip
   refine c9 (b6 rfl (Q0 rfl rfl rfl (b6 rfl ?_))); refine v6 rfl rfl ?_ ?_
   ·intro hg2; have hg2' := hg2; try simp at hg2'
    refine k5 hg2 (b6 rfl (k5 hg2 ?_))
    first | refine a6 ⟨_, 3, none⟩ rfl rfl l5 rfl ?_ | refine a6 _ rfl rfl l5 rfl ?_
    refine k5 hg2 ?_
    first | refine a7 rfl k4 rfl (i2 mB rfl) ?_ | refine a7 rfl k4 rfl (d8 mB rfl) ?_ | refine a7 rfl k4 rfl (b7 mB (b4 (by omega) rfl)) ?_ | refine a7 rfl k4 rfl (b8 mB (rows_get (by omega) rfl)) ?_ | refine a7 rfl k4 rfl (d7 mB rfl) ?_
    refine k5 hg2 (b6 rfl (k5 hg2 ?_)); refine P9 ((k - 1 : Nat) : Int) rfl rfl rfl (by omega) q6 (k5 hg2 (m7 (α := Int) _ _ rfl A8 E1 rfl rfl rfl mB rfl (by omega) (by decide) (k5 hg2 (a7 rfl a8 rfl (b7 mB (b4 (by omega) rfl)) ?_)))); refine k5 hg2 (cz9 rfl rfl rfl ?_); refine p_t rfl rfl (bt1 hg2) rfl ?_; refine c5 rfl (b5 ?_); exact D5 _ () tK ⟨rfl, rfl, rfl, rfl, rfl, rfl, rfl, congrArg (fun b => some (Value.bool b)) (by exact decide_eq_decide.2 ⟨fun e => ⟨by omega, e⟩, fun e => e.2⟩), tK⟩ (List.Sublist.refl _) mC
   intro hg2; have hg2' := hg2; try simp at hg2'
   refine l8 hg2 (l8 hg2 (l8 hg2 (l8 hg2 (l8 hg2 (l8 hg2 (l8 hg2 (l8 hg2 ?_))))))); refine p_f rfl rfl (bf2 hg2) rfl ?_; refine c5 rfl (b5 ?_); exact D5 _ () tK ⟨rfl, rfl, rfl, rfl, rfl, rfl, rfl, congrArg (fun b => some (Value.bool b)) (by exact (decide_eq_false (by simp at hg2; omega)).symm), tK⟩ (List.Sublist.refl _) mC
  refine fun _ _ => ?_
  first | refine k9 rfl (fun hb10 => ?_) (fun hb10 => ?_) | refine j0 rfl (fun hb10 => ?_) (fun hb10 => ?_)
  ·have hb10' := hb10; try simp at hb10'
   refine i4 (c5 rfl (c8 (l4 (jE (B7 (u5 (B7 ?_))))))); exact ret1 () rfl (congrArg (fun b => some (int b)) (by have he : alsoErr hs.length i (hs.getD i default).2.2.2.l k = 5 := (by unfold alsoErr; rw [if_neg (by have := bw hb8; omega), if_neg hb9, if_pos hb10]); rw [hH, M9 ht (by rw [he]; omega) _ hk2, if_pos (by rw [he]; omega), he])) rfl tK nK tK
  have hb10' := hb10; try simp at hb10'
  refine i8 (w6 (w6 (i1 (c9 ?_)))); refine t5 _ rfl rfl rfl rfl q6 ?_; refine b6 rfl (b5 ?_); exact again _ (k + 1) ⟨by omega, by rw [dG ht]; unfold alsoErr; rw [if_neg (by have := bw hb8; omega), if_neg hb9, if_neg hb10]⟩ (y8 (by omega)) mC (List.Sublist.refl _) mC
 have hb7' := hb7; try simp at hb7'
 have hk2 : k = (hs.getD i default).2.2.2.l.length := by omega
 subst hk2; rw [if_neg (not_not_intro ht)] at hH; refine t7 (C7 (t8 (i1 (d6 ?_)))); refine I0 ⟨fun _ : Unit => True, fun _ => [(1, int i), (2, .pointer (d9 gB)), (5, .slice B hs.length cb), (6, .pointer (d9 x7)), (124, .bool (kindBad (hs.getD i default).p))], fun _ => [(gB, .cells #[.slice A cs.length ca, .slice B hs.length cb] p8 (0, 0))], fun _ => [Row (d9 x7) (rows [hs.getD i default]), Row B (rows hs), Row (hs.getD i default).2.2.2.a (rows (hs.getD i default).2.2.2.l)]⟩ ?_ ?_
 ·skip
  clear hH ht hk hb1 hb1' h1 hb2 hb2' hb3 hb3' hb5 hb5' hb6 hb6' hb7 hb7' ha h6 hc6 hc hi hal; refine c9 ?_
  first | refine a6 ⟨_, 2, none⟩ rfl rfl p6 rfl ?_ | refine a6 _ rfl rfl p6 rfl ?_
  first | refine a7 rfl a8 rfl (i2 mB rfl) ?_ | refine a7 rfl a8 rfl (d8 mB rfl) ?_ | refine a7 rfl a8 rfl (b7 mB (b4 (by omega) rfl)) ?_ | refine a7 rfl a8 rfl (b8 mB (rows_get (by omega) rfl)) ?_ | refine a7 rfl a8 rfl (d7 mB rfl) ?_
  refine M8 rfl rfl rfl (b6 rfl ?_); refine v6 rfl rfl ?_ ?_
  ·intro hg3; have hg3' := hg3; try simp at hg3'
   refine k5 hg3 ?_
   first | refine a6 ⟨_, 1, none⟩ rfl rfl p7 rfl ?_ | refine a6 _ rfl rfl p7 rfl ?_
   refine k5 hg3 ?_
   first | refine a7 rfl a8 rfl (i2 mB rfl) ?_ | refine a7 rfl a8 rfl (d8 mB rfl) ?_ | refine a7 rfl a8 rfl (b7 mB (b4 (by omega) rfl)) ?_ | refine a7 rfl a8 rfl (b8 mB (rows_get (by omega) rfl)) ?_ | refine a7 rfl a8 rfl (d7 mB rfl) ?_
   refine k5 hg3 (M8 rfl rfl rfl (k5 hg3 (b6 rfl ?_))); refine v6 rfl rfl ?_ ?_
   ·intro hg4; have hg4' := hg4; try simp at hg4'
    refine k5 hg4 ?_
    first | refine a6 ⟨_, 3, none⟩ rfl rfl l5 rfl ?_ | refine a6 _ rfl rfl l5 rfl ?_
    refine k5 hg4 ?_
    first | refine a7 rfl k4 rfl (i2 mB rfl) ?_ | refine a7 rfl k4 rfl (d8 mB rfl) ?_ | refine a7 rfl k4 rfl (b7 mB (b4 (by omega) rfl)) ?_ | refine a7 rfl k4 rfl (b8 mB (rows_get (by omega) rfl)) ?_ | refine a7 rfl k4 rfl (d7 mB rfl) ?_
    refine k5 hg4 (k6 rfl A8 rfl ?_); refine k5 hg4 (Q0 rfl rfl rfl (k5 hg3 ?_)); refine p_f rfl rfl (bf1 hg4) rfl (p_t rfl rfl (bt1 hg3) rfl (b6 rfl ?_)); refine v6 rfl rfl ?_ ?_
    ·intro hg5; have hg5' := hg5; try simp at hg5'
     refine k5 hg5 ?_
     first | refine a6 ⟨_, 2, none⟩ rfl rfl p6 rfl ?_ | refine a6 _ rfl rfl p6 rfl ?_
     refine k5 hg5 ?_
     first | refine a7 rfl a8 rfl (i2 mB rfl) ?_ | refine a7 rfl a8 rfl (d8 mB rfl) ?_ | refine a7 rfl a8 rfl (b7 mB (b4 (by omega) rfl)) ?_ | refine a7 rfl a8 rfl (b8 mB (rows_get (by omega) rfl)) ?_ | refine a7 rfl a8 rfl (d7 mB rfl) ?_
     refine k5 hg5 (J0 rfl rfl rfl (k5 hg5 (b6 rfl ?_))); refine v6 rfl rfl ?_ ?_
     ·intro hg6; have hg6' := hg6; try simp at hg6'
      refine k5 hg6 ?_
      first | refine a6 ⟨_, 1, none⟩ rfl rfl p7 rfl ?_ | refine a6 _ rfl rfl p7 rfl ?_
      refine k5 hg6 ?_
      first | refine a7 rfl a8 rfl (i2 mB rfl) ?_ | refine a7 rfl a8 rfl (d8 mB rfl) ?_ | refine a7 rfl a8 rfl (b7 mB (b4 (by omega) rfl)) ?_ | refine a7 rfl a8 rfl (b8 mB (rows_get (by omega) rfl)) ?_ | refine a7 rfl a8 rfl (d7 mB rfl) ?_
      refine k5 hg6 (J0 rfl rfl rfl (k5 hg5 ?_)); refine p_t rfl rfl (bt1 hg6) rfl ?_; refine k5 hg5 (b6 rfl ?_); refine v6 rfl rfl ?_ ?_
      ·intro hg7; have hg7' := hg7; try simp at hg7'
       refine k5 hg7 ?_
       first | refine a6 ⟨_, 3, none⟩ rfl rfl l5 rfl ?_ | refine a6 _ rfl rfl l5 rfl ?_
       refine k5 hg7 ?_
       first | refine a7 rfl k4 rfl (i2 mB rfl) ?_ | refine a7 rfl k4 rfl (d8 mB rfl) ?_ | refine a7 rfl k4 rfl (b7 mB (b4 (by omega) rfl)) ?_ | refine a7 rfl k4 rfl (b8 mB (rows_get (by omega) rfl)) ?_ | refine a7 rfl k4 rfl (d7 mB rfl) ?_
       refine k5 hg7 (k6 rfl A8 rfl ?_); refine k5 hg7 (J0 rfl rfl rfl (k5 hg5 ?_)); refine p_t rfl rfl (bt1 hg7) rfl (p_f rfl rfl (bf1 hg5) rfl (b5 ?_)); exact D5 _ () tK ⟨rfl, rfl, rfl, rfl, congrArg (fun b => some (Value.bool b)) (by simp only [kindBad, Hd.p]; simp_all), tK⟩ (List.Sublist.refl _) mC
      intro hg7; have hg7' := hg7; try simp at hg7'
      refine l8 hg7 (l8 hg7 (l8 hg7 (l8 hg7 (k5 hg5 ?_)))); refine p_f rfl rfl (bf2 hg7) rfl (p_f rfl rfl (bf1 hg5) rfl (b5 ?_)); exact D5 _ () tK ⟨rfl, rfl, rfl, rfl, congrArg (fun b => some (Value.bool b)) (by simp only [kindBad, Hd.p]; simp_all), tK⟩ (List.Sublist.refl _) mC
     intro hg6; have hg6' := hg6; try simp at hg6'
     refine l8 hg6 (l8 hg6 (l8 hg6 (k5 hg5 ?_))); refine p_f rfl rfl (bf2 hg6) rfl ?_; refine k5 hg5 (b6 rfl (S5 rfl rfl rfl rfl rfl rfl (S5 rfl rfl rfl rfl rfl rfl (S5 rfl rfl rfl rfl rfl rfl (S5 rfl rfl rfl rfl rfl rfl (k5 hg5 (p_f rfl rfl rfl rfl ?_))))))); refine p_f rfl rfl (bf1 hg5) rfl (b5 ?_); exact D5 _ () tK ⟨rfl, rfl, rfl, rfl, congrArg (fun b => some (Value.bool b)) (by simp only [kindBad, Hd.p]; simp_all), tK⟩ (List.Sublist.refl _) mC
    intro hg5; have hg5' := hg5; try simp at hg5'
    refine l8 hg5 (l8 hg5 (l8 hg5 (l8 hg5 (K6 rfl rfl rfl rfl rfl rfl (K6 rfl rfl rfl rfl rfl rfl (K6 rfl rfl rfl rfl rfl rfl (l8 hg5 (l8 hg5 (K6 rfl rfl rfl rfl rfl rfl (K6 rfl rfl rfl rfl rfl rfl (K6 rfl rfl rfl rfl rfl rfl ?_))))))))))); refine K6 rfl rfl rfl rfl rfl rfl (l8 hg5 ?_); refine p_t rfl rfl (bt2 hg5) rfl (b5 ?_); exact D5 _ () tK ⟨rfl, rfl, rfl, rfl, congrArg (fun b => some (Value.bool b)) (by simp only [kindBad, Hd.p]; simp_all), tK⟩ (List.Sublist.refl _) mC
   intro hg4; have hg4' := hg4; try simp at hg4'
   refine l8 hg4 (l8 hg4 (l8 hg4 (l8 hg4 (k5 hg3 ?_)))); refine p_t rfl rfl (bt2 hg4) rfl (p_t rfl rfl (bt1 hg3) rfl ?_); refine b6 rfl (S5 rfl rfl rfl rfl rfl rfl (S5 rfl rfl rfl rfl rfl rfl (S5 rfl rfl rfl rfl rfl rfl (S5 rfl rfl rfl rfl rfl rfl (K6 rfl rfl rfl rfl rfl rfl (K6 rfl rfl rfl rfl rfl rfl (K6 rfl rfl rfl rfl rfl rfl (S5 rfl rfl rfl rfl rfl rfl (S5 rfl rfl rfl rfl rfl rfl (K6 rfl rfl rfl rfl rfl rfl (K6 rfl rfl rfl rfl rfl rfl ?_))))))))))); refine K6 rfl rfl rfl rfl rfl rfl (K6 rfl rfl rfl rfl rfl rfl (S5 rfl rfl rfl rfl rfl rfl (p_t rfl rfl rfl rfl (b5 ?_)))); exact D5 _ () tK ⟨rfl, rfl, rfl, rfl, congrArg (fun b => some (Value.bool b)) (by simp only [kindBad, Hd.p]; simp_all), tK⟩ (List.Sublist.refl _) mC
  intro hg3; have hg3' := hg3; try simp at hg3'
  refine l8 hg3 (l8 hg3 (l8 hg3 (l8 hg3 (K6 rfl rfl rfl rfl rfl rfl (K6 rfl rfl rfl rfl rfl rfl (K6 rfl rfl rfl rfl rfl rfl (K6 rfl rfl rfl rfl rfl rfl (l8 hg3 ?_)))))))); refine p_f rfl rfl (bf2 hg3) rfl ?_; refine b6 rfl (iC rfl rfl rfl ?_)
  first | refine a6 ⟨_, 2, none⟩ rfl rfl p6 rfl ?_ | refine a6 _ rfl rfl p6 rfl ?_
  refine iC rfl rfl rfl ?_
  first | refine a7 rfl a8 rfl (i2 mB rfl) ?_ | refine a7 rfl a8 rfl (d8 mB rfl) ?_ | refine a7 rfl a8 rfl (b7 mB (b4 (by omega) rfl)) ?_ | refine a7 rfl a8 rfl (b8 mB (rows_get (by omega) rfl)) ?_ | refine a7 rfl a8 rfl (d7 mB rfl) ?_
  refine iC rfl rfl rfl (J0 rfl rfl rfl (iC rfl rfl rfl (b6 rfl ?_))); refine v6 rfl rfl ?_ ?_
  ·intro hg8; have hg8' := hg8; try simp at hg8'
   refine k5 hg8 ?_
   first | refine a6 ⟨_, 1, none⟩ rfl rfl p7 rfl ?_ | refine a6 _ rfl rfl p7 rfl ?_
   refine k5 hg8 ?_
   first | refine a7 rfl a8 rfl (i2 mB rfl) ?_ | refine a7 rfl a8 rfl (d8 mB rfl) ?_ | refine a7 rfl a8 rfl (b7 mB (b4 (by omega) rfl)) ?_ | refine a7 rfl a8 rfl (b8 mB (rows_get (by omega) rfl)) ?_ | refine a7 rfl a8 rfl (d7 mB rfl) ?_
   refine k5 hg8 (J0 rfl rfl rfl (iC rfl rfl rfl ?_)); refine p_t rfl rfl (bt1 hg8) rfl ?_; refine iC rfl rfl rfl (b6 rfl ?_); refine v6 rfl rfl ?_ ?_
   ·intro hg9; have hg9' := hg9; try simp at hg9'
    refine k5 hg9 ?_
    first | refine a6 ⟨_, 3, none⟩ rfl rfl l5 rfl ?_ | refine a6 _ rfl rfl l5 rfl ?_
    refine k5 hg9 ?_
    first | refine a7 rfl k4 rfl (i2 mB rfl) ?_ | refine a7 rfl k4 rfl (d8 mB rfl) ?_ | refine a7 rfl k4 rfl (b7 mB (b4 (by omega) rfl)) ?_ | refine a7 rfl k4 rfl (b8 mB (rows_get (by omega) rfl)) ?_ | refine a7 rfl k4 rfl (d7 mB rfl) ?_
    refine k5 hg9 (k6 rfl A8 rfl ?_); refine k5 hg9 (J0 rfl rfl rfl (iC rfl rfl rfl ?_)); refine p_t rfl rfl (bt1 hg9) rfl ?_; refine p_f rfl rfl rfl rfl (b5 ?_); exact D5 _ () tK ⟨rfl, rfl, rfl, rfl, congrArg (fun b => some (Value.bool b)) (by simp only [kindBad, Hd.p]; simp_all), tK⟩ (List.Sublist.refl _) mC
   intro hg9; have hg9' := hg9; try simp at hg9'
   refine l8 hg9 (l8 hg9 (l8 hg9 (l8 hg9 (iC rfl rfl rfl ?_)))); refine p_f rfl rfl (bf2 hg9) rfl ?_; refine p_f rfl rfl rfl rfl (b5 ?_); exact D5 _ () tK ⟨rfl, rfl, rfl, rfl, congrArg (fun b => some (Value.bool b)) (by simp only [kindBad, Hd.p]; simp_all), tK⟩ (List.Sublist.refl _) mC
  intro hg8; have hg8' := hg8; try simp at hg8'
  refine l8 hg8 (l8 hg8 (l8 hg8 (iC rfl rfl rfl ?_))); refine p_f rfl rfl (bf2 hg8) rfl ?_; refine iC rfl rfl rfl (b6 rfl (S5 rfl rfl rfl rfl rfl rfl (S5 rfl rfl rfl rfl rfl rfl (S5 rfl rfl rfl rfl rfl rfl (S5 rfl rfl rfl rfl rfl rfl (iC rfl rfl rfl (p_f rfl rfl rfl rfl (p_f rfl rfl rfl rfl (b5 ?_))))))))); exact D5 _ () tK ⟨rfl, rfl, rfl, rfl, congrArg (fun b => some (Value.bool b)) (by simp only [kindBad, Hd.p]; simp_all), tK⟩ (List.Sublist.refl _) mC
 refine fun _ _ => ?_
 first | refine k9 rfl (fun hb11 => ?_) (fun hb11 => ?_) | refine j0 rfl (fun hb11 => ?_) (fun hb11 => ?_)
 ·have hb11' := hb11; try simp at hb11'
  refine i4 (c5 rfl (c8 (E9 ?_))); exact ret1 () rfl (congrArg (fun b => some (int b)) (by rw [hH, if_pos hb11])) rfl tK nK tK
 have hb11' := hb11; try simp at hb11'
 refine i8 (i1 (i4 (c5 rfl (c8 (l4 ?_))))); exact ret1 () rfl (congrArg (fun b => some (int b)) (by rw [hH, if_neg (by rw [hb11]; simp)])) rfl tK nK tK
theorem H0 (cs : List Cl) (hs : List Hd) : (trOf cs hs).hs.length = hs.length := List.length_map ..
theorem mV {A B : Option Addr} {ca cb : Nat} (cs : List Cl) (hs : List Hd) (hca : cs.length ≤ ca) (hcb : hs.length ≤ cb) (ha : ∀ h ∈ hs, h.2.2.2.l.length ≤ 1000000) : Meets prog lS [.agg #[.slice A cs.length ca, .slice B hs.length cb]] { LI := [Row A (rows cs), RowsF B hs Hd.row], val := fun _ : Unit => int (checkT (trOf cs hs)) } := by
 refine j3 az7 rfl v8 fun w0 => i4 (O3 rfl rfl fun gB => ?_); refine c5 rfl (c8 (Y7 ?_)); have hl := H0 cs hs; refine c9 ?_
 first | refine a6 ⟨_, 0, none⟩ rfl rfl i9 rfl ?_ | refine a6 _ rfl rfl i9 rfl ?_
 first | refine a7 rfl b3 rfl (i2 mB rfl) ?_ | refine a7 rfl b3 rfl (d8 mB rfl) ?_ | refine a7 rfl b3 rfl (b7 mB (b4 (by omega) rfl)) ?_ | refine a7 rfl b3 rfl (b8 mB (rows_get (by omega) rfl)) ?_ | refine a7 rfl b3 rfl (d7 mB rfl) ?_
 refine k6 rfl n6 rfl ?_; refine Q0 rfl rfl rfl (b6 rfl ?_); refine v6 rfl rfl ?_ ?_
 ·intro hg1; have hg1' := hg1; try simp at hg1'
  have h6 : cs.length ≤ 6 := by simp at hg1; omega
  refine k5 hg1 ?_
  first | refine a6 ⟨_, 1, none⟩ rfl rfl i3 rfl ?_ | refine a6 _ rfl rfl i3 rfl ?_
  refine k5 hg1 ?_
  first | refine a7 rfl b2 rfl (i2 mB rfl) ?_ | refine a7 rfl b2 rfl (d8 mB rfl) ?_ | refine a7 rfl b2 rfl (b7 mB (b4 (by omega) rfl)) ?_ | refine a7 rfl b2 rfl (b8 mB (rows_get (by omega) rfl)) ?_ | refine a7 rfl b2 rfl (d7 mB rfl) ?_
  refine k5 hg1 (k6 rfl n4 rfl ?_); refine k5 hg1 (Q0 rfl rfl rfl ?_); refine p_f rfl rfl (bf1 hg1) rfl (c8 ?_)
  first | refine k9 rfl (fun hb1 => ?_) (fun hb1 => ?_) | refine j0 rfl (fun hb1 => ?_) (fun hb1 => ?_)
  ·have hb1' := hb1; try simp at hb1'
   refine i4 (c5 rfl (c8 (E9 ?_))); exact ret1 () rfl (congrArg (fun b => some (int b)) (by rw [checkT, if_pos (by rw [hl]; simp only; omega)])) rfl tK nK tK
  have hb1' := hb1; try simp at hb1'
  have h6h : hs.length ≤ 6 := by omega
  have hT : checkT (trOf cs hs) = if ¬ firstE (clsErr cs) cs.length = 0 then firstE (clsErr cs) cs.length else firstE (headErr (trOf cs hs)) hs.length := by rw [checkT, if_neg (by rw [hl]; simp only; omega), hl]
  refine i8 (i1 (d6 (i4 ?_)))
  first | refine a6 ⟨_, 0, none⟩ rfl rfl i9 rfl ?_ | refine a6 _ rfl rfl i9 rfl ?_
  first | refine a7 rfl b3 rfl (i2 mB rfl) ?_ | refine a7 rfl b3 rfl (d8 mB rfl) ?_ | refine a7 rfl b3 rfl (b7 mB (b4 (by omega) rfl)) ?_ | refine a7 rfl b3 rfl (b8 mB (rows_get (by omega) rfl)) ?_ | refine a7 rfl b3 rfl (d7 mB rfl) ?_
  refine k6 rfl n6 rfl ?_; refine b6 rfl (c8 (j5 ?_)); refine u6 (β := Nat) ⟨fun k => k ≤ cs.length ∧ firstE (clsErr cs) k = 0, fun k => [(1, .pointer (d9 gB)), (19, int cs.length), (20, int k)], fun _ => [(gB, .cells #[.slice A cs.length ca, .slice B hs.length cb] p8 (0, 0))], fun _ => [Row A (rows cs), RowsF B hs Hd.row]⟩ (fun k => cs.length - k) 0 ⟨Nat.zero_le _, rfl⟩ mC (List.Sublist.refl _) mC fun k hk => ?_; obtain ⟨hk, ht⟩ := hk; refine i4 (B5 rfl rfl rfl (c8 (d6 ?_)))
  first | refine k9 rfl (fun hb2 => ?_) (fun hb2 => ?_) | refine j0 rfl (fun hb2 => ?_) (fun hb2 => ?_)
  ·have hb2' := hb2; try simp at hb2'
   have hk2 : k < cs.length := by omega
   refine i8 (i1 (d6 (j5 (i4 (b6 rfl (c5 rfl (t6 ?_)))))))
   first | refine a6 ⟨_, 0, none⟩ rfl rfl i9 rfl ?_ | refine a6 _ rfl rfl i9 rfl ?_
   first | refine a7 rfl b3 rfl (i2 mB rfl) ?_ | refine a7 rfl b3 rfl (d8 mB rfl) ?_ | refine a7 rfl b3 rfl (b7 mB (b4 (by omega) rfl)) ?_ | refine a7 rfl b3 rfl (b8 mB (rows_get (by omega) rfl)) ?_ | refine a7 rfl b3 rfl (d7 mB rfl) ?_
   refine b6 rfl (j4 rK rfl rfl (qS cs k (by omega) hca hk2) t4 mC fun _ _ => ?_); refine c5 rfl (t6 (b6 rfl (M8 rfl rfl rfl (c8 ?_))))
   first | refine k9 rfl (fun hb3 => ?_) (fun hb3 => ?_) | refine j0 rfl (fun hb3 => ?_) (fun hb3 => ?_)
   ·have hb3' := hb3; try simp at hb3'
    refine i4 (b6 rfl (c5 rfl (c8 (l4 (B7 (u5 (B7 ?_))))))); exact ret1 () rfl (congrArg (fun b => some (int b)) (by rw [hT, M9 ht hb3 _ hk2, if_pos hb3])) rfl tK nK tK
   have hb3' := hb3; try simp at hb3'
   refine i8 (w6 (i1 (c9 ?_))); refine t5 _ rfl rfl rfl rfl q6 ?_; refine b6 rfl (b5 ?_); exact again _ (k + 1) ⟨by omega, by rw [dG ht]; exact Classical.not_not.1 hb3⟩ (y8 (by omega)) mC (List.Sublist.refl _) mC
  have hb2' := hb2; try simp at hb2'
  have hk2 : k = cs.length := by omega
  subst hk2; rw [if_neg (not_not_intro ht)] at hT; refine t7 (C7 (t8 (i1 (d6 (i4 ?_)))))
  first | refine a6 ⟨_, 1, none⟩ rfl rfl i3 rfl ?_ | refine a6 _ rfl rfl i3 rfl ?_
  first | refine a7 rfl b2 rfl (i2 mB rfl) ?_ | refine a7 rfl b2 rfl (d8 mB rfl) ?_ | refine a7 rfl b2 rfl (b7 mB (b4 (by omega) rfl)) ?_ | refine a7 rfl b2 rfl (b8 mB (rows_get (by omega) rfl)) ?_ | refine a7 rfl b2 rfl (d7 mB rfl) ?_
  refine k6 rfl n4 rfl ?_; refine b6 rfl (c8 (j5 ?_)); refine u6 (β := Nat) ⟨fun k => k ≤ hs.length ∧ firstE (headErr (trOf cs hs)) k = 0, fun k => [(1, .pointer (d9 gB)), (33, int hs.length), (34, int k)], fun _ => [(gB, .cells #[.slice A cs.length ca, .slice B hs.length cb] p8 (0, 0))], fun _ => [Row A (rows cs), RowsF B hs Hd.row]⟩ (fun k => hs.length - k) 0 ⟨Nat.zero_le _, rfl⟩ mC (List.Sublist.refl _) mC fun k hk => ?_; obtain ⟨hk, ht⟩ := hk; refine i4 (B5 rfl rfl rfl (c8 (d6 ?_)))
  first | refine k9 rfl (fun hb4 => ?_) (fun hb4 => ?_) | refine j0 rfl (fun hb4 => ?_) (fun hb4 => ?_)
  ·have hb4' := hb4; try simp at hb4'
   have hk2 : k < hs.length := by omega
   refine i8 (i1 (d6 (j5 (i4 (b6 rfl (c5 rfl (t6 ?_)))))))
   first | refine G3 rfl i6 c7 rfl mB (by rfl) ?_ | refine I3 rfl i6 c7 rfl mB (by rfl) ?_ | refine z8 rfl i6 c7 rfl rfl (v9 mB (B3 (by omega))) ?_
   refine b6 rfl (j4 tA rfl rfl (sI cs hs k h6h h6 hcb hk2 ha) t4 mC fun _ _ => ?_); refine c5 rfl (t6 (b6 rfl (M8 rfl rfl rfl (c8 ?_))))
   first | refine k9 rfl (fun hb5 => ?_) (fun hb5 => ?_) | refine j0 rfl (fun hb5 => ?_) (fun hb5 => ?_)
   ·have hb5' := hb5; try simp at hb5'
    refine i4 (b6 rfl (c5 rfl (c8 (l4 (B7 (u5 (B7 ?_))))))); exact ret1 () rfl (congrArg (fun b => some (int b)) (by rw [hT, M9 ht hb5 _ hk2])) rfl tK nK tK
   have hb5' := hb5; try simp at hb5'
   refine i8 (w6 (i1 (c9 ?_))); refine t5 _ rfl rfl rfl rfl q6 ?_; refine b6 rfl (b5 ?_); exact again _ (k + 1) ⟨by omega, by rw [dG ht]; exact Classical.not_not.1 hb5⟩ (y8 (by omega)) mC (List.Sublist.refl _) mC
  have hb4' := hb4; try simp at hb4'
  have hk2 : k = hs.length := by omega
  subst hk2; refine t7 (C7 (t8 (i1 (i4 (c5 rfl (c8 (l4 ?_))))))); exact ret1 () rfl (congrArg (fun b => some (int b)) (by rw [hT, ht])) rfl tK nK tK
 intro hg1; have hg1' := hg1; try simp at hg1'
 refine l8 hg1 (l8 hg1 (l8 hg1 (l8 hg1 ?_))); refine p_t rfl rfl (bt2 hg1) rfl ?_; refine c8 (c_t rfl rfl (i4 (c5 rfl (c8 (E9 ?_))))); exact ret1 () rfl (congrArg (fun b => some (int b)) (by rw [checkT, if_pos (by simp at hg1; simp only; omega)])) rfl tK nK tK
instance : El Nat where
  default := 0
  cells m := [u8 m]
  sz := 1
  len _ := rfl
  one a u h := by simp at h; subst h; rfl
inductive Kd where
  | art (c : Int) (al : Sl Int)
  | ptr (s : Int)
  | idx (al : Sl Int)
def Kd.v : Kd → Value
  | .art c al => .iface N5 (.agg #[int c, .slice al.a al.l.length al.c])
  | .ptr s => .iface N4 (.agg #[int s])
  | .idx al => .iface tM (.agg #[.slice al.a al.l.length al.c])
instance : El Kd where
  default := .ptr 0
  cells m := [m.v]
  sz := 1
  len _ := rfl
  one a u h := by simp at h; subst h; cases a <;> rfl
def kindOf (h : Hd) : Kd := if ¬ h.2.2.1 = -1 then .ptr h.2.2.1 else if ¬ h.2.1 = -1 then .art h.2.1 h.2.2.2 else .idx h.2.2.2
def kindsN (hs : List Hd) (k : Nat) : List Kd := (hs.take k).map kindOf
theorem M6 {hs : List Hd} {k : Nat} (h : k ≤ hs.length) : (kindsN hs k).length = k := by simp [kindsN, h]
theorem wU {hs : List Hd} {k : Nat} (h : k < hs.length) : kindsN hs (k + 1) = kindsN hs k ++ [kindOf (hs.getD k default)] := by
  unfold kindsN; rw [D6 hs k h, List.map_append]
  rfl
def maskOf (l : List Int) : Nat := l.foldl (fun m x => m ||| 2 ^ x.toNat) 0
theorem mq0 (l : List Int) (x : Int) : maskOf (l ++ [x]) = maskOf l ||| 2 ^ x.toNat := by unfold maskOf; rw [List.foldl_append]; rfl
theorem iz7 : ∀ (l : List Int) (m : Nat), m < 256 → (∀ x ∈ l, x.toNat < 8) → l.foldl (fun m x => m ||| 2 ^ x.toNat) m < 256
  | [], m, hm, _ => hm
  | x :: l, m, hm, h => by
    rw [List.foldl_cons]; refine iz7 l _ (Nat.or_lt_two_pow (n := 8) hm ?_) (fun y hy => h y (List.mem_cons_of_mem _ hy)); exact Nat.pow_lt_pow_right (by omega) (h x (List.mem_cons_self ..))
theorem mask_lt {l : List Int} (h : ∀ x ∈ l, x.toNat < 8) : maskOf l < 256 := iz7 l 0 (by decide) h
theorem dj4 : ∀ (l : List Int) (m j : Nat), (l.foldl (fun m x => m ||| 2 ^ x.toNat) m).testBit j = (m.testBit j || l.any fun x => x.toNat = j)
  | [], m, j => by simp
  | x :: l, m, j => by
    rw [List.foldl_cons, dj4 l, Nat.testBit_or, Nat.testBit_two_pow, List.any_cons, Bool.or_assoc]
theorem ax6 {l : List Int} (h : ∀ x ∈ l, 0 ≤ x) (j : Nat) : (maskOf l).testBit j = decide ((j : Int) ∈ l) := by
  unfold maskOf; rw [dj4, Nat.zero_testBit, Bool.false_or, Bool.eq_iff_iff, List.any_eq_true, decide_eq_true_eq]
  constructor
  · rintro ⟨x, hx, e⟩
    rw [decide_eq_true_eq] at e; have := h x hx
    rwa [show (j : Int) = x by omega]
  intro hj; exact ⟨_, hj, by simp⟩
def masksN (cs : List Cl) (k : Nat) : List Nat := (List.range k).map fun i : Nat => maskOf (pathT cs (i : Int))
theorem V3 (cs : List Cl) (k : Nat) : (masksN cs k).length = k := by simp [masksN]
theorem kj3 (cs : List Cl) (k : Nat) : masksN cs (k + 1) = masksN cs k ++ [maskOf (pathT cs (k : Int))] := by unfold masksN; rw [List.range_succ, List.map_append]; rfl
theorem vA {cs : List Cl} {k i : Nat} (h : i < k) : (masksN cs k).getD i default = maskOf (pathT cs (i : Int)) := by
  rw [B8 (by rw [V3]; exact h)]
  simp [masksN]
theorem qY {cs : List Cl} (h6 : cs.length ≤ 6) (hc : ∀ i, i < cs.length → ClsOK cs i) {c : Int} (hl : c < (cs.length : Int)) : ∀ x ∈ pathT cs c, 0 ≤ x ∧ x < 6 := fun x hx => by
  have := (yV cs hc c.toNat c (Nat.le_refl _) hl).2 x hx
  omega
theorem ax7 {cs : List Cl} (h6 : cs.length ≤ 6) (hc : ∀ i, i < cs.length → ClsOK cs i) {c : Int} (hl : c < (cs.length : Int)) : maskOf (pathT cs c) < 256 := mask_lt fun x hx => by have := qY h6 hc hl x hx; omega
theorem gx1 {cs : List Cl} (h6 : cs.length ≤ 6) (hc : ∀ i, i < cs.length → ClsOK cs i) {k : Nat} (hk : k < cs.length) : maskOf (pathT cs (k : Int)) = 2 ^ k ||| maskOf (pathT cs (cs.getD k default).2) := by
  rw [gq9 cs hc (by omega) (by omega), mq0, Nat.or_comm]
  rfl
theorem nz5 {cs : List Cl} {c : Int} (h : c < 0) : maskOf (pathT cs c) = 0 := by rw [yU cs h]; rfl
theorem pmA {α : Type} (l : List α) (a b : α) : (l ++ [a, b]).Perm (a :: (l ++ [b])) := B1 fun p => by simp only [List.countP_append, List.countP_cons, List.countP_nil]; omega
theorem pmB {α : Type} (l : List α) (a b : α) : (a :: (l ++ [b])).Perm (l ++ [a, b]) := (pmA l a b).symm
theorem pmC {α : Type} (l : List α) (a : α) : (l ++ [a]).Perm (a :: l) := List.perm_append_comm (l₂ := [a])
def beginL (cs : List Cl) (hs : List Hd) (A : Option Addr) (ca : Nat) (B : Option Addr) (cb : Nat) (x : Nat × OutC × OutC) : List Fact := [Row (some ⟨x.1, 0, none⟩) [.slice A cs.length ca, .slice B hs.length cb, .slice x.2.1.1 cs.length x.2.1.2, .slice x.2.2.1 hs.length x.2.2.2], Row x.2.1.1 (rows (masksN cs cs.length)), Row x.2.2.1 (rows (kindsN hs hs.length))]
theorem nS (m i : Nat) (hm : m < 256) (hi : i < 8) : Meets prog Y0 [u8 m, int i] { val := fun _ : Unit => u8 (m ||| 2 ^ i) } := by
 refine j3 qF rfl v8 fun w0 => ?_; refine i4 (c5 rfl (t6 (b6 rfl (b6 rfl (nq4 i rfl rfl rfl rfl hi ?_))))); refine kz2 rfl rfl rfl hm (Nat.pow_lt_pow_right (by omega) hi : 2 ^ i < 2 ^ 8) ?_; refine c5 rfl (c8 (l4 ?_)); exact ret1 () rfl rfl rfl tK nK tK
theorem cZ (m i : Nat) (hm : m < 256) (hi : i < 8) : Meets prog aE [u8 m, int i] { val := fun _ : Unit => .bool (m.testBit i) } := by
 refine j3 rI rfl v8 fun w0 => ?_; refine i4 (c5 rfl (t6 (b6 rfl (b6 rfl (nq3 i rfl rfl rfl rfl hi ?_))))); refine jz9 (b := 1) rfl rfl rfl (Nat.lt_of_le_of_lt (Nat.div_le_self _ _) hm) (by decide) ?_; refine J0 rfl rfl rfl (c5 rfl (c8 (l4 ?_))); exact ret1 () rfl (congrArg (fun b => some (Value.bool b)) (by exact pz0 m i)) rfl tK nK tK
set_option maxHeartbeats 1000000 in
theorem L9 {A B : Option Addr} {ca cb : Nat} (cs : List Cl) (hs : List Hd) (hca : cs.length ≤ ca) (hcb : hs.length ≤ cb) (ha : ∀ h ∈ hs, h.2.2.2.l.length ≤ 1000000) : Meets prog lT [.agg #[.slice A cs.length ca, .slice B hs.length cb]] { LI := [Row A (rows cs), RowsF B hs Hd.row], val := fun x : Nat × OutC × OutC => .tuple #[if checkT (trOf cs hs) = 0 then .pointer (some ⟨x.1, 0, none⟩) else .pointer none, int (checkT (trOf cs hs))], LO := fun x => if checkT (trOf cs hs) = 0 then beginL cs hs A ca B cb x else [] } := by
 refine j3 az8 rfl v8 fun w0 => i4 (O3 rfl rfl fun gB => ?_); refine c5 rfl (c5 rfl (c8 (d6 (i4 ?_))))
 first | refine G3 rfl i6 c7 rfl mB (by rfl) ?_ | refine I3 rfl i6 c7 rfl mB (by rfl) ?_ | refine z8 rfl i6 c7 rfl rfl (v9 mB (B3 (by omega))) ?_
 refine j4 nI rfl rfl (mV cs hs hca hcb ha) t4 mC fun _ _ => ?_; refine c5 rfl (t6 (b6 rfl (M8 rfl rfl rfl (c8 ?_))))
 first | refine k9 rfl (fun hb1 => ?_) (fun hb1 => ?_) | refine j0 rfl (fun hb1 => ?_) (fun hb1 => ?_)
 ·have hb1' := hb1; try simp at hb1'
  refine i4 (b6 rfl (c5 rfl (c5 rfl (c8 (E9 ?_))))); exact ret2 (0, (none, 0), (none, 0)) rfl rfl rfl (by show Value.tuple #[if checkT (trOf cs hs) = 0 then _ else _, _] = _; rw [if_neg hb1]) rfl tK nK (by show LSub _ (if checkT (trOf cs hs) = 0 then _ else []); rw [if_neg hb1]; trivial)
 have hb1' := hb1; try simp at hb1'
 have hok := mW (Classical.not_not.1 hb1); have h6 : cs.length ≤ 6 := hok.c6; have h6h := hok.h6; rw [H0] at h6h; have hcl : ∀ i, i < cs.length → ClsOK cs i := hok.c; refine i8 (i1 (i4 ?_))
 first | refine G3 rfl i6 c7 rfl mB (by rfl) ?_ | refine I3 rfl i6 c7 rfl mB (by rfl) ?_ | refine z8 rfl i6 c7 rfl rfl (v9 mB (B3 (by omega))) ?_
 refine u0 _ rfl rfl (fun _ => wM ..) (O3 rfl rfl fun gB_1 => ?_); refine c5 rfl (c8 (d6 (i4 ?_)))
 first | refine a6 ⟨_, 0, none⟩ rfl rfl i9 rfl ?_ | refine a6 _ rfl rfl i9 rfl ?_
 first | refine a7 rfl b3 rfl (i2 mB rfl) ?_ | refine a7 rfl b3 rfl (d8 mB rfl) ?_ | refine a7 rfl b3 rfl (b7 mB (b4 (by omega) rfl)) ?_ | refine a7 rfl b3 rfl (b8 mB (rows_get (by omega) rfl)) ?_ | refine a7 rfl b3 rfl (d7 mB rfl) ?_
 refine k6 rfl n6 rfl ?_; refine b6 rfl (c8 (j5 ?_)); refine u6 (β := Nat × OutC × Hp) ⟨fun x => x.1 ≤ cs.length ∧ Grow iG 1 x.2.1.1 x.1 x.2.1.2 (rows (masksN cs x.1)) x.2.2, fun x => [(1, .pointer (d9 gB)), (5, .pointer (d9 gB_1)), (20, .slice A cs.length ca), (21, int cs.length), (22, int x.1)], fun x => (gB_1, .cells #[.slice A cs.length ca, .slice B hs.length cb, .slice x.2.1.1 x.1 x.2.1.2, .slice none 0 0] nV (0, 0)) :: (x.2.2 ++ [(gB, .cells #[.slice A cs.length ca, .slice B hs.length cb] p8 (0, 0))]), fun _ => [Row A (rows cs), RowsF B hs Hd.row]⟩ (fun x => cs.length - x.1) (0, (none, 0), []) ⟨Nat.zero_le _, Grow.nil _ _⟩ mC (List.Sublist.refl _) mC fun x hx => ?_; obtain ⟨k, ⟨oa, oc⟩, og⟩ := x; obtain ⟨hk, hG⟩ := hx; simp only at hk hG; refine i4 (B5 rfl rfl rfl (c8 (d6 ?_)))
 first | refine k9 rfl (fun hb2 => ?_) (fun hb2 => ?_) | refine j0 rfl (fun hb2 => ?_) (fun hb2 => ?_)
 ·have hb2' := hb2; try simp at hb2'
  have hk2 : k < cs.length := by omega
  have hck := hcl k hk2; have hlo := hck.lo; have hhi := hck.hi; refine i8 (i1 (d6 (j5 (i4 (b6 rfl ?_))))); refine m7 (α := Cl) cs k rfl n6 u7 rfl rfl rfl mB rfl hk2 (by decide) (z8 rfl L0 u7 rfl rfl (v9 mB (B3 (by omega))) (u4 rfl (fun _ => X1 _) fun gA => c5 rfl (l6 rfl rfl X2 u7 (by rfl) (by rfl) ?_))); refine t6 (b6 rfl ?_); refine j4 pB rfl rfl (nS 0 k (by decide) (by omega)) t4 tK fun _ _ => ?_; refine c5 rfl (c8 ?_); refine I0 ⟨fun _ : Unit => True, fun _ => [(1, .pointer (d9 gB)), (5, .pointer (d9 gB_1)), (20, .slice A cs.length ca), (21, int cs.length), (22, int k), (8, u8 (maskOf (pathT cs (k : Int))))], fun _ => (gB_1, .cells #[.slice A cs.length ca, .slice B hs.length cb, .slice oa k oc, .slice none 0 0] nV (0, 0)) :: (og ++ [(gB, .cells #[.slice A cs.length ca, .slice B hs.length cb] p8 (0, 0))]), fun _ => [Row A (rows cs), RowsF B hs Hd.row]⟩ ?_ ?_
  ·skip
   refine i4 ?_
   first | refine a6 ⟨_, 1, none⟩ rfl rfl y5 rfl ?_ | refine a6 _ rfl rfl y5 rfl ?_
   first | refine a7 rfl a8 rfl (i2 mB rfl) ?_ | refine a7 rfl a8 rfl (d8 mB rfl) ?_ | refine a7 rfl a8 rfl (b7 mB (b4 (by omega) rfl)) ?_ | refine a7 rfl a8 rfl (b8 mB (rows_get (by omega) rfl)) ?_ | refine a7 rfl a8 rfl (d7 mB rfl) ?_
   refine Z4 rfl rfl rfl (c8 ?_)
   first | refine k9 rfl (fun hb3 => ?_) (fun hb3 => ?_) | refine j0 rfl (fun hb3 => ?_) (fun hb3 => ?_)
   ·have hb3' := hb3; try simp at hb3'
    obtain ⟨gC, cur, e1, e2, hnc, hcm, hcs, hct, _⟩ := hG.open_ (by omega); subst e1; subst e2
    have hcell : cur[0 + (cs.getD k default).2.toNat * 1]? = some (u8 (maskOf (pathT cs (cs.getD k default).2))) := by
      have h1 : (rows (masksN cs k))[(cs.getD k default).2.toNat * 1]? = some (u8 (maskOf (pathT cs (cs.getD k default).2))) := b4 (by rw [V3]; omega) (by rw [vA (by omega), Int.toNat_of_nonneg hb3]; rfl); rw [← hct, List.getElem?_take, if_pos (by omega)] at h1; rw [Nat.zero_add, ← Array.getElem?_toList]; exact h1
    refine C0 9 mixed (by decide) (by decide) rfl rfl (r7 rfl (r7 rfl (k8 (fun w1 => r8 rfl rfl (q_z rfl)) ?_)))
    apply k7 _ rfl rfl rfl
    ·intro w1
     first | refine a6 ⟨_, 2, none⟩ rfl rfl E5 rfl ?_ | refine a6 _ rfl rfl E5 rfl ?_
     refine b5 ?_; exact i5 rfl
    apply k7 _ rfl rfl rfl
    ·intro w1
     first | refine a7 rfl r6 rfl (d8 mB rfl) ?_ | refine a7 rfl r6 rfl (i2 mB rfl) ?_ | refine a7 rfl r6 rfl (b7 mB (b4 (by omega) rfl)) ?_ | refine a7 rfl r6 rfl (b8 mB (rows_get (by omega) rfl)) ?_ | refine a7 rfl r6 rfl (d7 mB rfl) ?_
     refine b5 ?_; exact i5 rfl
    apply k7 _ rfl rfl rfl
    ·intro w1
     first | refine a6 ⟨_, 1, none⟩ rfl rfl y5 rfl ?_ | refine a6 _ rfl rfl y5 rfl ?_
     refine b5 ?_; exact i5 rfl
    apply k7 _ rfl rfl rfl
    ·intro w1
     first | refine a7 rfl a8 rfl (d8 mB rfl) ?_ | refine a7 rfl a8 rfl (i2 mB rfl) ?_ | refine a7 rfl a8 rfl (b7 mB (b4 (by omega) rfl)) ?_ | refine a7 rfl a8 rfl (b8 mB (rows_get (by omega) rfl)) ?_ | refine a7 rfl a8 rfl (d7 mB rfl) ?_
     refine b5 ?_; exact i5 rfl
    refine k8 (fun w1 => B4 (cs.getD k default).2.toNat _ rfl S9 U5 rfl rfl (Int.toNat_of_nonneg hb3).symm (by omega) rfl (q_z rfl)) (k8 (fun w1 => a7 rfl S1 rfl (d8 mB hcell) (q_z rfl)) ?_); refine v7 ⟨rfl, ?_⟩; refine kz2 rfl rfl rfl (by rw [Nat.zero_or]; exact (Nat.pow_lt_pow_right (by omega) (by omega) : 2 ^ k < 2 ^ 8)) (ax7 h6 hcl (by omega)) ?_; refine c5 rfl (b5 ?_); exact D5 _ () tK ⟨rfl, rfl, rfl, rfl, rfl, congrArg (fun b => some (u8 b)) (by rw [Nat.zero_or]; exact (gx1 h6 hcl hk2).symm), tK⟩ (List.sublist_cons_self _ _) mC
   have hb3' := hb3; try simp at hb3'
   refine i8 ?_; exact D5 _ () tK ⟨rfl, rfl, rfl, rfl, rfl, congrArg (fun b => some (u8 b)) (by rw [gx1 h6 hcl hk2, nz5 (by omega), Nat.or_zero, Nat.zero_or]), tK⟩ (List.sublist_cons_self _ _) mC
  refine fun _ _ => ?_; refine c9 (b6 rfl (b6 rfl (r8 rfl rfl ?_)))
  first | refine a6 ⟨_, 2, none⟩ rfl rfl E5 rfl ?_ | refine a6 _ rfl rfl E5 rfl ?_
  first | refine a7 rfl r6 rfl (i2 mB rfl) ?_ | refine a7 rfl r6 rfl (d8 mB rfl) ?_ | refine a7 rfl r6 rfl (b7 mB (b4 (by omega) rfl)) ?_ | refine a7 rfl r6 rfl (b8 mB (rows_get (by omega) rfl)) ?_ | refine a7 rfl r6 rfl (d7 mB rfl) ?_
  refine b6 rfl (n7 _ rfl rfl (fun _ => pR ..) fun gS => D2 (rows [maskOf (pathT cs (k : Int))]) (List.prefix_refl _) ?_); refine E3 (k + 1) (rows (masksN cs k ++ [maskOf (pathT cs (k : Int))])) sK rfl rfl rfl hG (pmB _ _ _) (Src.row (news := rows [maskOf (pathT cs (k : Int))]) (m := 1) m0 rfl (E8 _) (by decide)) rfl (A1 _ _).symm (by unfold maxLen; omega) (by omega) fun A' c' og' hG' => ?_; refine r8 rfl rfl ?_
  first | refine a6 ⟨_, 2, none⟩ rfl rfl E5 rfl ?_ | refine a6 _ rfl rfl E5 rfl ?_
  refine C8 rfl rfl (pmA _ _ _) sJ (by rfl) (by rfl) ?_; refine b5 (w6 (i1 (c9 ?_))); refine t5 _ rfl rfl rfl rfl q6 ?_; refine b6 rfl (b5 ?_); exact again _ (k + 1, (A', c'), og') ⟨by show k + 1 ≤ cs.length; omega, by show Grow _ _ _ _ _ (rows (masksN cs (k + 1))) _; rw [kj3]; exact hG'⟩ (y8 (by omega)) mC (List.Sublist.refl _) mC
 have hb2' := hb2; try simp at hb2'
 have hk2 : k = cs.length := by omega
 subst hk2; refine t7 (C7 (t8 (i1 (Y7 ?_)))); refine Y6 (pmB _ _ _) (Z7 hG ?_); clear hG; refine c9 ?_
 first | refine a6 ⟨_, 1, none⟩ rfl rfl i3 rfl ?_ | refine a6 _ rfl rfl i3 rfl ?_
 first | refine a7 rfl b2 rfl (i2 mB rfl) ?_ | refine a7 rfl b2 rfl (d8 mB rfl) ?_ | refine a7 rfl b2 rfl (b7 mB (b4 (by omega) rfl)) ?_ | refine a7 rfl b2 rfl (b8 mB (rows_get (by omega) rfl)) ?_ | refine a7 rfl b2 rfl (d7 mB rfl) ?_
 refine k6 rfl n4 rfl ?_; refine b6 rfl (c8 (j5 (S7 mB ?_))); refine u6 (β := Nat × OutC × Hp) ⟨fun x => x.1 ≤ hs.length ∧ Grow X5 1 x.2.1.1 x.1 x.2.1.2 (rows (kindsN hs x.1)) x.2.2, fun x => [(5, .pointer (d9 gB_1)), (54, .slice B hs.length cb), (55, int hs.length), (56, int x.1)], fun x => (gB_1, .cells #[.slice A cs.length ca, .slice B hs.length cb, .slice oa cs.length oc, .slice x.2.1.1 x.1 x.2.1.2] nV (0, 0)) :: x.2.2, fun _ => [Row oa (rows (masksN cs cs.length)), Row A (rows cs), RowsF B hs Hd.row, Row B (rows hs)]⟩ (fun x => hs.length - x.1) (0, (none, 0), []) ⟨Nat.zero_le _, Grow.nil _ _⟩ mC (nK.cons_cons _) mC fun x hx => ?_; obtain ⟨k, ⟨ka, kc⟩, og2⟩ := x; obtain ⟨hk, hG⟩ := hx; simp only at hk hG; refine i4 (B5 rfl rfl rfl (c8 (d6 ?_)))
 first | refine k9 rfl (fun hb4 => ?_) (fun hb4 => ?_) | refine j0 rfl (fun hb4 => ?_) (fun hb4 => ?_)
 ·have hb4' := hb4; try simp at hb4'
  have hk2 : k < hs.length := by omega
  refine i8 (i1 (d6 (j5 (i4 ?_)))); refine m7 (α := Hd) hs k rfl n4 l7 rfl rfl rfl mB rfl hk2 (by decide) (z8 rfl C1 l7 rfl rfl (v9 mB (B3 (by omega))) (u4 rfl (fun _ => G9 _) fun gA => l6 rfl rfl X2 l7 (by rfl) (by rfl) ?_)); refine c8 (j5 (d6 ?_)); refine Q1 (rows [hs.getD k default]) ⟨[], List.append_nil _⟩ (c9 ?_)
  first | refine a6 ⟨_, 2, none⟩ rfl rfl p6 rfl ?_ | refine a6 _ rfl rfl p6 rfl ?_
  first | refine a7 rfl a8 rfl (i2 mB rfl) ?_ | refine a7 rfl a8 rfl (d8 mB rfl) ?_ | refine a7 rfl a8 rfl (b7 mB (b4 (by omega) rfl)) ?_ | refine a7 rfl a8 rfl (b8 mB (rows_get (by omega) rfl)) ?_ | refine a7 rfl a8 rfl (d7 mB rfl) ?_
  refine M8 rfl rfl rfl (c5 rfl (c8 ?_))
  first | refine k9 rfl (fun hb5 => ?_) (fun hb5 => ?_) | refine j0 rfl (fun hb5 => ?_) (fun hb5 => ?_)
  ·have hb5' := hb5; try simp at hb5'
   refine H3 (og2) ([_]) (List.perm_append_comm (l₁ := [_])) 11 [10] mixed (by decide) (by decide) (by decide) rfl rfl rfl (r7 rfl (r7 rfl (k8 (fun w1 => r8 rfl rfl (q_z rfl)) ?_)))
   apply k7 _ rfl rfl rfl
   ·intro w1
    first | refine a6 ⟨_, 3, none⟩ rfl rfl r9 rfl ?_ | refine a6 _ rfl rfl r9 rfl ?_
    refine b5 ?_; exact i5 rfl
   apply k7 _ rfl rfl rfl
   ·intro w1
    first | refine a7 rfl j7 rfl (d8 mB rfl) ?_ | refine a7 rfl j7 rfl (i2 mB rfl) ?_ | refine a7 rfl j7 rfl (b7 mB (b4 (by omega) rfl)) ?_ | refine a7 rfl j7 rfl (b8 mB (rows_get (by omega) rfl)) ?_ | refine a7 rfl j7 rfl (d7 mB rfl) ?_
    refine b5 ?_; exact i5 rfl
   apply k7 _ rfl rfl rfl
   ·intro w1
    first | refine a6 ⟨_, 2, none⟩ rfl rfl p6 rfl ?_ | refine a6 _ rfl rfl p6 rfl ?_
    refine b5 ?_; exact i5 rfl
   apply k7 _ rfl rfl rfl
   ·intro w1
    first | refine a7 rfl a8 rfl (d8 mB rfl) ?_ | refine a7 rfl a8 rfl (i2 mB rfl) ?_ | refine a7 rfl a8 rfl (b7 mB (b4 (by omega) rfl)) ?_ | refine a7 rfl a8 rfl (b8 mB (rows_get (by omega) rfl)) ?_ | refine a7 rfl a8 rfl (d7 mB rfl) ?_
    refine b5 ?_; exact i5 rfl
   refine k8 (fun w1 => u0 _ rfl rfl (fun _ => sL ..) (q_z rfl)) (k8 (fun w1 => lK rfl ⟨_, underlying122, rfl⟩ rfl (q_z rfl)) ?_); refine V9 ⟨Nat, fun _ => True, fun g => .slice (d9 g) 1 1, fun g => [Row (d9 g) (rows [Kd.ptr (hs.getD k default).2.2.1])]⟩ rfl rfl rfl ?_ ?_
   ·intro w1; refine n7 _ rfl rfl (fun _ => Z0 ..) fun gS => b5 (R8 (rows [Kd.ptr (hs.getD k default).2.2.1]) (List.prefix_refl _) ?_); exact K5 gS tK rfl ⟨m0, tK⟩
   refine nE ⟨OutC × Hp, fun x => Grow X5 1 x.1.1 (k + 1) x.1.2 (rows (kindsN hs k ++ [Kd.ptr (hs.getD k default).2.2.1])) x.2, fun x => .slice x.1.1 (k + 1) x.1.2, fun _ => [], fun x => x.2⟩ rfl rfl rfl ?_ ?_
   ·intro g9 _; intro w1; refine E3 (k + 1) (rows (kindsN hs k ++ [Kd.ptr (hs.getD k default).2.2.1])) cL rfl rfl rfl hG (hp' := []) (by rw [List.append_nil]) (Src.row (news := rows [Kd.ptr (hs.getD k default).2.2.1]) (m := 1) m0 rfl (E8 _) (by decide)) rfl (A1 _ _).symm (by unfold maxLen; omega) (by omega) fun A' c' og' hG' => ?_; refine b5 ?_; exact H4 ((A', c'), og') hG' (fun _ => rfl) (by rw [List.append_nil]; exact .refl _) tK
   refine v7 ⟨rfl, ?_⟩; intro g9 _ x hx; obtain ⟨⟨xa, xc⟩, xo⟩ := x; simp only at hx; refine r8 rfl rfl ?_
   first | refine a6 ⟨_, 3, none⟩ rfl rfl r9 rfl ?_ | refine a6 _ rfl rfl r9 rfl ?_
   refine C8 rfl rfl (pmC _ _) cJ (by rfl) (by rfl) ?_; refine b5 (w6 (w6 (i1 (c9 ?_)))); refine t5 _ rfl rfl rfl rfl q6 ?_; refine b6 rfl (b5 ?_); exact again _ (k + 1, (xa, xc), xo) ⟨by show k + 1 ≤ hs.length; omega, by show Grow _ _ _ _ _ (rows (kindsN hs (k + 1))) _; rw [wU hk2, kindOf, if_pos hb5]; exact hx⟩ (y8 (by omega)) mC (List.Sublist.refl _) mC
  have hb5' := hb5; try simp at hb5'
  refine i4 ?_
  first | refine a6 ⟨_, 1, none⟩ rfl rfl p7 rfl ?_ | refine a6 _ rfl rfl p7 rfl ?_
  first | refine a7 rfl a8 rfl (i2 mB rfl) ?_ | refine a7 rfl a8 rfl (d8 mB rfl) ?_ | refine a7 rfl a8 rfl (b7 mB (b4 (by omega) rfl)) ?_ | refine a7 rfl a8 rfl (b8 mB (rows_get (by omega) rfl)) ?_ | refine a7 rfl a8 rfl (d7 mB rfl) ?_
  refine M8 rfl rfl rfl (c5 rfl (c8 ?_))
  first | refine k9 rfl (fun hb6 => ?_) (fun hb6 => ?_) | refine j0 rfl (fun hb6 => ?_) (fun hb6 => ?_)
  ·have hb6' := hb6; try simp at hb6'
   refine H3 (og2) ([_]) (List.perm_append_comm (l₁ := [_])) 13 [12] mixed (by decide) (by decide) (by decide) rfl rfl rfl (r7 rfl (r7 rfl (k8 (fun w1 => r8 rfl rfl (q_z rfl)) ?_)))
   apply k7 _ rfl rfl rfl
   ·intro w1
    first | refine a6 ⟨_, 3, none⟩ rfl rfl r9 rfl ?_ | refine a6 _ rfl rfl r9 rfl ?_
    refine b5 ?_; exact i5 rfl
   apply k7 _ rfl rfl rfl
   ·intro w1
    first | refine a7 rfl j7 rfl (d8 mB rfl) ?_ | refine a7 rfl j7 rfl (i2 mB rfl) ?_ | refine a7 rfl j7 rfl (b7 mB (b4 (by omega) rfl)) ?_ | refine a7 rfl j7 rfl (b8 mB (rows_get (by omega) rfl)) ?_ | refine a7 rfl j7 rfl (d7 mB rfl) ?_
    refine b5 ?_; exact i5 rfl
   apply k7 _ rfl rfl rfl
   ·intro w1
    first | refine a6 ⟨_, 1, none⟩ rfl rfl p7 rfl ?_ | refine a6 _ rfl rfl p7 rfl ?_
    refine b5 ?_; exact i5 rfl
   apply k7 _ rfl rfl rfl
   ·intro w1
    first | refine a7 rfl a8 rfl (d8 mB rfl) ?_ | refine a7 rfl a8 rfl (i2 mB rfl) ?_ | refine a7 rfl a8 rfl (b7 mB (b4 (by omega) rfl)) ?_ | refine a7 rfl a8 rfl (b8 mB (rows_get (by omega) rfl)) ?_ | refine a7 rfl a8 rfl (d7 mB rfl) ?_
    refine b5 ?_; exact i5 rfl
   apply k7 _ rfl rfl rfl
   ·intro w1
    first | refine a6 ⟨_, 3, none⟩ rfl rfl l5 rfl ?_ | refine a6 _ rfl rfl l5 rfl ?_
    refine b5 ?_; exact i5 rfl
   apply k7 _ rfl rfl rfl
   ·intro w1
    first | refine a7 rfl k4 rfl (d8 mB rfl) ?_ | refine a7 rfl k4 rfl (i2 mB rfl) ?_ | refine a7 rfl k4 rfl (b7 mB (b4 (by omega) rfl)) ?_ | refine a7 rfl k4 rfl (b8 mB (rows_get (by omega) rfl)) ?_ | refine a7 rfl k4 rfl (d7 mB rfl) ?_
    refine b5 ?_; exact i5 rfl
   refine k8 (fun w1 => u0 _ rfl rfl (fun _ => pS ..) (q_z rfl)) (k8 (fun w1 => lK rfl ⟨_, underlying124, rfl⟩ rfl (q_z rfl)) ?_); refine V9 ⟨Nat, fun _ => True, fun g => .slice (d9 g) 1 1, fun g => [Row (d9 g) (rows [Kd.art (hs.getD k default).2.1 (hs.getD k default).2.2.2])]⟩ rfl rfl rfl ?_ ?_
   ·intro w1; refine n7 _ rfl rfl (fun _ => Z0 ..) fun gS => b5 (R8 (rows [Kd.art (hs.getD k default).2.1 (hs.getD k default).2.2.2]) (List.prefix_refl _) ?_); exact K5 gS tK rfl ⟨m0, tK⟩
   refine nE ⟨OutC × Hp, fun x => Grow X5 1 x.1.1 (k + 1) x.1.2 (rows (kindsN hs k ++ [Kd.art (hs.getD k default).2.1 (hs.getD k default).2.2.2])) x.2, fun x => .slice x.1.1 (k + 1) x.1.2, fun _ => [], fun x => x.2⟩ rfl rfl rfl ?_ ?_
   ·intro g9 _; intro w1; refine E3 (k + 1) (rows (kindsN hs k ++ [Kd.art (hs.getD k default).2.1 (hs.getD k default).2.2.2])) cL rfl rfl rfl hG (hp' := []) (by rw [List.append_nil]) (Src.row (news := rows [Kd.art (hs.getD k default).2.1 (hs.getD k default).2.2.2]) (m := 1) m0 rfl (E8 _) (by decide)) rfl (A1 _ _).symm (by unfold maxLen; omega) (by omega) fun A' c' og' hG' => ?_; refine b5 ?_; exact H4 ((A', c'), og') hG' (fun _ => rfl) (by rw [List.append_nil]; exact .refl _) tK
   refine v7 ⟨rfl, ?_⟩; intro g9 _ x hx; obtain ⟨⟨xa, xc⟩, xo⟩ := x; simp only at hx; refine r8 rfl rfl ?_
   first | refine a6 ⟨_, 3, none⟩ rfl rfl r9 rfl ?_ | refine a6 _ rfl rfl r9 rfl ?_
   refine C8 rfl rfl (pmC _ _) cJ (by rfl) (by rfl) ?_; refine b5 (w6 (w6 (i1 (c9 ?_)))); refine t5 _ rfl rfl rfl rfl q6 ?_; refine b6 rfl (b5 ?_); exact again _ (k + 1, (xa, xc), xo) ⟨by show k + 1 ≤ hs.length; omega, by show Grow _ _ _ _ _ (rows (kindsN hs (k + 1))) _; rw [wU hk2, kindOf, if_neg hb5, if_pos hb6]; exact hx⟩ (y8 (by omega)) mC (List.Sublist.refl _) mC
  have hb6' := hb6; try simp at hb6'
  refine H3 (og2) ([_]) (List.perm_append_comm (l₁ := [_])) 11 [10] mixed (by decide) (by decide) (by decide) rfl rfl rfl (r7 rfl (r7 rfl (k8 (fun w1 => r8 rfl rfl (q_z rfl)) ?_)))
  apply k7 _ rfl rfl rfl
  ·intro w1
   first | refine a6 ⟨_, 3, none⟩ rfl rfl r9 rfl ?_ | refine a6 _ rfl rfl r9 rfl ?_
   refine b5 ?_; exact i5 rfl
  apply k7 _ rfl rfl rfl
  ·intro w1
   first | refine a7 rfl j7 rfl (d8 mB rfl) ?_ | refine a7 rfl j7 rfl (i2 mB rfl) ?_ | refine a7 rfl j7 rfl (b7 mB (b4 (by omega) rfl)) ?_ | refine a7 rfl j7 rfl (b8 mB (rows_get (by omega) rfl)) ?_ | refine a7 rfl j7 rfl (d7 mB rfl) ?_
   refine b5 ?_; exact i5 rfl
  apply k7 _ rfl rfl rfl
  ·intro w1
   first | refine a6 ⟨_, 3, none⟩ rfl rfl l5 rfl ?_ | refine a6 _ rfl rfl l5 rfl ?_
   refine b5 ?_; exact i5 rfl
  apply k7 _ rfl rfl rfl
  ·intro w1
   first | refine a7 rfl k4 rfl (d8 mB rfl) ?_ | refine a7 rfl k4 rfl (i2 mB rfl) ?_ | refine a7 rfl k4 rfl (b7 mB (b4 (by omega) rfl)) ?_ | refine a7 rfl k4 rfl (b8 mB (rows_get (by omega) rfl)) ?_ | refine a7 rfl k4 rfl (d7 mB rfl) ?_
   refine b5 ?_; exact i5 rfl
  refine k8 (fun w1 => u0 _ rfl rfl (fun _ => vK ..) (q_z rfl)) (k8 (fun w1 => lK rfl ⟨_, underlying126, rfl⟩ rfl (q_z rfl)) ?_); refine V9 ⟨Nat, fun _ => True, fun g => .slice (d9 g) 1 1, fun g => [Row (d9 g) (rows [Kd.idx (hs.getD k default).2.2.2])]⟩ rfl rfl rfl ?_ ?_
  ·intro w1; refine n7 _ rfl rfl (fun _ => Z0 ..) fun gS => b5 (R8 (rows [Kd.idx (hs.getD k default).2.2.2]) (List.prefix_refl _) ?_); exact K5 gS tK rfl ⟨m0, tK⟩
  refine nE ⟨OutC × Hp, fun x => Grow X5 1 x.1.1 (k + 1) x.1.2 (rows (kindsN hs k ++ [Kd.idx (hs.getD k default).2.2.2])) x.2, fun x => .slice x.1.1 (k + 1) x.1.2, fun _ => [], fun x => x.2⟩ rfl rfl rfl ?_ ?_
  ·intro g9 _; intro w1; refine E3 (k + 1) (rows (kindsN hs k ++ [Kd.idx (hs.getD k default).2.2.2])) cL rfl rfl rfl hG (hp' := []) (by rw [List.append_nil]) (Src.row (news := rows [Kd.idx (hs.getD k default).2.2.2]) (m := 1) m0 rfl (E8 _) (by decide)) rfl (A1 _ _).symm (by unfold maxLen; omega) (by omega) fun A' c' og' hG' => ?_; refine b5 ?_; exact H4 ((A', c'), og') hG' (fun _ => rfl) (by rw [List.append_nil]; exact .refl _) tK
  refine v7 ⟨rfl, ?_⟩; intro g9 _ x hx; obtain ⟨⟨xa, xc⟩, xo⟩ := x; simp only at hx; refine r8 rfl rfl ?_
  first | refine a6 ⟨_, 3, none⟩ rfl rfl r9 rfl ?_ | refine a6 _ rfl rfl r9 rfl ?_
  refine C8 rfl rfl (pmC _ _) cJ (by rfl) (by rfl) ?_; refine b5 (w6 (w6 (i1 (c9 ?_)))); refine t5 _ rfl rfl rfl rfl q6 ?_; refine b6 rfl (b5 ?_); exact again _ (k + 1, (xa, xc), xo) ⟨by show k + 1 ≤ hs.length; omega, by show Grow _ _ _ _ _ (rows (kindsN hs (k + 1))) _; rw [wU hk2, kindOf, if_neg hb5, if_neg hb6]; exact hx⟩ (y8 (by omega)) mC (List.Sublist.refl _) mC
 have hb4' := hb4; try simp at hb4'
 have hk2 : k = hs.length := by omega
 subst hk2; refine t7 (C7 (t8 (i1 (i4 (b6 rfl (c5 rfl (c5 rfl (c8 ?_)))))))); refine l4 ?_; have h0 := Classical.not_not.1 hb1; refine R8 [.slice A cs.length ca, .slice B hs.length cb, .slice oa cs.length oc, .slice ka hs.length kc] (List.prefix_refl _) (lC hG ?_); exact ret2 (gB_1, (oa, oc), (ka, kc)) rfl rfl rfl (by show Value.tuple #[if checkT (trOf cs hs) = 0 then _ else _, int (checkT (trOf cs hs))] = _; rw [if_pos h0, h0]) rfl tK nK (by show LSub _ (if checkT (trOf cs hs) = 0 then _ else []); rw [if_pos h0]; exact mC)
theorem dj3 {cs : List Cl} (h6 : cs.length ≤ 6) (hc : ∀ i, i < cs.length → ClsOK cs i) {i : Nat} (h : i < cs.length) : (masksN cs cs.length).getD i default < 256 := by
  rw [vA h]; exact ax7 h6 hc (by omega)
theorem vB {cs : List Cl} (h6 : cs.length ≤ 6) (hc : ∀ i, i < cs.length → ClsOK cs i) {a : Int} (h0 : 0 ≤ a) (h : a < (cs.length : Int)) (j : Nat) : ((masksN cs cs.length).getD a.toNat default).testBit j = decide ((j : Int) ∈ pathT cs a) := by
  rw [vA (by omega), Int.toNat_of_nonneg h0, ax6 fun x hx => (qY h6 hc h x hx).1]
def leastE (t : Tr) (a b : Int) : Int × Int := if ¬ checkT t = 0 then (0, checkT t) else if ¬ ((0 ≤ a ∧ a ≤ (t.cs.length : Int) - 1) ∧ (0 ≤ b ∧ b ≤ (t.cs.length : Int) - 1)) then (0, 3) else (leastT t a b, 0)
theorem iz9 (p q : List Int) (k : Nat) : leastN p q (k + 1) = if (k : Int) ∈ p ∧ (k : Int) ∈ q then (k : Int) else leastN p q k := rfl
set_option maxHeartbeats 1000000 in
theorem yK {A B : Option Addr} {ca cb : Nat} (cs : List Cl) (hs : List Hd) (a b : Int) (hca : cs.length ≤ ca) (hcb : hs.length ≤ cb) (ha : ∀ h ∈ hs, h.2.2.2.l.length ≤ 1000000) : Meets prog gK [.agg #[.slice A cs.length ca, .slice B hs.length cb], int a, int b] { LI := [Row A (rows cs), RowsF B hs Hd.row], val := fun _ : Unit => .tuple #[int (leastE (trOf cs hs) a b).1, int (leastE (trOf cs hs) a b).2] } := by
 refine j3 bj1 rfl v8 fun w0 => i4 (O3 rfl rfl fun gB => ?_); refine c5 rfl (c5 rfl (c8 ?_)); refine I0 ⟨fun _ : Nat × OutC × OutC => True, fun x => [(1, int a), (2, int b), (3, .pointer (d9 gB)), (8, if checkT (trOf cs hs) = 0 then .pointer (some ⟨x.1, 0, none⟩) else .pointer none), (9, int (checkT (trOf cs hs)))], fun _ => [(gB, .cells #[.slice A cs.length ca, .slice B hs.length cb] p8 (0, 0))], fun x => (if checkT (trOf cs hs) = 0 then beginL cs hs A ca B cb x else []) ++ [Row A (rows cs), RowsF B hs Hd.row]⟩ ?_ ?_
 ·skip
  refine c9 ?_
  first | refine G3 rfl i6 c7 rfl mB (by rfl) ?_ | refine I3 rfl i6 c7 rfl mB (by rfl) ?_ | refine z8 rfl i6 c7 rfl rfl (v9 mB (B3 (by omega))) ?_
  refine j4 M3 rfl rfl (L9 cs hs hca hcb ha) t4 mC fun x _ => ?_; refine b6 rfl (l3 rfl rfl rfl (l3 rfl rfl rfl (c5 rfl (c5 rfl (b5 ?_))))); exact D5 _ x tK mC (List.Sublist.refl _) (LSub.of_mem fun F h => h)
 refine fun x _ => ?_
 dsimp only
 refine d6 (j5 (i4 (b6 rfl (M8 rfl rfl rfl (c5 rfl (c8 ?_))))))
 first | refine k9 rfl (fun hb1 => ?_) (fun hb1 => ?_) | refine j0 rfl (fun hb1 => ?_) (fun hb1 => ?_)
 ·have hb1' := hb1; try simp at hb1'
  refine i4 (b6 rfl (c5 rfl (c5 rfl (c8 (l4 (B7 ?_)))))); exact ret2 () rfl rfl rfl (by show Value.tuple #[int (leastE _ _ _).1, int (leastE _ _ _).2] = _; rw [leastE, if_pos hb1]) rfl tK nK tK
 have hb1' := hb1; try simp at hb1'
 have h0 := Classical.not_not.1 hb1; rw [if_pos h0, if_pos h0]; have hok := mW h0; have h6 : cs.length ≤ 6 := hok.c6; have h6h := hok.h6; rw [H0] at h6h; have hcl : ∀ i, i < cs.length → ClsOK cs i := hok.c; obtain ⟨gl, ⟨oa, oc⟩, ⟨ka, kc⟩⟩ := x; show HC _ _ _ _ _ [Row (d9 gl) [.slice A cs.length ca, .slice B hs.length cb, .slice oa cs.length oc, .slice ka hs.length kc], Row oa (rows (masksN cs cs.length)), Row ka (rows (kindsN hs hs.length)), Row A (rows cs), RowsF B hs Hd.row]; refine I0 ⟨fun _ : Unit => True, fun _ => [(1, int a), (2, int b), (3, .pointer (d9 gB)), (8, .pointer (d9 gl)), (20, .bool (decide (¬ ((0 ≤ a ∧ a ≤ (cs.length : Int) - 1) ∧ (0 ≤ b ∧ b ≤ (cs.length : Int) - 1)))))], fun _ => [(gB, .cells #[.slice A cs.length ca, .slice B hs.length cb] p8 (0, 0))], fun _ => [Row (d9 gl) [.slice A cs.length ca, .slice B hs.length cb, .slice oa cs.length oc, .slice ka hs.length kc], Row oa (rows (masksN cs cs.length)), Row ka (rows (kindsN hs hs.length)), Row A (rows cs), RowsF B hs Hd.row]⟩ ?_ ?_
 ·skip
  refine i4 (b6 rfl ?_)
  first | refine a6 ⟨_, 0, none⟩ rfl rfl i9 rfl ?_ | refine a6 _ rfl rfl i9 rfl ?_
  first | refine a7 rfl b3 rfl (i2 mB rfl) ?_ | refine a7 rfl b3 rfl (d8 mB rfl) ?_ | refine a7 rfl b3 rfl (b7 mB (b4 (by omega) rfl)) ?_ | refine a7 rfl b3 rfl (b8 mB (rows_get (by omega) rfl)) ?_ | refine a7 rfl b3 rfl (d7 mB rfl) ?_
  refine k6 rfl n6 rfl (P9 _ rfl rfl rfl rfl q6 (j4 J1 rfl rfl (I8 _ _ _) t4 tK fun _ _ => ?_)); refine H6 rfl rfl (c5 rfl (c8 ?_))
  first | refine k9 rfl (fun hb2 => ?_) (fun hb2 => ?_) | refine j0 rfl (fun hb2 => ?_) (fun hb2 => ?_)
  ·have hb2' := hb2; try simp at hb2'
   refine i8 ?_; exact D5 _ () tK ⟨rfl, rfl, rfl, rfl, congrArg (fun b => some (Value.bool b)) (by rw [hb2]; symm; rw [decide_eq_true_eq]; exact fun e => nbw hb2 e.1), tK⟩ (List.Sublist.refl _) mC
  have hb2' := hb2; try simp at hb2'
  refine c9 (b6 rfl ?_)
  first | refine a6 ⟨_, 0, none⟩ rfl rfl i9 rfl ?_ | refine a6 _ rfl rfl i9 rfl ?_
  first | refine a7 rfl b3 rfl (i2 mB rfl) ?_ | refine a7 rfl b3 rfl (d8 mB rfl) ?_ | refine a7 rfl b3 rfl (b7 mB (b4 (by omega) rfl)) ?_ | refine a7 rfl b3 rfl (b8 mB (rows_get (by omega) rfl)) ?_ | refine a7 rfl b3 rfl (d7 mB rfl) ?_
  refine k6 rfl n6 rfl (P9 _ rfl rfl rfl rfl q6 (j4 J1 rfl rfl (I8 _ _ _) t4 tK fun _ _ => ?_)); refine H6 rfl rfl (c5 rfl (b5 ?_)); exact D5 _ () tK ⟨rfl, rfl, rfl, rfl, congrArg (fun b => some (Value.bool b)) (by have := bw hb2; rw [Bool.eq_iff_iff]; simp only [Bool.not_eq_true', decide_eq_false_iff_not, decide_eq_true_eq]; exact ⟨fun e f => e f.2, fun e f => e ⟨this, f⟩⟩), tK⟩ (List.Sublist.refl _) mC
 refine fun _ _ => ?_
 first | refine k9 rfl (fun hb3 => ?_) (fun hb3 => ?_) | refine j0 rfl (fun hb3 => ?_) (fun hb3 => ?_)
 ·have hb3' := hb3; try simp at hb3'
  refine i4 (c5 rfl (c5 rfl (c8 (l4 (B7 ?_))))); exact ret2 () rfl rfl rfl (by show Value.tuple #[int (leastE _ _ _).1, int (leastE _ _ _).2] = _; rw [leastE, if_neg hb1, if_pos hb3]) rfl tK nK tK
 have hb3' := hb3; try simp at hb3'
 have hr := Classical.not_not.1 hb3; have hE : leastE (trOf cs hs) a b = (leastN (pathT cs a) (pathT cs b) cs.length, 0) := by rw [leastE, if_neg hb1, if_neg hb3]; rfl
 refine i8 (w6 (i1 (d6 (i4 ?_))))
 first | refine a6 ⟨_, 0, none⟩ rfl rfl i9 rfl ?_ | refine a6 _ rfl rfl i9 rfl ?_
 first | refine a7 rfl b3 rfl (i2 mB rfl) ?_ | refine a7 rfl b3 rfl (d8 mB rfl) ?_ | refine a7 rfl b3 rfl (b7 mB (b4 (by omega) rfl)) ?_ | refine a7 rfl b3 rfl (b8 mB (rows_get (by omega) rfl)) ?_ | refine a7 rfl b3 rfl (d7 mB rfl) ?_
 refine k6 rfl n6 rfl (P9 _ rfl rfl rfl rfl q6 ?_); refine c5 rfl (c8 (j5 ?_)); refine u6 (β := Nat) ⟨fun k => k ≤ cs.length ∧ leastN (pathT cs a) (pathT cs b) cs.length = leastN (pathT cs a) (pathT cs b) k, fun k => [(1, int a), (2, int b), (8, .pointer (d9 gl)), (10, int ((k : Int) - 1))], fun _ => [], fun _ => [Row (d9 gl) [.slice A cs.length ca, .slice B hs.length cb, .slice oa cs.length oc, .slice ka hs.length kc], Row oa (rows (masksN cs cs.length)), Row ka (rows (kindsN hs hs.length)), Row A (rows cs), RowsF B hs Hd.row]⟩ (fun k => k) cs.length ⟨Nat.le_refl _, rfl⟩ mC nK mC fun k hk => ?_; obtain ⟨hk, ht⟩ := hk; refine d6 (i4 (b6 rfl (Z4 rfl rfl rfl (c8 ?_))))
 first | refine k9 rfl (fun hb4 => ?_) (fun hb4 => ?_) | refine j0 rfl (fun hb4 => ?_) (fun hb4 => ?_)
 ·have hb4' := hb4; try simp at hb4'
  obtain ⟨j, rfl⟩ : ∃ j, k = j + 1 := ⟨k - 1, by omega⟩; rw [iz9] at ht; have hj1 : (((j + 1 : Nat) : Int) - 1) = (j : Int) := by omega
  refine i8 (i1 (d6 (j5 (d6 ?_)))); refine C0 16 mixed (by decide) (by decide) rfl rfl (r7 rfl (k8 (fun w1 => r8 rfl rfl (q_z rfl)) ?_))
  apply k7 _ rfl rfl rfl
  ·intro w1
   first | refine a6 ⟨_, 2, none⟩ rfl rfl E5 rfl ?_ | refine a6 _ rfl rfl E5 rfl ?_
   refine b5 ?_; exact i5 rfl
  apply k7 _ rfl rfl rfl
  ·intro w1
   first | refine a7 rfl r6 rfl (d8 mB rfl) ?_ | refine a7 rfl r6 rfl (i2 mB rfl) ?_ | refine a7 rfl r6 rfl (b7 mB (b4 (by omega) rfl)) ?_ | refine a7 rfl r6 rfl (b8 mB (rows_get (by omega) rfl)) ?_ | refine a7 rfl r6 rfl (d7 mB rfl) ?_
   refine b5 ?_; exact i5 rfl
  refine r7 rfl ?_; refine k8 (fun w1 => m7 (α := Nat) (masksN cs cs.length) a.toNat rfl S9 U5 rfl rfl (Int.toNat_of_nonneg hr.1.1).symm mB (V3 _ _).symm (by rw [V3]; omega) (by decide) (q_z rfl)) ?_; refine k8 (fun w1 => a7 (v := u8 ((masksN cs cs.length).getD a.toNat default)) rfl S1 rfl (b7 mB (b4 (by rw [V3]; omega) rfl)) (q_z rfl)) ?_; refine r7 rfl (k8 (fun w1 => r8 rfl rfl (q_z rfl)) ?_)
  apply k7 _ rfl rfl rfl
  ·intro w1
   first | refine a6 ⟨_, 2, none⟩ rfl rfl E5 rfl ?_ | refine a6 _ rfl rfl E5 rfl ?_
   refine b5 ?_; exact i5 rfl
  apply k7 _ rfl rfl rfl
  ·intro w1
   first | refine a7 rfl r6 rfl (d8 mB rfl) ?_ | refine a7 rfl r6 rfl (i2 mB rfl) ?_ | refine a7 rfl r6 rfl (b7 mB (b4 (by omega) rfl)) ?_ | refine a7 rfl r6 rfl (b8 mB (rows_get (by omega) rfl)) ?_ | refine a7 rfl r6 rfl (d7 mB rfl) ?_
   refine b5 ?_; exact i5 rfl
  refine r7 rfl ?_; refine k8 (fun w1 => m7 (α := Nat) (masksN cs cs.length) b.toNat rfl S9 U5 rfl rfl (Int.toNat_of_nonneg hr.2.1).symm mB (V3 _ _).symm (by rw [V3]; omega) (by decide) (q_z rfl)) ?_; refine k8 (fun w1 => a7 (v := u8 ((masksN cs cs.length).getD b.toNat default)) rfl S1 rfl (b7 mB (b4 (by rw [V3]; omega) rfl)) (q_z rfl)) ?_; refine k8 (fun w1 => jz9 (a := ((masksN cs cs.length).getD a.toNat default)) (b := ((masksN cs cs.length).getD b.toNat default)) rfl rfl rfl (dj3 (i := a.toNat) h6 hcl (by omega)) (dj3 (i := b.toNat) h6 hcl (by omega)) (q_z rfl)) ?_; refine k8 (fun w1 => qX (v := int j) rfl (congrArg (fun z => some (int z)) hj1) (q_z rfl)) ?_; refine v7 ⟨rfl, ?_⟩; refine j4 dF rfl rfl (cZ ((masksN cs cs.length).getD a.toNat default &&& (masksN cs cs.length).getD b.toNat default) j (Nat.lt_of_le_of_lt Nat.and_le_left (dj3 (i := a.toNat) h6 hcl (by omega))) (by omega)) t4 tK fun _ _ => c8 ?_
  first | refine k9 rfl (fun hb5 => ?_) (fun hb5 => ?_) | refine j0 rfl (fun hb5 => ?_) (fun hb5 => ?_)
  ·have hb5' := hb5; try simp at hb5'
   rw [Nat.testBit_and, vB h6 hcl hr.1.1 (by omega), vB h6 hcl hr.2.1 (by omega), ← Bool.decide_and, decide_eq_true_eq] at hb5; rw [if_pos hb5] at ht; refine i4 (b6 rfl (c5 rfl (c5 rfl (c8 (l4 (B7 (u5 (jE ?_)))))))); refine u5 ?_; exact ret2 () rfl rfl rfl (by rw [hE, ht, hj1]) rfl tK nK tK
  have hb5' := hb5; try simp at hb5'
  rw [Nat.testBit_and, vB h6 hcl hr.1.1 (by omega), vB h6 hcl hr.2.1 (by omega), ← Bool.decide_and, decide_eq_false_iff_not] at hb5; rw [if_neg hb5] at ht; refine i8 (w6 (i1 (c9 (b6 rfl ?_)))); refine P9 ((j : Int) - 1) rfl rfl rfl (by omega) q6 ?_; refine c5 rfl (b5 ?_); exact again _ j ⟨by omega, ht⟩ (by show j < j + 1; omega) mC nK mC
 have hb4' := hb4; try simp at hb4'
 have hk0 : k = 0 := by omega
 subst hk0; refine t7 (C7 (t8 (i1 (i4 (c5 rfl (c5 rfl (c8 (l4 ?_)))))))); exact ret2 () rfl rfl rfl (by rw [hE, ht]; rfl) rfl tK nK tK
theorem zv_ptr (w : World) : (zeroValue N4).run prog w = .ok (.agg #[int 0]) w := w7
theorem zv_art (w : World) : (zeroValue N5).run prog w = .ok (.agg #[int 0, .slice none 0 0]) w := w7
def Kd.isP : Kd → Bool | .ptr _ => true | _ => false
def Kd.isA : Kd → Bool | .art _ _ => true | _ => false
def Kd.see : Kd → Int | .ptr s => s | _ => 0
def Kd.cls : Kd → Int | .art c _ => c | _ => 0
def Kd.als : Kd → Sl Int | .art _ a => a | _ => ⟨none, 0, []⟩
section
variable {c : Cx} {Q : Exit → Act → World → Prop} {fr : Fr} {hp : Hp} {L : List Fact} {ops : Array Oper} {rest : List Oper} {d : Tmp} {ty : TypeId} {pos : String} {af : Array Edge}
theorem r_asP {xt : TypeId} {x : Operand} {kd : Kd} (hd : Nat.blt d c.n = true) (hP : c.P = prog) (hx : ev fr x = some kd.v) (k : HL c ops Q rest ((d, .tuple #[.agg #[int kd.see], .bool kd.isP]) :: fr) hp L) : HL c ops Q (⟨some d, .typeAssert x xt N4 true, ty, pos, af, none⟩ :: rest) fr hp L := by
  have ht : NoI c.P N4 := by rw [hP]; exact ⟨_, underlying122, rfl⟩
  have hz : ∀ w, (zeroValue N4).run c.P w = .ok (.agg #[int 0]) w := by rw [hP]; exact zv_ptr
  cases kd with
  | ptr s => exact gq7 hd ht hx k
  | art a b => exact uW hd ht hx rfl hz k
  | idx b => exact uW hd ht hx rfl hz k
theorem r_asA {xt : TypeId} {x : Operand} {kd : Kd} (hd : Nat.blt d c.n = true) (hP : c.P = prog) (hx : ev fr x = some kd.v) (k : HL c ops Q rest ((d, .tuple #[.agg #[int kd.cls, .slice kd.als.a kd.als.l.length kd.als.c], .bool kd.isA]) :: fr) hp L) : HL c ops Q (⟨some d, .typeAssert x xt N5 true, ty, pos, af, none⟩ :: rest) fr hp L := by
  have ht : NoI c.P N5 := by rw [hP]; exact ⟨_, underlying124, rfl⟩
  have hz : ∀ w, (zeroValue N5).run c.P w = .ok (.agg #[int 0, .slice none 0 0]) w := by rw [hP]; exact zv_art
  cases kd with
  | art a b => exact gq7 hd ht hx k
  | ptr s => exact uW hd ht hx rfl hz k
  | idx b => exact uW hd ht hx rfl hz k
end
theorem tZ {hs : List Hd} {i : Nat} (h : i < hs.length) : (kindsN hs hs.length).getD i default = kindOf (hs.getD i default) := by
  rw [B8 (by rw [M6 (Nat.le_refl _)]; exact h), B8 h]
  simp [kindsN]
theorem hx6 (h : Hd) : (kindOf h).isP = decide (¬ h.2.2.1 = -1) := by
  unfold kindOf
  split
  · rename_i e; simp [Kd.isP, e]
  rename_i e; split <;> simp [Kd.isP, Classical.not_not.1 e]
theorem see_of {h : Hd} (e : ¬ h.2.2.1 = -1) : (kindOf h).see = h.2.2.1 := by unfold kindOf; rw [if_pos e]; rfl
theorem isA_of (h : Hd) : (kindOf h).isA = (decide (h.2.2.1 = -1) && decide (¬ h.2.1 = -1)) := by
  unfold kindOf
  split
  · rename_i e; simp [Kd.isA, e]
  rename_i e
  split
  · rename_i e2; simp [Kd.isA, Classical.not_not.1 e, e2]
  rename_i e2; simp [Kd.isA, Classical.not_not.1 e2]
theorem isTr_at (cs : List Cl) {hs : List Hd} {i : Int} (h0 : 0 ≤ i) (h : i < (hs.length : Int)) : (kindOf (hs.getD i.toNat default)).isA = isTrB (trOf cs hs) i := by
  rw [isA_of, isTrB]; simp only [trOf, V4 (show i.toNat < hs.length by omega)]
  rfl
abbrev folR (o : Option (Int × Int)) : Value := .tuple #[int (o.getD (0, 0)).1, int (o.getD (0, 0)).2, .bool o.isSome]
def SeesOK (hs : List Hd) : Prop := ∀ i, i < hs.length → -1 ≤ (hs.getD i default).2.2.1 ∧ (hs.getD i default).2.2.1 < (hs.length : Int)
theorem kx6 {cs : List Cl} {hs : List Hd} (h : TrOK (trOf cs hs)) : SeesOK hs := fun i hi => by
  have h1 := (h.h i (by rw [H0]; exact hi)).s; simp only [trOf, V4 hi] at h1; have h2 := h1.2.1; rw [List.length_map] at h2; exact ⟨h1.1, h2⟩
theorem p_see (h : Hd) : h.p.2.2.1 = h.2.2.1 := rfl
theorem bR {A B oa ka : Option Addr} {ca cb oc kc gl : Nat} (cs : List Cl) (hs : List Hd) (i : Int) (h0 : 0 ≤ i) (h : i < (hs.length : Int)) (hl : hs.length ≤ 6) : Meets prog X9 [.pointer (d9 gl), int i] { LI := [Row (d9 gl) [.slice A cs.length ca, .slice B hs.length cb, .slice oa cs.length oc, .slice ka hs.length kc], Row ka (rows (kindsN hs hs.length))], val := fun _ : Unit => .bool (isTrB (trOf cs hs) i) } := by
 refine j3 qE rfl v8 fun w0 => ?_; refine i4 (c5 rfl (t6 (b6 rfl (r8 rfl rfl ?_))))
 first | refine a6 ⟨_, 3, none⟩ rfl rfl r9 rfl ?_ | refine a6 _ rfl rfl r9 rfl ?_
 first | refine a7 rfl j7 rfl (i2 mB rfl) ?_ | refine a7 rfl j7 rfl (d8 mB rfl) ?_ | refine a7 rfl j7 rfl (b7 mB (b4 (by omega) rfl)) ?_ | refine a7 rfl j7 rfl (b8 mB (rows_get (by omega) rfl)) ?_ | refine a7 rfl j7 rfl (d7 mB rfl) ?_
 refine b6 rfl ?_; refine m7 (α := Kd) (kindsN hs hs.length) i.toNat rfl G7 U9 rfl rfl (Int.toNat_of_nonneg h0).symm mB (M6 (Nat.le_refl _)).symm (by rw [M6 (Nat.le_refl _)]; omega) (by decide) ?_; refine a7 (v := Kd.v (kindOf (hs.getD i.toNat default))) rfl R4 rfl (b7 mB (b4 (by rw [M6 (Nat.le_refl _)]; omega) (by rw [tZ (by omega)]; rfl))) ?_; refine r_asA rfl rfl rfl (b6 rfl (l3 rfl rfl rfl (l3 rfl rfl rfl ?_))); refine u4 rfl (fun _ => vL _) fun gA => l6 rfl rfl X2 vI (by rfl) (by rfl) ?_; refine c5 rfl (t6 (b6 rfl (c5 rfl (c8 (l4 ?_))))); exact ret1 () rfl (congrArg (fun b => some (Value.bool b)) (by exact isTr_at cs h0 h)) rfl tK nK tK
theorem cY {A B oa ka : Option Addr} {ca cb oc kc gl : Nat} (cs : List Cl) (hs : List Hd) (h : Int) (h0 : 0 ≤ h) (hh : h < (hs.length : Int)) (hl : hs.length ≤ 6) (hS : SeesOK hs) : Meets prog aD [.pointer (d9 gl), int h] { LI := [Row (d9 gl) [.slice A cs.length ca, .slice B hs.length cb, .slice oa cs.length oc, .slice ka hs.length kc], Row ka (rows (kindsN hs hs.length))], val := fun _ : Unit => folR (followT (trOf cs hs) h) } := by
 refine j3 rG rfl v8 fun w0 => ?_; refine i4 (c5 rfl (c5 rfl (c5 rfl (c8 (d6 (i4 (b6 rfl (r8 rfl rfl ?_))))))))
 first | refine a6 ⟨_, 3, none⟩ rfl rfl r9 rfl ?_ | refine a6 _ rfl rfl r9 rfl ?_
 first | refine a7 rfl j7 rfl (i2 mB rfl) ?_ | refine a7 rfl j7 rfl (d8 mB rfl) ?_ | refine a7 rfl j7 rfl (b7 mB (b4 (by omega) rfl)) ?_ | refine a7 rfl j7 rfl (b8 mB (rows_get (by omega) rfl)) ?_ | refine a7 rfl j7 rfl (d7 mB rfl) ?_
 refine k6 rfl G7 rfl (t5 _ rfl rfl rfl rfl q6 ?_); refine b6 rfl (c8 (j5 ?_)); refine u6 (β := Nat × Int) ⟨fun x => x.1 ≤ hs.length + 1 ∧ 0 ≤ x.2 ∧ x.2 < (hs.length : Int) ∧ followT (trOf cs hs) h = followN (hs.map Hd.p) (hs.length + 1 - x.1) x.2 (x.1 : Int), fun x => [(0, .pointer (d9 gl)), (1, int x.2), (15, int ((hs.length : Int) + 1)), (16, int x.1)], fun _ => [], fun _ => [Row (d9 gl) [.slice A cs.length ca, .slice B hs.length cb, .slice oa cs.length oc, .slice ka hs.length kc], Row ka (rows (kindsN hs hs.length))]⟩ (fun x => hs.length + 1 - x.1) (0, h) ⟨Nat.zero_le _, h0, hh, by rw [followT, H0]; rfl⟩ mC (List.Sublist.refl _) mC fun x hx => ?_; obtain ⟨k, y⟩ := x; obtain ⟨hk, h0, hy, ht⟩ := hx; simp only at hk h0 hy ht; refine i4 (B5 rfl rfl rfl (c8 (d6 ?_)))
 first | refine k9 rfl (fun hb1 => ?_) (fun hb1 => ?_) | refine j0 rfl (fun hb1 => ?_) (fun hb1 => ?_)
 ·have hb1' := hb1; try simp at hb1'
  have hk2 : k < hs.length + 1 := by omega
  rw [show hs.length + 1 - k = (hs.length - k) + 1 by omega, followN, V4 (show y.toNat < hs.length by omega), p_see] at ht; have hsy := hS y.toNat (by omega); refine i8 (i1 (d6 (j5 (i4 (b6 rfl (c5 rfl (t6 ?_))))))); refine b6 rfl (r8 rfl rfl ?_)
  first | refine a6 ⟨_, 3, none⟩ rfl rfl r9 rfl ?_ | refine a6 _ rfl rfl r9 rfl ?_
  first | refine a7 rfl j7 rfl (i2 mB rfl) ?_ | refine a7 rfl j7 rfl (d8 mB rfl) ?_ | refine a7 rfl j7 rfl (b7 mB (b4 (by omega) rfl)) ?_ | refine a7 rfl j7 rfl (b8 mB (rows_get (by omega) rfl)) ?_ | refine a7 rfl j7 rfl (d7 mB rfl) ?_
  refine b6 rfl ?_; refine m7 (α := Kd) (kindsN hs hs.length) y.toNat rfl G7 U9 rfl rfl (Int.toNat_of_nonneg h0).symm mB (M6 (Nat.le_refl _)).symm (by rw [M6 (Nat.le_refl _)]; omega) (by decide) ?_; refine a7 (v := Kd.v (kindOf (hs.getD y.toNat default))) rfl R4 rfl (b7 mB (b4 (by rw [M6 (Nat.le_refl _)]; omega) (by rw [tZ (by omega)]; rfl))) ?_; refine c8 (j5 (i4 (r_asP rfl rfl rfl (l3 rfl rfl rfl (l3 rfl rfl rfl (c8 ?_))))))
  first | refine k9 rfl (fun hb2 => ?_) (fun hb2 => ?_) | refine j0 rfl (fun hb2 => ?_) (fun hb2 => ?_)
  ·have hb2' := hb2; try simp at hb2'
   rw [hx6, decide_eq_true_eq] at hb2; rw [see_of hb2]; rw [if_neg (by exact hb2)] at ht; refine i4 (u4 rfl (fun _ => kH _) fun gA => l6 rfl rfl X2 kB (by rfl) (by rfl) ?_); refine c8 (c9 ?_)
   first | refine a6 ⟨_, 0, none⟩ rfl rfl R9 rfl ?_ | refine a6 _ rfl rfl R9 rfl ?_
   first | refine a7 rfl a8 rfl (i2 mB rfl) ?_ | refine a7 rfl a8 rfl (d8 mB rfl) ?_ | refine a7 rfl a8 rfl (b7 mB (b4 (by omega) rfl)) ?_ | refine a7 rfl a8 rfl (b8 mB (rows_get (by omega) rfl)) ?_ | refine a7 rfl a8 rfl (d7 mB rfl) ?_
   refine c5 rfl (b5 (w6 (w6 (i1 (c9 ?_))))); refine t5 _ rfl rfl rfl rfl q6 ?_; refine b6 rfl (b5 ?_); exact again _ (k + 1, (hs.getD y.toNat default).2.2.1) ⟨by show k + 1 ≤ hs.length + 1; omega, by show 0 ≤ (hs.getD y.toNat default).2.2.1; omega, hsy.2, by show _ = followN _ (hs.length + 1 - (k + 1)) _ _; rw [ht, Nat.add_sub_add_right]; rfl⟩ (y8 (by omega)) mC nK mC
  have hb2' := hb2; try simp at hb2'
  rw [hx6, decide_eq_false_iff_not] at hb2; rw [if_pos (Classical.not_not.1 hb2)] at ht; refine i4 (c5 rfl (t6 (b6 rfl (b6 rfl (c5 rfl (c5 rfl (c5 rfl ?_))))))); refine c8 (l4 (jE (B7 (u5 (B7 ?_))))); exact ret3 () rfl rfl rfl rfl (by show folR (followT (trOf cs hs) h) = _; rw [ht]; rfl) rfl tK nK tK
 have hb1' := hb1; try simp at hb1'
 have hk2 : k = hs.length + 1 := by omega
 rw [hk2, Nat.sub_self, followN] at ht; refine t7 (C7 (t8 (i1 (i4 (c5 rfl (c5 rfl (c5 rfl (c8 ?_)))))))); refine l4 ?_; exact ret3 () rfl rfl rfl rfl (by show folR (followT (trOf cs hs) h) = _; rw [ht]; rfl) rfl tK nK tK
def askE (t : Tr) (l : List Int) : Int := if ¬ checkT t = 0 then checkT t else if l.all (fun x => decide (0 ≤ x ∧ x ≤ (t.hs.length : Int) - 1)) then 0 else 3
theorem ask_bad {t : Tr} {l : List Int} {k : Nat} (h0 : checkT t = 0) (hk : k < l.length) (h : ¬ (0 ≤ l.getD k default ∧ l.getD k default ≤ (t.hs.length : Int) - 1)) : askE t l = 3 := by
  rw [askE, if_neg (not_not_intro h0), if_neg]; intro e; exact h (of_decide_eq_true (List.all_eq_true.1 e _ (w8 hk)))
theorem ask_ok {t : Tr} {l : List Int} (h0 : checkT t = 0) (h : ∀ i, i < l.length → 0 ≤ l.getD i default ∧ l.getD i default ≤ (t.hs.length : Int) - 1) : askE t l = 0 := by
  rw [askE, if_neg (not_not_intro h0), if_pos]; rw [List.all_eq_true]; intro x hx; obtain ⟨i, hi, rfl⟩ := List.getElem_of_mem hx; rw [decide_eq_true_eq, ← B8 hi]; exact h i hi
theorem vF {t : Tr} {l : List Int} (h : askE t l = 0) : checkT t = 0 := by
  unfold askE at h
  split at h
  · exact h
  rename_i h1; exact Classical.not_not.1 h1
theorem kx1 {t : Tr} {l : List Int} (h : askE t l = 0) {x : Int} (hx : x ∈ l) : 0 ≤ x ∧ x ≤ (t.hs.length : Int) - 1 := by
  have h0 := vF h; rw [askE, if_neg (not_not_intro h0)] at h
  split at h
  · rename_i h1; exact of_decide_eq_true (List.all_eq_true.1 h1 x hx)
  omega
set_option maxHeartbeats 1000000 in
theorem jP {C : Option Addr} {cc : Nat} {A B : Option Addr} {ca cb : Nat} (cs : List Cl) (hs : List Hd) (l : List Int) (hca : cs.length ≤ ca) (hcb : hs.length ≤ cb) (ha : ∀ h ∈ hs, h.2.2.2.l.length ≤ 1000000) (hl : l.length ≤ 1000000) : Meets prog rL [.agg #[.slice A cs.length ca, .slice B hs.length cb], .slice C l.length cc] { LI := [Row A (rows cs), RowsF B hs Hd.row, Row C (rows l)], val := fun x : Nat × OutC × OutC => .tuple #[if askE (trOf cs hs) l = 0 then .pointer (some ⟨x.1, 0, none⟩) else .pointer none, int (askE (trOf cs hs) l)], LO := fun x => if askE (trOf cs hs) l = 0 then beginL cs hs A ca B cb x else [] } := by
 refine j3 dq5 rfl v8 fun w0 => i4 (O3 rfl rfl fun gB => ?_); refine c5 rfl (c5 rfl (c8 ?_)); refine I0 ⟨fun _ : Nat × OutC × OutC => True, fun x => [(1, .slice C l.length cc), (2, .pointer (d9 gB)), (6, if checkT (trOf cs hs) = 0 then .pointer (some ⟨x.1, 0, none⟩) else .pointer none), (7, int (checkT (trOf cs hs)))], fun _ => [(gB, .cells #[.slice A cs.length ca, .slice B hs.length cb] p8 (0, 0))], fun x => (if checkT (trOf cs hs) = 0 then beginL cs hs A ca B cb x else []) ++ [Row A (rows cs), RowsF B hs Hd.row, Row C (rows l)]⟩ ?_ ?_
 ·skip
  refine c9 ?_
  first | refine G3 rfl i6 c7 rfl mB (by rfl) ?_ | refine I3 rfl i6 c7 rfl mB (by rfl) ?_ | refine z8 rfl i6 c7 rfl rfl (v9 mB (B3 (by omega))) ?_
  refine j4 M3 rfl rfl (L9 cs hs hca hcb ha) t4 mC fun x _ => ?_; refine b6 rfl (l3 rfl rfl rfl (l3 rfl rfl rfl (c5 rfl (c5 rfl (b5 ?_))))); exact D5 _ x tK mC (List.Sublist.refl _) (LSub.of_mem fun F h => h)
 refine fun x _ => ?_
 dsimp only
 refine d6 (i4 (b6 rfl (M8 rfl rfl rfl (c8 ?_))))
 first | refine k9 rfl (fun hb1 => ?_) (fun hb1 => ?_) | refine j0 rfl (fun hb1 => ?_) (fun hb1 => ?_)
 ·have hb1' := hb1; try simp at hb1'
  have hE : askE (trOf cs hs) l = checkT (trOf cs hs) := by rw [askE, if_pos hb1]
  have hnz : ¬ askE (trOf cs hs) l = 0 := by rw [hE]; exact hb1
  refine i4 (b6 rfl (c5 rfl (c5 rfl (c8 (E9 ?_))))); exact ret2 (0, (none, 0), (none, 0)) rfl rfl rfl (by show Value.tuple #[if askE (trOf cs hs) l = 0 then _ else _, int (askE (trOf cs hs) l)] = _; rw [if_neg hnz, hE]) rfl tK nK (by show LSub _ (if askE (trOf cs hs) l = 0 then _ else []); rw [if_neg hnz]; trivial)
 have hb1' := hb1; try simp at hb1'
 have h0 := Classical.not_not.1 hb1; rw [if_pos h0, if_pos h0]; have hln := H0 cs hs; have hok := mW h0; have h6 : cs.length ≤ 6 := hok.c6; have h6h := hok.h6; rw [H0] at h6h; have hcl : ∀ i, i < cs.length → ClsOK cs i := hok.c; obtain ⟨gl, ⟨oa, oc⟩, ⟨ka, kc⟩⟩ := x; show HC _ _ _ _ _ [Row (d9 gl) [.slice A cs.length ca, .slice B hs.length cb, .slice oa cs.length oc, .slice ka hs.length kc], Row oa (rows (masksN cs cs.length)), Row ka (rows (kindsN hs hs.length)), Row A (rows cs), RowsF B hs Hd.row, Row C (rows l)]; refine i8 (i1 (d6 (i4 (b6 rfl ?_)))); refine k6 rfl A8 rfl ?_; refine b6 rfl (c8 (j5 ?_)); refine u6 (β := Nat) ⟨fun k => k ≤ l.length ∧ ∀ i, i < k → 0 ≤ l.getD i default ∧ l.getD i default ≤ (hs.length : Int) - 1, fun k => [(2, .pointer (d9 gB)), (6, .pointer (d9 gl)), (18, .slice C l.length cc), (19, int l.length), (20, int k)], fun _ => [(gB, .cells #[.slice A cs.length ca, .slice B hs.length cb] p8 (0, 0))], fun _ => [Row (d9 gl) [.slice A cs.length ca, .slice B hs.length cb, .slice oa cs.length oc, .slice ka hs.length kc], Row oa (rows (masksN cs cs.length)), Row ka (rows (kindsN hs hs.length)), Row A (rows cs), RowsF B hs Hd.row, Row C (rows l)]⟩ (fun k => l.length - k) 0 ⟨Nat.zero_le _, fun i hi => by omega⟩ mC (List.Sublist.refl _) mC fun k hk => ?_; obtain ⟨hk, ht⟩ := hk; refine i4 (B5 rfl rfl rfl (c8 (d6 ?_)))
 first | refine k9 rfl (fun hb2 => ?_) (fun hb2 => ?_) | refine j0 rfl (fun hb2 => ?_) (fun hb2 => ?_)
 ·have hb2' := hb2; try simp at hb2'
  have hk2 : k < l.length := by omega
  refine i8 (i1 (d6 (j5 (i4 ?_)))); refine m7 (α := Int) _ _ rfl A8 E1 rfl rfl rfl mB rfl (by omega) (by decide) (a7 rfl a8 rfl (b7 mB (b4 (by omega) rfl)) ?_); refine c5 rfl (t6 (b6 rfl ?_))
  first | refine a6 ⟨_, 1, none⟩ rfl rfl i3 rfl ?_ | refine a6 _ rfl rfl i3 rfl ?_
  first | refine a7 rfl b2 rfl (i2 mB rfl) ?_ | refine a7 rfl b2 rfl (d8 mB rfl) ?_ | refine a7 rfl b2 rfl (b7 mB (b4 (by omega) rfl)) ?_ | refine a7 rfl b2 rfl (b8 mB (rows_get (by omega) rfl)) ?_ | refine a7 rfl b2 rfl (d7 mB rfl) ?_
  refine k6 rfl n4 rfl (P9 _ rfl rfl rfl rfl q6 (j4 J1 rfl rfl (I8 _ _ _) t4 tK fun _ _ => ?_)); refine H6 rfl rfl (c8 ?_)
  first | refine k9 rfl (fun hb3 => ?_) (fun hb3 => ?_) | refine j0 rfl (fun hb3 => ?_) (fun hb3 => ?_)
  ·have hb3' := hb3; try simp at hb3'
   have hE : askE (trOf cs hs) l = 3 := ask_bad h0 hk2 (by rw [hln]; exact nbw hb3); have hnz : ¬ askE (trOf cs hs) l = 0 := by rw [hE]; decide
   refine i4 (c5 rfl (c5 rfl (c8 (l4 (B7 (u5 (B7 ?_))))))); exact ret2 (0, (none, 0), (none, 0)) rfl rfl rfl (by show Value.tuple #[if askE (trOf cs hs) l = 0 then _ else _, int (askE (trOf cs hs) l)] = _; rw [if_neg hnz, hE]) rfl tK nK (by show LSub _ (if askE (trOf cs hs) l = 0 then _ else []); rw [if_neg hnz]; trivial)
  have hb3' := hb3; try simp at hb3'
  refine i8 (w6 (i1 (c9 ?_))); refine t5 _ rfl rfl rfl rfl q6 ?_; refine b6 rfl (b5 ?_); have hin := bw hb3; exact again _ (k + 1) ⟨by omega, fun i hi => by rcases Nat.lt_or_ge i k with h | h; exact ht i h; rw [show i = k by omega]; exact hin⟩ (y8 (by omega)) mC (List.Sublist.refl _) mC
 have hb2' := hb2; try simp at hb2'
 have hk2 : k = l.length := by omega
 subst hk2; have hE : askE (trOf cs hs) l = 0 := ask_ok h0 (by rw [hln]; exact ht); refine t7 (C7 (t8 (i1 (i4 (b6 rfl (c5 rfl (c5 rfl (c8 ?_)))))))); refine l4 ?_; exact ret2 (gl, (oa, oc), (ka, kc)) rfl rfl rfl (by show Value.tuple #[if askE (trOf cs hs) l = 0 then _ else _, int (askE (trOf cs hs) l)] = _; rw [if_pos hE, hE]) rfl tK nK (by show LSub _ (if askE (trOf cs hs) l = 0 then _ else []); rw [if_pos hE]; exact mC)
end Go.Proofs.YtdgmfagfpbdbhaaGreatDoor
end
