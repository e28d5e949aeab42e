/- Texts. -/
import Derived.Sort.Walk0
import Derived.Test.YtpihanmcnmlodaaGreatDoorBAd
import Derived.Test.YtpihanmcnmlodaaGreatDoorBAe
set_option linter.unusedVariables false
set_option linter.unusedSimpArgs false
section
namespace Go.Proofs.YtpihanmcnmlodaaGreatDoor
open Go Go.W Tryz T F
set_option maxRecDepth 20000
attribute [local irreducible] HL HC HQ HB Row Rows2 Blk Facts
instance : El Cl where
  default := ([], 0)
  cells m := [str m.1, int m.2]
  sz := 2
  len _ := rfl
  one a u h := by simp at h; rcases h with h | h <;> subst h <;> rfl
abbrev Hd := Str × Int × Int × Sl Int
instance : El Hd where
  default := ([], 0, 0, ⟨none, 0, []⟩)
  cells m := [str m.1, int m.2.1, int m.2.2.1, .slice m.2.2.2.a m.2.2.2.l.length m.2.2.2.c]
  sz := 4
  len _ := rfl
  one a u h := by simp at h; rcases h with h | h | h | h <;> subst h <;> rfl
def Hd.p (h : Hd) : PH := (h.1, h.2.1, h.2.2.1, h.2.2.2.l)
abbrev Hd.row (h : Hd) : Fact := Row h.2.2.2.a (rows h.2.2.2.l)
abbrev trOf (cs : List Cl) (hs : List Hd) : Tr := ⟨cs, hs.map Hd.p⟩
theorem gz2 (a b : Str) : Op.bytesLess a b = decide (a < b) := bytesLess_eq a b
theorem q7 {α : Type} [Inhabited α] {l : List α} {k : Nat} (hk : k < l.length) : l.getD k default = l[k] := by simp [List.getD_eq_getElem?_getD, hk]
theorem n7 {α : Type} [Inhabited α] {l : List α} {k : Nat} (hk : k < l.length) : l.getD k default ∈ l := by rw [q7 hk]; exact List.getElem_mem hk
theorem Q5 {hs : List Hd} {k : Nat} (hk : k < hs.length) : (hs.map Hd.p).getD k default = (hs.getD k default).p := by
  rw [q7 hk, q7 (by simpa using hk)]; simp
theorem D2 (n lo hi : Int) : Meets prog Z5 [int n, int lo, int hi] { val := fun _ : Unit => .bool (decide (lo ≤ n ∧ n ≤ hi)) } := by
 refine d3 rW rfl n2 fun w0 => ?_; refine d4 (b6 rfl (j4 (b4 rfl (b4 rfl (nY rfl rfl rfl (b4 rfl ?_)))))); refine q6 rfl rfl ?_ ?_
 ·intro hg1; have hg1' := hg1; try simp at hg1'
  refine k7 hg1 (b4 rfl (k7 hg1 (b4 rfl (k7 hg1 (nY rfl rfl rfl ?_))))); refine p_t rfl rfl (bt1 hg1) rfl ?_; refine b6 rfl (c3 (j6 ?_)); exact ret1 () rfl (congrArg (fun b => some (Value.bool b)) (by simp [hg1'])) rfl tK nK tK
 intro hg1; have hg1' := hg1; try simp at hg1'
 refine n4 hg1 (n4 hg1 (n4 hg1 ?_)); refine p_f rfl rfl (bf2 hg1) rfl ?_; refine b6 rfl (c3 (j6 ?_)); exact ret1 () rfl (congrArg (fun b => some (Value.bool b)) (by simp [Int.not_le.2 hg1'])) rfl tK nK tK
theorem ax5 {s : Str} {p : Nat} (hp : p < s.length) (h : s[p].toNat < 97 ∨ 122 < s[p].toNat) : wordB s = false := by
  have : s.all azB = false := by
    rw [List.all_eq_false]; refine ⟨s[p], List.getElem_mem hp, ?_⟩; simp only [azB, Bool.and_eq_true, decide_eq_true_eq]
    omega
  simp [wordB, this]
theorem mx5 {s : Str} {k : Nat} (hk : k < s.length) (h : (s.take k).all azB = true) (h1 : 97 ≤ s[k].toNat ∧ s[k].toNat ≤ 122) : (s.take (k + 1)).all azB = true := by
  rw [List.take_succ_eq_append_getElem hk, List.all_append, h]
  simp [azB, h1]
theorem iz1 {s : Str} (h1 : ¬ s = []) (h2 : (s.length : Int) ≤ 12) (h3 : ¬ s = wClass) (h4 : ¬ s = wFinis) (h5 : s.all azB = true) : wordB s = true := by
  have h0 : 0 < s.length := List.length_pos_iff.2 h1; have h2' : s.length ≤ 12 := by omega
  simp only [wordB, h5, h3, h4, h0, h2', decide_true, Bool.and_true, not_false_eq_true]
theorem iV (s : Str) : Meets prog iA [str s] { val := fun _ : Unit => .bool (wordB s) } := by
 refine d3 xP rfl n2 fun w0 => ?_; refine d4 (b6 rfl (c3 (d1 (d4 (b4 rfl ?_))))); refine Z3 rfl C4 rfl ?_; refine I2 rfl rfl rfl (b4 rfl ?_); refine q6 rfl rfl ?_ ?_
 ·intro hg1; have hg1' := hg1; try simp at hg1'
  refine k7 hg1 (b4 rfl (k7 hg1 ?_)); refine Z3 rfl C4 rfl ?_; refine k7 hg1 (K5 rfl rfl rfl ?_); refine p_f rfl rfl (bf1 hg1) rfl (b4 rfl ?_); refine q6 rfl rfl ?_ ?_
  ·intro hg2; have hg2' := hg2; try simp at hg2'
   refine k7 hg2 (b4 rfl (k7 hg2 (vM rfl rfl rfl ?_))); refine p_f rfl rfl (bf1 hg2) rfl (b4 rfl ?_); refine q6 rfl rfl ?_ ?_
   ·intro hg3; have hg3' := hg3; try simp at hg3'
    refine k7 hg3 (b4 rfl (k7 hg3 (vM rfl rfl rfl ?_))); refine p_f rfl rfl (bf1 hg3) rfl (c3 ?_)
    first | refine j9 rfl (fun hb1 => ?_) (fun hb1 => ?_) | refine d6 rfl (fun hb1 => ?_) (fun hb1 => ?_)
    ·have hb1' := hb1; try simp at hb1'
     refine d4 (b6 rfl (c3 (M2 ?_))); exact ret1 () rfl (congrArg (fun b => some (Value.bool b)) (by rw [hb1]; decide)) rfl tK nK tK
    have hb1' := hb1; try simp at hb1'
    have h4 := hb1; refine i4 (c7 (d1 (d4 (b4 rfl ?_)))); refine zK rfl C4 rfl fun gI => ?_; refine c3 (i8 ?_); refine p6 (β := Nat) ⟨fun k => k ≤ s.length ∧ (s.take k).all azB = true, fun k => [(0, str s), (22, .pointer (i7 gI))], fun k => [(gI, iter s k)], fun _ => []⟩ (fun k => s.length - k) 0 ⟨Nat.zero_le _, rfl⟩ mC (.refl _) tK fun k hk => ?_; obtain ⟨hk, ht⟩ := hk; refine d4 (bz8 rfl rfl (.refl _) ?_); refine hj3 rfl rfl (c3 (d1 ?_))
    first | refine j9 rfl (fun hb2 => ?_) (fun hb2 => ?_) | refine d6 rfl (fun hb2 => ?_) (fun hb2 => ?_)
    ·have hb2' := hb2; try simp at hb2'
     refine i4 (c7 (i8 (d4 (kz9 rfl rfl hb2 (b6 rfl (j4 (b4 rfl ?_))))))); refine u7 rfl rfl rfl (b4 rfl ?_); refine q6 rfl rfl ?_ ?_
     ·intro hg4; have hg4' := hg4; try simp at hg4'
      refine k7 hg4 (b4 rfl (k7 hg4 (K5 rfl rfl rfl ?_))); refine p_f rfl rfl (bf1 hg4) rfl (c3 ?_)
      first | refine j9 rfl (fun hb3 => ?_) (fun hb3 => ?_) | refine d6 rfl (fun hb3 => ?_) (fun hb3 => ?_)
      ·have hb3' := hb3; try simp at hb3'
       refine d4 (b6 rfl (c3 (j6 (A1 (A1 ?_))))); exact ret1 () rfl (congrArg (fun b => some (Value.bool b)) (by exact (ax5 hb2 (ix5 hb2 (lo := 97) (hi := 122) (by decide) (.inr (by omega)))).symm)) rfl tK nK tK
      have hb3' := hb3; try simp at hb3'
      refine i4 (q8 ?_); have hin := dec_in (p := k) (s := s) hb2 (lo := 97) (hi := 122) (by decide) (by simp at hg4; omega); refine again _ (k + 1) ⟨by omega, mx5 hb2 ht ⟨hin.1, hin.2.1⟩⟩ (r9 (by omega)) mC ?_ tK; rw [hin.2.2]; exact (.refl _)
     intro hg4; have hg4' := hg4; try simp at hg4'
     refine n4 hg4 (n4 hg4 ?_); refine p_t rfl rfl (bt2 hg4) rfl ?_; refine c3 (c_t rfl rfl (d4 (b6 rfl (c3 (j6 (A1 (W6 ?_))))))); refine u4 ?_; exact ret1 () rfl (congrArg (fun b => some (Value.bool b)) (by exact (ax5 hb2 (ix5 hb2 (lo := 97) (hi := 122) (by decide) (.inl (by simp at hg4; omega)))).symm)) rfl tK nK tK
    have hb2' := hb2; try simp at hb2'
    have hk2 : k = s.length := by omega
    subst hk2; rw [List.take_length] at ht; refine m4 (v6 (l9 (c7 (d4 (b6 rfl (c3 (j6 ?_))))))); exact ret1 () rfl (congrArg (fun b => some (Value.bool b)) (by exact (iz1 hg1' hg2' hg3' h4 ht).symm)) rfl tK nK tK
   intro hg3; have hg3' := hg3; try simp at hg3'
   refine n4 hg3 (n4 hg3 ?_); refine p_t rfl rfl (bt2 hg3) rfl ?_; refine c3 (c_t rfl rfl (d4 (b6 rfl (c3 (M2 ?_))))); exact ret1 () rfl (congrArg (fun b => some (Value.bool b)) (by simp at hg3; rw [hg3]; decide)) rfl tK nK tK
  intro hg2; have hg2' := hg2; try simp at hg2'
  refine n4 hg2 (n4 hg2 ?_); refine p_t rfl rfl (bt2 hg2) rfl ?_; refine b4 rfl (D8 rfl rfl rfl rfl rfl rfl (D8 rfl rfl rfl rfl rfl rfl (p_t rfl rfl rfl rfl (c3 (c_t rfl rfl (d4 (b6 rfl (c3 ?_)))))))); refine M2 ?_; exact ret1 () rfl (congrArg (fun b => some (Value.bool b)) (by simp at hg2; simp [wordB, Nat.not_le.2 (show 12 < s.length by omega)])) rfl tK nK tK
 intro hg1; have hg1' := hg1; try simp at hg1'
 refine n4 hg1 (n4 hg1 (n4 hg1 ?_)); refine p_t rfl rfl (bt2 hg1) rfl ?_; refine b4 rfl (D8 rfl rfl rfl rfl rfl rfl (D8 rfl rfl rfl rfl rfl rfl (p_t rfl rfl rfl rfl (b4 rfl (D8 rfl rfl rfl rfl rfl rfl (D8 rfl rfl rfl rfl rfl rfl (p_t rfl rfl rfl rfl (c3 (c_t rfl rfl (d1 ?_)))))))))); refine c9 (b6 rfl (c3 (M2 ?_))); exact ret1 () rfl (congrArg (fun b => some (Value.bool b)) (by simp at hg1; simp [wordB, hg1])) rfl tK nK tK
theorem dz0 {α : Type} [Inhabited α] (f : α → Str) {l : List α} {k : Nat} {s : Str} (hk : k < l.length) (ht : s ∉ (l.take k).map f) (h : ¬ f (l.getD k default) = s) : s ∉ (l.take (k + 1)).map f := by
  rw [A6 l k hk, List.map_append]; simp only [List.mem_append, List.map_cons, List.map_nil, List.mem_singleton, not_or]; exact ⟨ht, fun e => h e.symm⟩
theorem gX {g : Nat} (x c : Cl) : Meets prog B8 [.agg (El.cells x).toArray, .pointer (i7 g)] { LI := [Row (i7 g) (rows [c])], val := fun _ : Unit => .bool (decide (x.1 = c.1)) } := by
 refine d3 jV rfl n2 fun w0 => d4 (B7 rfl rfl fun gB => ?_); refine b6 rfl (j4 ?_)
 first | refine b2 ⟨_, 0, none⟩ rfl rfl G8 rfl ?_ | refine b2 _ rfl rfl G8 rfl ?_
 first | refine b3 rfl j7 rfl (j3 mB rfl) ?_ | refine b3 rfl j7 rfl (d5 mB rfl) ?_ | refine b3 rfl j7 rfl (i1 mB (c5 (by omega) rfl)) ?_ | refine b3 rfl j7 rfl (i3 mB (rows_get (by omega) rfl)) ?_ | refine b3 rfl j7 rfl (j8 mB rfl) ?_
 first | refine b2 ⟨_, 0, none⟩ rfl rfl G8 rfl ?_ | refine b2 _ rfl rfl G8 rfl ?_
 first | refine b3 rfl j7 rfl (j3 mB rfl) ?_ | refine b3 rfl j7 rfl (d5 mB rfl) ?_ | refine b3 rfl j7 rfl (i1 mB (c5 (by omega) rfl)) ?_ | refine b3 rfl j7 rfl (i3 mB (rows_get (by omega) rfl)) ?_ | refine b3 rfl j7 rfl (j8 mB rfl) ?_
 refine vM rfl rfl rfl (b6 rfl (c3 (j6 ?_))); exact ret1 () rfl rfl rfl tK nK tK
theorem kX {A : Option Addr} {cp g : Nat} (l : List Cl) (c : Cl) (hl : l.length ≤ 1000000) : Meets prog R2 [.slice A l.length cp, .func (.func B8) #[] #[.pointer (i7 g)]] { LI := [Row A (rows l), Row (i7 g) (rows [c])], inv := fun z : Int => (0 ≤ z ↔ c.1 ∈ l.map (·.1)), val := fun z => int z } := by
 refine d3 nH rfl n2 fun w0 => ?_; refine d4 (b6 rfl (c3 (d1 (d4 (b4 rfl ?_))))); refine k5 rfl u1 rfl ?_; refine b4 rfl (c3 (i8 ?_)); refine p6 (β := Nat) ⟨fun k => k ≤ l.length ∧ c.1 ∉ (l.take k).map (·.1), fun k => [(0, .slice A l.length cp), (1, .func (.func B8) #[] #[.pointer (i7 g)]), (7, int l.length), (8, int k)], fun _ => [], fun _ => [Row A (rows l), Row (i7 g) (rows [c])]⟩ (fun k => l.length - k) 0 ⟨Nat.zero_le _, by simp⟩ mC (.refl _) ⟨m0, m1, tK⟩ fun k hk => ?_; obtain ⟨hk, ht⟩ := hk; refine d4 (u7 rfl rfl rfl (c3 (d1 ?_)))
 first | refine j9 rfl (fun hb1 => ?_) (fun hb1 => ?_) | refine d6 rfl (fun hb1 => ?_) (fun hb1 => ?_)
 ·have hb1' := hb1; try simp at hb1'
  have hk2 : k < l.length := by omega
  refine i4 (c7 (d1 (i8 (d4 (b4 rfl (b6 rfl (j4 ?_))))))); refine b4 rfl (b4 rfl (b4 rfl ?_)); refine p8 (α := Cl) _ _ rfl u1 C1 rfl rfl rfl mB rfl (by omega) (by decide) (y9 rfl Y8 C1 rfl rfl (w5 mB (z6 (by omega))) (aR (vs := [.agg (El.cells (l.getD k default)).toArray]) (cap := [.pointer (i7 g)]) iE rfl rfl rfl (gX (l.getD k default) c) k8 ⟨m1, tK⟩ fun _ _ => c3 ?_))
  first | refine j9 rfl (fun hb2 => ?_) (fun hb2 => ?_) | refine d6 rfl (fun hb2 => ?_) (fun hb2 => ?_)
  ·have hb2' := hb2; try simp at hb2'
   refine d4 (b4 rfl (b6 rfl (c3 (j6 (A1 (u4 (A1 ?_))))))); exact ret1 (k : Int) rfl rfl rfl ⟨fun _ => List.mem_map.2 ⟨_, n7 hk2, hb2⟩, fun _ => by omega⟩ nK tK
  have hb2' := hb2; try simp at hb2'
  refine i4 (q8 (c7 (c9 ?_))); refine r4 _ rfl rfl rfl rfl m7 ?_; refine b4 rfl (b7 ?_); exact again _ (k + 1) ⟨by omega, dz0 (·.1) hk2 ht hb2⟩ (r9 (by omega)) mC nK ⟨m0, m1, tK⟩
 have hb1' := hb1; try simp at hb1'
 have hk2 : k = l.length := by omega
 subst hk2; rw [List.take_length] at ht; refine m4 (v6 (l9 (c7 (d4 (b6 rfl (c3 (j6 ?_))))))); exact ret1 (-1) rfl rfl rfl ⟨fun h => by omega, fun h => absurd h ht⟩ (.refl _) tK
theorem dV {A : Option Addr} {cp g : Nat} (l : List Cl) (c : Cl) (hl : l.length ≤ 1000000) : Meets prog M0 [.slice A l.length cp, .func (.func B8) #[] #[.pointer (i7 g)]] { LI := [Row A (rows l), Row (i7 g) (rows [c])], val := fun _ : Unit => .bool (decide (c.1 ∈ l.map (·.1))) } := by
 refine d3 iH rfl n2 fun w0 => ?_; refine d4 (b6 rfl (j4 (b4 rfl (b4 rfl ?_)))); refine i5 lN rfl rfl (kX l c hl) (.refl _) ⟨m0, m1, tK⟩ fun z hz => ?_; refine cT rfl rfl rfl (b6 rfl (c3 (j6 ?_))); exact ret1 () rfl (congrArg (fun b => some (Value.bool b)) (decide_eq_decide.2 hz)) rfl tK nK tK
theorem iX {g : Nat} (x c : Hd) : Meets prog C5 [.agg (El.cells x).toArray, .pointer (i7 g)] { LI := [Row (i7 g) (rows [c])], val := fun _ : Unit => .bool (decide (x.1 = c.1)) } := by
 refine d3 lH rfl n2 fun w0 => d4 (B7 rfl rfl fun gB => ?_); refine b6 rfl (j4 ?_)
 first | refine b2 ⟨_, 0, none⟩ rfl rfl u2 rfl ?_ | refine b2 _ rfl rfl u2 rfl ?_
 first | refine b3 rfl j7 rfl (j3 mB rfl) ?_ | refine b3 rfl j7 rfl (d5 mB rfl) ?_ | refine b3 rfl j7 rfl (i1 mB (c5 (by omega) rfl)) ?_ | refine b3 rfl j7 rfl (i3 mB (rows_get (by omega) rfl)) ?_ | refine b3 rfl j7 rfl (j8 mB rfl) ?_
 first | refine b2 ⟨_, 0, none⟩ rfl rfl u2 rfl ?_ | refine b2 _ rfl rfl u2 rfl ?_
 first | refine b3 rfl j7 rfl (j3 mB rfl) ?_ | refine b3 rfl j7 rfl (d5 mB rfl) ?_ | refine b3 rfl j7 rfl (i1 mB (c5 (by omega) rfl)) ?_ | refine b3 rfl j7 rfl (i3 mB (rows_get (by omega) rfl)) ?_ | refine b3 rfl j7 rfl (j8 mB rfl) ?_
 refine vM rfl rfl rfl (b6 rfl (c3 (j6 ?_))); exact ret1 () rfl rfl rfl tK nK tK
theorem jH {A : Option Addr} {cp g : Nat} (l : List Hd) (c : Hd) (hl : l.length ≤ 1000000) : Meets prog O4 [.slice A l.length cp, .func (.func C5) #[] #[.pointer (i7 g)]] { LI := [Row A (rows l), Row (i7 g) (rows [c])], inv := fun z : Int => (0 ≤ z ↔ c.1 ∈ l.map (·.1)), val := fun z => int z } := by
 refine d3 lM rfl n2 fun w0 => ?_; refine d4 (b6 rfl (c3 (d1 (d4 (b4 rfl ?_))))); refine k5 rfl l4 rfl ?_; refine b4 rfl (c3 (i8 ?_)); refine p6 (β := Nat) ⟨fun k => k ≤ l.length ∧ c.1 ∉ (l.take k).map (·.1), fun k => [(0, .slice A l.length cp), (1, .func (.func C5) #[] #[.pointer (i7 g)]), (7, int l.length), (8, int k)], fun _ => [], fun _ => [Row A (rows l), Row (i7 g) (rows [c])]⟩ (fun k => l.length - k) 0 ⟨Nat.zero_le _, by simp⟩ mC (.refl _) ⟨m0, m1, tK⟩ fun k hk => ?_; obtain ⟨hk, ht⟩ := hk; refine d4 (u7 rfl rfl rfl (c3 (d1 ?_)))
 first | refine j9 rfl (fun hb1 => ?_) (fun hb1 => ?_) | refine d6 rfl (fun hb1 => ?_) (fun hb1 => ?_)
 ·have hb1' := hb1; try simp at hb1'
  have hk2 : k < l.length := by omega
  refine i4 (c7 (d1 (i8 (d4 (b4 rfl (b6 rfl (j4 ?_))))))); refine b4 rfl (b4 rfl (b4 rfl ?_)); refine p8 (α := Hd) _ _ rfl l4 m8 rfl rfl rfl mB rfl (by omega) (by decide) (y9 rfl A9 m8 rfl rfl (w5 mB (z6 (by omega))) (aR (vs := [.agg (El.cells (l.getD k default)).toArray]) (cap := [.pointer (i7 g)]) jU rfl rfl rfl (iX (l.getD k default) c) k8 ⟨m1, tK⟩ fun _ _ => c3 ?_))
  first | refine j9 rfl (fun hb2 => ?_) (fun hb2 => ?_) | refine d6 rfl (fun hb2 => ?_) (fun hb2 => ?_)
  ·have hb2' := hb2; try simp at hb2'
   refine d4 (b4 rfl (b6 rfl (c3 (j6 (A1 (u4 (A1 ?_))))))); exact ret1 (k : Int) rfl rfl rfl ⟨fun _ => List.mem_map.2 ⟨_, n7 hk2, hb2⟩, fun _ => by omega⟩ nK tK
  have hb2' := hb2; try simp at hb2'
  refine i4 (q8 (c7 (c9 ?_))); refine r4 _ rfl rfl rfl rfl m7 ?_; refine b4 rfl (b7 ?_); exact again _ (k + 1) ⟨by omega, dz0 (·.1) hk2 ht hb2⟩ (r9 (by omega)) mC nK ⟨m0, m1, tK⟩
 have hb1' := hb1; try simp at hb1'
 have hk2 : k = l.length := by omega
 subst hk2; rw [List.take_length] at ht; refine m4 (v6 (l9 (c7 (d4 (b6 rfl (c3 (j6 ?_))))))); exact ret1 (-1) rfl rfl rfl ⟨fun h => by omega, fun h => absurd h ht⟩ (.refl _) tK
theorem cS {A : Option Addr} {cp g : Nat} (l : List Hd) (c : Hd) (hl : l.length ≤ 1000000) : Meets prog K8 [.slice A l.length cp, .func (.func C5) #[] #[.pointer (i7 g)]] { LI := [Row A (rows l), Row (i7 g) (rows [c])], val := fun _ : Unit => .bool (decide (c.1 ∈ l.map (·.1))) } := by
 refine d3 dY rfl n2 fun w0 => ?_; refine d4 (b6 rfl (j4 (b4 rfl (b4 rfl ?_)))); refine i5 kB rfl rfl (jH l c hl) (.refl _) ⟨m0, m1, tK⟩ fun z hz => ?_; refine cT rfl rfl rfl (b6 rfl (c3 (j6 ?_))); exact ret1 () rfl (congrArg (fun b => some (Value.bool b)) (decide_eq_decide.2 hz)) rfl tK nK tK
theorem kT {A : Option Addr} {cp : Nat} (cs : List Cl) (i : Nat) (h6 : cs.length ≤ 6) (hc : cs.length ≤ cp) (hi : i < cs.length) : Meets prog Q8 [.slice A cs.length cp, int i] { LI := [Row A (rows cs)], val := fun _ : Unit => int (clsErr cs i) } := by
 refine d3 nF rfl n2 fun w0 => ?_; refine d4 (b6 rfl (j4 (b4 rfl (b4 rfl ?_)))); refine p8 (α := Cl) _ _ rfl u1 C1 rfl rfl rfl mB rfl (by omega) (by decide) (y9 rfl Y8 C1 rfl rfl (w5 mB (z6 (by omega))) (B2 rfl (fun _ => mI _) fun gA => E0 rfl rfl vP C1 (by rfl) (by rfl) ?_)); refine c3 (d1 (i8 (d1 ?_))); refine tZ (rows [cs.getD i default]) ⟨[], List.append_nil _⟩ (c9 ?_)
 first | refine b2 ⟨_, 0, none⟩ rfl rfl G8 rfl ?_ | refine b2 _ rfl rfl G8 rfl ?_
 first | refine b3 rfl j7 rfl (j3 mB rfl) ?_ | refine b3 rfl j7 rfl (d5 mB rfl) ?_ | refine b3 rfl j7 rfl (i1 mB (c5 (by omega) rfl)) ?_ | refine b3 rfl j7 rfl (i3 mB (rows_get (by omega) rfl)) ?_ | refine b3 rfl j7 rfl (j8 mB rfl) ?_
 refine i5 jP rfl rfl (iV (cs.getD i default).1) (.refl _) tK fun _ _ => ?_; refine I6 rfl rfl (b6 rfl (c3 ?_))
 first | refine j9 rfl (fun hb1 => ?_) (fun hb1 => ?_) | refine d6 rfl (fun hb1 => ?_) (fun hb1 => ?_)
 ·have hb1' := hb1; try simp at hb1'
  have h1 : wordB (cs.getD i default).1 = false := by simpa using hb1
  refine d4 (b6 rfl (c3 (j6 (A1 ?_)))); exact ret1 () rfl (congrArg (fun b => some (int b)) (by rw [clsErr, if_pos h1])) rfl tK nK tK
 have hb1' := hb1; try simp at hb1'
 have h1 : ¬ wordB (cs.getD i default).1 = false := by simpa using hb1
 refine d4 (b4 rfl (b4 rfl ?_)); refine rD (cs.take i).length rfl u1 C1 rfl rfl (by simp; omega) (by simp; omega) ?_; refine zS i m1 (N4 rfl rfl rfl ?_); refine i5 dZ rfl rfl (dV (cs.take i) (cs.getD i default) (by simp; omega)) (.refl _) ⟨m0, m1, tK⟩ fun _ _ => ?_; refine b6 rfl (c3 ?_)
 first | refine j9 rfl (fun hb2 => ?_) (fun hb2 => ?_) | refine d6 rfl (fun hb2 => ?_) (fun hb2 => ?_)
 ·have hb2' := hb2; try simp at hb2'
  refine d4 (b6 rfl (c3 (j6 (A1 ?_)))); exact ret1 () rfl (congrArg (fun b => some (int b)) (by rw [clsErr, if_neg h1, if_pos hb2])) rfl tK nK tK
 have hb2' := hb2; try simp at hb2'
 refine d4 ?_
 first | refine b2 ⟨_, 1, none⟩ rfl rfl B6 rfl ?_ | refine b2 _ rfl rfl B6 rfl ?_
 first | refine b3 rfl b5 rfl (j3 mB rfl) ?_ | refine b3 rfl b5 rfl (d5 mB rfl) ?_ | refine b3 rfl b5 rfl (i1 mB (c5 (by omega) rfl)) ?_ | refine b3 rfl b5 rfl (i3 mB (rows_get (by omega) rfl)) ?_ | refine b3 rfl b5 rfl (j8 mB rfl) ?_
 refine b4 rfl (k5 rfl u1 rfl (H3 _ rfl rfl rfl rfl m7 (i5 D5 rfl rfl (D2 _ _ _) (.refl _) tK fun _ _ => ?_))); refine I6 rfl rfl (b6 rfl (c3 ?_))
 first | refine j9 rfl (fun hb3 => ?_) (fun hb3 => ?_) | refine d6 rfl (fun hb3 => ?_) (fun hb3 => ?_)
 ·have hb3' := hb3; try simp at hb3'
  have h3 : ¬ (-1 ≤ (cs.getD i default).2 ∧ (cs.getD i default).2 ≤ (cs.length : Int) - 1) := fun e => by rw [decide_eq_true e] at hb3; cases hb3
  refine d4 (b6 rfl (c3 (j6 (A1 ?_)))); exact ret1 () rfl (congrArg (fun b => some (int b)) (by rw [clsErr, if_neg h1, if_neg hb2, if_pos (by omega)])) rfl tK nK tK
 have hb3' := hb3; try simp at hb3'
 have h3 : -1 ≤ (cs.getD i default).2 ∧ (cs.getD i default).2 ≤ (cs.length : Int) - 1 := by simpa using hb3
 refine d4 ?_
 first | refine b2 ⟨_, 1, none⟩ rfl rfl B6 rfl ?_ | refine b2 _ rfl rfl B6 rfl ?_
 first | refine b3 rfl b5 rfl (j3 mB rfl) ?_ | refine b3 rfl b5 rfl (d5 mB rfl) ?_ | refine b3 rfl b5 rfl (i1 mB (c5 (by omega) rfl)) ?_ | refine b3 rfl b5 rfl (i3 mB (rows_get (by omega) rfl)) ?_ | refine b3 rfl b5 rfl (j8 mB rfl) ?_
 refine b4 rfl (cT rfl rfl rfl (b6 rfl (c3 ?_)))
 first | refine j9 rfl (fun hb4 => ?_) (fun hb4 => ?_) | refine d6 rfl (fun hb4 => ?_) (fun hb4 => ?_)
 ·have hb4' := hb4; try simp at hb4'
  refine d4 (b6 rfl (c3 (j6 (A1 ?_)))); exact ret1 () rfl (congrArg (fun b => some (int b)) (by rw [clsErr, if_neg h1, if_neg hb2, if_neg (by omega), if_pos hb4])) rfl tK nK tK
 have hb4' := hb4; try simp at hb4'
 refine i4 (q8 (c7 (d4 (b6 rfl (c3 (j6 ?_)))))); exact ret1 () rfl (congrArg (fun b => some (int b)) (by rw [clsErr, if_neg h1, if_neg hb2, if_neg (by omega), if_neg hb4])) rfl tK nK tK
theorem ps_take {hs : List Hd} {n : Nat} : ((hs.map Hd.p).take n).map (·.1) = (hs.take n).map (·.1) := by rw [← List.map_take, List.map_map]; rfl
theorem Z4 (cs : List Cl) (hs : List Hd) {i : Nat} (hi : i < hs.length) : headErr (trOf cs hs) i =
  if wordB (hs.getD i default).1 = false then 2
  else if (hs.getD i default).1 ∈ (hs.take i).map (·.1) then 4
  else if 0 < i ∧ (hs.getD i default).1 < (hs.getD (i - 1) default).1 then 5
  else if (hs.getD i default).2.1 < -1 ∨ (cs.length : Int) ≤ (hs.getD i default).2.1 ∨ (hs.getD i default).2.2.1 < -1 ∨ (hs.length : Int) ≤ (hs.getD i default).2.2.1 then 3
  else if (hs.getD i default).2.2.1 = (i : Int) then 9
  else if ¬ firstE (alsoErr hs.length i (hs.getD i default).2.2.2.l) (hs.getD i default).2.2.2.l.length = 0 then firstE (alsoErr hs.length i (hs.getD i default).2.2.2.l) (hs.getD i default).2.2.2.l.length
  else if kindBad (hs.getD i default).p = true then 8 else 0 := by
  unfold headErr; simp only [trOf, Q5 hi, Q5 (show i - 1 < hs.length by omega), ps_take, List.length_map]
  rfl
theorem nbw {a b c : Int} (h : (!decide (a ≤ b ∧ b ≤ c)) = true) : ¬ (a ≤ b ∧ b ≤ c) := fun e => by rw [decide_eq_true e] at h; cases h
theorem bw {a b c : Int} (h : (!decide (a ≤ b ∧ b ≤ c)) = false) : a ≤ b ∧ b ≤ c := Classical.byContradiction fun e => by rw [decide_eq_false e] at h; cases h
set_option maxHeartbeats 2000000 in
theorem mT {A B : Option Addr} {ca cb : Nat} (cs : List Cl) (hs : List Hd) (i : Nat) (h6 : hs.length ≤ 6) (hc6 : cs.length ≤ 6) (hc : hs.length ≤ cb) (hi : i < hs.length) (ha : ∀ h ∈ hs, h.2.2.2.l.length ≤ 1000000) : Meets prog U2 [.agg #[.slice A cs.length ca, .slice B hs.length cb], int i] { LI := [Row A (rows cs), RowsF B hs Hd.row], val := fun _ : Unit => int (headErr (trOf cs hs) i) } := by
 refine d3 pJ rfl n2 fun w0 => d4 (B7 rfl rfl fun gB => ?_); refine b6 rfl (c3 (d1 (wB m1 ?_))); refine jx3 m2 (n7 hi) ?_; have hal := ha _ (n7 hi); refine I7 ([]) (_) (.refl _) 9 [7] mixed (by decide) (by decide) (by decide) rfl rfl rfl ?_
 apply k9 _ rfl rfl rfl
 ·intro w1
  first | refine b2 ⟨_, 1, none⟩ rfl rfl d8 rfl ?_ | refine b2 _ rfl rfl d8 rfl ?_
  refine b7 ?_; exact i6 rfl
 apply k9 _ rfl rfl rfl
 ·intro w1
  first | refine b3 rfl b8 rfl (d5 mB rfl) ?_ | refine b3 rfl b8 rfl (j3 mB rfl) ?_ | refine b3 rfl b8 rfl (i1 mB (c5 (by omega) rfl)) ?_ | refine b3 rfl b8 rfl (i3 mB (rows_get (by omega) rfl)) ?_ | refine b3 rfl b8 rfl (j8 mB rfl) ?_
  refine b7 ?_; exact i6 rfl
 apply k9 _ rfl rfl rfl
 ·intro w1
  first | refine b2 ⟨_, 1, none⟩ rfl rfl d8 rfl ?_ | refine b2 _ rfl rfl d8 rfl ?_
  refine b7 ?_; exact i6 rfl
 apply k9 _ rfl rfl rfl
 ·intro w1
  first | refine b3 rfl b8 rfl (d5 mB rfl) ?_ | refine b3 rfl b8 rfl (j3 mB rfl) ?_ | refine b3 rfl b8 rfl (i1 mB (c5 (by omega) rfl)) ?_ | refine b3 rfl b8 rfl (i3 mB (rows_get (by omega) rfl)) ?_ | refine b3 rfl b8 rfl (j8 mB rfl) ?_
  refine b7 ?_; exact i6 rfl
 refine p9 rfl (m6 (fun w1 => p8 (α := Hd) _ _ rfl l4 m8 rfl rfl rfl mB rfl (by omega) (by decide) (q_z rfl)) (m6 (fun w1 => y9 rfl A9 m8 rfl rfl (w5 mB (z6 (by omega))) (q_z rfl)) ?_)); refine qU ⟨Nat, fun _ => True, fun g => .pointer (i7 g), fun _ => [], fun g => [(g, Obj.cells #[str [], int 0, int 0, .slice none 0 0] aN (0, 0))]⟩ rfl rfl rfl ?_ ?_
 ·intro w1; refine B2 rfl (fun _ => W1 _) fun gA => b7 ?_; exact P5 gA tK (fun _ => rfl) (.refl _) tK
 refine m6 (fun w1 => b6 rfl (q_z rfl)) ?_; refine y8 ⟨rfl, ?_⟩; intro x7 hx7; refine E0 rfl rfl vP m8 (by rfl) (by rfl) ?_; refine c3 (d1 (i8 (d1 ?_))); refine tZ (rows [hs.getD i default]) ⟨[], List.append_nil _⟩ (c9 ?_)
 first | refine b2 ⟨_, 0, none⟩ rfl rfl u2 rfl ?_ | refine b2 _ rfl rfl u2 rfl ?_
 first | refine b3 rfl j7 rfl (j3 mB rfl) ?_ | refine b3 rfl j7 rfl (d5 mB rfl) ?_ | refine b3 rfl j7 rfl (i1 mB (c5 (by omega) rfl)) ?_ | refine b3 rfl j7 rfl (i3 mB (rows_get (by omega) rfl)) ?_ | refine b3 rfl j7 rfl (j8 mB rfl) ?_
 refine i5 jP rfl rfl (iV (hs.getD i default).1) k8 tK fun _ _ => ?_; refine I6 rfl rfl (b6 rfl (c3 ?_))
 first | refine j9 rfl (fun hb1 => ?_) (fun hb1 => ?_) | refine d6 rfl (fun hb1 => ?_) (fun hb1 => ?_)
 ·have hb1' := hb1; try simp at hb1'
  have h1 : wordB (hs.getD i default).1 = false := by simpa using hb1
  refine d4 (b6 rfl (c3 (j6 (A1 ?_)))); exact ret1 () rfl (congrArg (fun b => some (int b)) (by rw [Z4 cs hs hi, if_pos h1])) rfl tK nK tK
 have hb1' := hb1; try simp at hb1'
 have h1 : ¬ wordB (hs.getD i default).1 = false := by simpa using hb1
 refine d4 (b4 rfl (b4 rfl ?_)); refine rD (hs.take i).length rfl l4 m8 rfl rfl (by simp; omega) (by simp; omega) ?_; refine zS (ps := hs) i mB (N4 rfl rfl rfl ?_); refine i5 dH rfl rfl (cS (hs.take i) (hs.getD i default) (by simp; omega)) k8 mC fun _ _ => ?_; refine b6 rfl (c3 ?_)
 first | refine j9 rfl (fun hb2 => ?_) (fun hb2 => ?_) | refine d6 rfl (fun hb2 => ?_) (fun hb2 => ?_)
 ·have hb2' := hb2; try simp at hb2'
  refine d4 (b6 rfl (c3 (j6 (A1 ?_)))); exact ret1 () rfl (congrArg (fun b => some (int b)) (by rw [Z4 cs hs hi, if_neg h1, if_pos hb2])) rfl tK nK tK
 have hb2' := hb2; try simp at hb2'
 refine M6 ⟨fun _ : Unit => True, fun _ => [(1, int i), (2, .pointer (i7 gB)), (5, .slice B hs.length cb), (6, .pointer (i7 x7)), (27, .bool (decide (0 < i ∧ (hs.getD i default).1 < (hs.getD (i - 1) default).1)))], fun _ => [(gB, .cells #[.slice A cs.length ca, .slice B hs.length cb] m5 (0, 0))], fun _ => [Row (i7 x7) (rows [hs.getD i default]), Row B (rows hs), Row (hs.getD i default).2.2.2.a (rows (hs.getD i default).2.2.2.l)]⟩ ?_ ?_
 ·skip
  refine G9 11 mixed (by decide) (by decide) rfl rfl (p9 rfl (m6 (fun w1 => K5 rfl rfl rfl (q_z rfl)) (p9 rfl ?_))); refine jO (t := 30) (want := true) rfl ?_ ?_
  ·intro hg1; have hg1' := hg1; try simp at hg1'
   apply k9 _ rfl rfl rfl
   ·intro w1; refine k7 hg1 ?_
    first | refine b2 ⟨_, 0, none⟩ rfl rfl u2 rfl ?_ | refine b2 _ rfl rfl u2 rfl ?_
    refine b7 ?_; exact i6 rfl
   apply k9 _ rfl rfl rfl
   ·intro w1; refine k7 hg1 ?_
    first | refine b3 rfl j7 rfl (d5 mB rfl) ?_ | refine b3 rfl j7 rfl (j3 mB rfl) ?_ | refine b3 rfl j7 rfl (i1 mB (c5 (by omega) rfl)) ?_ | refine b3 rfl j7 rfl (i3 mB (rows_get (by omega) rfl)) ?_ | refine b3 rfl j7 rfl (j8 mB rfl) ?_
    refine b7 ?_; exact i6 rfl
   apply k9 _ rfl rfl rfl
   ·intro w1; refine k7 hg1 (b4 rfl (b7 ?_)); exact i6 rfl
   apply k9 _ rfl rfl rfl
   ·intro w1; refine k7 hg1 (b4 rfl (b7 ?_)); exact i6 rfl
   apply k9 _ rfl rfl rfl
   ·intro w1; refine k7 hg1 (H3 ((i - 1 : Nat) : Int) rfl rfl rfl (by omega) m7 (b7 ?_)); exact i6 rfl
   apply k9 _ rfl rfl rfl
   ·intro w1; refine k7 hg1 (p8 (α := Hd) hs (i - 1) rfl l4 m8 rfl rfl rfl mB rfl (by omega) (by decide) (b7 ?_)); exact i6 rfl
   apply k9 _ rfl rfl rfl
   ·intro w1; refine k7 hg1 ?_
    first | refine b2 ⟨_, 0, none⟩ rfl rfl u2 rfl ?_ | refine b2 _ rfl rfl u2 rfl ?_
    refine b7 ?_; exact i6 rfl
   apply k9 _ rfl rfl rfl
   ·intro w1; refine k7 hg1 (b3 rfl j7 rfl (i1 (cs := rows hs) mB (c5 (by omega) rfl)) (b7 ?_)); exact i6 rfl
   refine y8 ⟨rfl, ?_⟩; refine k7 hg1 (kz3 rfl rfl rfl ?_); refine p_t rfl rfl (bt1 hg1) rfl ?_; refine b6 rfl (b7 ?_); exact E3 _ () tK ⟨rfl, rfl, rfl, rfl, congrArg (fun b => some (Value.bool b)) (by rw [gz2]; exact decide_eq_decide.2 ⟨fun e => ⟨by omega, e⟩, fun e => e.2⟩), tK⟩ (List.Sublist.refl _) mC
  intro hg1; have hg1' := hg1; try simp at hg1'
  refine m6 (fun w1 => n4 hg1 (q_z rfl)) (m6 (fun w1 => n4 hg1 (q_z rfl)) (m6 (fun w1 => n4 hg1 (q_z rfl)) (m6 (fun w1 => n4 hg1 (q_z rfl)) (m6 (fun w1 => n4 hg1 (q_z rfl)) (m6 (fun w1 => n4 hg1 (q_z rfl)) (m6 (fun w1 => n4 hg1 (q_z rfl)) (m6 (fun w1 => n4 hg1 (q_z rfl)) ?_))))))); refine y8 ⟨rfl, ?_⟩; refine n4 hg1 (p_f rfl rfl (bf2 hg1) rfl ?_); refine b6 rfl (b7 ?_); exact E3 _ () tK ⟨rfl, rfl, rfl, rfl, congrArg (fun b => some (Value.bool b)) (by exact (decide_eq_false (by simp at hg1; omega)).symm), tK⟩ (List.Sublist.refl _) mC
 refine fun _ _ => ?_
 first | refine j9 rfl (fun hb3 => ?_) (fun hb3 => ?_) | refine d6 rfl (fun hb3 => ?_) (fun hb3 => ?_)
 ·have hb3' := hb3; try simp at hb3'
  refine d4 (b6 rfl (c3 (j6 (A1 ?_)))); exact ret1 () rfl (congrArg (fun b => some (int b)) (by rw [Z4 cs hs hi, if_neg h1, if_neg hb2, if_pos hb3])) rfl tK nK tK
 have hb3' := hb3; try simp at hb3'
 refine M6 ⟨fun _ : Unit => True, fun _ => [(1, int i), (2, .pointer (i7 gB)), (5, .slice B hs.length cb), (6, .pointer (i7 x7)), (41, .bool (decide (¬ ((-1 ≤ (hs.getD i default).2.1 ∧ (hs.getD i default).2.1 ≤ (cs.length : Int) - 1) ∧ (-1 ≤ (hs.getD i default).2.2.1 ∧ (hs.getD i default).2.2.1 ≤ (hs.length : Int) - 1)))))], fun _ => [(gB, .cells #[.slice A cs.length ca, .slice B hs.length cb] m5 (0, 0))], fun _ => [Row (i7 x7) (rows [hs.getD i default]), Row B (rows hs), Row (hs.getD i default).2.2.2.a (rows (hs.getD i default).2.2.2.l)]⟩ ?_ ?_
 ·skip
  refine d4 ?_
  first | refine b2 ⟨_, 1, none⟩ rfl rfl l6 rfl ?_ | refine b2 _ rfl rfl l6 rfl ?_
  first | refine b3 rfl b5 rfl (j3 mB rfl) ?_ | refine b3 rfl b5 rfl (d5 mB rfl) ?_ | refine b3 rfl b5 rfl (i1 mB (c5 (by omega) rfl)) ?_ | refine b3 rfl b5 rfl (i3 mB (rows_get (by omega) rfl)) ?_ | refine b3 rfl b5 rfl (j8 mB rfl) ?_
  first | refine b2 ⟨_, 0, none⟩ rfl rfl m3 rfl ?_ | refine b2 _ rfl rfl m3 rfl ?_
  first | refine b3 rfl i2 rfl (j3 mB rfl) ?_ | refine b3 rfl i2 rfl (d5 mB rfl) ?_ | refine b3 rfl i2 rfl (i1 mB (c5 (by omega) rfl)) ?_ | refine b3 rfl i2 rfl (i3 mB (rows_get (by omega) rfl)) ?_ | refine b3 rfl i2 rfl (j8 mB rfl) ?_
  refine k5 rfl u1 rfl (H3 _ rfl rfl rfl rfl m7 (i5 D5 rfl rfl (D2 _ _ _) k8 tK fun _ _ => ?_)); refine I6 rfl rfl (b6 rfl (c3 ?_))
  first | refine j9 rfl (fun hb4 => ?_) (fun hb4 => ?_) | refine d6 rfl (fun hb4 => ?_) (fun hb4 => ?_)
  ·have hb4' := hb4; try simp at hb4'
   refine i4 ?_; exact E3 _ () tK ⟨rfl, rfl, rfl, rfl, congrArg (fun b => some (Value.bool b)) (by rw [hb4]; symm; rw [decide_eq_true_eq]; exact fun e => nbw hb4 e.1), tK⟩ (List.Sublist.refl _) mC
  have hb4' := hb4; try simp at hb4'
  refine c9 ?_
  first | refine b2 ⟨_, 2, none⟩ rfl rfl r6 rfl ?_ | refine b2 _ rfl rfl r6 rfl ?_
  first | refine b3 rfl b5 rfl (j3 mB rfl) ?_ | refine b3 rfl b5 rfl (d5 mB rfl) ?_ | refine b3 rfl b5 rfl (i1 mB (c5 (by omega) rfl)) ?_ | refine b3 rfl b5 rfl (i3 mB (rows_get (by omega) rfl)) ?_ | refine b3 rfl b5 rfl (j8 mB rfl) ?_
  refine b4 rfl (k5 rfl l4 rfl (H3 _ rfl rfl rfl rfl m7 (i5 D5 rfl rfl (D2 _ _ _) k8 tK fun _ _ => ?_))); refine I6 rfl rfl (b6 rfl (b7 ?_)); exact E3 _ () tK ⟨rfl, rfl, rfl, rfl, congrArg (fun b => some (Value.bool b)) (by have := bw hb4; rw [Bool.eq_iff_iff]; simp only [Bool.not_eq_true', decide_eq_false_iff_not, decide_eq_true_eq]; exact ⟨fun e f => e f.2, fun e f => e ⟨this, f⟩⟩), tK⟩ (List.Sublist.refl _) mC
 refine fun _ _ => ?_
 first | refine j9 rfl (fun hb5 => ?_) (fun hb5 => ?_) | refine d6 rfl (fun hb5 => ?_) (fun hb5 => ?_)
 ·have hb5' := hb5; try simp at hb5'
  refine d4 (b6 rfl (c3 (j6 (A1 ?_)))); exact ret1 () rfl (congrArg (fun b => some (int b)) (by rw [Z4 cs hs hi, if_neg h1, if_neg hb2, if_neg hb3, if_pos (by omega)])) rfl tK nK tK
 have hb5' := hb5; try simp at hb5'
 refine d4 ?_
 first | refine b2 ⟨_, 2, none⟩ rfl rfl r6 rfl ?_ | refine b2 _ rfl rfl r6 rfl ?_
 first | refine b3 rfl b5 rfl (j3 mB rfl) ?_ | refine b3 rfl b5 rfl (d5 mB rfl) ?_ | refine b3 rfl b5 rfl (i1 mB (c5 (by omega) rfl)) ?_ | refine b3 rfl b5 rfl (i3 mB (rows_get (by omega) rfl)) ?_ | refine b3 rfl b5 rfl (j8 mB rfl) ?_
 refine b4 rfl (I2 rfl rfl rfl (b6 rfl (c3 ?_)))
 first | refine j9 rfl (fun hb6 => ?_) (fun hb6 => ?_) | refine d6 rfl (fun hb6 => ?_) (fun hb6 => ?_)
 ·have hb6' := hb6; try simp at hb6'
  refine d4 (b6 rfl (c3 (j6 (A1 ?_)))); exact ret1 () rfl (congrArg (fun b => some (int b)) (by rw [Z4 cs hs hi, if_neg h1, if_neg hb2, if_neg hb3, if_neg (by omega), if_pos hb6])) rfl tK nK tK
 have hb6' := hb6; try simp at hb6'
 have hH : headErr (trOf cs hs) i = if ¬ firstE (alsoErr hs.length i (hs.getD i default).2.2.2.l) (hs.getD i default).2.2.2.l.length = 0 then firstE (alsoErr hs.length i (hs.getD i default).2.2.2.l) (hs.getD i default).2.2.2.l.length else if kindBad (hs.getD i default).p = true then 8 else 0 := by rw [Z4 cs hs hi, if_neg h1, if_neg hb2, if_neg hb3, if_neg (by omega), if_neg hb6]
 refine i4 (q8 (c7 (d1 (d4 ?_))))
 first | refine b2 ⟨_, 3, none⟩ rfl rfl n8 rfl ?_ | refine b2 _ rfl rfl n8 rfl ?_
 first | refine b3 rfl d9 rfl (j3 mB rfl) ?_ | refine b3 rfl d9 rfl (d5 mB rfl) ?_ | refine b3 rfl d9 rfl (i1 mB (c5 (by omega) rfl)) ?_ | refine b3 rfl d9 rfl (i3 mB (rows_get (by omega) rfl)) ?_ | refine b3 rfl d9 rfl (j8 mB rfl) ?_
 refine k5 rfl j2 rfl ?_; refine b4 rfl (c3 (i8 ?_)); refine p6 (β := Nat) ⟨fun k => k ≤ (hs.getD i default).2.2.2.l.length ∧ firstE (alsoErr hs.length i (hs.getD i default).2.2.2.l) k = 0, fun k => [(1, int i), (2, .pointer (i7 gB)), (5, .slice B hs.length cb), (6, .pointer (i7 x7)), (63, .slice (hs.getD i default).2.2.2.a (hs.getD i default).2.2.2.l.length (hs.getD i default).2.2.2.c), (64, int (hs.getD i default).2.2.2.l.length), (65, int k)], fun _ => [(gB, .cells #[.slice A cs.length ca, .slice B hs.length cb] m5 (0, 0))], fun _ => [Row (i7 x7) (rows [hs.getD i default]), Row B (rows hs), Row (hs.getD i default).2.2.2.a (rows (hs.getD i default).2.2.2.l)]⟩ (fun k => (hs.getD i default).2.2.2.l.length - k) 0 ⟨Nat.zero_le _, rfl⟩ mC (List.Sublist.refl _) mC fun k hk => ?_; obtain ⟨hk, ht⟩ := hk; refine d4 (u7 rfl rfl rfl (c3 (d1 ?_)))
 first | refine j9 rfl (fun hb7 => ?_) (fun hb7 => ?_) | refine d6 rfl (fun hb7 => ?_) (fun hb7 => ?_)
 ·have hb7' := hb7; try simp at hb7'
  have hk2 : k < (hs.getD i default).2.2.2.l.length := by omega
  refine i4 (c7 (d1 (i8 (d4 (b4 rfl ?_))))); refine p8 (α := Int) _ _ rfl j2 k6 rfl rfl rfl mB rfl (by omega) (by decide) (b3 rfl b5 rfl (i1 mB (c5 (by omega) rfl)) ?_); refine b6 rfl (b6 rfl (c3 (i8 (d4 (b4 rfl (b4 rfl ?_)))))); refine k5 rfl l4 rfl (H3 _ rfl rfl rfl rfl m7 (i5 D5 rfl rfl (D2 _ _ _) k8 tK fun _ _ => ?_)); refine I6 rfl rfl (b6 rfl (c3 ?_))
  first | refine j9 rfl (fun hb8 => ?_) (fun hb8 => ?_) | refine d6 rfl (fun hb8 => ?_) (fun hb8 => ?_)
  ·have hb8' := hb8; try simp at hb8'
   refine d4 (b6 rfl (c3 (j6 (W6 (A1 (u4 (A1 ?_))))))); exact ret1 () rfl (congrArg (fun b => some (int b)) (by have he : alsoErr hs.length i (hs.getD i default).2.2.2.l k = 3 := (by unfold alsoErr; rw [if_pos (by have := nbw hb8; omega)]); rw [hH, V4 ht (by rw [he]; omega) _ hk2, if_pos (by rw [he]; omega), he])) rfl tK nK tK
  have hb8' := hb8; try simp at hb8'
  refine d4 (b4 rfl (b4 rfl (I2 rfl rfl rfl (b6 rfl (c3 ?_)))))
  first | refine j9 rfl (fun hb9 => ?_) (fun hb9 => ?_) | refine d6 rfl (fun hb9 => ?_) (fun hb9 => ?_)
  ·have hb9' := hb9; try simp at hb9'
   refine d4 (b6 rfl (c3 (j6 (W6 (A1 (u4 (A1 ?_))))))); exact ret1 () rfl (congrArg (fun b => some (int b)) (by have he : alsoErr hs.length i (hs.getD i default).2.2.2.l k = 9 := (by unfold alsoErr; rw [if_neg (by have := bw hb8; omega), if_pos hb9]); rw [hH, V4 ht (by rw [he]; omega) _ hk2, if_pos (by rw [he]; omega), he])) rfl tK nK tK
  have hb9' := hb9; try simp at hb9'
  refine M6 ⟨fun _ : Unit => True, fun _ => [(1, int i), (2, .pointer (i7 gB)), (5, .slice B hs.length cb), (6, .pointer (i7 x7)), (63, .slice (hs.getD i default).2.2.2.a (hs.getD i default).2.2.2.l.length (hs.getD i default).2.2.2.c), (64, int (hs.getD i default).2.2.2.l.length), (65, int k), (81, .bool (decide (0 < k ∧ (hs.getD i default).2.2.2.l.getD k default ≤ (hs.getD i default).2.2.2.l.getD (k - 1) default)))], fun _ => [(gB, .cells #[.slice A cs.length ca, .slice B hs.length cb] m5 (0, 0))], fun _ => [Row (i7 x7) (rows [hs.getD i default]), Row B (rows hs), Row (hs.getD i default).2.2.2.a (rows (hs.getD i default).2.2.2.l)]⟩ ?_ ?_
  ·skip
   refine c9 (b4 rfl (K5 rfl rfl rfl (b4 rfl ?_))); refine q6 rfl rfl ?_ ?_
   ·intro hg2; have hg2' := hg2; try simp at hg2'
    refine k7 hg2 (b4 rfl (k7 hg2 ?_))
    first | refine b2 ⟨_, 3, none⟩ rfl rfl n8 rfl ?_ | refine b2 _ rfl rfl n8 rfl ?_
    refine k7 hg2 ?_
    first | refine b3 rfl d9 rfl (j3 mB rfl) ?_ | refine b3 rfl d9 rfl (d5 mB rfl) ?_ | refine b3 rfl d9 rfl (i1 mB (c5 (by omega) rfl)) ?_ | refine b3 rfl d9 rfl (i3 mB (rows_get (by omega) rfl)) ?_ | refine b3 rfl d9 rfl (j8 mB rfl) ?_
    refine k7 hg2 (b4 rfl (k7 hg2 ?_)); refine H3 ((k - 1 : Nat) : Int) rfl rfl rfl (by omega) m7 (k7 hg2 (p8 (α := Int) _ _ rfl j2 k6 rfl rfl rfl mB rfl (by omega) (by decide) (k7 hg2 (b3 rfl b5 rfl (i1 mB (c5 (by omega) rfl)) ?_)))); refine k7 hg2 (nY rfl rfl rfl ?_); refine p_t rfl rfl (bt1 hg2) rfl ?_; refine b6 rfl (b7 ?_); exact E3 _ () tK ⟨rfl, rfl, rfl, rfl, rfl, rfl, rfl, congrArg (fun b => some (Value.bool b)) (by exact decide_eq_decide.2 ⟨fun e => ⟨by omega, e⟩, fun e => e.2⟩), tK⟩ (List.Sublist.refl _) mC
   intro hg2; have hg2' := hg2; try simp at hg2'
   refine n4 hg2 (n4 hg2 (n4 hg2 (n4 hg2 (n4 hg2 (n4 hg2 (n4 hg2 (n4 hg2 ?_))))))); refine p_f rfl rfl (bf2 hg2) rfl ?_; refine b6 rfl (b7 ?_); exact E3 _ () tK ⟨rfl, rfl, rfl, rfl, rfl, rfl, rfl, congrArg (fun b => some (Value.bool b)) (by exact (decide_eq_false (by simp at hg2; omega)).symm), tK⟩ (List.Sublist.refl _) mC
  refine fun _ _ => ?_
  first | refine j9 rfl (fun hb10 => ?_) (fun hb10 => ?_) | refine d6 rfl (fun hb10 => ?_) (fun hb10 => ?_)
  ·have hb10' := hb10; try simp at hb10'
   refine d4 (b6 rfl (c3 (j6 (W6 (A1 (u4 (A1 ?_))))))); exact ret1 () rfl (congrArg (fun b => some (int b)) (by have he : alsoErr hs.length i (hs.getD i default).2.2.2.l k = 5 := (by unfold alsoErr; rw [if_neg (by have := bw hb8; omega), if_neg hb9, if_pos hb10]); rw [hH, V4 ht (by rw [he]; omega) _ hk2, if_pos (by rw [he]; omega), he])) rfl tK nK tK
  have hb10' := hb10; try simp at hb10'
  refine i4 (q8 (q8 (c7 (c9 ?_)))); refine r4 _ rfl rfl rfl rfl m7 ?_; refine b4 rfl (b7 ?_); exact again _ (k + 1) ⟨by omega, by rw [pS ht]; unfold alsoErr; rw [if_neg (by have := bw hb8; omega), if_neg hb9, if_neg hb10]⟩ (r9 (by omega)) mC (List.Sublist.refl _) mC
 have hb7' := hb7; try simp at hb7'
 have hk2 : k = (hs.getD i default).2.2.2.l.length := by omega
 subst hk2; rw [if_neg (not_not_intro ht)] at hH; refine m4 (v6 (l9 (c7 (d1 ?_)))); refine M6 ⟨fun _ : Unit => True, fun _ => [(1, int i), (2, .pointer (i7 gB)), (5, .slice B hs.length cb), (6, .pointer (i7 x7)), (124, .bool (kindBad (hs.getD i default).p))], fun _ => [(gB, .cells #[.slice A cs.length ca, .slice B hs.length cb] m5 (0, 0))], fun _ => [Row (i7 x7) (rows [hs.getD i default]), Row B (rows hs), Row (hs.getD i default).2.2.2.a (rows (hs.getD i default).2.2.2.l)]⟩ ?_ ?_
 ·skip
  clear hH ht hk hb1 hb1' h1 hb2 hb2' hb3 hb3' hb5 hb5' hb6 hb6' hb7 hb7' ha h6 hc6 hc hi hal; refine c9 ?_
  first | refine b2 ⟨_, 2, none⟩ rfl rfl r6 rfl ?_ | refine b2 _ rfl rfl r6 rfl ?_
  first | refine b3 rfl b5 rfl (j3 mB rfl) ?_ | refine b3 rfl b5 rfl (d5 mB rfl) ?_ | refine b3 rfl b5 rfl (i1 mB (c5 (by omega) rfl)) ?_ | refine b3 rfl b5 rfl (i3 mB (rows_get (by omega) rfl)) ?_ | refine b3 rfl b5 rfl (j8 mB rfl) ?_
  refine B9 rfl rfl rfl (b4 rfl ?_); refine q6 rfl rfl ?_ ?_
  ·intro hg3; have hg3' := hg3; try simp at hg3'
   refine k7 hg3 ?_
   first | refine b2 ⟨_, 1, none⟩ rfl rfl l6 rfl ?_ | refine b2 _ rfl rfl l6 rfl ?_
   refine k7 hg3 ?_
   first | refine b3 rfl b5 rfl (j3 mB rfl) ?_ | refine b3 rfl b5 rfl (d5 mB rfl) ?_ | refine b3 rfl b5 rfl (i1 mB (c5 (by omega) rfl)) ?_ | refine b3 rfl b5 rfl (i3 mB (rows_get (by omega) rfl)) ?_ | refine b3 rfl b5 rfl (j8 mB rfl) ?_
   refine k7 hg3 (B9 rfl rfl rfl (k7 hg3 (b4 rfl ?_))); refine q6 rfl rfl ?_ ?_
   ·intro hg4; have hg4' := hg4; try simp at hg4'
    refine k7 hg4 ?_
    first | refine b2 ⟨_, 3, none⟩ rfl rfl n8 rfl ?_ | refine b2 _ rfl rfl n8 rfl ?_
    refine k7 hg4 ?_
    first | refine b3 rfl d9 rfl (j3 mB rfl) ?_ | refine b3 rfl d9 rfl (d5 mB rfl) ?_ | refine b3 rfl d9 rfl (i1 mB (c5 (by omega) rfl)) ?_ | refine b3 rfl d9 rfl (i3 mB (rows_get (by omega) rfl)) ?_ | refine b3 rfl d9 rfl (j8 mB rfl) ?_
    refine k7 hg4 (k5 rfl j2 rfl ?_); refine k7 hg4 (K5 rfl rfl rfl (k7 hg3 ?_)); refine p_f rfl rfl (bf1 hg4) rfl (p_t rfl rfl (bt1 hg3) rfl (b4 rfl ?_)); refine q6 rfl rfl ?_ ?_
    ·intro hg5; have hg5' := hg5; try simp at hg5'
     refine k7 hg5 ?_
     first | refine b2 ⟨_, 2, none⟩ rfl rfl r6 rfl ?_ | refine b2 _ rfl rfl r6 rfl ?_
     refine k7 hg5 ?_
     first | refine b3 rfl b5 rfl (j3 mB rfl) ?_ | refine b3 rfl b5 rfl (d5 mB rfl) ?_ | refine b3 rfl b5 rfl (i1 mB (c5 (by omega) rfl)) ?_ | refine b3 rfl b5 rfl (i3 mB (rows_get (by omega) rfl)) ?_ | refine b3 rfl b5 rfl (j8 mB rfl) ?_
     refine k7 hg5 (I2 rfl rfl rfl (k7 hg5 (b4 rfl ?_))); refine q6 rfl rfl ?_ ?_
     ·intro hg6; have hg6' := hg6; try simp at hg6'
      refine k7 hg6 ?_
      first | refine b2 ⟨_, 1, none⟩ rfl rfl l6 rfl ?_ | refine b2 _ rfl rfl l6 rfl ?_
      refine k7 hg6 ?_
      first | refine b3 rfl b5 rfl (j3 mB rfl) ?_ | refine b3 rfl b5 rfl (d5 mB rfl) ?_ | refine b3 rfl b5 rfl (i1 mB (c5 (by omega) rfl)) ?_ | refine b3 rfl b5 rfl (i3 mB (rows_get (by omega) rfl)) ?_ | refine b3 rfl b5 rfl (j8 mB rfl) ?_
      refine k7 hg6 (I2 rfl rfl rfl (k7 hg5 ?_)); refine p_t rfl rfl (bt1 hg6) rfl ?_; refine k7 hg5 (b4 rfl ?_); refine q6 rfl rfl ?_ ?_
      ·intro hg7; have hg7' := hg7; try simp at hg7'
       refine k7 hg7 ?_
       first | refine b2 ⟨_, 3, none⟩ rfl rfl n8 rfl ?_ | refine b2 _ rfl rfl n8 rfl ?_
       refine k7 hg7 ?_
       first | refine b3 rfl d9 rfl (j3 mB rfl) ?_ | refine b3 rfl d9 rfl (d5 mB rfl) ?_ | refine b3 rfl d9 rfl (i1 mB (c5 (by omega) rfl)) ?_ | refine b3 rfl d9 rfl (i3 mB (rows_get (by omega) rfl)) ?_ | refine b3 rfl d9 rfl (j8 mB rfl) ?_
       refine k7 hg7 (k5 rfl j2 rfl ?_); refine k7 hg7 (I2 rfl rfl rfl (k7 hg5 ?_)); refine p_t rfl rfl (bt1 hg7) rfl (p_f rfl rfl (bf1 hg5) rfl (b7 ?_)); exact E3 _ () tK ⟨rfl, rfl, rfl, rfl, congrArg (fun b => some (Value.bool b)) (by simp only [kindBad, Hd.p]; simp_all), tK⟩ (List.Sublist.refl _) mC
      intro hg7; have hg7' := hg7; try simp at hg7'
      refine n4 hg7 (n4 hg7 (n4 hg7 (n4 hg7 (k7 hg5 ?_)))); refine p_f rfl rfl (bf2 hg7) rfl (p_f rfl rfl (bf1 hg5) rfl (b7 ?_)); exact E3 _ () tK ⟨rfl, rfl, rfl, rfl, congrArg (fun b => some (Value.bool b)) (by simp only [kindBad, Hd.p]; simp_all), tK⟩ (List.Sublist.refl _) mC
     intro hg6; have hg6' := hg6; try simp at hg6'
     refine n4 hg6 (n4 hg6 (n4 hg6 (k7 hg5 ?_))); refine p_f rfl rfl (bf2 hg6) rfl ?_; refine k7 hg5 (b4 rfl (D8 rfl rfl rfl rfl rfl rfl (D8 rfl rfl rfl rfl rfl rfl (D8 rfl rfl rfl rfl rfl rfl (D8 rfl rfl rfl rfl rfl rfl (k7 hg5 (p_f rfl rfl rfl rfl ?_))))))); refine p_f rfl rfl (bf1 hg5) rfl (b7 ?_); exact E3 _ () tK ⟨rfl, rfl, rfl, rfl, congrArg (fun b => some (Value.bool b)) (by simp only [kindBad, Hd.p]; simp_all), tK⟩ (List.Sublist.refl _) mC
    intro hg5; have hg5' := hg5; try simp at hg5'
    refine n4 hg5 (n4 hg5 (n4 hg5 (n4 hg5 (Y5 rfl rfl rfl rfl rfl rfl (Y5 rfl rfl rfl rfl rfl rfl (Y5 rfl rfl rfl rfl rfl rfl (n4 hg5 (n4 hg5 (Y5 rfl rfl rfl rfl rfl rfl (Y5 rfl rfl rfl rfl rfl rfl (Y5 rfl rfl rfl rfl rfl rfl ?_))))))))))); refine Y5 rfl rfl rfl rfl rfl rfl (n4 hg5 ?_); refine p_t rfl rfl (bt2 hg5) rfl (b7 ?_); exact E3 _ () tK ⟨rfl, rfl, rfl, rfl, congrArg (fun b => some (Value.bool b)) (by simp only [kindBad, Hd.p]; simp_all), tK⟩ (List.Sublist.refl _) mC
   intro hg4; have hg4' := hg4; try simp at hg4'
   refine n4 hg4 (n4 hg4 (n4 hg4 (n4 hg4 (k7 hg3 ?_)))); refine p_t rfl rfl (bt2 hg4) rfl (p_t rfl rfl (bt1 hg3) rfl ?_); refine b4 rfl (D8 rfl rfl rfl rfl rfl rfl (D8 rfl rfl rfl rfl rfl rfl (D8 rfl rfl rfl rfl rfl rfl (D8 rfl rfl rfl rfl rfl rfl (Y5 rfl rfl rfl rfl rfl rfl (Y5 rfl rfl rfl rfl rfl rfl (Y5 rfl rfl rfl rfl rfl rfl (D8 rfl rfl rfl rfl rfl rfl (D8 rfl rfl rfl rfl rfl rfl (Y5 rfl rfl rfl rfl rfl rfl (Y5 rfl rfl rfl rfl rfl rfl ?_))))))))))); refine Y5 rfl rfl rfl rfl rfl rfl (Y5 rfl rfl rfl rfl rfl rfl (D8 rfl rfl rfl rfl rfl rfl (p_t rfl rfl rfl rfl (b7 ?_)))); exact E3 _ () tK ⟨rfl, rfl, rfl, rfl, congrArg (fun b => some (Value.bool b)) (by simp only [kindBad, Hd.p]; simp_all), tK⟩ (List.Sublist.refl _) mC
  intro hg3; have hg3' := hg3; try simp at hg3'
  refine n4 hg3 (n4 hg3 (n4 hg3 (n4 hg3 (Y5 rfl rfl rfl rfl rfl rfl (Y5 rfl rfl rfl rfl rfl rfl (Y5 rfl rfl rfl rfl rfl rfl (Y5 rfl rfl rfl rfl rfl rfl (n4 hg3 ?_)))))))); refine p_f rfl rfl (bf2 hg3) rfl ?_; refine b4 rfl (cY rfl rfl rfl ?_)
  first | refine b2 ⟨_, 2, none⟩ rfl rfl r6 rfl ?_ | refine b2 _ rfl rfl r6 rfl ?_
  refine cY rfl rfl rfl ?_
  first | refine b3 rfl b5 rfl (j3 mB rfl) ?_ | refine b3 rfl b5 rfl (d5 mB rfl) ?_ | refine b3 rfl b5 rfl (i1 mB (c5 (by omega) rfl)) ?_ | refine b3 rfl b5 rfl (i3 mB (rows_get (by omega) rfl)) ?_ | refine b3 rfl b5 rfl (j8 mB rfl) ?_
  refine cY rfl rfl rfl (I2 rfl rfl rfl (cY rfl rfl rfl (b4 rfl ?_))); refine q6 rfl rfl ?_ ?_
  ·intro hg8; have hg8' := hg8; try simp at hg8'
   refine k7 hg8 ?_
   first | refine b2 ⟨_, 1, none⟩ rfl rfl l6 rfl ?_ | refine b2 _ rfl rfl l6 rfl ?_
   refine k7 hg8 ?_
   first | refine b3 rfl b5 rfl (j3 mB rfl) ?_ | refine b3 rfl b5 rfl (d5 mB rfl) ?_ | refine b3 rfl b5 rfl (i1 mB (c5 (by omega) rfl)) ?_ | refine b3 rfl b5 rfl (i3 mB (rows_get (by omega) rfl)) ?_ | refine b3 rfl b5 rfl (j8 mB rfl) ?_
   refine k7 hg8 (I2 rfl rfl rfl (cY rfl rfl rfl ?_)); refine p_t rfl rfl (bt1 hg8) rfl ?_; refine cY rfl rfl rfl (b4 rfl ?_); refine q6 rfl rfl ?_ ?_
   ·intro hg9; have hg9' := hg9; try simp at hg9'
    refine k7 hg9 ?_
    first | refine b2 ⟨_, 3, none⟩ rfl rfl n8 rfl ?_ | refine b2 _ rfl rfl n8 rfl ?_
    refine k7 hg9 ?_
    first | refine b3 rfl d9 rfl (j3 mB rfl) ?_ | refine b3 rfl d9 rfl (d5 mB rfl) ?_ | refine b3 rfl d9 rfl (i1 mB (c5 (by omega) rfl)) ?_ | refine b3 rfl d9 rfl (i3 mB (rows_get (by omega) rfl)) ?_ | refine b3 rfl d9 rfl (j8 mB rfl) ?_
    refine k7 hg9 (k5 rfl j2 rfl ?_); refine k7 hg9 (I2 rfl rfl rfl (cY rfl rfl rfl ?_)); refine p_t rfl rfl (bt1 hg9) rfl ?_; refine p_f rfl rfl rfl rfl (b7 ?_); exact E3 _ () tK ⟨rfl, rfl, rfl, rfl, congrArg (fun b => some (Value.bool b)) (by simp only [kindBad, Hd.p]; simp_all), tK⟩ (List.Sublist.refl _) mC
   intro hg9; have hg9' := hg9; try simp at hg9'
   refine n4 hg9 (n4 hg9 (n4 hg9 (n4 hg9 (cY rfl rfl rfl ?_)))); refine p_f rfl rfl (bf2 hg9) rfl ?_; refine p_f rfl rfl rfl rfl (b7 ?_); exact E3 _ () tK ⟨rfl, rfl, rfl, rfl, congrArg (fun b => some (Value.bool b)) (by simp only [kindBad, Hd.p]; simp_all), tK⟩ (List.Sublist.refl _) mC
  intro hg8; have hg8' := hg8; try simp at hg8'
  refine n4 hg8 (n4 hg8 (n4 hg8 (cY rfl rfl rfl ?_))); refine p_f rfl rfl (bf2 hg8) rfl ?_; refine cY rfl rfl rfl (b4 rfl (D8 rfl rfl rfl rfl rfl rfl (D8 rfl rfl rfl rfl rfl rfl (D8 rfl rfl rfl rfl rfl rfl (D8 rfl rfl rfl rfl rfl rfl (cY rfl rfl rfl (p_f rfl rfl rfl rfl (p_f rfl rfl rfl rfl (b7 ?_))))))))); exact E3 _ () tK ⟨rfl, rfl, rfl, rfl, congrArg (fun b => some (Value.bool b)) (by simp only [kindBad, Hd.p]; simp_all), tK⟩ (List.Sublist.refl _) mC
 refine fun _ _ => ?_
 first | refine j9 rfl (fun hb11 => ?_) (fun hb11 => ?_) | refine d6 rfl (fun hb11 => ?_) (fun hb11 => ?_)
 ·have hb11' := hb11; try simp at hb11'
  refine d4 (b6 rfl (c3 (M2 ?_))); exact ret1 () rfl (congrArg (fun b => some (int b)) (by rw [hH, if_pos hb11])) rfl tK nK tK
 have hb11' := hb11; try simp at hb11'
 refine i4 (c7 (d4 (b6 rfl (c3 (j6 ?_))))); exact ret1 () rfl (congrArg (fun b => some (int b)) (by rw [hH, if_neg (by rw [hb11]; simp)])) rfl tK nK tK
theorem y6 (cs : List Cl) (hs : List Hd) : (trOf cs hs).hs.length = hs.length := List.length_map ..
theorem gK {A B : Option Addr} {ca cb : Nat} (cs : List Cl) (hs : List Hd) (hca : cs.length ≤ ca) (hcb : hs.length ≤ cb) (ha : ∀ h ∈ hs, h.2.2.2.l.length ≤ 1000000) : Meets prog cZ [.agg #[.slice A cs.length ca, .slice B hs.length cb]] { LI := [Row A (rows cs), RowsF B hs Hd.row], val := fun _ : Unit => int (checkT (trOf cs hs)) } := by
 refine d3 wD rfl n2 fun w0 => d4 (B7 rfl rfl fun gB => ?_); refine b6 rfl (c3 (cW ?_)); have hl := y6 cs hs; refine c9 ?_
 first | refine b2 ⟨_, 0, none⟩ rfl rfl m3 rfl ?_ | refine b2 _ rfl rfl m3 rfl ?_
 first | refine b3 rfl i2 rfl (j3 mB rfl) ?_ | refine b3 rfl i2 rfl (d5 mB rfl) ?_ | refine b3 rfl i2 rfl (i1 mB (c5 (by omega) rfl)) ?_ | refine b3 rfl i2 rfl (i3 mB (rows_get (by omega) rfl)) ?_ | refine b3 rfl i2 rfl (j8 mB rfl) ?_
 refine k5 rfl u1 rfl ?_; refine K5 rfl rfl rfl (b4 rfl ?_); refine q6 rfl rfl ?_ ?_
 ·intro hg1; have hg1' := hg1; try simp at hg1'
  have h6 : cs.length ≤ 6 := by simp at hg1; omega
  refine k7 hg1 ?_
  first | refine b2 ⟨_, 1, none⟩ rfl rfl d8 rfl ?_ | refine b2 _ rfl rfl d8 rfl ?_
  refine k7 hg1 ?_
  first | refine b3 rfl b8 rfl (j3 mB rfl) ?_ | refine b3 rfl b8 rfl (d5 mB rfl) ?_ | refine b3 rfl b8 rfl (i1 mB (c5 (by omega) rfl)) ?_ | refine b3 rfl b8 rfl (i3 mB (rows_get (by omega) rfl)) ?_ | refine b3 rfl b8 rfl (j8 mB rfl) ?_
  refine k7 hg1 (k5 rfl l4 rfl ?_); refine k7 hg1 (K5 rfl rfl rfl ?_); refine p_f rfl rfl (bf1 hg1) rfl (c3 ?_)
  first | refine j9 rfl (fun hb1 => ?_) (fun hb1 => ?_) | refine d6 rfl (fun hb1 => ?_) (fun hb1 => ?_)
  ·have hb1' := hb1; try simp at hb1'
   refine d4 (b6 rfl (c3 (M2 ?_))); exact ret1 () rfl (congrArg (fun b => some (int b)) (by rw [checkT, if_pos (by rw [hl]; simp only; omega)])) rfl tK nK tK
  have hb1' := hb1; try simp at hb1'
  have h6h : hs.length ≤ 6 := by omega
  have hT : checkT (trOf cs hs) = if ¬ firstE (clsErr cs) cs.length = 0 then firstE (clsErr cs) cs.length else firstE (headErr (trOf cs hs)) hs.length := by rw [checkT, if_neg (by rw [hl]; simp only; omega), hl]
  refine i4 (c7 (d1 (d4 ?_)))
  first | refine b2 ⟨_, 0, none⟩ rfl rfl m3 rfl ?_ | refine b2 _ rfl rfl m3 rfl ?_
  first | refine b3 rfl i2 rfl (j3 mB rfl) ?_ | refine b3 rfl i2 rfl (d5 mB rfl) ?_ | refine b3 rfl i2 rfl (i1 mB (c5 (by omega) rfl)) ?_ | refine b3 rfl i2 rfl (i3 mB (rows_get (by omega) rfl)) ?_ | refine b3 rfl i2 rfl (j8 mB rfl) ?_
  refine k5 rfl u1 rfl ?_; refine b4 rfl (c3 (i8 ?_)); refine p6 (β := Nat) ⟨fun k => k ≤ cs.length ∧ firstE (clsErr cs) k = 0, fun k => [(1, .pointer (i7 gB)), (19, int cs.length), (20, int k)], fun _ => [(gB, .cells #[.slice A cs.length ca, .slice B hs.length cb] m5 (0, 0))], fun _ => [Row A (rows cs), RowsF B hs Hd.row]⟩ (fun k => cs.length - k) 0 ⟨Nat.zero_le _, rfl⟩ mC (List.Sublist.refl _) mC fun k hk => ?_; obtain ⟨hk, ht⟩ := hk; refine d4 (u7 rfl rfl rfl (c3 (d1 ?_)))
  first | refine j9 rfl (fun hb2 => ?_) (fun hb2 => ?_) | refine d6 rfl (fun hb2 => ?_) (fun hb2 => ?_)
  ·have hb2' := hb2; try simp at hb2'
   have hk2 : k < cs.length := by omega
   refine i4 (c7 (d1 (i8 (d4 (b4 rfl (b6 rfl (j4 ?_)))))))
   first | refine b2 ⟨_, 0, none⟩ rfl rfl m3 rfl ?_ | refine b2 _ rfl rfl m3 rfl ?_
   first | refine b3 rfl i2 rfl (j3 mB rfl) ?_ | refine b3 rfl i2 rfl (d5 mB rfl) ?_ | refine b3 rfl i2 rfl (i1 mB (c5 (by omega) rfl)) ?_ | refine b3 rfl i2 rfl (i3 mB (rows_get (by omega) rfl)) ?_ | refine b3 rfl i2 rfl (j8 mB rfl) ?_
   refine b4 rfl (i5 lI rfl rfl (kT cs k (by omega) hca hk2) k8 mC fun _ _ => ?_); refine b6 rfl (j4 (b4 rfl (B9 rfl rfl rfl (c3 ?_))))
   first | refine j9 rfl (fun hb3 => ?_) (fun hb3 => ?_) | refine d6 rfl (fun hb3 => ?_) (fun hb3 => ?_)
   ·have hb3' := hb3; try simp at hb3'
    refine d4 (b4 rfl (b6 rfl (c3 (j6 (A1 (u4 (A1 ?_))))))); exact ret1 () rfl (congrArg (fun b => some (int b)) (by rw [hT, V4 ht hb3 _ hk2, if_pos hb3])) rfl tK nK tK
   have hb3' := hb3; try simp at hb3'
   refine i4 (q8 (c7 (c9 ?_))); refine r4 _ rfl rfl rfl rfl m7 ?_; refine b4 rfl (b7 ?_); exact again _ (k + 1) ⟨by omega, by rw [pS ht]; exact Classical.not_not.1 hb3⟩ (r9 (by omega)) mC (List.Sublist.refl _) mC
  have hb2' := hb2; try simp at hb2'
  have hk2 : k = cs.length := by omega
  subst hk2; rw [if_neg (not_not_intro ht)] at hT; refine m4 (v6 (l9 (c7 (d1 (d4 ?_)))))
  first | refine b2 ⟨_, 1, none⟩ rfl rfl d8 rfl ?_ | refine b2 _ rfl rfl d8 rfl ?_
  first | refine b3 rfl b8 rfl (j3 mB rfl) ?_ | refine b3 rfl b8 rfl (d5 mB rfl) ?_ | refine b3 rfl b8 rfl (i1 mB (c5 (by omega) rfl)) ?_ | refine b3 rfl b8 rfl (i3 mB (rows_get (by omega) rfl)) ?_ | refine b3 rfl b8 rfl (j8 mB rfl) ?_
  refine k5 rfl l4 rfl ?_; refine b4 rfl (c3 (i8 ?_)); refine p6 (β := Nat) ⟨fun k => k ≤ hs.length ∧ firstE (headErr (trOf cs hs)) k = 0, fun k => [(1, .pointer (i7 gB)), (33, int hs.length), (34, int k)], fun _ => [(gB, .cells #[.slice A cs.length ca, .slice B hs.length cb] m5 (0, 0))], fun _ => [Row A (rows cs), RowsF B hs Hd.row]⟩ (fun k => hs.length - k) 0 ⟨Nat.zero_le _, rfl⟩ mC (List.Sublist.refl _) mC fun k hk => ?_; obtain ⟨hk, ht⟩ := hk; refine d4 (u7 rfl rfl rfl (c3 (d1 ?_)))
  first | refine j9 rfl (fun hb4 => ?_) (fun hb4 => ?_) | refine d6 rfl (fun hb4 => ?_) (fun hb4 => ?_)
  ·have hb4' := hb4; try simp at hb4'
   have hk2 : k < hs.length := by omega
   refine i4 (c7 (d1 (i8 (d4 (b4 rfl (b6 rfl (j4 ?_)))))))
   first | refine J5 rfl i9 j0 rfl mB (by rfl) ?_ | refine w7 rfl i9 j0 rfl mB (by rfl) ?_ | refine y9 rfl i9 j0 rfl rfl (w5 mB (z6 (by omega))) ?_
   refine b4 rfl (i5 nE rfl rfl (mT cs hs k h6h h6 hcb hk2 ha) k8 mC fun _ _ => ?_); refine b6 rfl (j4 (b4 rfl (B9 rfl rfl rfl (c3 ?_))))
   first | refine j9 rfl (fun hb5 => ?_) (fun hb5 => ?_) | refine d6 rfl (fun hb5 => ?_) (fun hb5 => ?_)
   ·have hb5' := hb5; try simp at hb5'
    refine d4 (b4 rfl (b6 rfl (c3 (j6 (A1 (u4 (A1 ?_))))))); exact ret1 () rfl (congrArg (fun b => some (int b)) (by rw [hT, V4 ht hb5 _ hk2])) rfl tK nK tK
   have hb5' := hb5; try simp at hb5'
   refine i4 (q8 (c7 (c9 ?_))); refine r4 _ rfl rfl rfl rfl m7 ?_; refine b4 rfl (b7 ?_); exact again _ (k + 1) ⟨by omega, by rw [pS ht]; exact Classical.not_not.1 hb5⟩ (r9 (by omega)) mC (List.Sublist.refl _) mC
  have hb4' := hb4; try simp at hb4'
  have hk2 : k = hs.length := by omega
  subst hk2; refine m4 (v6 (l9 (c7 (d4 (b6 rfl (c3 (j6 ?_))))))); exact ret1 () rfl (congrArg (fun b => some (int b)) (by rw [hT, ht])) rfl tK nK tK
 intro hg1; have hg1' := hg1; try simp at hg1'
 refine n4 hg1 (n4 hg1 (n4 hg1 (n4 hg1 ?_))); refine p_t rfl rfl (bt2 hg1) rfl ?_; refine c3 (c_t rfl rfl (d4 (b6 rfl (c3 (M2 ?_))))); exact ret1 () rfl (congrArg (fun b => some (int b)) (by rw [checkT, if_pos (by simp at hg1; simp only; omega)])) rfl tK nK tK
end Go.Proofs.YtpihanmcnmlodaaGreatDoor
end
