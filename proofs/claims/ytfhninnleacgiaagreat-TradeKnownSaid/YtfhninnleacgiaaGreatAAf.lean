/- Texts of this claim, one behind another. -/
import Derived.Sort.Walk0
import Derived.Test.YtfhninnleacgiaaGreatAAd
import Derived.Test.YtfhninnleacgiaaGreatAAe
set_option linter.unusedVariables false
set_option linter.unusedSimpArgs false
section
namespace Go.Proofs.YtfhninnleacgiaaGreat
open Go Go.W
set_option maxRecDepth 20000
attribute [local irreducible] HL HC HQ HB Row Rows2 Blk Facts
instance : El Cl where
  default := ([], 0)
  cells m := [str m.1, int m.2]
  sz := 2
  len _ := rfl
  one a u h := by simp at h; rcases h with h | h <;> subst h <;> rfl
abbrev Hd := Str × Int × Int × Sl Int
instance : El Hd where
  default := ([], 0, 0, ⟨none, 0, []⟩)
  cells m := [str m.1, int m.2.1, int m.2.2.1, .slice m.2.2.2.a m.2.2.2.l.length m.2.2.2.c]
  sz := 4
  len _ := rfl
  one a u h := by simp at h; rcases h with h | h | h | h <;> subst h <;> rfl
def Hd.p (h : Hd) : PH := (h.1, h.2.1, h.2.2.1, h.2.2.2.l)
abbrev Hd.row (h : Hd) : Fact := Row h.2.2.2.a (rows h.2.2.2.l)
abbrev trOf (cs : List Cl) (hs : List Hd) : Tr := ⟨cs, hs.map Hd.p⟩
theorem bj4 (a b : Str) : Op.bytesLess a b = decide (a < b) := bytesLess_eq a b
theorem u9 {α : Type} [Inhabited α] {l : List α} {k : Nat} (hk : k < l.length) : l.getD k default = l[k] := by simp [List.getD_eq_getElem?_getD, hk]
theorem s6 {α : Type} [Inhabited α] {l : List α} {k : Nat} (hk : k < l.length) : l.getD k default ∈ l := by rw [u9 hk]; exact List.getElem_mem hk
theorem G8 {hs : List Hd} {k : Nat} (hk : k < hs.length) : (hs.map Hd.p).getD k default = (hs.getD k default).p := by
  rw [u9 hk, u9 (by simpa using hk)]; simp
theorem s7 (n lo hi : Int) : Meets Tryz.prog F.cT [int n, int lo, int hi] { val := fun _ : Unit => .bool (decide (lo ≤ n ∧ n ≤ hi)) } := by
 refine i7 F.sW rfl p7 fun w0 => ?_; refine i4 (b7 rfl (j8 (a8 rfl (a8 rfl (aj4 rfl rfl rfl (a8 rfl ?_)))))); refine m6 rfl rfl ?_ ?_
 ·intro hg1; have hg1' := hg1; try simp at hg1'
  refine i3 rfl rfl hg1 (a8 rfl (i3 rfl rfl hg1 (a8 rfl (i3 rfl rfl hg1 (aj4 rfl rfl rfl ?_))))); refine p_t rfl rfl (bt1 hg1) rfl ?_; refine b7 rfl (d9 (k5 ?_)); exact ret1 () rfl (congrArg (fun b => some (Value.bool b)) (by simp [hg1'])) rfl trivial nil_sb trivial
 intro hg1; have hg1' := hg1; try simp at hg1'
 refine q7 rfl rfl rfl rfl rfl hg1 (q7 rfl rfl rfl rfl rfl hg1 (q7 rfl rfl rfl rfl rfl hg1 ?_)); refine p_f rfl rfl (bf2 hg1) rfl ?_; refine b7 rfl (d9 (k5 ?_)); exact ret1 () rfl (congrArg (fun b => some (Value.bool b)) (by simp [Int.not_le.2 hg1'])) rfl trivial nil_sb trivial
theorem wV {s : Str} {p : Nat} (hp : p < s.length) (h : s[p].toNat < 97 ∨ 122 < s[p].toNat) : wordB s = false := by
  have : s.all azB = false := by
    rw [List.all_eq_false]; refine ⟨s[p], List.getElem_mem hp, ?_⟩; simp only [azB, Bool.and_eq_true, decide_eq_true_eq]
    omega
  simp [wordB, this]
theorem jq5 {s : Str} {k : Nat} (hk : k < s.length) (h : (s.take k).all azB = true) (h1 : 97 ≤ s[k].toNat ∧ s[k].toNat ≤ 122) : (s.take (k + 1)).all azB = true := by
  rw [List.take_succ_eq_append_getElem hk, List.all_append, h]
  simp [azB, h1]
theorem dj6 {s : Str} (h1 : ¬ s = []) (h2 : (s.length : Int) ≤ 12) (h3 : ¬ s = wClass) (h4 : ¬ s = wFinis) (h5 : s.all azB = true) : wordB s = true := by
  have h0 : 0 < s.length := List.length_pos_iff.2 h1; have h2' : s.length ≤ 12 := by omega
  simp only [wordB, h5, h3, h4, h0, h2', decide_true, Bool.and_true, not_false_eq_true]
theorem dM (s : Str) : Meets Tryz.prog F.mS [str s] { val := fun _ : Unit => .bool (wordB s) } := by
 refine i7 F.yG rfl p7 fun w0 => ?_; refine i4 (b7 rfl (d9 (i1 (i4 (a8 rfl ?_))))); refine aU rfl T.I9 rfl ?_; refine G0 rfl rfl rfl (a8 rfl ?_); refine m6 rfl rfl ?_ ?_
 ·intro hg1; have hg1' := hg1; try simp at hg1'
  refine i3 rfl rfl hg1 (a8 rfl (i3 rfl rfl hg1 ?_)); refine aU rfl T.I9 rfl ?_; refine i3 rfl rfl hg1 (gK rfl rfl rfl ?_); refine p_f rfl rfl (bf1 hg1) rfl (a8 rfl ?_); refine m6 rfl rfl ?_ ?_
  ·intro hg2; have hg2' := hg2; try simp at hg2'
   refine i3 rfl rfl hg2 (a8 rfl (i3 rfl rfl hg2 (kQ rfl rfl rfl ?_))); refine p_f rfl rfl (bf1 hg2) rfl (a8 rfl ?_); refine m6 rfl rfl ?_ ?_
   ·intro hg3; have hg3' := hg3; try simp at hg3'
    refine i3 rfl rfl hg3 (a8 rfl (i3 rfl rfl hg3 (kQ rfl rfl rfl ?_))); refine p_f rfl rfl (bf1 hg3) rfl ?_; refine d9 ?_
    first | refine k8 rfl (fun hb1 => ?_) (fun hb1 => ?_) | refine i5 rfl (fun hb1 => ?_) (fun hb1 => ?_)
    ·have hb1' := hb1; try simp at hb1'
     refine i4 (b7 rfl (d9 (P8 ?_))); exact ret1 () rfl (congrArg (fun b => some (Value.bool b)) (by rw [hb1]; decide)) rfl trivial nil_sb trivial
    have hb1' := hb1; try simp at hb1'
    have h4 := hb1; refine j3 (g6 (i1 (i4 (a8 rfl ?_)))); refine aj2 rfl T.I9 rfl fun gI => ?_; refine d9 (i9 ?_); refine p6 (β := Nat) ⟨fun k => k ≤ s.length ∧ (s.take k).all azB = true, fun k => [(0, str s), (22, .pointer (b8 gI))], fun k => [(gI, iter s k)], fun _ => []⟩ (fun k => s.length - k) 0 ⟨Nat.zero_le _, rfl⟩ mC (.refl _) trivial fun k hk => ?_; obtain ⟨hk, ht⟩ := hk; refine i4 ?_; refine cq4 rfl rfl (.refl _) ?_; refine hq9 rfl rfl (d9 (i1 ?_))
    first | refine k8 rfl (fun hb2 => ?_) (fun hb2 => ?_) | refine i5 rfl (fun hb2 => ?_) (fun hb2 => ?_)
    ·have hb2' := hb2; try simp at hb2'
     refine j3 (g6 (i9 (i4 (r_ext2 rfl rfl hb2 (b7 rfl (j8 (a8 rfl ?_))))))); refine t7 rfl rfl rfl (a8 rfl ?_); refine m6 rfl rfl ?_ ?_
     ·intro hg4; have hg4' := hg4; try simp at hg4'
      refine i3 rfl rfl hg4 (a8 rfl (i3 rfl rfl hg4 (gK rfl rfl rfl ?_))); refine p_f rfl rfl (bf1 hg4) rfl ?_; refine d9 ?_
      first | refine k8 rfl (fun hb3 => ?_) (fun hb3 => ?_) | refine i5 rfl (fun hb3 => ?_) (fun hb3 => ?_)
      ·have hb3' := hb3; try simp at hb3'
       refine i4 (b7 rfl (d9 (k5 (B7 (B7 ?_))))); exact ret1 () rfl (congrArg (fun b => some (Value.bool b)) (by exact (wV hb2 (cz6 hb2 (lo := 97) (hi := 122) (by decide) (.inr (by omega)))).symm)) rfl trivial nil_sb trivial
      have hb3' := hb3; try simp at hb3'
      refine j3 (n9 ?_); have hin := dec_in (p := k) (s := s) hb2 (lo := 97) (hi := 122) (by decide) (by simp at hg4; omega); refine again _ (k + 1) ⟨by omega, jq5 hb2 ht ⟨hin.1, hin.2.1⟩⟩ (r6 (by omega)) mC ?_ trivial; rw [hin.2.2]; exact (.refl _)
     intro hg4; have hg4' := hg4; try simp at hg4'
     refine q7 rfl rfl rfl rfl rfl hg4 (q7 rfl rfl rfl rfl rfl hg4 ?_); refine p_t rfl rfl (bt2 hg4) rfl ?_; refine d9 (c_t rfl rfl (i4 (b7 rfl (d9 (k5 (B7 (aQ ?_))))))); refine z8 ?_; exact ret1 () rfl (congrArg (fun b => some (Value.bool b)) (by exact (wV hb2 (cz6 hb2 (lo := 97) (hi := 122) (by decide) (.inl (by simp at hg4; omega)))).symm)) rfl trivial nil_sb trivial
    have hb2' := hb2; try simp at hb2'
    have hk2 : k = s.length := by omega
    subst hk2; rw [List.take_length] at ht; refine n2 (t4 (n1 (g6 (i4 (b7 rfl (d9 (k5 ?_))))))); exact ret1 () rfl (congrArg (fun b => some (Value.bool b)) (by exact (dj6 hg1' hg2' hg3' h4 ht).symm)) rfl trivial nil_sb trivial
   intro hg3; have hg3' := hg3; try simp at hg3'
   refine q7 rfl rfl rfl rfl rfl hg3 (q7 rfl rfl rfl rfl rfl hg3 ?_); refine p_t rfl rfl (bt2 hg3) rfl ?_; refine d9 (c_t rfl rfl (i4 (b7 rfl (d9 (P8 ?_))))); exact ret1 () rfl (congrArg (fun b => some (Value.bool b)) (by simp at hg3; rw [hg3]; decide)) rfl trivial nil_sb trivial
  intro hg2; have hg2' := hg2; try simp at hg2'
  refine q7 rfl rfl rfl rfl rfl hg2 (q7 rfl rfl rfl rfl rfl hg2 ?_); refine p_t rfl rfl (bt2 hg2) rfl ?_; refine a8 rfl (q7 rfl rfl rfl rfl rfl rfl (q7 rfl rfl rfl rfl rfl rfl (p_t rfl rfl rfl rfl (d9 (c_t rfl rfl (i4 (b7 rfl (d9 ?_)))))))); refine P8 ?_; exact ret1 () rfl (congrArg (fun b => some (Value.bool b)) (by simp at hg2; simp [wordB, Nat.not_le.2 (show 12 < s.length by omega)])) rfl trivial nil_sb trivial
 intro hg1; have hg1' := hg1; try simp at hg1'
 refine q7 rfl rfl rfl rfl rfl hg1 (q7 rfl rfl rfl rfl rfl hg1 (q7 rfl rfl rfl rfl rfl hg1 ?_)); refine p_t rfl rfl (bt2 hg1) rfl ?_; refine a8 rfl (q7 rfl rfl rfl rfl rfl rfl (q7 rfl rfl rfl rfl rfl rfl (p_t rfl rfl rfl rfl (a8 rfl (q7 rfl rfl rfl rfl rfl rfl (q7 rfl rfl rfl rfl rfl rfl (p_t rfl rfl rfl rfl (d9 (c_t rfl rfl (i1 ?_)))))))))); refine b9 (b7 rfl (d9 (P8 ?_))); exact ret1 () rfl (congrArg (fun b => some (Value.bool b)) (by simp at hg1; simp [wordB, hg1])) rfl trivial nil_sb trivial
theorem aq8 {α : Type} [Inhabited α] (f : α → Str) {l : List α} {k : Nat} {s : Str} (hk : k < l.length) (ht : s ∉ (l.take k).map f) (h : ¬ f (l.getD k default) = s) : s ∉ (l.take (k + 1)).map f := by
  rw [s4 l k hk, List.map_append]; simp only [List.mem_append, List.map_cons, List.map_nil, List.mem_singleton, not_or]; exact ⟨ht, fun e => h e.symm⟩
theorem cS {g : Nat} (x c : Cl) : Meets Tryz.prog F.D5 [.agg (El.cells x).toArray, .pointer (b8 g)] { LI := [Row (b8 g) (rows [c])], val := fun _ : Unit => .bool (decide (x.1 = c.1)) } := by
 refine i7 F.kA rfl p7 fun w0 => ?_; refine i4 ?_; refine E5 rfl rfl fun gB => ?_; refine b7 rfl (j8 ?_)
 first | refine a7 ⟨_, 0, none⟩ rfl rfl T.v8 rfl ?_ | refine a7 _ rfl rfl T.v8 rfl ?_
 first | refine a6 rfl T.j2 rfl (h9 mB rfl) ?_ | refine a6 rfl T.j2 rfl (d8 mB rfl) ?_ | refine a6 rfl T.j2 rfl (d3 mB (b4 (by omega) rfl)) ?_ | refine a6 rfl T.j2 rfl (d1 mB (rows_get (by omega) rfl)) ?_ | refine a6 rfl T.j2 rfl (d7 mB rfl) ?_
 first | refine a7 ⟨_, 0, none⟩ rfl rfl T.v8 rfl ?_ | refine a7 _ rfl rfl T.v8 rfl ?_
 first | refine a6 rfl T.j2 rfl (h9 mB rfl) ?_ | refine a6 rfl T.j2 rfl (d8 mB rfl) ?_ | refine a6 rfl T.j2 rfl (d3 mB (b4 (by omega) rfl)) ?_ | refine a6 rfl T.j2 rfl (d1 mB (rows_get (by omega) rfl)) ?_ | refine a6 rfl T.j2 rfl (d7 mB rfl) ?_
 refine kQ rfl rfl rfl (b7 rfl (d9 (k5 ?_))); exact ret1 () rfl rfl rfl trivial nil_sb trivial
theorem iB {A : Option Addr} {cp g : Nat} (l : List Cl) (c : Cl) (hl : l.length ≤ 1000000) : Meets Tryz.prog F.W5 [.slice A l.length cp, .func (.func F.D5) #[] #[.pointer (b8 g)]] { LI := [Row A (rows l), Row (b8 g) (rows [c])], inv := fun z : Int => (0 ≤ z ↔ c.1 ∈ l.map (·.1)), val := fun z => int z } := by
 refine i7 F.nM rfl p7 fun w0 => ?_; refine i4 (b7 rfl (d9 (i1 (i4 (a8 rfl ?_))))); refine k4 rfl T.p8 rfl ?_; refine a8 rfl (d9 (i9 ?_)); refine p6 (β := Nat) ⟨fun k => k ≤ l.length ∧ c.1 ∉ (l.take k).map (·.1), fun k => [(0, .slice A l.length cp), (1, .func (.func F.D5) #[] #[.pointer (b8 g)]), (7, int l.length), (8, int k)], fun _ => [], fun _ => [Row A (rows l), Row (b8 g) (rows [c])]⟩ (fun k => l.length - k) 0 ⟨Nat.zero_le _, by simp⟩ mC (.refl _) ⟨m0, m1, trivial⟩ fun k hk => ?_; obtain ⟨hk, ht⟩ := hk; refine i4 (t7 rfl rfl rfl (d9 (i1 ?_)))
 first | refine k8 rfl (fun hb1 => ?_) (fun hb1 => ?_) | refine i5 rfl (fun hb1 => ?_) (fun hb1 => ?_)
 ·have hb1' := hb1; try simp at hb1'
  have hk2 : k < l.length := by omega
  refine j3 (g6 (i1 (i9 (i4 (a8 rfl (b7 rfl (j8 ?_))))))); refine a8 rfl (a8 rfl (a8 rfl ?_)); refine r9 (α := Cl) _ _ rfl T.p8 T.t5 rfl rfl rfl mB rfl (by omega) (by decide) (q6 rfl T.K6 T.t5 rfl rfl (m7 mB (n7 (by omega))) ?_); refine Y7 (vs := [.agg (El.cells (l.getD k default)).toArray]) (cap := [.pointer (b8 g)]) F.jI rfl rfl rfl (cS (l.getD k default) c) j5 ⟨m1, trivial⟩ fun _ _ => ?_; refine d9 ?_
  first | refine k8 rfl (fun hb2 => ?_) (fun hb2 => ?_) | refine i5 rfl (fun hb2 => ?_) (fun hb2 => ?_)
  ·have hb2' := hb2; try simp at hb2'
   refine i4 (a8 rfl (b7 rfl (d9 (k5 (B7 (z8 (B7 ?_))))))); exact ret1 (k : Int) rfl rfl rfl ⟨fun _ => List.mem_map.2 ⟨_, s6 hk2, hb2⟩, fun _ => by omega⟩ nil_sb trivial
  have hb2' := hb2; try simp at hb2'
  refine j3 (n9 (g6 (b9 ?_))); refine q9 _ rfl rfl rfl rfl n5 ?_; refine a8 rfl (b3 ?_); exact again _ (k + 1) ⟨by omega, aq8 (·.1) hk2 ht hb2⟩ (r6 (by omega)) mC nil_sb ⟨m0, m1, trivial⟩
 have hb1' := hb1; try simp at hb1'
 have hk2 : k = l.length := by omega
 subst hk2; rw [List.take_length] at ht; refine n2 (t4 (n1 (g6 (i4 (b7 rfl (d9 (k5 ?_))))))); exact ret1 (-1) rfl rfl rfl ⟨fun h => by omega, fun h => absurd h ht⟩ (.refl _) trivial
theorem bW {A : Option Addr} {cp g : Nat} (l : List Cl) (c : Cl) (hl : l.length ≤ 1000000) : Meets Tryz.prog F.N6 [.slice A l.length cp, .func (.func F.D5) #[] #[.pointer (b8 g)]] { LI := [Row A (rows l), Row (b8 g) (rows [c])], val := fun _ : Unit => .bool (decide (c.1 ∈ l.map (·.1))) } := by
 refine i7 F.jN rfl p7 fun w0 => ?_; refine i4 (b7 rfl (j8 (a8 rfl (a8 rfl ?_)))); refine d5 F.mI rfl rfl (iB l c hl) (.refl _) ⟨m0, m1, trivial⟩ fun z hz => ?_; refine bM rfl rfl rfl (b7 rfl (d9 (k5 ?_))); exact ret1 () rfl (congrArg (fun b => some (Value.bool b)) (decide_eq_decide.2 hz)) rfl trivial nil_sb trivial
theorem dQ {g : Nat} (x c : Hd) : Meets Tryz.prog F.E4 [.agg (El.cells x).toArray, .pointer (b8 g)] { LI := [Row (b8 g) (rows [c])], val := fun _ : Unit => .bool (decide (x.1 = c.1)) } := by
 refine i7 F.lZ rfl p7 fun w0 => ?_; refine i4 ?_; refine E5 rfl rfl fun gB => ?_; refine b7 rfl (j8 ?_)
 first | refine a7 ⟨_, 0, none⟩ rfl rfl T.n8 rfl ?_ | refine a7 _ rfl rfl T.n8 rfl ?_
 first | refine a6 rfl T.j2 rfl (h9 mB rfl) ?_ | refine a6 rfl T.j2 rfl (d8 mB rfl) ?_ | refine a6 rfl T.j2 rfl (d3 mB (b4 (by omega) rfl)) ?_ | refine a6 rfl T.j2 rfl (d1 mB (rows_get (by omega) rfl)) ?_ | refine a6 rfl T.j2 rfl (d7 mB rfl) ?_
 first | refine a7 ⟨_, 0, none⟩ rfl rfl T.n8 rfl ?_ | refine a7 _ rfl rfl T.n8 rfl ?_
 first | refine a6 rfl T.j2 rfl (h9 mB rfl) ?_ | refine a6 rfl T.j2 rfl (d8 mB rfl) ?_ | refine a6 rfl T.j2 rfl (d3 mB (b4 (by omega) rfl)) ?_ | refine a6 rfl T.j2 rfl (d1 mB (rows_get (by omega) rfl)) ?_ | refine a6 rfl T.j2 rfl (d7 mB rfl) ?_
 refine kQ rfl rfl rfl (b7 rfl (d9 (k5 ?_))); exact ret1 () rfl rfl rfl trivial nil_sb trivial
theorem gD {A : Option Addr} {cp g : Nat} (l : List Hd) (c : Hd) (hl : l.length ≤ 1000000) : Meets Tryz.prog F.S6 [.slice A l.length cp, .func (.func F.E4) #[] #[.pointer (b8 g)]] { LI := [Row A (rows l), Row (b8 g) (rows [c])], inv := fun z : Int => (0 ≤ z ↔ c.1 ∈ l.map (·.1)), val := fun z => int z } := by
 refine i7 F.mH rfl p7 fun w0 => ?_; refine i4 (b7 rfl (d9 (i1 (i4 (a8 rfl ?_))))); refine k4 rfl T.m9 rfl ?_; refine a8 rfl (d9 (i9 ?_)); refine p6 (β := Nat) ⟨fun k => k ≤ l.length ∧ c.1 ∉ (l.take k).map (·.1), fun k => [(0, .slice A l.length cp), (1, .func (.func F.E4) #[] #[.pointer (b8 g)]), (7, int l.length), (8, int k)], fun _ => [], fun _ => [Row A (rows l), Row (b8 g) (rows [c])]⟩ (fun k => l.length - k) 0 ⟨Nat.zero_le _, by simp⟩ mC (.refl _) ⟨m0, m1, trivial⟩ fun k hk => ?_; obtain ⟨hk, ht⟩ := hk; refine i4 (t7 rfl rfl rfl (d9 (i1 ?_)))
 first | refine k8 rfl (fun hb1 => ?_) (fun hb1 => ?_) | refine i5 rfl (fun hb1 => ?_) (fun hb1 => ?_)
 ·have hb1' := hb1; try simp at hb1'
  have hk2 : k < l.length := by omega
  refine j3 (g6 (i1 (i9 (i4 (a8 rfl (b7 rfl (j8 ?_))))))); refine a8 rfl (a8 rfl (a8 rfl ?_)); refine r9 (α := Hd) _ _ rfl T.m9 T.l8 rfl rfl rfl mB rfl (by omega) (by decide) (q6 rfl T.z7 T.l8 rfl rfl (m7 mB (n7 (by omega))) ?_); refine Y7 (vs := [.agg (El.cells (l.getD k default)).toArray]) (cap := [.pointer (b8 g)]) F.jZ rfl rfl rfl (dQ (l.getD k default) c) j5 ⟨m1, trivial⟩ fun _ _ => ?_; refine d9 ?_
  first | refine k8 rfl (fun hb2 => ?_) (fun hb2 => ?_) | refine i5 rfl (fun hb2 => ?_) (fun hb2 => ?_)
  ·have hb2' := hb2; try simp at hb2'
   refine i4 (a8 rfl (b7 rfl (d9 (k5 (B7 (z8 (B7 ?_))))))); exact ret1 (k : Int) rfl rfl rfl ⟨fun _ => List.mem_map.2 ⟨_, s6 hk2, hb2⟩, fun _ => by omega⟩ nil_sb trivial
  have hb2' := hb2; try simp at hb2'
  refine j3 (n9 (g6 (b9 ?_))); refine q9 _ rfl rfl rfl rfl n5 ?_; refine a8 rfl (b3 ?_); exact again _ (k + 1) ⟨by omega, aq8 (·.1) hk2 ht hb2⟩ (r6 (by omega)) mC nil_sb ⟨m0, m1, trivial⟩
 have hb1' := hb1; try simp at hb1'
 have hk2 : k = l.length := by omega
 subst hk2; rw [List.take_length] at ht; refine n2 (t4 (n1 (g6 (i4 (b7 rfl (d9 (k5 ?_))))))); exact ret1 (-1) rfl rfl rfl ⟨fun h => by omega, fun h => absurd h ht⟩ (.refl _) trivial
theorem bJ {A : Option Addr} {cp g : Nat} (l : List Hd) (c : Hd) (hl : l.length ≤ 1000000) : Meets Tryz.prog F.M2 [.slice A l.length cp, .func (.func F.E4) #[] #[.pointer (b8 g)]] { LI := [Row A (rows l), Row (b8 g) (rows [c])], val := fun _ : Unit => .bool (decide (c.1 ∈ l.map (·.1))) } := by
 refine i7 F.iD rfl p7 fun w0 => ?_; refine i4 (b7 rfl (j8 (a8 rfl (a8 rfl ?_)))); refine d5 F.kJ rfl rfl (gD l c hl) (.refl _) ⟨m0, m1, trivial⟩ fun z hz => ?_; refine bM rfl rfl rfl (b7 rfl (d9 (k5 ?_))); exact ret1 () rfl (congrArg (fun b => some (Value.bool b)) (decide_eq_decide.2 hz)) rfl trivial nil_sb trivial
theorem hU {A : Option Addr} {cp : Nat} (cs : List Cl) (i : Nat) (h6 : cs.length ≤ 6) (hc : cs.length ≤ cp) (hi : i < cs.length) : Meets Tryz.prog F.W1 [.slice A cs.length cp, int i] { LI := [Row A (rows cs)], val := fun _ : Unit => int (clsErr cs i) } := by
 refine i7 F.nH rfl p7 fun w0 => ?_; refine i4 (b7 rfl (j8 (a8 rfl (a8 rfl ?_)))); refine r9 (α := Cl) _ _ rfl T.p8 T.t5 rfl rfl rfl mB rfl (by omega) (by decide) (q6 rfl T.K6 T.t5 rfl rfl (m7 mB (n7 (by omega))) ?_); refine r7 rfl (fun _ => T.iS _) fun gA => ?_; refine r4 rfl rfl (by first | exact .refl _ | exact perm2 _ _ _ | exact perm3 _ _ _ _ | exact perm4 _ _ _ _ _) T.t5 (by rfl) (by rfl) ?_; refine d9 (i1 (i9 (i1 ?_))); refine C4 (rows [cs.getD i default]) ⟨[], List.append_nil _⟩ ?_; refine b9 ?_
 first | refine a7 ⟨_, 0, none⟩ rfl rfl T.v8 rfl ?_ | refine a7 _ rfl rfl T.v8 rfl ?_
 first | refine a6 rfl T.j2 rfl (h9 mB rfl) ?_ | refine a6 rfl T.j2 rfl (d8 mB rfl) ?_ | refine a6 rfl T.j2 rfl (d3 mB (b4 (by omega) rfl)) ?_ | refine a6 rfl T.j2 rfl (d1 mB (rows_get (by omega) rfl)) ?_ | refine a6 rfl T.j2 rfl (d7 mB rfl) ?_
 refine d5 F.mP rfl rfl (dM (cs.getD i default).1) (.refl _) trivial fun _ _ => ?_; refine B3 rfl rfl (b7 rfl (d9 ?_))
 first | refine k8 rfl (fun hb1 => ?_) (fun hb1 => ?_) | refine i5 rfl (fun hb1 => ?_) (fun hb1 => ?_)
 ·have hb1' := hb1; try simp at hb1'
  have h1 : wordB (cs.getD i default).1 = false := by simpa using hb1
  refine i4 (b7 rfl (d9 (k5 (B7 ?_)))); exact ret1 () rfl (congrArg (fun b => some (int b)) (by rw [clsErr, if_pos h1])) rfl trivial nil_sb trivial
 have hb1' := hb1; try simp at hb1'
 have h1 : ¬ wordB (cs.getD i default).1 = false := by simpa using hb1
 refine i4 (a8 rfl (a8 rfl ?_)); refine iJ (cs.take i).length rfl T.p8 T.t5 rfl rfl (by simp; omega) (by simp; omega) ?_; refine vH i m1 (W8 rfl rfl rfl ?_); refine d5 F.iE rfl rfl (bW (cs.take i) (cs.getD i default) (by simp; omega)) (.refl _) ⟨m0, m1, trivial⟩ fun _ _ => ?_; refine b7 rfl (d9 ?_)
 first | refine k8 rfl (fun hb2 => ?_) (fun hb2 => ?_) | refine i5 rfl (fun hb2 => ?_) (fun hb2 => ?_)
 ·have hb2' := hb2; try simp at hb2'
  refine i4 (b7 rfl (d9 (k5 (B7 ?_)))); exact ret1 () rfl (congrArg (fun b => some (int b)) (by rw [clsErr, if_neg h1, if_pos hb2])) rfl trivial nil_sb trivial
 have hb2' := hb2; try simp at hb2'
 refine i4 ?_
 first | refine a7 ⟨_, 1, none⟩ rfl rfl T.v7 rfl ?_ | refine a7 _ rfl rfl T.v7 rfl ?_
 first | refine a6 rfl T.b2 rfl (h9 mB rfl) ?_ | refine a6 rfl T.b2 rfl (d8 mB rfl) ?_ | refine a6 rfl T.b2 rfl (d3 mB (b4 (by omega) rfl)) ?_ | refine a6 rfl T.b2 rfl (d1 mB (rows_get (by omega) rfl)) ?_ | refine a6 rfl T.b2 rfl (d7 mB rfl) ?_
 refine a8 rfl (k4 rfl T.p8 rfl (J8 _ rfl rfl rfl rfl n5 ?_)); refine d5 F.v4 rfl rfl (s7 _ _ _) (.refl _) trivial fun _ _ => ?_; refine B3 rfl rfl (b7 rfl (d9 ?_))
 first | refine k8 rfl (fun hb3 => ?_) (fun hb3 => ?_) | refine i5 rfl (fun hb3 => ?_) (fun hb3 => ?_)
 ·have hb3' := hb3; try simp at hb3'
  have h3 : ¬ (-1 ≤ (cs.getD i default).2 ∧ (cs.getD i default).2 ≤ (cs.length : Int) - 1) := fun e => by rw [decide_eq_true e] at hb3; cases hb3
  refine i4 (b7 rfl (d9 (k5 (B7 ?_)))); exact ret1 () rfl (congrArg (fun b => some (int b)) (by rw [clsErr, if_neg h1, if_neg hb2, if_pos (by omega)])) rfl trivial nil_sb trivial
 have hb3' := hb3; try simp at hb3'
 have h3 : -1 ≤ (cs.getD i default).2 ∧ (cs.getD i default).2 ≤ (cs.length : Int) - 1 := by simpa using hb3
 refine i4 ?_
 first | refine a7 ⟨_, 1, none⟩ rfl rfl T.v7 rfl ?_ | refine a7 _ rfl rfl T.v7 rfl ?_
 first | refine a6 rfl T.b2 rfl (h9 mB rfl) ?_ | refine a6 rfl T.b2 rfl (d8 mB rfl) ?_ | refine a6 rfl T.b2 rfl (d3 mB (b4 (by omega) rfl)) ?_ | refine a6 rfl T.b2 rfl (d1 mB (rows_get (by omega) rfl)) ?_ | refine a6 rfl T.b2 rfl (d7 mB rfl) ?_
 refine a8 rfl (bM rfl rfl rfl (b7 rfl (d9 ?_)))
 first | refine k8 rfl (fun hb4 => ?_) (fun hb4 => ?_) | refine i5 rfl (fun hb4 => ?_) (fun hb4 => ?_)
 ·have hb4' := hb4; try simp at hb4'
  refine i4 (b7 rfl (d9 (k5 (B7 ?_)))); exact ret1 () rfl (congrArg (fun b => some (int b)) (by rw [clsErr, if_neg h1, if_neg hb2, if_neg (by omega), if_pos hb4])) rfl trivial nil_sb trivial
 have hb4' := hb4; try simp at hb4'
 refine j3 (n9 (g6 (i4 (b7 rfl (d9 (k5 ?_)))))); exact ret1 () rfl (congrArg (fun b => some (int b)) (by rw [clsErr, if_neg h1, if_neg hb2, if_neg (by omega), if_neg hb4])) rfl trivial nil_sb trivial
theorem ps_take {hs : List Hd} {n : Nat} : ((hs.map Hd.p).take n).map (·.1) = (hs.take n).map (·.1) := by rw [← List.map_take, List.map_map]; rfl
theorem X1 (cs : List Cl) (hs : List Hd) {i : Nat} (hi : i < hs.length) : headErr (trOf cs hs) i =
  if wordB (hs.getD i default).1 = false then 2
  else if (hs.getD i default).1 ∈ (hs.take i).map (·.1) then 4
  else if 0 < i ∧ (hs.getD i default).1 < (hs.getD (i - 1) default).1 then 5
  else if (hs.getD i default).2.1 < -1 ∨ (cs.length : Int) ≤ (hs.getD i default).2.1 ∨ (hs.getD i default).2.2.1 < -1 ∨ (hs.length : Int) ≤ (hs.getD i default).2.2.1 then 3
  else if (hs.getD i default).2.2.1 = (i : Int) then 9
  else if ¬ firstE (alsoErr hs.length i (hs.getD i default).2.2.2.l) (hs.getD i default).2.2.2.l.length = 0 then firstE (alsoErr hs.length i (hs.getD i default).2.2.2.l) (hs.getD i default).2.2.2.l.length
  else if kindBad (hs.getD i default).p = true then 8 else 0 := by
  unfold headErr; simp only [trOf, G8 hi, G8 (show i - 1 < hs.length by omega), ps_take, List.length_map]
  rfl
theorem nbw {a b c : Int} (h : (!decide (a ≤ b ∧ b ≤ c)) = true) : ¬ (a ≤ b ∧ b ≤ c) := fun e => by rw [decide_eq_true e] at h; cases h
theorem bw {a b c : Int} (h : (!decide (a ≤ b ∧ b ≤ c)) = false) : a ≤ b ∧ b ≤ c := Classical.byContradiction fun e => by rw [decide_eq_false e] at h; cases h
set_option maxHeartbeats 2000000 in
theorem jH {A B : Option Addr} {ca cb : Nat} (cs : List Cl) (hs : List Hd) (i : Nat) (h6 : hs.length ≤ 6) (hc6 : cs.length ≤ 6) (hc : hs.length ≤ cb) (hi : i < hs.length) (ha : ∀ h ∈ hs, h.2.2.2.l.length ≤ 1000000) : Meets Tryz.prog F.Z5 [.agg #[.slice A cs.length ca, .slice B hs.length cb], int i] { LI := [Row A (rows cs), RowsF B hs Hd.row], val := fun _ : Unit => int (headErr (trOf cs hs) i) } := by
 refine i7 F.pY rfl p7 fun w0 => ?_; refine i4 ?_; refine E5 rfl rfl fun gB => ?_; refine b7 rfl (d9 (i1 (J4 m1 ?_))); refine aZ m2 (s6 hi) ?_; have hal := ha _ (s6 hi); refine G1 ([]) (_) (.refl _) 9 [7] mixed (by decide) (by decide) (by decide) rfl rfl rfl ?_
 apply n6 _ rfl rfl rfl
 ·intro w1
  first | refine a7 ⟨_, 1, none⟩ rfl rfl T.j0 rfl ?_ | refine a7 _ rfl rfl T.j0 rfl ?_
  refine b3 ?_; exact j7 rfl
 apply n6 _ rfl rfl rfl
 ·intro w1
  first | refine a6 rfl T.a9 rfl (d8 mB rfl) ?_ | refine a6 rfl T.a9 rfl (h9 mB rfl) ?_ | refine a6 rfl T.a9 rfl (d3 mB (b4 (by omega) rfl)) ?_ | refine a6 rfl T.a9 rfl (d1 mB (rows_get (by omega) rfl)) ?_ | refine a6 rfl T.a9 rfl (d7 mB rfl) ?_
  refine b3 ?_; exact j7 rfl
 apply n6 _ rfl rfl rfl
 ·intro w1
  first | refine a7 ⟨_, 1, none⟩ rfl rfl T.j0 rfl ?_ | refine a7 _ rfl rfl T.j0 rfl ?_
  refine b3 ?_; exact j7 rfl
 apply n6 _ rfl rfl rfl
 ·intro w1
  first | refine a6 rfl T.a9 rfl (d8 mB rfl) ?_ | refine a6 rfl T.a9 rfl (h9 mB rfl) ?_ | refine a6 rfl T.a9 rfl (d3 mB (b4 (by omega) rfl)) ?_ | refine a6 rfl T.a9 rfl (d1 mB (rows_get (by omega) rfl)) ?_ | refine a6 rfl T.a9 rfl (d7 mB rfl) ?_
  refine b3 ?_; exact j7 rfl
 refine l3 (fun w1 => a8 rfl (q_z rfl)) (l3 (fun w1 => r9 (α := Hd) _ _ rfl T.m9 T.l8 rfl rfl rfl mB rfl (by omega) (by decide) (q_z rfl)) (l3 (fun w1 => q6 rfl T.z7 T.l8 rfl rfl (m7 mB (n7 (by omega))) (q_z rfl)) ?_)); refine iX ⟨Nat, fun _ => True, fun g => .pointer (b8 g), fun _ => [], fun g => [(g, Obj.cells #[str [], int 0, int 0, .slice none 0 0] T.i8 (0, 0))]⟩ rfl rfl rfl ?_ ?_
 ·intro w1; refine r7 rfl (fun _ => T.D1 _) fun gA => ?_; refine b3 ?_; exact G4 gA trivial (fun _ => rfl) (.refl _) trivial
 refine l3 (fun w1 => b7 rfl (q_z rfl)) ?_; refine w5 ⟨rfl, ?_⟩; intro x7 hx7; refine r4 rfl rfl (by first | exact .refl _ | exact perm2 _ _ _ | exact perm3 _ _ _ _ | exact perm4 _ _ _ _ _) T.l8 (by rfl) (by rfl) ?_; refine d9 (i1 (i9 (i1 ?_))); refine C4 (rows [hs.getD i default]) ⟨[], List.append_nil _⟩ ?_; refine b9 ?_
 first | refine a7 ⟨_, 0, none⟩ rfl rfl T.n8 rfl ?_ | refine a7 _ rfl rfl T.n8 rfl ?_
 first | refine a6 rfl T.j2 rfl (h9 mB rfl) ?_ | refine a6 rfl T.j2 rfl (d8 mB rfl) ?_ | refine a6 rfl T.j2 rfl (d3 mB (b4 (by omega) rfl)) ?_ | refine a6 rfl T.j2 rfl (d1 mB (rows_get (by omega) rfl)) ?_ | refine a6 rfl T.j2 rfl (d7 mB rfl) ?_
 refine d5 F.mP rfl rfl (dM (hs.getD i default).1) j5 trivial fun _ _ => ?_; refine B3 rfl rfl (b7 rfl (d9 ?_))
 first | refine k8 rfl (fun hb1 => ?_) (fun hb1 => ?_) | refine i5 rfl (fun hb1 => ?_) (fun hb1 => ?_)
 ·have hb1' := hb1; try simp at hb1'
  have h1 : wordB (hs.getD i default).1 = false := by simpa using hb1
  refine i4 (b7 rfl (d9 (k5 (B7 ?_)))); exact ret1 () rfl (congrArg (fun b => some (int b)) (by rw [X1 cs hs hi, if_pos h1])) rfl trivial nil_sb trivial
 have hb1' := hb1; try simp at hb1'
 have h1 : ¬ wordB (hs.getD i default).1 = false := by simpa using hb1
 refine i4 (a8 rfl (a8 rfl ?_)); refine iJ (hs.take i).length rfl T.m9 T.l8 rfl rfl (by simp; omega) (by simp; omega) ?_; refine vH (ps := hs) i mB (W8 rfl rfl rfl ?_); refine d5 F.gJ rfl rfl (bJ (hs.take i) (hs.getD i default) (by simp; omega)) j5 mC fun _ _ => ?_; refine b7 rfl (d9 ?_)
 first | refine k8 rfl (fun hb2 => ?_) (fun hb2 => ?_) | refine i5 rfl (fun hb2 => ?_) (fun hb2 => ?_)
 ·have hb2' := hb2; try simp at hb2'
  refine i4 (b7 rfl (d9 (k5 (B7 ?_)))); exact ret1 () rfl (congrArg (fun b => some (int b)) (by rw [X1 cs hs hi, if_neg h1, if_pos hb2])) rfl trivial nil_sb trivial
 have hb2' := hb2; try simp at hb2'
 refine B8 ⟨fun _ : Unit => True, fun _ => [(1, int i), (2, .pointer (b8 gB)), (5, .slice B hs.length cb), (6, .pointer (b8 x7)), (27, .bool (decide (0 < i ∧ (hs.getD i default).1 < (hs.getD (i - 1) default).1)))], fun _ => [(gB, .cells #[.slice A cs.length ca, .slice B hs.length cb] T.i2 (0, 0))], fun _ => [Row (b8 x7) (rows [hs.getD i default]), Row B (rows hs), Row (hs.getD i default).2.2.2.a (rows (hs.getD i default).2.2.2.l)]⟩ ?_ ?_
 ·skip
  refine C8 11 mixed (by decide) (by decide) rfl rfl (l3 (fun w1 => a8 rfl (q_z rfl)) (l3 (fun w1 => gK rfl rfl rfl (q_z rfl)) (l3 (fun w1 => a8 rfl (q_z rfl)) ?_))); refine rG (t := 30) (want := true) rfl ?_ ?_
  ·intro hg1; have hg1' := hg1; try simp at hg1'
   apply n6 _ rfl rfl rfl
   ·intro w1; refine i3 rfl rfl hg1 ?_
    first | refine a7 ⟨_, 0, none⟩ rfl rfl T.n8 rfl ?_ | refine a7 _ rfl rfl T.n8 rfl ?_
    refine b3 ?_; exact j7 rfl
   apply n6 _ rfl rfl rfl
   ·intro w1; refine i3 rfl rfl hg1 ?_
    first | refine a6 rfl T.j2 rfl (d8 mB rfl) ?_ | refine a6 rfl T.j2 rfl (h9 mB rfl) ?_ | refine a6 rfl T.j2 rfl (d3 mB (b4 (by omega) rfl)) ?_ | refine a6 rfl T.j2 rfl (d1 mB (rows_get (by omega) rfl)) ?_ | refine a6 rfl T.j2 rfl (d7 mB rfl) ?_
    refine b3 ?_; exact j7 rfl
   apply n6 _ rfl rfl rfl
   ·intro w1; refine i3 rfl rfl hg1 (a8 rfl (b3 ?_)); exact j7 rfl
   apply n6 _ rfl rfl rfl
   ·intro w1; refine i3 rfl rfl hg1 (a8 rfl (b3 ?_)); exact j7 rfl
   apply n6 _ rfl rfl rfl
   ·intro w1; refine i3 rfl rfl hg1 (J8 ((i - 1 : Nat) : Int) rfl rfl rfl (by omega) n5 ?_); refine b3 ?_; exact j7 rfl
   apply n6 _ rfl rfl rfl
   ·intro w1; refine i3 rfl rfl hg1 (r9 (α := Hd) hs (i - 1) rfl T.m9 T.l8 rfl rfl rfl mB rfl (by omega) (by decide) ?_); refine b3 ?_; exact j7 rfl
   apply n6 _ rfl rfl rfl
   ·intro w1; refine i3 rfl rfl hg1 ?_
    first | refine a7 ⟨_, 0, none⟩ rfl rfl T.n8 rfl ?_ | refine a7 _ rfl rfl T.n8 rfl ?_
    refine b3 ?_; exact j7 rfl
   apply n6 _ rfl rfl rfl
   ·intro w1; refine i3 rfl rfl hg1 (a6 rfl T.j2 rfl (d3 (cs := rows hs) mB (b4 (by omega) rfl)) ?_); refine b3 ?_; exact j7 rfl
   refine w5 ⟨rfl, ?_⟩; refine i3 rfl rfl hg1 (r_slss rfl rfl rfl ?_); refine p_t rfl rfl (bt1 hg1) rfl ?_; refine b7 rfl (b3 ?_); exact w4 _ () trivial ⟨rfl, rfl, rfl, rfl, congrArg (fun b => some (Value.bool b)) (by rw [bj4]; exact decide_eq_decide.2 ⟨fun e => ⟨by omega, e⟩, fun e => e.2⟩), trivial⟩ (List.Sublist.refl _) mC
  intro hg1; have hg1' := hg1; try simp at hg1'
  refine l3 (fun w1 => q7 rfl rfl rfl rfl rfl hg1 (q_z rfl)) (l3 (fun w1 => q7 rfl rfl rfl rfl rfl hg1 (q_z rfl)) (l3 (fun w1 => q7 rfl rfl rfl rfl rfl hg1 (q_z rfl)) (l3 (fun w1 => q7 rfl rfl rfl rfl rfl hg1 (q_z rfl)) (l3 (fun w1 => q7 rfl rfl rfl rfl rfl hg1 (q_z rfl)) (l3 (fun w1 => q7 rfl rfl rfl rfl rfl hg1 (q_z rfl)) (l3 (fun w1 => q7 rfl rfl rfl rfl rfl hg1 (q_z rfl)) (l3 (fun w1 => q7 rfl rfl rfl rfl rfl hg1 (q_z rfl)) ?_))))))); refine w5 ⟨rfl, ?_⟩; refine q7 rfl rfl rfl rfl rfl hg1 (p_f rfl rfl (bf2 hg1) rfl ?_); refine b7 rfl (b3 ?_); exact w4 _ () trivial ⟨rfl, rfl, rfl, rfl, congrArg (fun b => some (Value.bool b)) (by exact (decide_eq_false (by simp at hg1; omega)).symm), trivial⟩ (List.Sublist.refl _) mC
 refine fun _ _ => ?_
 first | refine k8 rfl (fun hb3 => ?_) (fun hb3 => ?_) | refine i5 rfl (fun hb3 => ?_) (fun hb3 => ?_)
 ·have hb3' := hb3; try simp at hb3'
  refine i4 (b7 rfl (d9 (k5 (B7 ?_)))); exact ret1 () rfl (congrArg (fun b => some (int b)) (by rw [X1 cs hs hi, if_neg h1, if_neg hb2, if_pos hb3])) rfl trivial nil_sb trivial
 have hb3' := hb3; try simp at hb3'
 refine B8 ⟨fun _ : Unit => True, fun _ => [(1, int i), (2, .pointer (b8 gB)), (5, .slice B hs.length cb), (6, .pointer (b8 x7)), (41, .bool (decide (¬ ((-1 ≤ (hs.getD i default).2.1 ∧ (hs.getD i default).2.1 ≤ (cs.length : Int) - 1) ∧ (-1 ≤ (hs.getD i default).2.2.1 ∧ (hs.getD i default).2.2.1 ≤ (hs.length : Int) - 1)))))], fun _ => [(gB, .cells #[.slice A cs.length ca, .slice B hs.length cb] T.i2 (0, 0))], fun _ => [Row (b8 x7) (rows [hs.getD i default]), Row B (rows hs), Row (hs.getD i default).2.2.2.a (rows (hs.getD i default).2.2.2.l)]⟩ ?_ ?_
 ·skip
  refine i4 ?_
  first | refine a7 ⟨_, 1, none⟩ rfl rfl T.p9 rfl ?_ | refine a7 _ rfl rfl T.p9 rfl ?_
  first | refine a6 rfl T.b2 rfl (h9 mB rfl) ?_ | refine a6 rfl T.b2 rfl (d8 mB rfl) ?_ | refine a6 rfl T.b2 rfl (d3 mB (b4 (by omega) rfl)) ?_ | refine a6 rfl T.b2 rfl (d1 mB (rows_get (by omega) rfl)) ?_ | refine a6 rfl T.b2 rfl (d7 mB rfl) ?_
  first | refine a7 ⟨_, 0, none⟩ rfl rfl T.k0 rfl ?_ | refine a7 _ rfl rfl T.k0 rfl ?_
  first | refine a6 rfl T.b5 rfl (h9 mB rfl) ?_ | refine a6 rfl T.b5 rfl (d8 mB rfl) ?_ | refine a6 rfl T.b5 rfl (d3 mB (b4 (by omega) rfl)) ?_ | refine a6 rfl T.b5 rfl (d1 mB (rows_get (by omega) rfl)) ?_ | refine a6 rfl T.b5 rfl (d7 mB rfl) ?_
  refine k4 rfl T.p8 rfl (J8 _ rfl rfl rfl rfl n5 ?_); refine d5 F.v4 rfl rfl (s7 _ _ _) j5 trivial fun _ _ => ?_; refine B3 rfl rfl (b7 rfl (d9 ?_))
  first | refine k8 rfl (fun hb4 => ?_) (fun hb4 => ?_) | refine i5 rfl (fun hb4 => ?_) (fun hb4 => ?_)
  ·have hb4' := hb4; try simp at hb4'
   refine j3 ?_; exact w4 _ () trivial ⟨rfl, rfl, rfl, rfl, congrArg (fun b => some (Value.bool b)) (by rw [hb4]; symm; rw [decide_eq_true_eq]; exact fun e => nbw hb4 e.1), trivial⟩ (List.Sublist.refl _) mC
  have hb4' := hb4; try simp at hb4'
  refine b9 ?_
  first | refine a7 ⟨_, 2, none⟩ rfl rfl T.n4 rfl ?_ | refine a7 _ rfl rfl T.n4 rfl ?_
  first | refine a6 rfl T.b2 rfl (h9 mB rfl) ?_ | refine a6 rfl T.b2 rfl (d8 mB rfl) ?_ | refine a6 rfl T.b2 rfl (d3 mB (b4 (by omega) rfl)) ?_ | refine a6 rfl T.b2 rfl (d1 mB (rows_get (by omega) rfl)) ?_ | refine a6 rfl T.b2 rfl (d7 mB rfl) ?_
  refine a8 rfl (k4 rfl T.m9 rfl (J8 _ rfl rfl rfl rfl n5 ?_)); refine d5 F.v4 rfl rfl (s7 _ _ _) j5 trivial fun _ _ => ?_; refine B3 rfl rfl (b7 rfl (b3 ?_)); exact w4 _ () trivial ⟨rfl, rfl, rfl, rfl, congrArg (fun b => some (Value.bool b)) (by have := bw hb4; rw [Bool.eq_iff_iff]; simp only [Bool.not_eq_true', decide_eq_false_iff_not, decide_eq_true_eq]; exact ⟨fun e f => e f.2, fun e f => e ⟨this, f⟩⟩), trivial⟩ (List.Sublist.refl _) mC
 refine fun _ _ => ?_
 first | refine k8 rfl (fun hb5 => ?_) (fun hb5 => ?_) | refine i5 rfl (fun hb5 => ?_) (fun hb5 => ?_)
 ·have hb5' := hb5; try simp at hb5'
  refine i4 (b7 rfl (d9 (k5 (B7 ?_)))); exact ret1 () rfl (congrArg (fun b => some (int b)) (by rw [X1 cs hs hi, if_neg h1, if_neg hb2, if_neg hb3, if_pos (by omega)])) rfl trivial nil_sb trivial
 have hb5' := hb5; try simp at hb5'
 refine i4 ?_
 first | refine a7 ⟨_, 2, none⟩ rfl rfl T.n4 rfl ?_ | refine a7 _ rfl rfl T.n4 rfl ?_
 first | refine a6 rfl T.b2 rfl (h9 mB rfl) ?_ | refine a6 rfl T.b2 rfl (d8 mB rfl) ?_ | refine a6 rfl T.b2 rfl (d3 mB (b4 (by omega) rfl)) ?_ | refine a6 rfl T.b2 rfl (d1 mB (rows_get (by omega) rfl)) ?_ | refine a6 rfl T.b2 rfl (d7 mB rfl) ?_
 refine a8 rfl (G0 rfl rfl rfl (b7 rfl (d9 ?_)))
 first | refine k8 rfl (fun hb6 => ?_) (fun hb6 => ?_) | refine i5 rfl (fun hb6 => ?_) (fun hb6 => ?_)
 ·have hb6' := hb6; try simp at hb6'
  refine i4 (b7 rfl (d9 (k5 (B7 ?_)))); exact ret1 () rfl (congrArg (fun b => some (int b)) (by rw [X1 cs hs hi, if_neg h1, if_neg hb2, if_neg hb3, if_neg (by omega), if_pos hb6])) rfl trivial nil_sb trivial
 have hb6' := hb6; try simp at hb6'
 have hH : headErr (trOf cs hs) i = if ¬ firstE (alsoErr hs.length i (hs.getD i default).2.2.2.l) (hs.getD i default).2.2.2.l.length = 0 then firstE (alsoErr hs.length i (hs.getD i default).2.2.2.l) (hs.getD i default).2.2.2.l.length else if kindBad (hs.getD i default).p = true then 8 else 0 := by rw [X1 cs hs hi, if_neg h1, if_neg hb2, if_neg hb3, if_neg (by omega), if_neg hb6]
 refine j3 (n9 (g6 (i1 (i4 ?_))))
 first | refine a7 ⟨_, 3, none⟩ rfl rfl T.r0 rfl ?_ | refine a7 _ rfl rfl T.r0 rfl ?_
 first | refine a6 rfl T.k6 rfl (h9 mB rfl) ?_ | refine a6 rfl T.k6 rfl (d8 mB rfl) ?_ | refine a6 rfl T.k6 rfl (d3 mB (b4 (by omega) rfl)) ?_ | refine a6 rfl T.k6 rfl (d1 mB (rows_get (by omega) rfl)) ?_ | refine a6 rfl T.k6 rfl (d7 mB rfl) ?_
 refine k4 rfl T.s5 rfl ?_; refine a8 rfl (d9 (i9 ?_)); refine p6 (β := Nat) ⟨fun k => k ≤ (hs.getD i default).2.2.2.l.length ∧ firstE (alsoErr hs.length i (hs.getD i default).2.2.2.l) k = 0, fun k => [(1, int i), (2, .pointer (b8 gB)), (5, .slice B hs.length cb), (6, .pointer (b8 x7)), (63, .slice (hs.getD i default).2.2.2.a (hs.getD i default).2.2.2.l.length (hs.getD i default).2.2.2.c), (64, int (hs.getD i default).2.2.2.l.length), (65, int k)], fun _ => [(gB, .cells #[.slice A cs.length ca, .slice B hs.length cb] T.i2 (0, 0))], fun _ => [Row (b8 x7) (rows [hs.getD i default]), Row B (rows hs), Row (hs.getD i default).2.2.2.a (rows (hs.getD i default).2.2.2.l)]⟩ (fun k => (hs.getD i default).2.2.2.l.length - k) 0 ⟨Nat.zero_le _, rfl⟩ mC (List.Sublist.refl _) mC fun k hk => ?_; obtain ⟨hk, ht⟩ := hk; refine i4 (t7 rfl rfl rfl (d9 (i1 ?_)))
 first | refine k8 rfl (fun hb7 => ?_) (fun hb7 => ?_) | refine i5 rfl (fun hb7 => ?_) (fun hb7 => ?_)
 ·have hb7' := hb7; try simp at hb7'
  have hk2 : k < (hs.getD i default).2.2.2.l.length := by omega
  refine j3 (g6 (i1 (i9 (i4 (a8 rfl ?_))))); refine r9 (α := Int) _ _ rfl T.s5 T.v6 rfl rfl rfl mB rfl (by omega) (by decide) (a6 rfl T.b2 rfl (d3 mB (b4 (by omega) rfl)) ?_); refine b7 rfl (b7 rfl (d9 (i9 (i4 (a8 rfl (a8 rfl ?_)))))); refine k4 rfl T.m9 rfl (J8 _ rfl rfl rfl rfl n5 ?_); refine d5 F.v4 rfl rfl (s7 _ _ _) j5 trivial fun _ _ => ?_; refine B3 rfl rfl (b7 rfl (d9 ?_))
  first | refine k8 rfl (fun hb8 => ?_) (fun hb8 => ?_) | refine i5 rfl (fun hb8 => ?_) (fun hb8 => ?_)
  ·have hb8' := hb8; try simp at hb8'
   refine i4 (b7 rfl (d9 (k5 (aQ (B7 (z8 (B7 ?_))))))); exact ret1 () rfl (congrArg (fun b => some (int b)) (by have he : alsoErr hs.length i (hs.getD i default).2.2.2.l k = 3 := (by unfold alsoErr; rw [if_pos (by have := nbw hb8; omega)]); rw [hH, Q5 ht (by rw [he]; omega) _ hk2, if_pos (by rw [he]; omega), he])) rfl trivial nil_sb trivial
  have hb8' := hb8; try simp at hb8'
  refine i4 (a8 rfl (a8 rfl (G0 rfl rfl rfl (b7 rfl (d9 ?_)))))
  first | refine k8 rfl (fun hb9 => ?_) (fun hb9 => ?_) | refine i5 rfl (fun hb9 => ?_) (fun hb9 => ?_)
  ·have hb9' := hb9; try simp at hb9'
   refine i4 (b7 rfl (d9 (k5 (aQ (B7 (z8 (B7 ?_))))))); exact ret1 () rfl (congrArg (fun b => some (int b)) (by have he : alsoErr hs.length i (hs.getD i default).2.2.2.l k = 9 := (by unfold alsoErr; rw [if_neg (by have := bw hb8; omega), if_pos hb9]); rw [hH, Q5 ht (by rw [he]; omega) _ hk2, if_pos (by rw [he]; omega), he])) rfl trivial nil_sb trivial
  have hb9' := hb9; try simp at hb9'
  refine B8 ⟨fun _ : Unit => True, fun _ => [(1, int i), (2, .pointer (b8 gB)), (5, .slice B hs.length cb), (6, .pointer (b8 x7)), (63, .slice (hs.getD i default).2.2.2.a (hs.getD i default).2.2.2.l.length (hs.getD i default).2.2.2.c), (64, int (hs.getD i default).2.2.2.l.length), (65, int k), (81, .bool (decide (0 < k ∧ (hs.getD i default).2.2.2.l.getD k default ≤ (hs.getD i default).2.2.2.l.getD (k - 1) default)))], fun _ => [(gB, .cells #[.slice A cs.length ca, .slice B hs.length cb] T.i2 (0, 0))], fun _ => [Row (b8 x7) (rows [hs.getD i default]), Row B (rows hs), Row (hs.getD i default).2.2.2.a (rows (hs.getD i default).2.2.2.l)]⟩ ?_ ?_
  ·skip
   refine b9 (a8 rfl (gK rfl rfl rfl (a8 rfl ?_))); refine m6 rfl rfl ?_ ?_
   ·intro hg2; have hg2' := hg2; try simp at hg2'
    refine i3 rfl rfl hg2 (a8 rfl (i3 rfl rfl hg2 ?_))
    first | refine a7 ⟨_, 3, none⟩ rfl rfl T.r0 rfl ?_ | refine a7 _ rfl rfl T.r0 rfl ?_
    refine i3 rfl rfl hg2 ?_
    first | refine a6 rfl T.k6 rfl (h9 mB rfl) ?_ | refine a6 rfl T.k6 rfl (d8 mB rfl) ?_ | refine a6 rfl T.k6 rfl (d3 mB (b4 (by omega) rfl)) ?_ | refine a6 rfl T.k6 rfl (d1 mB (rows_get (by omega) rfl)) ?_ | refine a6 rfl T.k6 rfl (d7 mB rfl) ?_
    refine i3 rfl rfl hg2 (a8 rfl (i3 rfl rfl hg2 ?_)); refine J8 ((k - 1 : Nat) : Int) rfl rfl rfl (by omega) n5 (i3 rfl rfl hg2 (r9 (α := Int) _ _ rfl T.s5 T.v6 rfl rfl rfl mB rfl (by omega) (by decide) (i3 rfl rfl hg2 (a6 rfl T.b2 rfl (d3 mB (b4 (by omega) rfl)) ?_)))); refine i3 rfl rfl hg2 (aj4 rfl rfl rfl ?_); refine p_t rfl rfl (bt1 hg2) rfl ?_; refine b7 rfl (b3 ?_); exact w4 _ () trivial ⟨rfl, rfl, rfl, rfl, rfl, rfl, rfl, congrArg (fun b => some (Value.bool b)) (by exact decide_eq_decide.2 ⟨fun e => ⟨by omega, e⟩, fun e => e.2⟩), trivial⟩ (List.Sublist.refl _) mC
   intro hg2; have hg2' := hg2; try simp at hg2'
   refine q7 rfl rfl rfl rfl rfl hg2 (q7 rfl rfl rfl rfl rfl hg2 (q7 rfl rfl rfl rfl rfl hg2 (q7 rfl rfl rfl rfl rfl hg2 (q7 rfl rfl rfl rfl rfl hg2 (q7 rfl rfl rfl rfl rfl hg2 (q7 rfl rfl rfl rfl rfl hg2 (q7 rfl rfl rfl rfl rfl hg2 ?_))))))); refine p_f rfl rfl (bf2 hg2) rfl ?_; refine b7 rfl (b3 ?_); exact w4 _ () trivial ⟨rfl, rfl, rfl, rfl, rfl, rfl, rfl, congrArg (fun b => some (Value.bool b)) (by exact (decide_eq_false (by simp at hg2; omega)).symm), trivial⟩ (List.Sublist.refl _) mC
  refine fun _ _ => ?_
  first | refine k8 rfl (fun hb10 => ?_) (fun hb10 => ?_) | refine i5 rfl (fun hb10 => ?_) (fun hb10 => ?_)
  ·have hb10' := hb10; try simp at hb10'
   refine i4 (b7 rfl (d9 (k5 (aQ (B7 (z8 (B7 ?_))))))); exact ret1 () rfl (congrArg (fun b => some (int b)) (by have he : alsoErr hs.length i (hs.getD i default).2.2.2.l k = 5 := (by unfold alsoErr; rw [if_neg (by have := bw hb8; omega), if_neg hb9, if_pos hb10]); rw [hH, Q5 ht (by rw [he]; omega) _ hk2, if_pos (by rw [he]; omega), he])) rfl trivial nil_sb trivial
  have hb10' := hb10; try simp at hb10'
  refine j3 (n9 (n9 (g6 (b9 ?_)))); refine q9 _ rfl rfl rfl rfl n5 ?_; refine a8 rfl (b3 ?_); exact again _ (k + 1) ⟨by omega, by rw [lB ht]; unfold alsoErr; rw [if_neg (by have := bw hb8; omega), if_neg hb9, if_neg hb10]⟩ (r6 (by omega)) mC (List.Sublist.refl _) mC
 have hb7' := hb7; try simp at hb7'
 have hk2 : k = (hs.getD i default).2.2.2.l.length := by omega
 subst hk2; rw [if_neg (not_not_intro ht)] at hH; refine n2 (t4 (n1 (g6 (i1 ?_)))); refine B8 ⟨fun _ : Unit => True, fun _ => [(1, int i), (2, .pointer (b8 gB)), (5, .slice B hs.length cb), (6, .pointer (b8 x7)), (124, .bool (kindBad (hs.getD i default).p))], fun _ => [(gB, .cells #[.slice A cs.length ca, .slice B hs.length cb] T.i2 (0, 0))], fun _ => [Row (b8 x7) (rows [hs.getD i default]), Row B (rows hs), Row (hs.getD i default).2.2.2.a (rows (hs.getD i default).2.2.2.l)]⟩ ?_ ?_
 ·skip
  clear hH ht hk hb1 hb1' h1 hb2 hb2' hb3 hb3' hb5 hb5' hb6 hb6' hb7 hb7' ha h6 hc6 hc hi hal; refine b9 ?_
  first | refine a7 ⟨_, 2, none⟩ rfl rfl T.n4 rfl ?_ | refine a7 _ rfl rfl T.n4 rfl ?_
  first | refine a6 rfl T.b2 rfl (h9 mB rfl) ?_ | refine a6 rfl T.b2 rfl (d8 mB rfl) ?_ | refine a6 rfl T.b2 rfl (d3 mB (b4 (by omega) rfl)) ?_ | refine a6 rfl T.b2 rfl (d1 mB (rows_get (by omega) rfl)) ?_ | refine a6 rfl T.b2 rfl (d7 mB rfl) ?_
  refine t3 rfl rfl rfl (a8 rfl ?_); refine m6 rfl rfl ?_ ?_
  ·intro hg3; have hg3' := hg3; try simp at hg3'
   refine i3 rfl rfl hg3 ?_
   first | refine a7 ⟨_, 1, none⟩ rfl rfl T.p9 rfl ?_ | refine a7 _ rfl rfl T.p9 rfl ?_
   refine i3 rfl rfl hg3 ?_
   first | refine a6 rfl T.b2 rfl (h9 mB rfl) ?_ | refine a6 rfl T.b2 rfl (d8 mB rfl) ?_ | refine a6 rfl T.b2 rfl (d3 mB (b4 (by omega) rfl)) ?_ | refine a6 rfl T.b2 rfl (d1 mB (rows_get (by omega) rfl)) ?_ | refine a6 rfl T.b2 rfl (d7 mB rfl) ?_
   refine i3 rfl rfl hg3 (t3 rfl rfl rfl (i3 rfl rfl hg3 (a8 rfl ?_))); refine m6 rfl rfl ?_ ?_
   ·intro hg4; have hg4' := hg4; try simp at hg4'
    refine i3 rfl rfl hg4 ?_
    first | refine a7 ⟨_, 3, none⟩ rfl rfl T.r0 rfl ?_ | refine a7 _ rfl rfl T.r0 rfl ?_
    refine i3 rfl rfl hg4 ?_
    first | refine a6 rfl T.k6 rfl (h9 mB rfl) ?_ | refine a6 rfl T.k6 rfl (d8 mB rfl) ?_ | refine a6 rfl T.k6 rfl (d3 mB (b4 (by omega) rfl)) ?_ | refine a6 rfl T.k6 rfl (d1 mB (rows_get (by omega) rfl)) ?_ | refine a6 rfl T.k6 rfl (d7 mB rfl) ?_
    refine i3 rfl rfl hg4 (k4 rfl T.s5 rfl ?_); refine i3 rfl rfl hg4 (gK rfl rfl rfl (i3 rfl rfl hg3 ?_)); refine p_f rfl rfl (bf1 hg4) rfl (p_t rfl rfl (bt1 hg3) rfl (a8 rfl ?_)); refine m6 rfl rfl ?_ ?_
    ·intro hg5; have hg5' := hg5; try simp at hg5'
     refine i3 rfl rfl hg5 ?_
     first | refine a7 ⟨_, 2, none⟩ rfl rfl T.n4 rfl ?_ | refine a7 _ rfl rfl T.n4 rfl ?_
     refine i3 rfl rfl hg5 ?_
     first | refine a6 rfl T.b2 rfl (h9 mB rfl) ?_ | refine a6 rfl T.b2 rfl (d8 mB rfl) ?_ | refine a6 rfl T.b2 rfl (d3 mB (b4 (by omega) rfl)) ?_ | refine a6 rfl T.b2 rfl (d1 mB (rows_get (by omega) rfl)) ?_ | refine a6 rfl T.b2 rfl (d7 mB rfl) ?_
     refine i3 rfl rfl hg5 (G0 rfl rfl rfl (i3 rfl rfl hg5 (a8 rfl ?_))); refine m6 rfl rfl ?_ ?_
     ·intro hg6; have hg6' := hg6; try simp at hg6'
      refine i3 rfl rfl hg6 ?_
      first | refine a7 ⟨_, 1, none⟩ rfl rfl T.p9 rfl ?_ | refine a7 _ rfl rfl T.p9 rfl ?_
      refine i3 rfl rfl hg6 ?_
      first | refine a6 rfl T.b2 rfl (h9 mB rfl) ?_ | refine a6 rfl T.b2 rfl (d8 mB rfl) ?_ | refine a6 rfl T.b2 rfl (d3 mB (b4 (by omega) rfl)) ?_ | refine a6 rfl T.b2 rfl (d1 mB (rows_get (by omega) rfl)) ?_ | refine a6 rfl T.b2 rfl (d7 mB rfl) ?_
      refine i3 rfl rfl hg6 (G0 rfl rfl rfl (i3 rfl rfl hg5 ?_)); refine p_t rfl rfl (bt1 hg6) rfl ?_; refine i3 rfl rfl hg5 (a8 rfl ?_); refine m6 rfl rfl ?_ ?_
      ·intro hg7; have hg7' := hg7; try simp at hg7'
       refine i3 rfl rfl hg7 ?_
       first | refine a7 ⟨_, 3, none⟩ rfl rfl T.r0 rfl ?_ | refine a7 _ rfl rfl T.r0 rfl ?_
       refine i3 rfl rfl hg7 ?_
       first | refine a6 rfl T.k6 rfl (h9 mB rfl) ?_ | refine a6 rfl T.k6 rfl (d8 mB rfl) ?_ | refine a6 rfl T.k6 rfl (d3 mB (b4 (by omega) rfl)) ?_ | refine a6 rfl T.k6 rfl (d1 mB (rows_get (by omega) rfl)) ?_ | refine a6 rfl T.k6 rfl (d7 mB rfl) ?_
       refine i3 rfl rfl hg7 (k4 rfl T.s5 rfl ?_); refine i3 rfl rfl hg7 (G0 rfl rfl rfl (i3 rfl rfl hg5 ?_)); refine p_t rfl rfl (bt1 hg7) rfl (p_f rfl rfl (bf1 hg5) rfl ?_); refine b3 ?_; exact w4 _ () trivial ⟨rfl, rfl, rfl, rfl, congrArg (fun b => some (Value.bool b)) (by simp only [kindBad, Hd.p]; simp_all), trivial⟩ (List.Sublist.refl _) mC
      intro hg7; have hg7' := hg7; try simp at hg7'
      refine q7 rfl rfl rfl rfl rfl hg7 (q7 rfl rfl rfl rfl rfl hg7 (q7 rfl rfl rfl rfl rfl hg7 (q7 rfl rfl rfl rfl rfl hg7 (i3 rfl rfl hg5 ?_)))); refine p_f rfl rfl (bf2 hg7) rfl (p_f rfl rfl (bf1 hg5) rfl ?_); refine b3 ?_; exact w4 _ () trivial ⟨rfl, rfl, rfl, rfl, congrArg (fun b => some (Value.bool b)) (by simp only [kindBad, Hd.p]; simp_all), trivial⟩ (List.Sublist.refl _) mC
     intro hg6; have hg6' := hg6; try simp at hg6'
     refine q7 rfl rfl rfl rfl rfl hg6 (q7 rfl rfl rfl rfl rfl hg6 (q7 rfl rfl rfl rfl rfl hg6 (i3 rfl rfl hg5 ?_))); refine p_f rfl rfl (bf2 hg6) rfl ?_; refine i3 rfl rfl hg5 (a8 rfl (q7 rfl rfl rfl rfl rfl rfl (q7 rfl rfl rfl rfl rfl rfl (q7 rfl rfl rfl rfl rfl rfl (q7 rfl rfl rfl rfl rfl rfl (i3 rfl rfl hg5 (p_f rfl rfl rfl rfl ?_))))))); refine p_f rfl rfl (bf1 hg5) rfl ?_; refine b3 ?_; exact w4 _ () trivial ⟨rfl, rfl, rfl, rfl, congrArg (fun b => some (Value.bool b)) (by simp only [kindBad, Hd.p]; simp_all), trivial⟩ (List.Sublist.refl _) mC
    intro hg5; have hg5' := hg5; try simp at hg5'
    refine q7 rfl rfl rfl rfl rfl hg5 (q7 rfl rfl rfl rfl rfl hg5 (q7 rfl rfl rfl rfl rfl hg5 (q7 rfl rfl rfl rfl rfl hg5 (V1 rfl rfl rfl rfl rfl rfl (V1 rfl rfl rfl rfl rfl rfl (V1 rfl rfl rfl rfl rfl rfl (q7 rfl rfl rfl rfl rfl hg5 (q7 rfl rfl rfl rfl rfl hg5 (V1 rfl rfl rfl rfl rfl rfl (V1 rfl rfl rfl rfl rfl rfl (V1 rfl rfl rfl rfl rfl rfl ?_))))))))))); refine V1 rfl rfl rfl rfl rfl rfl (q7 rfl rfl rfl rfl rfl hg5 ?_); refine p_t rfl rfl (bt2 hg5) rfl ?_; refine b3 ?_; exact w4 _ () trivial ⟨rfl, rfl, rfl, rfl, congrArg (fun b => some (Value.bool b)) (by simp only [kindBad, Hd.p]; simp_all), trivial⟩ (List.Sublist.refl _) mC
   intro hg4; have hg4' := hg4; try simp at hg4'
   refine q7 rfl rfl rfl rfl rfl hg4 (q7 rfl rfl rfl rfl rfl hg4 (q7 rfl rfl rfl rfl rfl hg4 (q7 rfl rfl rfl rfl rfl hg4 (i3 rfl rfl hg3 ?_)))); refine p_t rfl rfl (bt2 hg4) rfl (p_t rfl rfl (bt1 hg3) rfl ?_); refine a8 rfl (q7 rfl rfl rfl rfl rfl rfl (q7 rfl rfl rfl rfl rfl rfl (q7 rfl rfl rfl rfl rfl rfl (q7 rfl rfl rfl rfl rfl rfl (V1 rfl rfl rfl rfl rfl rfl (V1 rfl rfl rfl rfl rfl rfl (V1 rfl rfl rfl rfl rfl rfl (q7 rfl rfl rfl rfl rfl rfl (q7 rfl rfl rfl rfl rfl rfl (V1 rfl rfl rfl rfl rfl rfl (V1 rfl rfl rfl rfl rfl rfl ?_))))))))))); refine V1 rfl rfl rfl rfl rfl rfl (V1 rfl rfl rfl rfl rfl rfl (q7 rfl rfl rfl rfl rfl rfl (p_t rfl rfl rfl rfl (b3 ?_)))); exact w4 _ () trivial ⟨rfl, rfl, rfl, rfl, congrArg (fun b => some (Value.bool b)) (by simp only [kindBad, Hd.p]; simp_all), trivial⟩ (List.Sublist.refl _) mC
  intro hg3; have hg3' := hg3; try simp at hg3'
  refine q7 rfl rfl rfl rfl rfl hg3 (q7 rfl rfl rfl rfl rfl hg3 (q7 rfl rfl rfl rfl rfl hg3 (q7 rfl rfl rfl rfl rfl hg3 (V1 rfl rfl rfl rfl rfl rfl (V1 rfl rfl rfl rfl rfl rfl (V1 rfl rfl rfl rfl rfl rfl (V1 rfl rfl rfl rfl rfl rfl (q7 rfl rfl rfl rfl rfl hg3 ?_)))))))); refine p_f rfl rfl (bf2 hg3) rfl ?_; refine a8 rfl (i3 rfl rfl rfl ?_)
  first | refine a7 ⟨_, 2, none⟩ rfl rfl T.n4 rfl ?_ | refine a7 _ rfl rfl T.n4 rfl ?_
  refine i3 rfl rfl rfl ?_
  first | refine a6 rfl T.b2 rfl (h9 mB rfl) ?_ | refine a6 rfl T.b2 rfl (d8 mB rfl) ?_ | refine a6 rfl T.b2 rfl (d3 mB (b4 (by omega) rfl)) ?_ | refine a6 rfl T.b2 rfl (d1 mB (rows_get (by omega) rfl)) ?_ | refine a6 rfl T.b2 rfl (d7 mB rfl) ?_
  refine i3 rfl rfl rfl (G0 rfl rfl rfl (i3 rfl rfl rfl (a8 rfl ?_))); refine m6 rfl rfl ?_ ?_
  ·intro hg8; have hg8' := hg8; try simp at hg8'
   refine i3 rfl rfl hg8 ?_
   first | refine a7 ⟨_, 1, none⟩ rfl rfl T.p9 rfl ?_ | refine a7 _ rfl rfl T.p9 rfl ?_
   refine i3 rfl rfl hg8 ?_
   first | refine a6 rfl T.b2 rfl (h9 mB rfl) ?_ | refine a6 rfl T.b2 rfl (d8 mB rfl) ?_ | refine a6 rfl T.b2 rfl (d3 mB (b4 (by omega) rfl)) ?_ | refine a6 rfl T.b2 rfl (d1 mB (rows_get (by omega) rfl)) ?_ | refine a6 rfl T.b2 rfl (d7 mB rfl) ?_
   refine i3 rfl rfl hg8 (G0 rfl rfl rfl (i3 rfl rfl rfl ?_)); refine p_t rfl rfl (bt1 hg8) rfl ?_; refine i3 rfl rfl rfl (a8 rfl ?_); refine m6 rfl rfl ?_ ?_
   ·intro hg9; have hg9' := hg9; try simp at hg9'
    refine i3 rfl rfl hg9 ?_
    first | refine a7 ⟨_, 3, none⟩ rfl rfl T.r0 rfl ?_ | refine a7 _ rfl rfl T.r0 rfl ?_
    refine i3 rfl rfl hg9 ?_
    first | refine a6 rfl T.k6 rfl (h9 mB rfl) ?_ | refine a6 rfl T.k6 rfl (d8 mB rfl) ?_ | refine a6 rfl T.k6 rfl (d3 mB (b4 (by omega) rfl)) ?_ | refine a6 rfl T.k6 rfl (d1 mB (rows_get (by omega) rfl)) ?_ | refine a6 rfl T.k6 rfl (d7 mB rfl) ?_
    refine i3 rfl rfl hg9 (k4 rfl T.s5 rfl ?_); refine i3 rfl rfl hg9 (G0 rfl rfl rfl (i3 rfl rfl rfl ?_)); refine p_t rfl rfl (bt1 hg9) rfl ?_; refine p_f rfl rfl rfl rfl (b3 ?_); exact w4 _ () trivial ⟨rfl, rfl, rfl, rfl, congrArg (fun b => some (Value.bool b)) (by simp only [kindBad, Hd.p]; simp_all), trivial⟩ (List.Sublist.refl _) mC
   intro hg9; have hg9' := hg9; try simp at hg9'
   refine q7 rfl rfl rfl rfl rfl hg9 (q7 rfl rfl rfl rfl rfl hg9 (q7 rfl rfl rfl rfl rfl hg9 (q7 rfl rfl rfl rfl rfl hg9 (i3 rfl rfl rfl ?_)))); refine p_f rfl rfl (bf2 hg9) rfl ?_; refine p_f rfl rfl rfl rfl (b3 ?_); exact w4 _ () trivial ⟨rfl, rfl, rfl, rfl, congrArg (fun b => some (Value.bool b)) (by simp only [kindBad, Hd.p]; simp_all), trivial⟩ (List.Sublist.refl _) mC
  intro hg8; have hg8' := hg8; try simp at hg8'
  refine q7 rfl rfl rfl rfl rfl hg8 (q7 rfl rfl rfl rfl rfl hg8 (q7 rfl rfl rfl rfl rfl hg8 (i3 rfl rfl rfl ?_))); refine p_f rfl rfl (bf2 hg8) rfl ?_; refine i3 rfl rfl rfl (a8 rfl (q7 rfl rfl rfl rfl rfl rfl (q7 rfl rfl rfl rfl rfl rfl (q7 rfl rfl rfl rfl rfl rfl (q7 rfl rfl rfl rfl rfl rfl (i3 rfl rfl rfl (p_f rfl rfl rfl rfl (p_f rfl rfl rfl rfl (b3 ?_))))))))); exact w4 _ () trivial ⟨rfl, rfl, rfl, rfl, congrArg (fun b => some (Value.bool b)) (by simp only [kindBad, Hd.p]; simp_all), trivial⟩ (List.Sublist.refl _) mC
 refine fun _ _ => ?_
 first | refine k8 rfl (fun hb11 => ?_) (fun hb11 => ?_) | refine i5 rfl (fun hb11 => ?_) (fun hb11 => ?_)
 ·have hb11' := hb11; try simp at hb11'
  refine i4 (b7 rfl (d9 (P8 ?_))); exact ret1 () rfl (congrArg (fun b => some (int b)) (by rw [hH, if_pos hb11])) rfl trivial nil_sb trivial
 have hb11' := hb11; try simp at hb11'
 refine j3 (g6 (i4 (b7 rfl (d9 (k5 ?_))))); exact ret1 () rfl (congrArg (fun b => some (int b)) (by rw [hH, if_neg (by rw [hb11]; simp)])) rfl trivial nil_sb trivial
theorem t0 (cs : List Cl) (hs : List Hd) : (trOf cs hs).hs.length = hs.length := List.length_map ..
theorem cA {A B : Option Addr} {ca cb : Nat} (cs : List Cl) (hs : List Hd) (hca : cs.length ≤ ca) (hcb : hs.length ≤ cb) (ha : ∀ h ∈ hs, h.2.2.2.l.length ≤ 1000000) : Meets Tryz.prog F.kB [.agg #[.slice A cs.length ca, .slice B hs.length cb]] { LI := [Row A (rows cs), RowsF B hs Hd.row], val := fun _ : Unit => int (checkT (trOf cs hs)) } := by
 refine i7 F.wB rfl p7 fun w0 => ?_; refine i4 ?_; refine E5 rfl rfl fun gB => ?_; refine b7 rfl (d9 (bY ?_)); have hl := t0 cs hs; refine b9 ?_
 first | refine a7 ⟨_, 0, none⟩ rfl rfl T.k0 rfl ?_ | refine a7 _ rfl rfl T.k0 rfl ?_
 first | refine a6 rfl T.b5 rfl (h9 mB rfl) ?_ | refine a6 rfl T.b5 rfl (d8 mB rfl) ?_ | refine a6 rfl T.b5 rfl (d3 mB (b4 (by omega) rfl)) ?_ | refine a6 rfl T.b5 rfl (d1 mB (rows_get (by omega) rfl)) ?_ | refine a6 rfl T.b5 rfl (d7 mB rfl) ?_
 refine k4 rfl T.p8 rfl ?_; refine gK rfl rfl rfl (a8 rfl ?_); refine m6 rfl rfl ?_ ?_
 ·intro hg1; have hg1' := hg1; try simp at hg1'
  have h6 : cs.length ≤ 6 := by simp at hg1; omega
  refine i3 rfl rfl hg1 ?_
  first | refine a7 ⟨_, 1, none⟩ rfl rfl T.j0 rfl ?_ | refine a7 _ rfl rfl T.j0 rfl ?_
  refine i3 rfl rfl hg1 ?_
  first | refine a6 rfl T.a9 rfl (h9 mB rfl) ?_ | refine a6 rfl T.a9 rfl (d8 mB rfl) ?_ | refine a6 rfl T.a9 rfl (d3 mB (b4 (by omega) rfl)) ?_ | refine a6 rfl T.a9 rfl (d1 mB (rows_get (by omega) rfl)) ?_ | refine a6 rfl T.a9 rfl (d7 mB rfl) ?_
  refine i3 rfl rfl hg1 (k4 rfl T.m9 rfl ?_); refine i3 rfl rfl hg1 (gK rfl rfl rfl ?_); refine p_f rfl rfl (bf1 hg1) rfl ?_; refine d9 ?_
  first | refine k8 rfl (fun hb1 => ?_) (fun hb1 => ?_) | refine i5 rfl (fun hb1 => ?_) (fun hb1 => ?_)
  ·have hb1' := hb1; try simp at hb1'
   refine i4 (b7 rfl (d9 (P8 ?_))); exact ret1 () rfl (congrArg (fun b => some (int b)) (by rw [checkT, if_pos (by rw [hl]; simp only; omega)])) rfl trivial nil_sb trivial
  have hb1' := hb1; try simp at hb1'
  have h6h : hs.length ≤ 6 := by omega
  have hT : checkT (trOf cs hs) = if ¬ firstE (clsErr cs) cs.length = 0 then firstE (clsErr cs) cs.length else firstE (headErr (trOf cs hs)) hs.length := by rw [checkT, if_neg (by rw [hl]; simp only; omega), hl]
  refine j3 (g6 (i1 (i4 ?_)))
  first | refine a7 ⟨_, 0, none⟩ rfl rfl T.k0 rfl ?_ | refine a7 _ rfl rfl T.k0 rfl ?_
  first | refine a6 rfl T.b5 rfl (h9 mB rfl) ?_ | refine a6 rfl T.b5 rfl (d8 mB rfl) ?_ | refine a6 rfl T.b5 rfl (d3 mB (b4 (by omega) rfl)) ?_ | refine a6 rfl T.b5 rfl (d1 mB (rows_get (by omega) rfl)) ?_ | refine a6 rfl T.b5 rfl (d7 mB rfl) ?_
  refine k4 rfl T.p8 rfl ?_; refine a8 rfl (d9 (i9 ?_)); refine p6 (β := Nat) ⟨fun k => k ≤ cs.length ∧ firstE (clsErr cs) k = 0, fun k => [(1, .pointer (b8 gB)), (19, int cs.length), (20, int k)], fun _ => [(gB, .cells #[.slice A cs.length ca, .slice B hs.length cb] T.i2 (0, 0))], fun _ => [Row A (rows cs), RowsF B hs Hd.row]⟩ (fun k => cs.length - k) 0 ⟨Nat.zero_le _, rfl⟩ mC (List.Sublist.refl _) mC fun k hk => ?_; obtain ⟨hk, ht⟩ := hk; refine i4 (t7 rfl rfl rfl (d9 (i1 ?_)))
  first | refine k8 rfl (fun hb2 => ?_) (fun hb2 => ?_) | refine i5 rfl (fun hb2 => ?_) (fun hb2 => ?_)
  ·have hb2' := hb2; try simp at hb2'
   have hk2 : k < cs.length := by omega
   refine j3 (g6 (i1 (i9 (i4 (a8 rfl (b7 rfl (j8 ?_)))))))
   first | refine a7 ⟨_, 0, none⟩ rfl rfl T.k0 rfl ?_ | refine a7 _ rfl rfl T.k0 rfl ?_
   first | refine a6 rfl T.b5 rfl (h9 mB rfl) ?_ | refine a6 rfl T.b5 rfl (d8 mB rfl) ?_ | refine a6 rfl T.b5 rfl (d3 mB (b4 (by omega) rfl)) ?_ | refine a6 rfl T.b5 rfl (d1 mB (rows_get (by omega) rfl)) ?_ | refine a6 rfl T.b5 rfl (d7 mB rfl) ?_
   refine a8 rfl ?_; refine d5 F.mA rfl rfl (hU cs k (by omega) hca hk2) j5 mC fun _ _ => ?_; refine b7 rfl (j8 (a8 rfl (t3 rfl rfl rfl (d9 ?_))))
   first | refine k8 rfl (fun hb3 => ?_) (fun hb3 => ?_) | refine i5 rfl (fun hb3 => ?_) (fun hb3 => ?_)
   ·have hb3' := hb3; try simp at hb3'
    refine i4 (a8 rfl (b7 rfl (d9 (k5 (B7 (z8 (B7 ?_))))))); exact ret1 () rfl (congrArg (fun b => some (int b)) (by rw [hT, Q5 ht hb3 _ hk2, if_pos hb3])) rfl trivial nil_sb trivial
   have hb3' := hb3; try simp at hb3'
   refine j3 (n9 (g6 (b9 ?_))); refine q9 _ rfl rfl rfl rfl n5 ?_; refine a8 rfl (b3 ?_); exact again _ (k + 1) ⟨by omega, by rw [lB ht]; exact Classical.not_not.1 hb3⟩ (r6 (by omega)) mC (List.Sublist.refl _) mC
  have hb2' := hb2; try simp at hb2'
  have hk2 : k = cs.length := by omega
  subst hk2; rw [if_neg (not_not_intro ht)] at hT; refine n2 (t4 (n1 (g6 (i1 (i4 ?_)))))
  first | refine a7 ⟨_, 1, none⟩ rfl rfl T.j0 rfl ?_ | refine a7 _ rfl rfl T.j0 rfl ?_
  first | refine a6 rfl T.a9 rfl (h9 mB rfl) ?_ | refine a6 rfl T.a9 rfl (d8 mB rfl) ?_ | refine a6 rfl T.a9 rfl (d3 mB (b4 (by omega) rfl)) ?_ | refine a6 rfl T.a9 rfl (d1 mB (rows_get (by omega) rfl)) ?_ | refine a6 rfl T.a9 rfl (d7 mB rfl) ?_
  refine k4 rfl T.m9 rfl ?_; refine a8 rfl (d9 (i9 ?_)); refine p6 (β := Nat) ⟨fun k => k ≤ hs.length ∧ firstE (headErr (trOf cs hs)) k = 0, fun k => [(1, .pointer (b8 gB)), (33, int hs.length), (34, int k)], fun _ => [(gB, .cells #[.slice A cs.length ca, .slice B hs.length cb] T.i2 (0, 0))], fun _ => [Row A (rows cs), RowsF B hs Hd.row]⟩ (fun k => hs.length - k) 0 ⟨Nat.zero_le _, rfl⟩ mC (List.Sublist.refl _) mC fun k hk => ?_; obtain ⟨hk, ht⟩ := hk; refine i4 (t7 rfl rfl rfl (d9 (i1 ?_)))
  first | refine k8 rfl (fun hb4 => ?_) (fun hb4 => ?_) | refine i5 rfl (fun hb4 => ?_) (fun hb4 => ?_)
  ·have hb4' := hb4; try simp at hb4'
   have hk2 : k < hs.length := by omega
   refine j3 (g6 (i1 (i9 (i4 (a8 rfl (b7 rfl (j8 ?_)))))))
   first | refine u6 rfl T.d6 T.d4 rfl mB (by rfl) ?_ | refine t9 rfl T.d6 T.d4 rfl mB (by rfl) ?_ | refine q6 rfl T.d6 T.d4 rfl rfl (m7 mB (n7 (by omega))) ?_
   refine a8 rfl ?_; refine d5 F.nG rfl rfl (jH cs hs k h6h h6 hcb hk2 ha) j5 mC fun _ _ => ?_; refine b7 rfl (j8 (a8 rfl (t3 rfl rfl rfl (d9 ?_))))
   first | refine k8 rfl (fun hb5 => ?_) (fun hb5 => ?_) | refine i5 rfl (fun hb5 => ?_) (fun hb5 => ?_)
   ·have hb5' := hb5; try simp at hb5'
    refine i4 (a8 rfl (b7 rfl (d9 (k5 (B7 (z8 (B7 ?_))))))); exact ret1 () rfl (congrArg (fun b => some (int b)) (by rw [hT, Q5 ht hb5 _ hk2])) rfl trivial nil_sb trivial
   have hb5' := hb5; try simp at hb5'
   refine j3 (n9 (g6 (b9 ?_))); refine q9 _ rfl rfl rfl rfl n5 ?_; refine a8 rfl (b3 ?_); exact again _ (k + 1) ⟨by omega, by rw [lB ht]; exact Classical.not_not.1 hb5⟩ (r6 (by omega)) mC (List.Sublist.refl _) mC
  have hb4' := hb4; try simp at hb4'
  have hk2 : k = hs.length := by omega
  subst hk2; refine n2 (t4 (n1 (g6 (i4 (b7 rfl (d9 (k5 ?_))))))); exact ret1 () rfl (congrArg (fun b => some (int b)) (by rw [hT, ht])) rfl trivial nil_sb trivial
 intro hg1; have hg1' := hg1; try simp at hg1'
 refine q7 rfl rfl rfl rfl rfl hg1 (q7 rfl rfl rfl rfl rfl hg1 (q7 rfl rfl rfl rfl rfl hg1 (q7 rfl rfl rfl rfl rfl hg1 ?_))); refine p_t rfl rfl (bt2 hg1) rfl ?_; refine d9 (c_t rfl rfl (i4 (b7 rfl (d9 (P8 ?_))))); exact ret1 () rfl (congrArg (fun b => some (int b)) (by rw [checkT, if_pos (by simp at hg1; simp only; omega)])) rfl trivial nil_sb trivial
instance : El Nat where
  default := 0
  cells m := [u8 m]
  sz := 1
  len _ := rfl
  one a u h := by simp at h; subst h; rfl
inductive Kd where
  | art (c : Int) (al : Sl Int)
  | ptr (s : Int)
  | idx (al : Sl Int)
def Kd.v : Kd → Value
  | .art c al => .iface T.I7 (.agg #[int c, .slice al.a al.l.length al.c])
  | .ptr s => .iface T.I6 (.agg #[int s])
  | .idx al => .iface T.L6 (.agg #[.slice al.a al.l.length al.c])
instance : El Kd where
  default := .ptr 0
  cells m := [m.v]
  sz := 1
  len _ := rfl
  one a u h := by simp at h; subst h; cases a <;> rfl
def kindOf (h : Hd) : Kd := if ¬ h.2.2.1 = -1 then .ptr h.2.2.1 else if ¬ h.2.1 = -1 then .art h.2.1 h.2.2.2 else .idx h.2.2.2
def kindsN (hs : List Hd) (k : Nat) : List Kd := (hs.take k).map kindOf
theorem t6 {hs : List Hd} {k : Nat} (h : k ≤ hs.length) : (kindsN hs k).length = k := by simp [kindsN, h]
theorem pD {hs : List Hd} {k : Nat} (h : k < hs.length) : kindsN hs (k + 1) = kindsN hs k ++ [kindOf (hs.getD k default)] := by
  unfold kindsN; rw [s4 hs k h, List.map_append]
  rfl
def maskOf (l : List Int) : Nat := l.foldl (fun m x => m ||| 2 ^ x.toNat) 0
theorem dx5 (l : List Int) (x : Int) : maskOf (l ++ [x]) = maskOf l ||| 2 ^ x.toNat := by unfold maskOf; rw [List.foldl_append]; rfl
theorem aq4 : ∀ (l : List Int) (m : Nat), m < 256 → (∀ x ∈ l, x.toNat < 8) → l.foldl (fun m x => m ||| 2 ^ x.toNat) m < 256
  | [], m, hm, _ => hm
  | x :: l, m, hm, h => by
    rw [List.foldl_cons]; refine aq4 l _ (Nat.or_lt_two_pow (n := 8) hm ?_) (fun y hy => h y (List.mem_cons_of_mem _ hy)); exact Nat.pow_lt_pow_right (by omega) (h x (List.mem_cons_self ..))
theorem mask_lt {l : List Int} (h : ∀ x ∈ l, x.toNat < 8) : maskOf l < 256 := aq4 l 0 (by decide) h
theorem vA : ∀ (l : List Int) (m j : Nat), (l.foldl (fun m x => m ||| 2 ^ x.toNat) m).testBit j = (m.testBit j || l.any fun x => x.toNat = j)
  | [], m, j => by simp
  | x :: l, m, j => by
    rw [List.foldl_cons, vA l, Nat.testBit_or, Nat.testBit_two_pow, List.any_cons, Bool.or_assoc]
theorem lN {l : List Int} (h : ∀ x ∈ l, 0 ≤ x) (j : Nat) : (maskOf l).testBit j = decide ((j : Int) ∈ l) := by
  unfold maskOf; rw [vA, Nat.zero_testBit, Bool.false_or, Bool.eq_iff_iff, List.any_eq_true, decide_eq_true_eq]
  constructor
  · rintro ⟨x, hx, e⟩
    rw [decide_eq_true_eq] at e; have := h x hx
    rwa [show (j : Int) = x by omega]
  intro hj; exact ⟨_, hj, by simp⟩
def masksN (cs : List Cl) (k : Nat) : List Nat := (List.range k).map fun i : Nat => maskOf (pathT cs (i : Int))
theorem E6 (cs : List Cl) (k : Nat) : (masksN cs k).length = k := by simp [masksN]
theorem bq8 (cs : List Cl) (k : Nat) : masksN cs (k + 1) = masksN cs k ++ [maskOf (pathT cs (k : Int))] := by unfold masksN; rw [List.range_succ, List.map_append]; rfl
theorem gP {cs : List Cl} {k i : Nat} (h : i < k) : (masksN cs k).getD i default = maskOf (pathT cs (i : Int)) := by
  rw [u9 (by rw [E6]; exact h)]
  simp [masksN]
theorem iK {cs : List Cl} (h6 : cs.length ≤ 6) (hc : ∀ i, i < cs.length → ClsOK cs i) {c : Int} (hl : c < (cs.length : Int)) : ∀ x ∈ pathT cs c, 0 ≤ x ∧ x < 6 := fun x hx => by
  have := (kR cs hc c.toNat c (Nat.le_refl _) hl).2 x hx
  omega
theorem lO {cs : List Cl} (h6 : cs.length ≤ 6) (hc : ∀ i, i < cs.length → ClsOK cs i) {c : Int} (hl : c < (cs.length : Int)) : maskOf (pathT cs c) < 256 := mask_lt fun x hx => by have := iK h6 hc hl x hx; omega
theorem xN {cs : List Cl} (h6 : cs.length ≤ 6) (hc : ∀ i, i < cs.length → ClsOK cs i) {k : Nat} (hk : k < cs.length) : maskOf (pathT cs (k : Int)) = 2 ^ k ||| maskOf (pathT cs (cs.getD k default).2) := by
  rw [xL cs hc (by omega) (by omega), dx5, Nat.or_comm]
  rfl
theorem ij8 {cs : List Cl} {c : Int} (h : c < 0) : maskOf (pathT cs c) = 0 := by rw [qK cs h]; rfl
theorem pmA {α : Type} (l : List α) (a b : α) : (l ++ [a, b]).Perm (a :: (l ++ [b])) := D4 fun p => by simp only [List.countP_append, List.countP_cons, List.countP_nil]; omega
theorem pmB {α : Type} (l : List α) (a b : α) : (a :: (l ++ [b])).Perm (l ++ [a, b]) := (pmA l a b).symm
theorem pmC {α : Type} (l : List α) (a : α) : (l ++ [a]).Perm (a :: l) := List.perm_append_comm (l₂ := [a])
def beginL (cs : List Cl) (hs : List Hd) (A : Option Addr) (ca : Nat) (B : Option Addr) (cb : Nat) (x : Nat × OutC × OutC) : List Fact := [Row (some ⟨x.1, 0, none⟩) [.slice A cs.length ca, .slice B hs.length cb, .slice x.2.1.1 cs.length x.2.1.2, .slice x.2.2.1 hs.length x.2.2.2], Row x.2.1.1 (rows (masksN cs cs.length)), Row x.2.2.1 (rows (kindsN hs hs.length))]
theorem cQ (m i : Nat) (hm : m < 256) (hi : i < 8) : Meets Tryz.prog F.P1 [u8 m, int i] { val := fun _ : Unit => u8 (m ||| 2 ^ i) } := by
 refine i7 F.jX rfl p7 fun w0 => ?_; refine i4 (b7 rfl (j8 (a8 rfl (a8 rfl (hq4 i rfl rfl rfl rfl hi ?_))))); refine cq3 rfl rfl rfl hm (Nat.pow_lt_pow_right (by omega) hi : 2 ^ i < 2 ^ 8) ?_; refine b7 rfl (d9 (k5 ?_)); exact ret1 () rfl rfl rfl trivial nil_sb trivial
theorem J1 (m i : Nat) (hm : m < 256) (hi : i < 8) : Meets Tryz.prog F.R8 [u8 m, int i] { val := fun _ : Unit => .bool (m.testBit i) } := by
 refine i7 F.lY rfl p7 fun w0 => ?_; refine i4 (b7 rfl (j8 (a8 rfl (a8 rfl (hq3 i rfl rfl rfl rfl hi ?_))))); refine bq6 (b := 1) rfl rfl rfl (Nat.lt_of_le_of_lt (Nat.div_le_self _ _) hm) (by decide) ?_; refine G0 rfl rfl rfl (b7 rfl (d9 (k5 ?_))); exact ret1 () rfl (congrArg (fun b => some (Value.bool b)) (by exact jq3 m i)) rfl trivial nil_sb trivial
set_option maxHeartbeats 1000000 in
theorem A7 {A B : Option Addr} {ca cb : Nat} (cs : List Cl) (hs : List Hd) (hca : cs.length ≤ ca) (hcb : hs.length ≤ cb) (ha : ∀ h ∈ hs, h.2.2.2.l.length ≤ 1000000) : Meets Tryz.prog F.kC [.agg #[.slice A cs.length ca, .slice B hs.length cb]] { LI := [Row A (rows cs), RowsF B hs Hd.row], val := fun x : Nat × OutC × OutC => .tuple #[if checkT (trOf cs hs) = 0 then .pointer (some ⟨x.1, 0, none⟩) else .pointer none, int (checkT (trOf cs hs))], LO := fun x => if checkT (trOf cs hs) = 0 then beginL cs hs A ca B cb x else [] } := by
 refine i7 F.wC rfl p7 fun w0 => ?_; refine i4 ?_; refine E5 rfl rfl fun gB => ?_; refine b7 rfl (b7 rfl (d9 (i1 (i4 ?_))))
 first | refine u6 rfl T.d6 T.d4 rfl mB (by rfl) ?_ | refine t9 rfl T.d6 T.d4 rfl mB (by rfl) ?_ | refine q6 rfl T.d6 T.d4 rfl rfl (m7 mB (n7 (by omega))) ?_
 refine d5 F.jY rfl rfl (cA cs hs hca hcb ha) j5 mC fun _ _ => ?_; refine b7 rfl (j8 (a8 rfl (t3 rfl rfl rfl (d9 ?_))))
 first | refine k8 rfl (fun hb1 => ?_) (fun hb1 => ?_) | refine i5 rfl (fun hb1 => ?_) (fun hb1 => ?_)
 ·have hb1' := hb1; try simp at hb1'
  refine i4 (a8 rfl (b7 rfl (b7 rfl (d9 (P8 ?_))))); exact ret2 (0, (none, 0), (none, 0)) rfl rfl rfl (by show Value.tuple #[if checkT (trOf cs hs) = 0 then _ else _, _] = _; rw [if_neg hb1]) rfl trivial nil_sb (by show LSub _ (if checkT (trOf cs hs) = 0 then _ else []); rw [if_neg hb1]; trivial)
 have hb1' := hb1; try simp at hb1'
 have hok := Y3 (Classical.not_not.1 hb1); have h6 : cs.length ≤ 6 := hok.c6; have h6h := hok.h6; rw [t0] at h6h; have hcl : ∀ i, i < cs.length → ClsOK cs i := hok.c; refine j3 (g6 (i4 ?_))
 first | refine u6 rfl T.d6 T.d4 rfl mB (by rfl) ?_ | refine t9 rfl T.d6 T.d4 rfl mB (by rfl) ?_ | refine q6 rfl T.d6 T.d4 rfl rfl (m7 mB (n7 (by omega))) ?_
 refine w7 _ rfl rfl (fun _ => T.tO ..) ?_; refine E5 rfl rfl fun gB_1 => ?_; refine b7 rfl (d9 (i1 (i4 ?_)))
 first | refine a7 ⟨_, 0, none⟩ rfl rfl T.k0 rfl ?_ | refine a7 _ rfl rfl T.k0 rfl ?_
 first | refine a6 rfl T.b5 rfl (h9 mB rfl) ?_ | refine a6 rfl T.b5 rfl (d8 mB rfl) ?_ | refine a6 rfl T.b5 rfl (d3 mB (b4 (by omega) rfl)) ?_ | refine a6 rfl T.b5 rfl (d1 mB (rows_get (by omega) rfl)) ?_ | refine a6 rfl T.b5 rfl (d7 mB rfl) ?_
 refine k4 rfl T.p8 rfl ?_; refine a8 rfl (d9 (i9 ?_)); refine p6 (β := Nat × OutC × Hp) ⟨fun x => x.1 ≤ cs.length ∧ Grow T.cR 1 x.2.1.1 x.1 x.2.1.2 (rows (masksN cs x.1)) x.2.2, fun x => [(1, .pointer (b8 gB)), (5, .pointer (b8 gB_1)), (20, .slice A cs.length ca), (21, int cs.length), (22, int x.1)], fun x => (gB_1, .cells #[.slice A cs.length ca, .slice B hs.length cb, .slice x.2.1.1 x.1 x.2.1.2, .slice none 0 0] T.nC (0, 0)) :: (x.2.2 ++ [(gB, .cells #[.slice A cs.length ca, .slice B hs.length cb] T.i2 (0, 0))]), fun _ => [Row A (rows cs), RowsF B hs Hd.row]⟩ (fun x => cs.length - x.1) (0, (none, 0), []) ⟨Nat.zero_le _, Grow.nil _ _⟩ mC (List.Sublist.refl _) mC fun x hx => ?_; obtain ⟨k, ⟨oa, oc⟩, og⟩ := x; obtain ⟨hk, hG⟩ := hx; simp only at hk hG; refine i4 (t7 rfl rfl rfl (d9 (i1 ?_)))
 first | refine k8 rfl (fun hb2 => ?_) (fun hb2 => ?_) | refine i5 rfl (fun hb2 => ?_) (fun hb2 => ?_)
 ·have hb2' := hb2; try simp at hb2'
  have hk2 : k < cs.length := by omega
  have hck := hcl k hk2; have hlo := hck.lo; have hhi := hck.hi; refine j3 (g6 (i1 (i9 (i4 (a8 rfl ?_))))); refine r9 (α := Cl) cs k rfl T.p8 T.t5 rfl rfl rfl mB rfl hk2 (by decide) (q6 rfl T.K6 T.t5 rfl rfl (m7 mB (n7 (by omega))) ?_); refine r7 rfl (fun _ => T.iS _) fun gA => ?_; refine b7 rfl ?_; refine r4 rfl rfl (by first | exact .refl _ | exact perm2 _ _ _ | exact perm3 _ _ _ _ | exact perm4 _ _ _ _ _) T.t5 (by rfl) (by rfl) ?_; refine j8 (a8 rfl ?_); refine d5 F.jG rfl rfl (cQ 0 k (by decide) (by omega)) j5 trivial fun _ _ => ?_; refine b7 rfl (d9 ?_); refine B8 ⟨fun _ : Unit => True, fun _ => [(1, .pointer (b8 gB)), (5, .pointer (b8 gB_1)), (20, .slice A cs.length ca), (21, int cs.length), (22, int k), (8, u8 (maskOf (pathT cs (k : Int))))], fun _ => (gB_1, .cells #[.slice A cs.length ca, .slice B hs.length cb, .slice oa k oc, .slice none 0 0] T.nC (0, 0)) :: (og ++ [(gB, .cells #[.slice A cs.length ca, .slice B hs.length cb] T.i2 (0, 0))]), fun _ => [Row A (rows cs), RowsF B hs Hd.row]⟩ ?_ ?_
  ·skip
   refine i4 ?_
   first | refine a7 ⟨_, 1, none⟩ rfl rfl T.v7 rfl ?_ | refine a7 _ rfl rfl T.v7 rfl ?_
   first | refine a6 rfl T.b2 rfl (h9 mB rfl) ?_ | refine a6 rfl T.b2 rfl (d8 mB rfl) ?_ | refine a6 rfl T.b2 rfl (d3 mB (b4 (by omega) rfl)) ?_ | refine a6 rfl T.b2 rfl (d1 mB (rows_get (by omega) rfl)) ?_ | refine a6 rfl T.b2 rfl (d7 mB rfl) ?_
   refine bM rfl rfl rfl (d9 ?_)
   first | refine k8 rfl (fun hb3 => ?_) (fun hb3 => ?_) | refine i5 rfl (fun hb3 => ?_) (fun hb3 => ?_)
   ·have hb3' := hb3; try simp at hb3'
    obtain ⟨gC, cur, e1, e2, hnc, hcm, hcs, hct, _⟩ := hG.open_ (by omega); subst e1; subst e2
    have hcell : cur[0 + (cs.getD k default).2.toNat * 1]? = some (u8 (maskOf (pathT cs (cs.getD k default).2))) := by
      have h1 : (rows (masksN cs k))[(cs.getD k default).2.toNat * 1]? = some (u8 (maskOf (pathT cs (cs.getD k default).2))) := b4 (by rw [E6]; omega) (by rw [gP (by omega), Int.toNat_of_nonneg hb3]; rfl); rw [← hct, List.getElem?_take, if_pos (by omega)] at h1; rw [Nat.zero_add, ← Array.getElem?_toList]; exact h1
    refine C8 9 mixed (by decide) (by decide) rfl rfl (l3 (fun w1 => a8 rfl (q_z rfl)) (l3 (fun w1 => a8 rfl (q_z rfl)) (l3 (fun w1 => l9 rfl rfl (q_z rfl)) ?_)))
    apply n6 _ rfl rfl rfl
    ·intro w1
     first | refine a7 ⟨_, 2, none⟩ rfl rfl T.u7 rfl ?_ | refine a7 _ rfl rfl T.u7 rfl ?_
     refine b3 ?_; exact j7 rfl
    apply n6 _ rfl rfl rfl
    ·intro w1
     first | refine a6 rfl T.k7 rfl (d8 mB rfl) ?_ | refine a6 rfl T.k7 rfl (h9 mB rfl) ?_ | refine a6 rfl T.k7 rfl (d3 mB (b4 (by omega) rfl)) ?_ | refine a6 rfl T.k7 rfl (d1 mB (rows_get (by omega) rfl)) ?_ | refine a6 rfl T.k7 rfl (d7 mB rfl) ?_
     refine b3 ?_; exact j7 rfl
    apply n6 _ rfl rfl rfl
    ·intro w1
     first | refine a7 ⟨_, 1, none⟩ rfl rfl T.v7 rfl ?_ | refine a7 _ rfl rfl T.v7 rfl ?_
     refine b3 ?_; exact j7 rfl
    apply n6 _ rfl rfl rfl
    ·intro w1
     first | refine a6 rfl T.b2 rfl (d8 mB rfl) ?_ | refine a6 rfl T.b2 rfl (h9 mB rfl) ?_ | refine a6 rfl T.b2 rfl (d3 mB (b4 (by omega) rfl)) ?_ | refine a6 rfl T.b2 rfl (d1 mB (rows_get (by omega) rfl)) ?_ | refine a6 rfl T.b2 rfl (d7 mB rfl) ?_
     refine b3 ?_; exact j7 rfl
    refine l3 (fun w1 => l6 (cs.getD k default).2.toNat _ rfl T.H8 T.J2 rfl rfl (Int.toNat_of_nonneg hb3).symm (by omega) rfl (q_z rfl)) (l3 (fun w1 => a6 rfl T.G9 rfl (d8 mB hcell) (q_z rfl)) ?_); refine w5 ⟨rfl, ?_⟩; refine cq3 rfl rfl rfl (by rw [Nat.zero_or]; exact (Nat.pow_lt_pow_right (by omega) (by omega) : 2 ^ k < 2 ^ 8)) (lO h6 hcl (by omega)) ?_; refine b7 rfl (b3 ?_); exact w4 _ () trivial ⟨rfl, rfl, rfl, rfl, rfl, congrArg (fun b => some (u8 b)) (by rw [Nat.zero_or]; exact (xN h6 hcl hk2).symm), trivial⟩ (List.sublist_cons_self _ _) mC
   have hb3' := hb3; try simp at hb3'
   refine j3 ?_; exact w4 _ () trivial ⟨rfl, rfl, rfl, rfl, rfl, congrArg (fun b => some (u8 b)) (by rw [xN h6 hcl hk2, ij8 (by omega), Nat.or_zero, Nat.zero_or]), trivial⟩ (List.sublist_cons_self _ _) mC
  refine fun _ _ => ?_; refine b9 (a8 rfl (a8 rfl (l9 rfl rfl ?_)))
  first | refine a7 ⟨_, 2, none⟩ rfl rfl T.u7 rfl ?_ | refine a7 _ rfl rfl T.u7 rfl ?_
  first | refine a6 rfl T.k7 rfl (h9 mB rfl) ?_ | refine a6 rfl T.k7 rfl (d8 mB rfl) ?_ | refine a6 rfl T.k7 rfl (d3 mB (b4 (by omega) rfl)) ?_ | refine a6 rfl T.k7 rfl (d1 mB (rows_get (by omega) rfl)) ?_ | refine a6 rfl T.k7 rfl (d7 mB rfl) ?_
  refine a8 rfl ?_; refine j4 _ rfl rfl (fun _ => T.lE ..) fun gS => ?_; refine n0 (rows [maskOf (pathT cs (k : Int))]) (List.prefix_refl _) ?_; refine B6 (k + 1) (rows (masksN cs k ++ [maskOf (pathT cs (k : Int))])) T.pH rfl rfl rfl hG (pmB _ _ _) (Src.row (news := rows [maskOf (pathT cs (k : Int))]) (m := 1) m0 rfl (A9 _) (by decide)) rfl (s9 _ _).symm (by unfold maxLen; omega) (by omega) fun A' c' og' hG' => ?_; refine l9 rfl rfl ?_
  first | refine a7 ⟨_, 2, none⟩ rfl rfl T.u7 rfl ?_ | refine a7 _ rfl rfl T.u7 rfl ?_
  refine z9 rfl rfl (pmA _ _ _) T.nI (by rfl) (by rfl) ?_; refine b3 (n9 (g6 (b9 ?_))); refine q9 _ rfl rfl rfl rfl n5 ?_; refine a8 rfl (b3 ?_); exact again _ (k + 1, (A', c'), og') ⟨by show k + 1 ≤ cs.length; omega, by show Grow _ _ _ _ _ (rows (masksN cs (k + 1))) _; rw [bq8]; exact hG'⟩ (r6 (by omega)) mC (List.Sublist.refl _) mC
 have hb2' := hb2; try simp at hb2'
 have hk2 : k = cs.length := by omega
 subst hk2; refine n2 (t4 (n1 (g6 (bY ?_)))); refine rF (pmB _ _ _) (vI hG ?_); clear hG; refine b9 ?_
 first | refine a7 ⟨_, 1, none⟩ rfl rfl T.j0 rfl ?_ | refine a7 _ rfl rfl T.j0 rfl ?_
 first | refine a6 rfl T.a9 rfl (h9 mB rfl) ?_ | refine a6 rfl T.a9 rfl (d8 mB rfl) ?_ | refine a6 rfl T.a9 rfl (d3 mB (b4 (by omega) rfl)) ?_ | refine a6 rfl T.a9 rfl (d1 mB (rows_get (by omega) rfl)) ?_ | refine a6 rfl T.a9 rfl (d7 mB rfl) ?_
 refine k4 rfl T.m9 rfl ?_; refine a8 rfl (d9 (i9 (J4 mB ?_))); refine p6 (β := Nat × OutC × Hp) ⟨fun x => x.1 ≤ hs.length ∧ Grow T.V9 1 x.2.1.1 x.1 x.2.1.2 (rows (kindsN hs x.1)) x.2.2, fun x => [(5, .pointer (b8 gB_1)), (54, .slice B hs.length cb), (55, int hs.length), (56, int x.1)], fun x => (gB_1, .cells #[.slice A cs.length ca, .slice B hs.length cb, .slice oa cs.length oc, .slice x.2.1.1 x.1 x.2.1.2] T.nC (0, 0)) :: x.2.2, fun _ => [Row oa (rows (masksN cs cs.length)), Row A (rows cs), RowsF B hs Hd.row, Row B (rows hs)]⟩ (fun x => hs.length - x.1) (0, (none, 0), []) ⟨Nat.zero_le _, Grow.nil _ _⟩ mC (nil_sb.cons_cons _) mC fun x hx => ?_; obtain ⟨k, ⟨ka, kc⟩, og2⟩ := x; obtain ⟨hk, hG⟩ := hx; simp only at hk hG; refine i4 (t7 rfl rfl rfl (d9 (i1 ?_)))
 first | refine k8 rfl (fun hb4 => ?_) (fun hb4 => ?_) | refine i5 rfl (fun hb4 => ?_) (fun hb4 => ?_)
 ·have hb4' := hb4; try simp at hb4'
  have hk2 : k < hs.length := by omega
  refine j3 (g6 (i1 (i9 (i4 ?_)))); refine r9 (α := Hd) hs k rfl T.m9 T.l8 rfl rfl rfl mB rfl hk2 (by decide) (q6 rfl T.z7 T.l8 rfl rfl (m7 mB (n7 (by omega))) ?_); refine r7 rfl (fun _ => T.D1 _) fun gA => ?_; refine r4 rfl rfl (by first | exact .refl _ | exact perm2 _ _ _ | exact perm3 _ _ _ _ | exact perm4 _ _ _ _ _) T.l8 (by rfl) (by rfl) ?_; refine d9 (i9 (i1 ?_)); refine C4 (rows [hs.getD k default]) ⟨[], List.append_nil _⟩ ?_; refine b9 ?_
  first | refine a7 ⟨_, 2, none⟩ rfl rfl T.n4 rfl ?_ | refine a7 _ rfl rfl T.n4 rfl ?_
  first | refine a6 rfl T.b2 rfl (h9 mB rfl) ?_ | refine a6 rfl T.b2 rfl (d8 mB rfl) ?_ | refine a6 rfl T.b2 rfl (d3 mB (b4 (by omega) rfl)) ?_ | refine a6 rfl T.b2 rfl (d1 mB (rows_get (by omega) rfl)) ?_ | refine a6 rfl T.b2 rfl (d7 mB rfl) ?_
  refine t3 rfl rfl rfl (b7 rfl (d9 ?_))
  first | refine k8 rfl (fun hb5 => ?_) (fun hb5 => ?_) | refine i5 rfl (fun hb5 => ?_) (fun hb5 => ?_)
  ·have hb5' := hb5; try simp at hb5'
   refine G1 (og2) ([_]) (List.perm_append_comm (l₁ := [_])) 11 [10] mixed (by decide) (by decide) (by decide) rfl rfl rfl (l3 (fun w1 => a8 rfl (q_z rfl)) (l3 (fun w1 => a8 rfl (q_z rfl)) (l3 (fun w1 => l9 rfl rfl (q_z rfl)) ?_)))
   apply n6 _ rfl rfl rfl
   ·intro w1
    first | refine a7 ⟨_, 3, none⟩ rfl rfl T.j9 rfl ?_ | refine a7 _ rfl rfl T.j9 rfl ?_
    refine b3 ?_; exact j7 rfl
   apply n6 _ rfl rfl rfl
   ·intro w1
    first | refine a6 rfl T.b6 rfl (d8 mB rfl) ?_ | refine a6 rfl T.b6 rfl (h9 mB rfl) ?_ | refine a6 rfl T.b6 rfl (d3 mB (b4 (by omega) rfl)) ?_ | refine a6 rfl T.b6 rfl (d1 mB (rows_get (by omega) rfl)) ?_ | refine a6 rfl T.b6 rfl (d7 mB rfl) ?_
    refine b3 ?_; exact j7 rfl
   apply n6 _ rfl rfl rfl
   ·intro w1
    first | refine a7 ⟨_, 2, none⟩ rfl rfl T.n4 rfl ?_ | refine a7 _ rfl rfl T.n4 rfl ?_
    refine b3 ?_; exact j7 rfl
   apply n6 _ rfl rfl rfl
   ·intro w1
    first | refine a6 rfl T.b2 rfl (d8 mB rfl) ?_ | refine a6 rfl T.b2 rfl (h9 mB rfl) ?_ | refine a6 rfl T.b2 rfl (d3 mB (b4 (by omega) rfl)) ?_ | refine a6 rfl T.b2 rfl (d1 mB (rows_get (by omega) rfl)) ?_ | refine a6 rfl T.b2 rfl (d7 mB rfl) ?_
    refine b3 ?_; exact j7 rfl
   refine l3 (fun w1 => w7 _ rfl rfl (fun _ => T.pJ ..) (q_z rfl)) (l3 (fun w1 => hq7 rfl ⟨_, Tryz.underlying104, rfl⟩ rfl (q_z rfl)) ?_); refine V0 ⟨Nat, fun _ => True, fun g => .slice (b8 g) 1 1, fun g => [Row (b8 g) (rows [Kd.ptr (hs.getD k default).2.2.1])]⟩ rfl rfl rfl ?_ ?_
   ·intro w1; refine j4 _ rfl rfl (fun _ => T.U5 ..) fun gS => ?_; refine b3 ?_; refine U3 (rows [Kd.ptr (hs.getD k default).2.2.1]) (List.prefix_refl _) ?_; exact H2 gS trivial rfl ⟨m0, trivial⟩
   refine iX ⟨OutC × Hp, fun x => Grow T.V9 1 x.1.1 (k + 1) x.1.2 (rows (kindsN hs k ++ [Kd.ptr (hs.getD k default).2.2.1])) x.2, fun x => .slice x.1.1 (k + 1) x.1.2, fun _ => [], fun x => x.2⟩ rfl rfl rfl ?_ ?_
   ·intro g9 _; intro w1; refine B6 (k + 1) (rows (kindsN hs k ++ [Kd.ptr (hs.getD k default).2.2.1])) T.aD rfl rfl rfl hG (hp' := []) (by rw [List.append_nil]) (Src.row (news := rows [Kd.ptr (hs.getD k default).2.2.1]) (m := 1) m0 rfl (A9 _) (by decide)) rfl (s9 _ _).symm (by unfold maxLen; omega) (by omega) fun A' c' og' hG' => ?_; refine b3 ?_; exact G4 ((A', c'), og') hG' (fun _ => rfl) (by rw [List.append_nil]; exact .refl _) trivial
   refine w5 ⟨rfl, ?_⟩; intro g9 _ x hx; obtain ⟨⟨xa, xc⟩, xo⟩ := x; simp only at hx; refine l9 rfl rfl ?_
   first | refine a7 ⟨_, 3, none⟩ rfl rfl T.j9 rfl ?_ | refine a7 _ rfl rfl T.j9 rfl ?_
   refine z9 rfl rfl (pmC _ _) T.Z8 (by rfl) (by rfl) ?_; refine b3 (n9 (n9 (g6 (b9 ?_)))); refine q9 _ rfl rfl rfl rfl n5 ?_; refine a8 rfl (b3 ?_); exact again _ (k + 1, (xa, xc), xo) ⟨by show k + 1 ≤ hs.length; omega, by show Grow _ _ _ _ _ (rows (kindsN hs (k + 1))) _; rw [pD hk2, kindOf, if_pos hb5]; exact hx⟩ (r6 (by omega)) mC (List.Sublist.refl _) mC
  have hb5' := hb5; try simp at hb5'
  refine i4 ?_
  first | refine a7 ⟨_, 1, none⟩ rfl rfl T.p9 rfl ?_ | refine a7 _ rfl rfl T.p9 rfl ?_
  first | refine a6 rfl T.b2 rfl (h9 mB rfl) ?_ | refine a6 rfl T.b2 rfl (d8 mB rfl) ?_ | refine a6 rfl T.b2 rfl (d3 mB (b4 (by omega) rfl)) ?_ | refine a6 rfl T.b2 rfl (d1 mB (rows_get (by omega) rfl)) ?_ | refine a6 rfl T.b2 rfl (d7 mB rfl) ?_
  refine t3 rfl rfl rfl (b7 rfl (d9 ?_))
  first | refine k8 rfl (fun hb6 => ?_) (fun hb6 => ?_) | refine i5 rfl (fun hb6 => ?_) (fun hb6 => ?_)
  ·have hb6' := hb6; try simp at hb6'
   refine G1 (og2) ([_]) (List.perm_append_comm (l₁ := [_])) 13 [12] mixed (by decide) (by decide) (by decide) rfl rfl rfl (l3 (fun w1 => a8 rfl (q_z rfl)) (l3 (fun w1 => a8 rfl (q_z rfl)) (l3 (fun w1 => l9 rfl rfl (q_z rfl)) ?_)))
   apply n6 _ rfl rfl rfl
   ·intro w1
    first | refine a7 ⟨_, 3, none⟩ rfl rfl T.j9 rfl ?_ | refine a7 _ rfl rfl T.j9 rfl ?_
    refine b3 ?_; exact j7 rfl
   apply n6 _ rfl rfl rfl
   ·intro w1
    first | refine a6 rfl T.b6 rfl (d8 mB rfl) ?_ | refine a6 rfl T.b6 rfl (h9 mB rfl) ?_ | refine a6 rfl T.b6 rfl (d3 mB (b4 (by omega) rfl)) ?_ | refine a6 rfl T.b6 rfl (d1 mB (rows_get (by omega) rfl)) ?_ | refine a6 rfl T.b6 rfl (d7 mB rfl) ?_
    refine b3 ?_; exact j7 rfl
   apply n6 _ rfl rfl rfl
   ·intro w1
    first | refine a7 ⟨_, 1, none⟩ rfl rfl T.p9 rfl ?_ | refine a7 _ rfl rfl T.p9 rfl ?_
    refine b3 ?_; exact j7 rfl
   apply n6 _ rfl rfl rfl
   ·intro w1
    first | refine a6 rfl T.b2 rfl (d8 mB rfl) ?_ | refine a6 rfl T.b2 rfl (h9 mB rfl) ?_ | refine a6 rfl T.b2 rfl (d3 mB (b4 (by omega) rfl)) ?_ | refine a6 rfl T.b2 rfl (d1 mB (rows_get (by omega) rfl)) ?_ | refine a6 rfl T.b2 rfl (d7 mB rfl) ?_
    refine b3 ?_; exact j7 rfl
   apply n6 _ rfl rfl rfl
   ·intro w1
    first | refine a7 ⟨_, 3, none⟩ rfl rfl T.r0 rfl ?_ | refine a7 _ rfl rfl T.r0 rfl ?_
    refine b3 ?_; exact j7 rfl
   apply n6 _ rfl rfl rfl
   ·intro w1
    first | refine a6 rfl T.k6 rfl (d8 mB rfl) ?_ | refine a6 rfl T.k6 rfl (h9 mB rfl) ?_ | refine a6 rfl T.k6 rfl (d3 mB (b4 (by omega) rfl)) ?_ | refine a6 rfl T.k6 rfl (d1 mB (rows_get (by omega) rfl)) ?_ | refine a6 rfl T.k6 rfl (d7 mB rfl) ?_
    refine b3 ?_; exact j7 rfl
   refine l3 (fun w1 => w7 _ rfl rfl (fun _ => T.lF ..) (q_z rfl)) (l3 (fun w1 => hq7 rfl ⟨_, Tryz.underlying79, rfl⟩ rfl (q_z rfl)) ?_); refine V0 ⟨Nat, fun _ => True, fun g => .slice (b8 g) 1 1, fun g => [Row (b8 g) (rows [Kd.art (hs.getD k default).2.1 (hs.getD k default).2.2.2])]⟩ rfl rfl rfl ?_ ?_
   ·intro w1; refine j4 _ rfl rfl (fun _ => T.U5 ..) fun gS => ?_; refine b3 ?_; refine U3 (rows [Kd.art (hs.getD k default).2.1 (hs.getD k default).2.2.2]) (List.prefix_refl _) ?_; exact H2 gS trivial rfl ⟨m0, trivial⟩
   refine iX ⟨OutC × Hp, fun x => Grow T.V9 1 x.1.1 (k + 1) x.1.2 (rows (kindsN hs k ++ [Kd.art (hs.getD k default).2.1 (hs.getD k default).2.2.2])) x.2, fun x => .slice x.1.1 (k + 1) x.1.2, fun _ => [], fun x => x.2⟩ rfl rfl rfl ?_ ?_
   ·intro g9 _; intro w1; refine B6 (k + 1) (rows (kindsN hs k ++ [Kd.art (hs.getD k default).2.1 (hs.getD k default).2.2.2])) T.aD rfl rfl rfl hG (hp' := []) (by rw [List.append_nil]) (Src.row (news := rows [Kd.art (hs.getD k default).2.1 (hs.getD k default).2.2.2]) (m := 1) m0 rfl (A9 _) (by decide)) rfl (s9 _ _).symm (by unfold maxLen; omega) (by omega) fun A' c' og' hG' => ?_; refine b3 ?_; exact G4 ((A', c'), og') hG' (fun _ => rfl) (by rw [List.append_nil]; exact .refl _) trivial
   refine w5 ⟨rfl, ?_⟩; intro g9 _ x hx; obtain ⟨⟨xa, xc⟩, xo⟩ := x; simp only at hx; refine l9 rfl rfl ?_
   first | refine a7 ⟨_, 3, none⟩ rfl rfl T.j9 rfl ?_ | refine a7 _ rfl rfl T.j9 rfl ?_
   refine z9 rfl rfl (pmC _ _) T.Z8 (by rfl) (by rfl) ?_; refine b3 (n9 (n9 (g6 (b9 ?_)))); refine q9 _ rfl rfl rfl rfl n5 ?_; refine a8 rfl (b3 ?_); exact again _ (k + 1, (xa, xc), xo) ⟨by show k + 1 ≤ hs.length; omega, by show Grow _ _ _ _ _ (rows (kindsN hs (k + 1))) _; rw [pD hk2, kindOf, if_neg hb5, if_pos hb6]; exact hx⟩ (r6 (by omega)) mC (List.Sublist.refl _) mC
  have hb6' := hb6; try simp at hb6'
  refine G1 (og2) ([_]) (List.perm_append_comm (l₁ := [_])) 11 [10] mixed (by decide) (by decide) (by decide) rfl rfl rfl (l3 (fun w1 => a8 rfl (q_z rfl)) (l3 (fun w1 => a8 rfl (q_z rfl)) (l3 (fun w1 => l9 rfl rfl (q_z rfl)) ?_)))
  apply n6 _ rfl rfl rfl
  ·intro w1
   first | refine a7 ⟨_, 3, none⟩ rfl rfl T.j9 rfl ?_ | refine a7 _ rfl rfl T.j9 rfl ?_
   refine b3 ?_; exact j7 rfl
  apply n6 _ rfl rfl rfl
  ·intro w1
   first | refine a6 rfl T.b6 rfl (d8 mB rfl) ?_ | refine a6 rfl T.b6 rfl (h9 mB rfl) ?_ | refine a6 rfl T.b6 rfl (d3 mB (b4 (by omega) rfl)) ?_ | refine a6 rfl T.b6 rfl (d1 mB (rows_get (by omega) rfl)) ?_ | refine a6 rfl T.b6 rfl (d7 mB rfl) ?_
   refine b3 ?_; exact j7 rfl
  apply n6 _ rfl rfl rfl
  ·intro w1
   first | refine a7 ⟨_, 3, none⟩ rfl rfl T.r0 rfl ?_ | refine a7 _ rfl rfl T.r0 rfl ?_
   refine b3 ?_; exact j7 rfl
  apply n6 _ rfl rfl rfl
  ·intro w1
   first | refine a6 rfl T.k6 rfl (d8 mB rfl) ?_ | refine a6 rfl T.k6 rfl (h9 mB rfl) ?_ | refine a6 rfl T.k6 rfl (d3 mB (b4 (by omega) rfl)) ?_ | refine a6 rfl T.k6 rfl (d1 mB (rows_get (by omega) rfl)) ?_ | refine a6 rfl T.k6 rfl (d7 mB rfl) ?_
   refine b3 ?_; exact j7 rfl
  refine l3 (fun w1 => w7 _ rfl rfl (fun _ => T.sK ..) (q_z rfl)) (l3 (fun w1 => hq7 rfl ⟨_, Tryz.underlying106, rfl⟩ rfl (q_z rfl)) ?_); refine V0 ⟨Nat, fun _ => True, fun g => .slice (b8 g) 1 1, fun g => [Row (b8 g) (rows [Kd.idx (hs.getD k default).2.2.2])]⟩ rfl rfl rfl ?_ ?_
  ·intro w1; refine j4 _ rfl rfl (fun _ => T.U5 ..) fun gS => ?_; refine b3 ?_; refine U3 (rows [Kd.idx (hs.getD k default).2.2.2]) (List.prefix_refl _) ?_; exact H2 gS trivial rfl ⟨m0, trivial⟩
  refine iX ⟨OutC × Hp, fun x => Grow T.V9 1 x.1.1 (k + 1) x.1.2 (rows (kindsN hs k ++ [Kd.idx (hs.getD k default).2.2.2])) x.2, fun x => .slice x.1.1 (k + 1) x.1.2, fun _ => [], fun x => x.2⟩ rfl rfl rfl ?_ ?_
  ·intro g9 _; intro w1; refine B6 (k + 1) (rows (kindsN hs k ++ [Kd.idx (hs.getD k default).2.2.2])) T.aD rfl rfl rfl hG (hp' := []) (by rw [List.append_nil]) (Src.row (news := rows [Kd.idx (hs.getD k default).2.2.2]) (m := 1) m0 rfl (A9 _) (by decide)) rfl (s9 _ _).symm (by unfold maxLen; omega) (by omega) fun A' c' og' hG' => ?_; refine b3 ?_; exact G4 ((A', c'), og') hG' (fun _ => rfl) (by rw [List.append_nil]; exact .refl _) trivial
  refine w5 ⟨rfl, ?_⟩; intro g9 _ x hx; obtain ⟨⟨xa, xc⟩, xo⟩ := x; simp only at hx; refine l9 rfl rfl ?_
  first | refine a7 ⟨_, 3, none⟩ rfl rfl T.j9 rfl ?_ | refine a7 _ rfl rfl T.j9 rfl ?_
  refine z9 rfl rfl (pmC _ _) T.Z8 (by rfl) (by rfl) ?_; refine b3 (n9 (n9 (g6 (b9 ?_)))); refine q9 _ rfl rfl rfl rfl n5 ?_; refine a8 rfl (b3 ?_); exact again _ (k + 1, (xa, xc), xo) ⟨by show k + 1 ≤ hs.length; omega, by show Grow _ _ _ _ _ (rows (kindsN hs (k + 1))) _; rw [pD hk2, kindOf, if_neg hb5, if_neg hb6]; exact hx⟩ (r6 (by omega)) mC (List.Sublist.refl _) mC
 have hb4' := hb4; try simp at hb4'
 have hk2 : k = hs.length := by omega
 subst hk2; refine n2 (t4 (n1 (g6 (i4 (a8 rfl (b7 rfl (b7 rfl (d9 ?_)))))))); refine k5 ?_; have h0 := Classical.not_not.1 hb1; refine U3 [.slice A cs.length ca, .slice B hs.length cb, .slice oa cs.length oc, .slice ka hs.length kc] (List.prefix_refl _) (Q4 hG ?_); exact ret2 (gB_1, (oa, oc), (ka, kc)) rfl rfl rfl (by show Value.tuple #[if checkT (trOf cs hs) = 0 then _ else _, int (checkT (trOf cs hs))] = _; rw [if_pos h0, h0]) rfl trivial nil_sb (by show LSub _ (if checkT (trOf cs hs) = 0 then _ else []); rw [if_pos h0]; exact mC)
theorem uZ {cs : List Cl} (h6 : cs.length ≤ 6) (hc : ∀ i, i < cs.length → ClsOK cs i) {i : Nat} (h : i < cs.length) : (masksN cs cs.length).getD i default < 256 := by
  rw [gP h]; exact lO h6 hc (by omega)
theorem lM {cs : List Cl} (h6 : cs.length ≤ 6) (hc : ∀ i, i < cs.length → ClsOK cs i) {a : Int} (h0 : 0 ≤ a) (h : a < (cs.length : Int)) (j : Nat) : ((masksN cs cs.length).getD a.toNat default).testBit j = decide ((j : Int) ∈ pathT cs a) := by
  rw [gP (by omega), Int.toNat_of_nonneg h0, lN fun x hx => (iK h6 hc h x hx).1]
def leastE (t : Tr) (a b : Int) : Int × Int := if ¬ checkT t = 0 then (0, checkT t) else if ¬ ((0 ≤ a ∧ a ≤ (t.cs.length : Int) - 1) ∧ (0 ≤ b ∧ b ≤ (t.cs.length : Int) - 1)) then (0, 3) else (leastT t a b, 0)
theorem aq6 (p q : List Int) (k : Nat) : leastN p q (k + 1) = if (k : Int) ∈ p ∧ (k : Int) ∈ q then (k : Int) else leastN p q k := rfl
set_option maxHeartbeats 1000000 in
theorem S2 {A B : Option Addr} {ca cb : Nat} (cs : List Cl) (hs : List Hd) (a b : Int) (hca : cs.length ≤ ca) (hcb : hs.length ≤ cb) (ha : ∀ h ∈ hs, h.2.2.2.l.length ≤ 1000000) : Meets Tryz.prog F.Q2 [.agg #[.slice A cs.length ca, .slice B hs.length cb], int a, int b] { LI := [Row A (rows cs), RowsF B hs Hd.row], val := fun _ : Unit => .tuple #[int (leastE (trOf cs hs) a b).1, int (leastE (trOf cs hs) a b).2] } := by
 refine i7 F.wJ rfl p7 fun w0 => ?_; refine i4 ?_; refine E5 rfl rfl fun gB => ?_; refine b7 rfl (b7 rfl (d9 ?_)); refine B8 ⟨fun _ : Nat × OutC × OutC => True, fun x => [(1, int a), (2, int b), (3, .pointer (b8 gB)), (8, if checkT (trOf cs hs) = 0 then .pointer (some ⟨x.1, 0, none⟩) else .pointer none), (9, int (checkT (trOf cs hs)))], fun _ => [(gB, .cells #[.slice A cs.length ca, .slice B hs.length cb] T.i2 (0, 0))], fun x => (if checkT (trOf cs hs) = 0 then beginL cs hs A ca B cb x else []) ++ [Row A (rows cs), RowsF B hs Hd.row]⟩ ?_ ?_
 ·skip
  refine b9 ?_
  first | refine u6 rfl T.d6 T.d4 rfl mB (by rfl) ?_ | refine t9 rfl T.d6 T.d4 rfl mB (by rfl) ?_ | refine q6 rfl T.d6 T.d4 rfl rfl (m7 mB (n7 (by omega))) ?_
  refine d5 F.C6 rfl rfl (A7 cs hs hca hcb ha) j5 mC fun x _ => ?_; refine a8 rfl (i6 rfl rfl rfl (i6 rfl rfl rfl (b7 rfl (b7 rfl (b3 ?_))))); exact w4 _ x trivial mC (List.Sublist.refl _) (LSub.of_mem fun F h => h)
 refine fun x _ => ?_
 dsimp only
 refine i1 (i9 (i4 (a8 rfl (t3 rfl rfl rfl (b7 rfl (d9 ?_))))))
 first | refine k8 rfl (fun hb1 => ?_) (fun hb1 => ?_) | refine i5 rfl (fun hb1 => ?_) (fun hb1 => ?_)
 ·have hb1' := hb1; try simp at hb1'
  refine i4 (a8 rfl (b7 rfl (b7 rfl (d9 (k5 (B7 ?_)))))); exact ret2 () rfl rfl rfl (by show Value.tuple #[int (leastE _ _ _).1, int (leastE _ _ _).2] = _; rw [leastE, if_pos hb1]) rfl trivial nil_sb trivial
 have hb1' := hb1; try simp at hb1'
 have h0 := Classical.not_not.1 hb1; rw [if_pos h0, if_pos h0]; have hok := Y3 h0; have h6 : cs.length ≤ 6 := hok.c6; have h6h := hok.h6; rw [t0] at h6h; have hcl : ∀ i, i < cs.length → ClsOK cs i := hok.c; obtain ⟨gl, ⟨oa, oc⟩, ⟨ka, kc⟩⟩ := x; show HC _ _ _ _ _ [Row (b8 gl) [.slice A cs.length ca, .slice B hs.length cb, .slice oa cs.length oc, .slice ka hs.length kc], Row oa (rows (masksN cs cs.length)), Row ka (rows (kindsN hs hs.length)), Row A (rows cs), RowsF B hs Hd.row]; refine B8 ⟨fun _ : Unit => True, fun _ => [(1, int a), (2, int b), (3, .pointer (b8 gB)), (8, .pointer (b8 gl)), (20, .bool (decide (¬ ((0 ≤ a ∧ a ≤ (cs.length : Int) - 1) ∧ (0 ≤ b ∧ b ≤ (cs.length : Int) - 1)))))], fun _ => [(gB, .cells #[.slice A cs.length ca, .slice B hs.length cb] T.i2 (0, 0))], fun _ => [Row (b8 gl) [.slice A cs.length ca, .slice B hs.length cb, .slice oa cs.length oc, .slice ka hs.length kc], Row oa (rows (masksN cs cs.length)), Row ka (rows (kindsN hs hs.length)), Row A (rows cs), RowsF B hs Hd.row]⟩ ?_ ?_
 ·skip
  refine i4 (a8 rfl ?_)
  first | refine a7 ⟨_, 0, none⟩ rfl rfl T.k0 rfl ?_ | refine a7 _ rfl rfl T.k0 rfl ?_
  first | refine a6 rfl T.b5 rfl (h9 mB rfl) ?_ | refine a6 rfl T.b5 rfl (d8 mB rfl) ?_ | refine a6 rfl T.b5 rfl (d3 mB (b4 (by omega) rfl)) ?_ | refine a6 rfl T.b5 rfl (d1 mB (rows_get (by omega) rfl)) ?_ | refine a6 rfl T.b5 rfl (d7 mB rfl) ?_
  refine k4 rfl T.p8 rfl (J8 _ rfl rfl rfl rfl n5 ?_); refine d5 F.v4 rfl rfl (s7 _ _ _) j5 trivial fun _ _ => ?_; refine B3 rfl rfl (b7 rfl (d9 ?_))
  first | refine k8 rfl (fun hb2 => ?_) (fun hb2 => ?_) | refine i5 rfl (fun hb2 => ?_) (fun hb2 => ?_)
  ·have hb2' := hb2; try simp at hb2'
   refine j3 ?_; exact w4 _ () trivial ⟨rfl, rfl, rfl, rfl, congrArg (fun b => some (Value.bool b)) (by rw [hb2]; symm; rw [decide_eq_true_eq]; exact fun e => nbw hb2 e.1), trivial⟩ (List.Sublist.refl _) mC
  have hb2' := hb2; try simp at hb2'
  refine b9 (a8 rfl ?_)
  first | refine a7 ⟨_, 0, none⟩ rfl rfl T.k0 rfl ?_ | refine a7 _ rfl rfl T.k0 rfl ?_
  first | refine a6 rfl T.b5 rfl (h9 mB rfl) ?_ | refine a6 rfl T.b5 rfl (d8 mB rfl) ?_ | refine a6 rfl T.b5 rfl (d3 mB (b4 (by omega) rfl)) ?_ | refine a6 rfl T.b5 rfl (d1 mB (rows_get (by omega) rfl)) ?_ | refine a6 rfl T.b5 rfl (d7 mB rfl) ?_
  refine k4 rfl T.p8 rfl (J8 _ rfl rfl rfl rfl n5 ?_); refine d5 F.v4 rfl rfl (s7 _ _ _) j5 trivial fun _ _ => ?_; refine B3 rfl rfl (b7 rfl (b3 ?_)); exact w4 _ () trivial ⟨rfl, rfl, rfl, rfl, congrArg (fun b => some (Value.bool b)) (by have := bw hb2; rw [Bool.eq_iff_iff]; simp only [Bool.not_eq_true', decide_eq_false_iff_not, decide_eq_true_eq]; exact ⟨fun e f => e f.2, fun e f => e ⟨this, f⟩⟩), trivial⟩ (List.Sublist.refl _) mC
 refine fun _ _ => ?_
 first | refine k8 rfl (fun hb3 => ?_) (fun hb3 => ?_) | refine i5 rfl (fun hb3 => ?_) (fun hb3 => ?_)
 ·have hb3' := hb3; try simp at hb3'
  refine i4 (b7 rfl (b7 rfl (d9 (k5 (B7 ?_))))); exact ret2 () rfl rfl rfl (by show Value.tuple #[int (leastE _ _ _).1, int (leastE _ _ _).2] = _; rw [leastE, if_neg hb1, if_pos hb3]) rfl trivial nil_sb trivial
 have hb3' := hb3; try simp at hb3'
 have hr := Classical.not_not.1 hb3; have hE : leastE (trOf cs hs) a b = (leastN (pathT cs a) (pathT cs b) cs.length, 0) := by rw [leastE, if_neg hb1, if_neg hb3]; rfl
 refine j3 (n9 (g6 (i1 (i4 ?_))))
 first | refine a7 ⟨_, 0, none⟩ rfl rfl T.k0 rfl ?_ | refine a7 _ rfl rfl T.k0 rfl ?_
 first | refine a6 rfl T.b5 rfl (h9 mB rfl) ?_ | refine a6 rfl T.b5 rfl (d8 mB rfl) ?_ | refine a6 rfl T.b5 rfl (d3 mB (b4 (by omega) rfl)) ?_ | refine a6 rfl T.b5 rfl (d1 mB (rows_get (by omega) rfl)) ?_ | refine a6 rfl T.b5 rfl (d7 mB rfl) ?_
 refine k4 rfl T.p8 rfl (J8 _ rfl rfl rfl rfl n5 ?_); refine b7 rfl (d9 (i9 ?_)); refine p6 (β := Nat) ⟨fun k => k ≤ cs.length ∧ leastN (pathT cs a) (pathT cs b) cs.length = leastN (pathT cs a) (pathT cs b) k, fun k => [(1, int a), (2, int b), (8, .pointer (b8 gl)), (10, int ((k : Int) - 1))], fun _ => [], fun _ => [Row (b8 gl) [.slice A cs.length ca, .slice B hs.length cb, .slice oa cs.length oc, .slice ka hs.length kc], Row oa (rows (masksN cs cs.length)), Row ka (rows (kindsN hs hs.length)), Row A (rows cs), RowsF B hs Hd.row]⟩ (fun k => k) cs.length ⟨Nat.le_refl _, rfl⟩ mC nil_sb mC fun k hk => ?_; obtain ⟨hk, ht⟩ := hk; refine i1 (i4 (a8 rfl (bM rfl rfl rfl (d9 ?_))))
 first | refine k8 rfl (fun hb4 => ?_) (fun hb4 => ?_) | refine i5 rfl (fun hb4 => ?_) (fun hb4 => ?_)
 ·have hb4' := hb4; try simp at hb4'
  obtain ⟨j, rfl⟩ : ∃ j, k = j + 1 := ⟨k - 1, by omega⟩; rw [aq6] at ht; have hj1 : (((j + 1 : Nat) : Int) - 1) = (j : Int) := by omega
  refine j3 (g6 (i1 (i9 (i1 ?_)))); refine C8 16 mixed (by decide) (by decide) rfl rfl (l3 (fun w1 => a8 rfl (q_z rfl)) (l3 (fun w1 => l9 rfl rfl (q_z rfl)) ?_))
  apply n6 _ rfl rfl rfl
  ·intro w1
   first | refine a7 ⟨_, 2, none⟩ rfl rfl T.u7 rfl ?_ | refine a7 _ rfl rfl T.u7 rfl ?_
   refine b3 ?_; exact j7 rfl
  apply n6 _ rfl rfl rfl
  ·intro w1
   first | refine a6 rfl T.k7 rfl (d8 mB rfl) ?_ | refine a6 rfl T.k7 rfl (h9 mB rfl) ?_ | refine a6 rfl T.k7 rfl (d3 mB (b4 (by omega) rfl)) ?_ | refine a6 rfl T.k7 rfl (d1 mB (rows_get (by omega) rfl)) ?_ | refine a6 rfl T.k7 rfl (d7 mB rfl) ?_
   refine b3 ?_; exact j7 rfl
  refine l3 (fun w1 => a8 rfl (q_z rfl)) ?_; refine l3 (fun w1 => r9 (α := Nat) (masksN cs cs.length) a.toNat rfl T.H8 T.J2 rfl rfl (Int.toNat_of_nonneg hr.1.1).symm mB (E6 _ _).symm (by rw [E6]; omega) (by decide) (q_z rfl)) ?_; refine l3 (fun w1 => a6 (v := u8 ((masksN cs cs.length).getD a.toNat default)) rfl T.G9 rfl (d3 mB (b4 (by rw [E6]; omega) rfl)) (q_z rfl)) ?_; refine l3 (fun w1 => a8 rfl (q_z rfl)) (l3 (fun w1 => l9 rfl rfl (q_z rfl)) ?_)
  apply n6 _ rfl rfl rfl
  ·intro w1
   first | refine a7 ⟨_, 2, none⟩ rfl rfl T.u7 rfl ?_ | refine a7 _ rfl rfl T.u7 rfl ?_
   refine b3 ?_; exact j7 rfl
  apply n6 _ rfl rfl rfl
  ·intro w1
   first | refine a6 rfl T.k7 rfl (d8 mB rfl) ?_ | refine a6 rfl T.k7 rfl (h9 mB rfl) ?_ | refine a6 rfl T.k7 rfl (d3 mB (b4 (by omega) rfl)) ?_ | refine a6 rfl T.k7 rfl (d1 mB (rows_get (by omega) rfl)) ?_ | refine a6 rfl T.k7 rfl (d7 mB rfl) ?_
   refine b3 ?_; exact j7 rfl
  refine l3 (fun w1 => a8 rfl (q_z rfl)) ?_; refine l3 (fun w1 => r9 (α := Nat) (masksN cs cs.length) b.toNat rfl T.H8 T.J2 rfl rfl (Int.toNat_of_nonneg hr.2.1).symm mB (E6 _ _).symm (by rw [E6]; omega) (by decide) (q_z rfl)) ?_; refine l3 (fun w1 => a6 (v := u8 ((masksN cs cs.length).getD b.toNat default)) rfl T.G9 rfl (d3 mB (b4 (by rw [E6]; omega) rfl)) (q_z rfl)) ?_; refine l3 (fun w1 => bq6 (a := ((masksN cs cs.length).getD a.toNat default)) (b := ((masksN cs cs.length).getD b.toNat default)) rfl rfl rfl (uZ (i := a.toNat) h6 hcl (by omega)) (uZ (i := b.toNat) h6 hcl (by omega)) (q_z rfl)) ?_; refine l3 (fun w1 => yR (v := int j) rfl (congrArg (fun z => some (int z)) hj1) (q_z rfl)) ?_; refine w5 ⟨rfl, ?_⟩; refine d5 F.L7 rfl rfl (J1 ((masksN cs cs.length).getD a.toNat default &&& (masksN cs cs.length).getD b.toNat default) j (Nat.lt_of_le_of_lt Nat.and_le_left (uZ (i := a.toNat) h6 hcl (by omega))) (by omega)) j5 trivial fun _ _ => ?_; refine d9 ?_
  first | refine k8 rfl (fun hb5 => ?_) (fun hb5 => ?_) | refine i5 rfl (fun hb5 => ?_) (fun hb5 => ?_)
  ·have hb5' := hb5; try simp at hb5'
   rw [Nat.testBit_and, lM h6 hcl hr.1.1 (by omega), lM h6 hcl hr.2.1 (by omega), ← Bool.decide_and, decide_eq_true_eq] at hb5; rw [if_pos hb5] at ht; refine i4 (a8 rfl (b7 rfl (b7 rfl (d9 (k5 (B7 (z8 (aQ ?_)))))))); refine z8 ?_; exact ret2 () rfl rfl rfl (by rw [hE, ht, hj1]) rfl trivial nil_sb trivial
  have hb5' := hb5; try simp at hb5'
  rw [Nat.testBit_and, lM h6 hcl hr.1.1 (by omega), lM h6 hcl hr.2.1 (by omega), ← Bool.decide_and, decide_eq_false_iff_not] at hb5; rw [if_neg hb5] at ht; refine j3 (n9 (g6 (b9 (a8 rfl ?_)))); refine J8 ((j : Int) - 1) rfl rfl rfl (by omega) n5 ?_; refine b7 rfl (b3 ?_); exact again _ j ⟨by omega, ht⟩ (by show j < j + 1; omega) mC nil_sb mC
 have hb4' := hb4; try simp at hb4'
 have hk0 : k = 0 := by omega
 subst hk0; refine n2 (t4 (n1 (g6 (i4 (b7 rfl (b7 rfl (d9 (k5 ?_)))))))); exact ret2 () rfl rfl rfl (by rw [hE, ht]; rfl) rfl trivial nil_sb trivial
theorem zv_ptr (w : World) : (zeroValue T.I6).run Tryz.prog w = .ok (.agg #[int 0]) w := by kernel_rfl
theorem zv_art (w : World) : (zeroValue T.I7).run Tryz.prog w = .ok (.agg #[int 0, .slice none 0 0]) w := by kernel_rfl
def Kd.isP : Kd → Bool | .ptr _ => true | _ => false
def Kd.isA : Kd → Bool | .art _ _ => true | _ => false
def Kd.see : Kd → Int | .ptr s => s | _ => 0
def Kd.cls : Kd → Int | .art c _ => c | _ => 0
def Kd.als : Kd → Sl Int | .art _ a => a | _ => ⟨none, 0, []⟩
section
variable {c : Cx} {Q : Exit → Act → World → Prop} {fr : Fr} {hp : Hp} {L : List Fact} {ops : Array Oper} {rest : List Oper} {d : Tmp} {ty : TypeId} {pos : String} {af : Array Edge}
theorem cq5 {xt : TypeId} {x : Operand} {kd : Kd} (hd : Nat.blt d c.n = true) (hP : c.P = Tryz.prog) (hx : ev fr x = some kd.v) (k : HL c ops Q rest ((d, .tuple #[.agg #[int kd.see], .bool kd.isP]) :: fr) hp L) : HL c ops Q (⟨some d, .typeAssert x xt T.I6 true, ty, pos, af, none⟩ :: rest) fr hp L := by
  have ht : NoI c.P T.I6 := by rw [hP]; exact ⟨_, Tryz.underlying104, rfl⟩
  have hz : ∀ w, (zeroValue T.I6).run c.P w = .ok (.agg #[int 0]) w := by rw [hP]; exact zv_ptr
  cases kd with
  | ptr s => exact rT hd ht hx k
  | art a b => exact aV hd ht hx rfl hz k
  | idx b => exact aV hd ht hx rfl hz k
theorem r_asA {xt : TypeId} {x : Operand} {kd : Kd} (hd : Nat.blt d c.n = true) (hP : c.P = Tryz.prog) (hx : ev fr x = some kd.v) (k : HL c ops Q rest ((d, .tuple #[.agg #[int kd.cls, .slice kd.als.a kd.als.l.length kd.als.c], .bool kd.isA]) :: fr) hp L) : HL c ops Q (⟨some d, .typeAssert x xt T.I7 true, ty, pos, af, none⟩ :: rest) fr hp L := by
  have ht : NoI c.P T.I7 := by rw [hP]; exact ⟨_, Tryz.underlying79, rfl⟩
  have hz : ∀ w, (zeroValue T.I7).run c.P w = .ok (.agg #[int 0, .slice none 0 0]) w := by rw [hP]; exact zv_art
  cases kd with
  | art a b => exact rT hd ht hx k
  | ptr s => exact aV hd ht hx rfl hz k
  | idx b => exact aV hd ht hx rfl hz k
end
theorem U0 {hs : List Hd} {i : Nat} (h : i < hs.length) : (kindsN hs hs.length).getD i default = kindOf (hs.getD i default) := by
  rw [u9 (by rw [t6 (Nat.le_refl _)]; exact h), u9 h]
  simp [kindsN]
theorem iM (h : Hd) : (kindOf h).isP = decide (¬ h.2.2.1 = -1) := by
  unfold kindOf
  split
  · rename_i e; simp [Kd.isP, e]
  rename_i e; split <;> simp [Kd.isP, Classical.not_not.1 e]
theorem yQ {h : Hd} (e : ¬ h.2.2.1 = -1) : (kindOf h).see = h.2.2.1 := by unfold kindOf; rw [if_pos e]; rfl
theorem bx7 (h : Hd) : (kindOf h).isA = (decide (h.2.2.1 = -1) && decide (¬ h.2.1 = -1)) := by
  unfold kindOf
  split
  · rename_i e; simp [Kd.isA, e]
  rename_i e
  split
  · rename_i e2; simp [Kd.isA, Classical.not_not.1 e, e2]
  rename_i e2; simp [Kd.isA, Classical.not_not.1 e2]
theorem isTr_at (cs : List Cl) {hs : List Hd} {i : Int} (h0 : 0 ≤ i) (h : i < (hs.length : Int)) : (kindOf (hs.getD i.toNat default)).isA = isTrB (trOf cs hs) i := by
  rw [bx7, isTrB]; simp only [trOf, G8 (show i.toNat < hs.length by omega)]
  rfl
abbrev folR (o : Option (Int × Int)) : Value := .tuple #[int (o.getD (0, 0)).1, int (o.getD (0, 0)).2, .bool o.isSome]
def SeesOK (hs : List Hd) : Prop := ∀ i, i < hs.length → -1 ≤ (hs.getD i default).2.2.1 ∧ (hs.getD i default).2.2.1 < (hs.length : Int)
theorem qH {cs : List Cl} {hs : List Hd} (h : TrOK (trOf cs hs)) : SeesOK hs := fun i hi => by
  have h1 := (h.h i (by rw [t0]; exact hi)).s; simp only [trOf, G8 hi] at h1; have h2 := h1.2.1; rw [List.length_map] at h2; exact ⟨h1.1, h2⟩
theorem p_see (h : Hd) : h.p.2.2.1 = h.2.2.1 := rfl
theorem E0 {A B oa ka : Option Addr} {ca cb oc kc gl : Nat} (cs : List Cl) (hs : List Hd) (i : Int) (h0 : 0 ≤ i) (h : i < (hs.length : Int)) (hl : hs.length ≤ 6) : Meets Tryz.prog F.O9 [.pointer (b8 gl), int i] { LI := [Row (b8 gl) [.slice A cs.length ca, .slice B hs.length cb, .slice oa cs.length oc, .slice ka hs.length kc], Row ka (rows (kindsN hs hs.length))], val := fun _ : Unit => .bool (isTrB (trOf cs hs) i) } := by
 refine i7 F.jU rfl p7 fun w0 => ?_; refine i4 (b7 rfl (j8 (a8 rfl (l9 rfl rfl ?_))))
 first | refine a7 ⟨_, 3, none⟩ rfl rfl T.j9 rfl ?_ | refine a7 _ rfl rfl T.j9 rfl ?_
 first | refine a6 rfl T.b6 rfl (h9 mB rfl) ?_ | refine a6 rfl T.b6 rfl (d8 mB rfl) ?_ | refine a6 rfl T.b6 rfl (d3 mB (b4 (by omega) rfl)) ?_ | refine a6 rfl T.b6 rfl (d1 mB (rows_get (by omega) rfl)) ?_ | refine a6 rfl T.b6 rfl (d7 mB rfl) ?_
 refine a8 rfl ?_; refine r9 (α := Kd) (kindsN hs hs.length) i.toNat rfl T.r8 T.E1 rfl rfl (Int.toNat_of_nonneg h0).symm mB (t6 (Nat.le_refl _)).symm (by rw [t6 (Nat.le_refl _)]; omega) (by decide) ?_; refine a6 (v := Kd.v (kindOf (hs.getD i.toNat default))) rfl T.C1 rfl (d3 mB (b4 (by rw [t6 (Nat.le_refl _)]; omega) (by rw [U0 (by omega)]; rfl))) ?_; refine r_asA rfl rfl rfl (a8 rfl (i6 rfl rfl rfl (i6 rfl rfl rfl ?_))); refine r7 rfl (fun _ => T.gW _) fun gA => ?_; refine r4 rfl rfl (by first | exact .refl _ | exact perm2 _ _ _ | exact perm3 _ _ _ _ | exact perm4 _ _ _ _ _) T.dW (by rfl) (by rfl) ?_; refine b7 rfl (j8 (a8 rfl (b7 rfl (d9 (k5 ?_))))); exact ret1 () rfl (congrArg (fun b => some (Value.bool b)) (by exact isTr_at cs h0 h)) rfl trivial nil_sb trivial
theorem Q0 {A B oa ka : Option Addr} {ca cb oc kc gl : Nat} (cs : List Cl) (hs : List Hd) (h : Int) (h0 : 0 ≤ h) (hh : h < (hs.length : Int)) (hl : hs.length ≤ 6) (hS : SeesOK hs) : Meets Tryz.prog F.R7 [.pointer (b8 gl), int h] { LI := [Row (b8 gl) [.slice A cs.length ca, .slice B hs.length cb, .slice oa cs.length oc, .slice ka hs.length kc], Row ka (rows (kindsN hs hs.length))], val := fun _ : Unit => folR (followT (trOf cs hs) h) } := by
 refine i7 F.lV rfl p7 fun w0 => ?_; refine i4 (b7 rfl (b7 rfl (b7 rfl (d9 (i1 (i4 (a8 rfl (l9 rfl rfl ?_))))))))
 first | refine a7 ⟨_, 3, none⟩ rfl rfl T.j9 rfl ?_ | refine a7 _ rfl rfl T.j9 rfl ?_
 first | refine a6 rfl T.b6 rfl (h9 mB rfl) ?_ | refine a6 rfl T.b6 rfl (d8 mB rfl) ?_ | refine a6 rfl T.b6 rfl (d3 mB (b4 (by omega) rfl)) ?_ | refine a6 rfl T.b6 rfl (d1 mB (rows_get (by omega) rfl)) ?_ | refine a6 rfl T.b6 rfl (d7 mB rfl) ?_
 refine k4 rfl T.r8 rfl (q9 _ rfl rfl rfl rfl n5 ?_); refine a8 rfl (d9 (i9 ?_)); refine p6 (β := Nat × Int) ⟨fun x => x.1 ≤ hs.length + 1 ∧ 0 ≤ x.2 ∧ x.2 < (hs.length : Int) ∧ followT (trOf cs hs) h = followN (hs.map Hd.p) (hs.length + 1 - x.1) x.2 (x.1 : Int), fun x => [(0, .pointer (b8 gl)), (1, int x.2), (15, int ((hs.length : Int) + 1)), (16, int x.1)], fun _ => [], fun _ => [Row (b8 gl) [.slice A cs.length ca, .slice B hs.length cb, .slice oa cs.length oc, .slice ka hs.length kc], Row ka (rows (kindsN hs hs.length))]⟩ (fun x => hs.length + 1 - x.1) (0, h) ⟨Nat.zero_le _, h0, hh, by rw [followT, t0]; rfl⟩ mC (List.Sublist.refl _) mC fun x hx => ?_; obtain ⟨k, y⟩ := x; obtain ⟨hk, h0, hy, ht⟩ := hx; simp only at hk h0 hy ht; refine i4 (t7 rfl rfl rfl (d9 (i1 ?_)))
 first | refine k8 rfl (fun hb1 => ?_) (fun hb1 => ?_) | refine i5 rfl (fun hb1 => ?_) (fun hb1 => ?_)
 ·have hb1' := hb1; try simp at hb1'
  have hk2 : k < hs.length + 1 := by omega
  rw [show hs.length + 1 - k = (hs.length - k) + 1 by omega, followN, G8 (show y.toNat < hs.length by omega), p_see] at ht; have hsy := hS y.toNat (by omega); refine j3 (g6 (i1 (i9 (i4 (a8 rfl (b7 rfl (j8 ?_))))))); refine a8 rfl (l9 rfl rfl ?_)
  first | refine a7 ⟨_, 3, none⟩ rfl rfl T.j9 rfl ?_ | refine a7 _ rfl rfl T.j9 rfl ?_
  first | refine a6 rfl T.b6 rfl (h9 mB rfl) ?_ | refine a6 rfl T.b6 rfl (d8 mB rfl) ?_ | refine a6 rfl T.b6 rfl (d3 mB (b4 (by omega) rfl)) ?_ | refine a6 rfl T.b6 rfl (d1 mB (rows_get (by omega) rfl)) ?_ | refine a6 rfl T.b6 rfl (d7 mB rfl) ?_
  refine a8 rfl ?_; refine r9 (α := Kd) (kindsN hs hs.length) y.toNat rfl T.r8 T.E1 rfl rfl (Int.toNat_of_nonneg h0).symm mB (t6 (Nat.le_refl _)).symm (by rw [t6 (Nat.le_refl _)]; omega) (by decide) ?_; refine a6 (v := Kd.v (kindOf (hs.getD y.toNat default))) rfl T.C1 rfl (d3 mB (b4 (by rw [t6 (Nat.le_refl _)]; omega) (by rw [U0 (by omega)]; rfl))) ?_; refine d9 (i9 (i4 (cq5 rfl rfl rfl (i6 rfl rfl rfl (i6 rfl rfl rfl (d9 ?_))))))
  first | refine k8 rfl (fun hb2 => ?_) (fun hb2 => ?_) | refine i5 rfl (fun hb2 => ?_) (fun hb2 => ?_)
  ·have hb2' := hb2; try simp at hb2'
   rw [iM, decide_eq_true_eq] at hb2; rw [yQ hb2]; rw [if_neg (by exact hb2)] at ht; refine i4 ?_; refine r7 rfl (fun _ => T.N4 _) fun gA => ?_; refine r4 rfl rfl (by first | exact .refl _ | exact perm2 _ _ _ | exact perm3 _ _ _ _ | exact perm4 _ _ _ _ _) T.M8 (by rfl) (by rfl) ?_; refine d9 (b9 ?_)
   first | refine a7 ⟨_, 0, none⟩ rfl rfl T.B0 rfl ?_ | refine a7 _ rfl rfl T.B0 rfl ?_
   first | refine a6 rfl T.b2 rfl (h9 mB rfl) ?_ | refine a6 rfl T.b2 rfl (d8 mB rfl) ?_ | refine a6 rfl T.b2 rfl (d3 mB (b4 (by omega) rfl)) ?_ | refine a6 rfl T.b2 rfl (d1 mB (rows_get (by omega) rfl)) ?_ | refine a6 rfl T.b2 rfl (d7 mB rfl) ?_
   refine b7 rfl (b3 (n9 (n9 (g6 (b9 ?_))))); refine q9 _ rfl rfl rfl rfl n5 ?_; refine a8 rfl (b3 ?_); exact again _ (k + 1, (hs.getD y.toNat default).2.2.1) ⟨by show k + 1 ≤ hs.length + 1; omega, by show 0 ≤ (hs.getD y.toNat default).2.2.1; omega, hsy.2, by show _ = followN _ (hs.length + 1 - (k + 1)) _ _; rw [ht, Nat.add_sub_add_right]; rfl⟩ (r6 (by omega)) mC nil_sb mC
  have hb2' := hb2; try simp at hb2'
  rw [iM, decide_eq_false_iff_not] at hb2; rw [if_pos (Classical.not_not.1 hb2)] at ht; refine i4 (b7 rfl (j8 (a8 rfl (a8 rfl (b7 rfl (b7 rfl (b7 rfl ?_))))))); refine d9 (k5 (aQ (B7 (z8 (B7 ?_))))); exact ret3 () rfl rfl rfl rfl (by show folR (followT (trOf cs hs) h) = _; rw [ht]; rfl) rfl trivial nil_sb trivial
 have hb1' := hb1; try simp at hb1'
 have hk2 : k = hs.length + 1 := by omega
 rw [hk2, Nat.sub_self, followN] at ht; refine n2 (t4 (n1 (g6 (i4 (b7 rfl (b7 rfl (b7 rfl (d9 ?_)))))))); refine k5 ?_; exact ret3 () rfl rfl rfl rfl (by show folR (followT (trOf cs hs) h) = _; rw [ht]; rfl) rfl trivial nil_sb trivial
def askE (t : Tr) (l : List Int) : Int := if ¬ checkT t = 0 then checkT t else if l.all (fun x => decide (0 ≤ x ∧ x ≤ (t.hs.length : Int) - 1)) then 0 else 3
theorem ask_bad {t : Tr} {l : List Int} {k : Nat} (h0 : checkT t = 0) (hk : k < l.length) (h : ¬ (0 ≤ l.getD k default ∧ l.getD k default ≤ (t.hs.length : Int) - 1)) : askE t l = 3 := by
  rw [askE, if_neg (not_not_intro h0), if_neg]; intro e; exact h (of_decide_eq_true (List.all_eq_true.1 e _ (s6 hk)))
theorem ask_ok {t : Tr} {l : List Int} (h0 : checkT t = 0) (h : ∀ i, i < l.length → 0 ≤ l.getD i default ∧ l.getD i default ≤ (t.hs.length : Int) - 1) : askE t l = 0 := by
  rw [askE, if_neg (not_not_intro h0), if_pos]; rw [List.all_eq_true]; intro x hx; obtain ⟨i, hi, rfl⟩ := List.getElem_of_mem hx; rw [decide_eq_true_eq, ← u9 hi]; exact h i hi
theorem Q6 {t : Tr} {l : List Int} (h : askE t l = 0) : checkT t = 0 := by
  unfold askE at h
  split at h
  · exact h
  rename_i h1; exact Classical.not_not.1 h1
theorem pK {t : Tr} {l : List Int} (h : askE t l = 0) {x : Int} (hx : x ∈ l) : 0 ≤ x ∧ x ≤ (t.hs.length : Int) - 1 := by
  have h0 := Q6 h; rw [askE, if_neg (not_not_intro h0)] at h
  split at h
  · rename_i h1; exact of_decide_eq_true (List.all_eq_true.1 h1 x hx)
  omega
set_option maxHeartbeats 1000000 in
theorem E7 {C : Option Addr} {cc : Nat} {A B : Option Addr} {ca cb : Nat} (cs : List Cl) (hs : List Hd) (l : List Int) (hca : cs.length ≤ ca) (hcb : hs.length ≤ cb) (ha : ∀ h ∈ hs, h.2.2.2.l.length ≤ 1000000) (hl : l.length ≤ 1000000) : Meets Tryz.prog F.rO [.agg #[.slice A cs.length ca, .slice B hs.length cb], .slice C l.length cc] { LI := [Row A (rows cs), RowsF B hs Hd.row, Row C (rows l)], val := fun x : Nat × OutC × OutC => .tuple #[if askE (trOf cs hs) l = 0 then .pointer (some ⟨x.1, 0, none⟩) else .pointer none, int (askE (trOf cs hs) l)], LO := fun x => if askE (trOf cs hs) l = 0 then beginL cs hs A ca B cb x else [] } := by
 refine i7 F.zT rfl p7 fun w0 => ?_; refine i4 ?_; refine E5 rfl rfl fun gB => ?_; refine b7 rfl (b7 rfl (d9 ?_)); refine B8 ⟨fun _ : Nat × OutC × OutC => True, fun x => [(1, .slice C l.length cc), (2, .pointer (b8 gB)), (6, if checkT (trOf cs hs) = 0 then .pointer (some ⟨x.1, 0, none⟩) else .pointer none), (7, int (checkT (trOf cs hs)))], fun _ => [(gB, .cells #[.slice A cs.length ca, .slice B hs.length cb] T.i2 (0, 0))], fun x => (if checkT (trOf cs hs) = 0 then beginL cs hs A ca B cb x else []) ++ [Row A (rows cs), RowsF B hs Hd.row, Row C (rows l)]⟩ ?_ ?_
 ·skip
  refine b9 ?_
  first | refine u6 rfl T.d6 T.d4 rfl mB (by rfl) ?_ | refine t9 rfl T.d6 T.d4 rfl mB (by rfl) ?_ | refine q6 rfl T.d6 T.d4 rfl rfl (m7 mB (n7 (by omega))) ?_
  refine d5 F.C6 rfl rfl (A7 cs hs hca hcb ha) j5 mC fun x _ => ?_; refine a8 rfl (i6 rfl rfl rfl (i6 rfl rfl rfl (b7 rfl (b7 rfl (b3 ?_))))); exact w4 _ x trivial mC (List.Sublist.refl _) (LSub.of_mem fun F h => h)
 refine fun x _ => ?_
 dsimp only
 refine i1 (i4 (a8 rfl (t3 rfl rfl rfl (d9 ?_))))
 first | refine k8 rfl (fun hb1 => ?_) (fun hb1 => ?_) | refine i5 rfl (fun hb1 => ?_) (fun hb1 => ?_)
 ·have hb1' := hb1; try simp at hb1'
  have hE : askE (trOf cs hs) l = checkT (trOf cs hs) := by rw [askE, if_pos hb1]
  have hnz : ¬ askE (trOf cs hs) l = 0 := by rw [hE]; exact hb1
  refine i4 (a8 rfl (b7 rfl (b7 rfl (d9 (P8 ?_))))); exact ret2 (0, (none, 0), (none, 0)) rfl rfl rfl (by show Value.tuple #[if askE (trOf cs hs) l = 0 then _ else _, int (askE (trOf cs hs) l)] = _; rw [if_neg hnz, hE]) rfl trivial nil_sb (by show LSub _ (if askE (trOf cs hs) l = 0 then _ else []); rw [if_neg hnz]; trivial)
 have hb1' := hb1; try simp at hb1'
 have h0 := Classical.not_not.1 hb1; rw [if_pos h0, if_pos h0]; have hln := t0 cs hs; have hok := Y3 h0; have h6 : cs.length ≤ 6 := hok.c6; have h6h := hok.h6; rw [t0] at h6h; have hcl : ∀ i, i < cs.length → ClsOK cs i := hok.c; obtain ⟨gl, ⟨oa, oc⟩, ⟨ka, kc⟩⟩ := x; show HC _ _ _ _ _ [Row (b8 gl) [.slice A cs.length ca, .slice B hs.length cb, .slice oa cs.length oc, .slice ka hs.length kc], Row oa (rows (masksN cs cs.length)), Row ka (rows (kindsN hs hs.length)), Row A (rows cs), RowsF B hs Hd.row, Row C (rows l)]; refine j3 (g6 (i1 (i4 (a8 rfl ?_)))); refine k4 rfl T.s5 rfl ?_; refine a8 rfl (d9 (i9 ?_)); refine p6 (β := Nat) ⟨fun k => k ≤ l.length ∧ ∀ i, i < k → 0 ≤ l.getD i default ∧ l.getD i default ≤ (hs.length : Int) - 1, fun k => [(2, .pointer (b8 gB)), (6, .pointer (b8 gl)), (18, .slice C l.length cc), (19, int l.length), (20, int k)], fun _ => [(gB, .cells #[.slice A cs.length ca, .slice B hs.length cb] T.i2 (0, 0))], fun _ => [Row (b8 gl) [.slice A cs.length ca, .slice B hs.length cb, .slice oa cs.length oc, .slice ka hs.length kc], Row oa (rows (masksN cs cs.length)), Row ka (rows (kindsN hs hs.length)), Row A (rows cs), RowsF B hs Hd.row, Row C (rows l)]⟩ (fun k => l.length - k) 0 ⟨Nat.zero_le _, fun i hi => by omega⟩ mC (List.Sublist.refl _) mC fun k hk => ?_; obtain ⟨hk, ht⟩ := hk; refine i4 (t7 rfl rfl rfl (d9 (i1 ?_)))
 first | refine k8 rfl (fun hb2 => ?_) (fun hb2 => ?_) | refine i5 rfl (fun hb2 => ?_) (fun hb2 => ?_)
 ·have hb2' := hb2; try simp at hb2'
  have hk2 : k < l.length := by omega
  refine j3 (g6 (i1 (i9 (i4 ?_)))); refine r9 (α := Int) _ _ rfl T.s5 T.v6 rfl rfl rfl mB rfl (by omega) (by decide) (a6 rfl T.b2 rfl (d3 mB (b4 (by omega) rfl)) ?_); refine b7 rfl (j8 (a8 rfl ?_))
  first | refine a7 ⟨_, 1, none⟩ rfl rfl T.j0 rfl ?_ | refine a7 _ rfl rfl T.j0 rfl ?_
  first | refine a6 rfl T.a9 rfl (h9 mB rfl) ?_ | refine a6 rfl T.a9 rfl (d8 mB rfl) ?_ | refine a6 rfl T.a9 rfl (d3 mB (b4 (by omega) rfl)) ?_ | refine a6 rfl T.a9 rfl (d1 mB (rows_get (by omega) rfl)) ?_ | refine a6 rfl T.a9 rfl (d7 mB rfl) ?_
  refine k4 rfl T.m9 rfl (J8 _ rfl rfl rfl rfl n5 ?_); refine d5 F.v4 rfl rfl (s7 _ _ _) j5 trivial fun _ _ => ?_; refine B3 rfl rfl (d9 ?_)
  first | refine k8 rfl (fun hb3 => ?_) (fun hb3 => ?_) | refine i5 rfl (fun hb3 => ?_) (fun hb3 => ?_)
  ·have hb3' := hb3; try simp at hb3'
   have hE : askE (trOf cs hs) l = 3 := ask_bad h0 hk2 (by rw [hln]; exact nbw hb3); have hnz : ¬ askE (trOf cs hs) l = 0 := by rw [hE]; decide
   refine i4 (b7 rfl (b7 rfl (d9 (k5 (B7 (z8 (B7 ?_))))))); exact ret2 (0, (none, 0), (none, 0)) rfl rfl rfl (by show Value.tuple #[if askE (trOf cs hs) l = 0 then _ else _, int (askE (trOf cs hs) l)] = _; rw [if_neg hnz, hE]) rfl trivial nil_sb (by show LSub _ (if askE (trOf cs hs) l = 0 then _ else []); rw [if_neg hnz]; trivial)
  have hb3' := hb3; try simp at hb3'
  refine j3 (n9 (g6 (b9 ?_))); refine q9 _ rfl rfl rfl rfl n5 ?_; refine a8 rfl (b3 ?_); have hin := bw hb3; exact again _ (k + 1) ⟨by omega, fun i hi => by rcases Nat.lt_or_ge i k with h | h; exact ht i h; rw [show i = k by omega]; exact hin⟩ (r6 (by omega)) mC (List.Sublist.refl _) mC
 have hb2' := hb2; try simp at hb2'
 have hk2 : k = l.length := by omega
 subst hk2; have hE : askE (trOf cs hs) l = 0 := ask_ok h0 (by rw [hln]; exact ht); refine n2 (t4 (n1 (g6 (i4 (a8 rfl (b7 rfl (b7 rfl (d9 ?_)))))))); refine k5 ?_; exact ret2 (gl, (oa, oc), (ka, kc)) rfl rfl rfl (by show Value.tuple #[if askE (trOf cs hs) l = 0 then _ else _, int (askE (trOf cs hs) l)] = _; rw [if_pos hE, hE]) rfl trivial nil_sb (by show LSub _ (if askE (trOf cs hs) l = 0 then _ else []); rw [if_pos hE]; exact mC)
end Go.Proofs.YtfhninnleacgiaaGreat
end
