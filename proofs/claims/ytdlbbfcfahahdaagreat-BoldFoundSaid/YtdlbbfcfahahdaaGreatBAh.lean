/- Texts of this claim, one behind another. -/
import Derived.Lib.SliceRun
import Derived.Laws.AppendOwn
import Derived.Laws.MakeOwn
import Derived.Test.YtdlbbfcfahahdaaGreatBAg
import Derived.Test.YtdlbbfcfahahdaaGreatBAf
set_option linter.unusedVariables false
set_option linter.unusedSimpArgs false
section
namespace Go.Proofs.YtdlbbfcfahahdaaGreat
open Go Go.W
set_option maxRecDepth 20000
attribute [local irreducible] HL HC HQ HB Row Rows2 Blk Facts
abbrev rngI (n : Nat) : List Int := (List.range n).map fun i : Nat => (i : Int)
theorem pT (n : Nat) : (rngI n).length = n := by simp
theorem jx9 (n : Nat) : rngI (n + 1) = rngI n ++ [(n : Int)] := by unfold rngI; rw [List.range_succ, List.map_append]; rfl
theorem rz4 {e : TypeId} {g n cap : Nat} {xs : List Value} {cur : Array Value} (hG : Grow e 1 (b4 g) n cap xs [(g, Obj.cells cur e (0, 0))]) (hn : 0 < n) : n ≤ cap ∧ cap ≤ maxLen ∧ cur.size = cap * 1 ∧ cur.toList.take (n * 1) = xs := by
  obtain ⟨g', cur', e1, e2, h1, h2, h3, h4, _⟩ := hG.open_ hn
  cases e1
  injection e2 with e2 _
  injection e2 with _ e2
  injection e2 with e2 _ _
  subst e2; exact ⟨h1, h2, h3, h4⟩
theorem az9 {cur : Array Value} {l : List Int} {i : Nat} (h : cur.toList.take (l.length * 1) = rows l) (hi : i < l.length) : cur[0 + i * 1]? = some (int (l.getD i default)) := by
  have h1 : (rows l)[i * 1]? = some (int (l.getD i default)) := k6 hi rfl; rw [← h, List.getElem?_take, if_pos (by omega)] at h1; rw [Nat.zero_add, ← Array.getElem?_toList]; exact h1
theorem nx5 {l : List Int} {i j : Nat} (hi : i < l.length) (hj : j < l.length) : ((l.set i (l.getD j default)).set j (l.getD i default)).Perm l := by
  rw [t5 hi, t5 hj]; exact List.set_set_perm hi hj
set_option maxHeartbeats 1000000 in
theorem Z2 {g : Nat} {A : Option Addr} {c : Nat} {nums : List Int} {s : Int × Int} (n : Nat) (hn : nums.length ≤ 9223372036854775807) (hs : DOK nums s) (hI : n ≤ 100) :
    Meets Tryz.prog F.cE [.pointer (b4 g), int n] (diceCon g A c nums s (fun x : List Int × OutC => x.1.Perm (rngI n) ∧ x.1.length ≤ x.2.2) (fun x => .slice x.2.1 x.1.length x.2.2) (fun x => [Row x.2.1 (rows x.1)])) := by
 refine i9 F.yC rfl t4 fun w0 => ?_; refine i5 (b8 rfl (j8 (b8 rfl (d6 (dV ?_))))); refine d9 (b8 rfl (d6 (i8 ?_))); refine p9 (β := Nat × OutC × Hp) ⟨fun x => x.1 ≤ n ∧ Grow T.int 1 x.2.1.1 x.1 x.2.1.2 (rows (rngI x.1)) x.2.2, fun x => [(0, .pointer (b4 g)), (1, int n), (5, .slice x.2.1.1 x.1 x.2.1.2), (6, int x.1)], fun x => x.2.2 ++ [dice g A c nums s], fun _ => [Row A (rows nums)]⟩ (fun x => n - x.1) (0, (none, 0), []) ⟨Nat.zero_le _, Grow.nil _ _⟩ mC (List.Sublist.refl _) mC fun x hx => ?_; obtain ⟨k, ⟨na, nc⟩, og⟩ := x; obtain ⟨hk, hG⟩ := hx; simp only at hk hG; refine d7 (i5 (a9 rfl (a9 rfl (u4 rfl rfl rfl (d6 ?_)))))
 first | refine m3 rfl (fun hb1 => ?_) (fun hb1 => ?_) | refine w6 rfl (fun hb1 => ?_) (fun hb1 => ?_)
 ·have hb1' := hb1; try simp at hb1'
  have hk2 : k < n := by omega
  refine i6 (d8 (d7 (i8 (d9 (a9 rfl (a9 rfl ?_)))))); refine l6 _ rfl rfl (fun _ => T.H1 ..) fun gS => ?_; refine w7 (rows [(k : Int)]) (List.prefix_refl _) ?_; refine G2 (k + 1) (rows (rngI k ++ [(k : Int)])) T.S3 rfl rfl rfl hG (.refl _) (Src.row (news := rows [(k : Int)]) (m := 1) m0 rfl (D0 _) (by decide)) rfl (y6 _ _).symm (by unfold maxLen; omega) (by omega) fun A' c' og' hG' => ?_; refine b8 rfl (c8 (t6 (d8 (d9 (a9 rfl ?_))))); refine r7 _ rfl rfl rfl rfl m6 ?_; refine b8 rfl (c8 ?_); exact again _ (k + 1, (A', c'), og') ⟨by show k + 1 ≤ n; omega, by show Grow _ _ _ _ _ (rows (rngI (k + 1))) _; rw [jx9]; exact hG'⟩ (u2 (by omega)) mC (List.Sublist.refl _) mC
 have hb1' := hb1; try simp at hb1'
 have hk2 : k = n := by omega
 subst hk2; refine p8 (v8 (p7 (d8 (d7 (i5 (a9 rfl ?_)))))); refine K2 _ rfl rfl rfl rfl m6 ?_; refine b8 rfl (d6 (i8 ?_)); refine p9 (β := (Int × Int) × List Int × Nat × Hp) ⟨fun x => DOK nums x.1 ∧ x.2.1.Perm (rngI k) ∧ x.2.2.1 ≤ k ∧ Grow T.int 1 na k nc (rows x.2.1) x.2.2.2, fun x => [(0, .pointer (b4 g)), (5, .slice na k nc), (7, int ((x.2.2.1 : Int) - 1))], fun x => x.2.2.2 ++ [dice g A c nums x.1], fun _ => [Row A (rows nums)]⟩ (fun x => x.2.2.1) (s, rngI k, k, og) ⟨hs, .refl _, Nat.le_refl _, hG⟩ mC (List.Sublist.refl _) mC fun x hx => ?_; clear hG; obtain ⟨s, l, m, og⟩ := x; obtain ⟨hs, hP, hm, hG⟩ := hx; simp only at hs hP hm hG; have hll : l.length = k := by rw [hP.length_eq, pT]
 refine d7 (i5 (a9 rfl (H5 rfl rfl rfl (d6 ?_))))
 first | refine m3 rfl (fun hb2 => ?_) (fun hb2 => ?_) | refine w6 rfl (fun hb2 => ?_) (fun hb2 => ?_)
 ·have hb2' := hb2; try simp at hb2'
  obtain ⟨i, rfl⟩ : ∃ i, m = i + 1 := ⟨m - 1, by omega⟩; have hi1 : (((i + 1 : Nat) : Int) - 1) = (i : Int) := by omega
  obtain ⟨gd, cur, e1, e2, hnc, hcm, hcs, hct, _⟩ := hG.open_ (by omega); subst e1; subst e2; rw [← hll] at hct; refine i6 (d8 (d7 (i8 (i5 (a9 rfl ?_))))); refine bx6 (v := int (i : Int)) rfl (congrArg (fun z => some (int z)) hi1) ?_; refine j0 F.D2 rfl rfl (A5 (i : Int) hn hs (by omega)) (.swap _ _ _) mC fun x hx => ?_; obtain ⟨s1, z⟩ := x; obtain ⟨hs1, hz⟩ := hx; simp only [ToInv] at hz; obtain ⟨j, rfl⟩ := Int.eq_ofNat_of_zero_le hz.1
  have hj : j ≤ i := by
    by_cases h1 : 1 ≤ (i : Int)
    · have := hz.2.1 h1; omega
    have := hz.2.2 (by omega); omega
  refine b8 rfl (j8 (a9 rfl ?_)); refine bx6 (v := int (i : Int)) rfl (congrArg (fun z => some (int z)) hi1) ?_; refine u1 i (0 + i * 1) rfl T.l4 T.q7 rfl rfl rfl (by omega) rfl (c9 (v := int (l.getD i default)) rfl T.i7 rfl (l9 mB (az9 hct (by omega))) ?_); refine b8 rfl (j8 (a9 rfl ?_)); refine bx6 (v := int (i : Int)) rfl (congrArg (fun z => some (int z)) hi1) ?_; refine a9 rfl (a9 rfl ?_); refine u1 j (0 + j * 1) rfl T.l4 T.q7 rfl rfl rfl (by omega) rfl (c9 (v := int (l.getD j default)) rfl T.i7 rfl (l9 mB (az9 hct (by omega))) (u1 i i rfl T.l4 T.q7 rfl rfl rfl (by omega) (by omega) ?_)); refine z8 rfl rfl (.swap _ _ _) T.q7 (by have := az9 hct (show i < l.length by omega); rw [Nat.zero_add, Nat.mul_one] at this; exact this) (by rfl) ?_; have hG1 := Grow.set (e := T.int) (g := gd) (l := l) (k := i) (a := l.getD j default) rfl rfl (by omega) hcm hcs hct; rw [hll] at hG1; have hc1 := (rz4 hG1 (by omega)).2.2; have hl1 : (l.set i (l.getD j default)).length = l.length := List.length_set ..; rw [← hll, ← hl1] at hc1; refine d6 (d9 (a9 rfl (a9 rfl (a9 rfl ?_)))); refine u1 j j rfl T.l4 T.q7 rfl rfl rfl (by omega) (by omega) ?_; refine z8 rfl rfl (.refl _) T.q7 (by have := az9 hc1.2 (show j < _ by omega); rw [Nat.zero_add, Nat.mul_one] at this; exact this) (by rfl) ?_; have hG2 := Grow.set (e := T.int) (g := gd) (l := l.set i (l.getD j default)) (k := j) (a := l.getD i default) rfl rfl (by omega) hcm hc1.1 hc1.2; rw [hl1, hll] at hG2; refine c8 (t6 (d8 (d9 ?_))); refine bx6 (v := int (i : Int)) rfl (congrArg (fun z => some (int z)) hi1) ?_; refine K2 ((i : Int) - 1) rfl rfl rfl (by omega) m6 ?_; refine b8 rfl (c8 ?_); exact again _ (s1, (l.set i (l.getD j default)).set j (l.getD i default), i, [_]) ⟨hs1, (nx5 (by omega) (by omega)).trans hP, by show i ≤ k; omega, hG2⟩ (by show i < i + 1; omega) mC (List.Sublist.refl _) mC
 have hb2' := hb2; try simp at hb2'
 refine p8 (v8 (p7 (d8 (i5 (a9 rfl (b8 rfl (d6 (j5 ?_)))))))); refine cF hG ?_; exact ret1 (s, l, (na, nc)) rfl (by show some (Value.slice na k nc) = some (Value.slice na l.length nc); rw [hll]) rfl ⟨hs, hP, by show l.length ≤ nc; rw [hll]; exact hG.le⟩ (List.Sublist.refl _) ⟨m0, trivial⟩
end Go.Proofs.YtdlbbfcfahahdaaGreat
end
section
namespace Go.Proofs.YtdlbbfcfahahdaaGreat
open Go Go.W
set_option maxRecDepth 20000
attribute [local irreducible] HL HC HQ HB Row Rows2 Blk Facts
theorem vI {α : Type} [Inhabited α] {l : List α} {k : Nat} {s : α} (hk : k < l.length) (h : s ∉ l.take k) (h1 : ¬ s = l.getD k default) : s ∉ l.take (k + 1) := by
  rw [G8 l k hk]; simp only [List.mem_append, List.mem_singleton, not_or]; exact ⟨h, h1⟩
def AtInv (l : List Int) (s z : Int) : Prop := (0 ≤ z ↔ s ∈ l) ∧ (s ∈ l → ∀ k : Nat, z < (k : Int) ↔ s ∈ l.take k)
theorem dj0 {l : List Int} {k : Nat} {s : Int} (hk : k < l.length) (hb : l.getD k default = s) (ht : s ∉ l.take k) : AtInv l s (k : Int) := by
  refine ⟨⟨fun _ => hb ▸ n0 hk, fun _ => by omega⟩, fun _ j => ⟨fun h => ?_, fun h => ?_⟩⟩
  · have h1 : s ∈ l.take (k + 1) := by rw [G8 l k hk, hb]; simp
    exact List.take_subset_take_left l (by omega) h1
  rcases Nat.lt_or_ge k j with h2 | h2
  · omega
  exact absurd (List.take_subset_take_left l h2 h) ht
theorem jj8 {l : List Int} {s : Int} (ht : s ∉ l) : AtInv l s (-1) := ⟨⟨fun h => by omega, fun h => absurd h ht⟩, fun h => absurd h ht⟩
def partL (o : List Int) (m n : Nat) : List Int := (rngI n).filter fun v => decide (v ∈ o.take m)
theorem jS (o : List Int) (m n : Nat) : partL o m (n + 1) = if (n : Int) ∈ o.take m then partL o m n ++ [(n : Int)] else partL o m n := by
  unfold partL; rw [jx9, List.filter_append]
  by_cases h : (n : Int) ∈ o.take m <;> simp [h]
theorem nz9 (o : List Int) (m n : Nat) : (partL o m n).Pairwise (· < ·) := by
  unfold partL rngI; refine List.Pairwise.filter _ (List.pairwise_map.2 (List.pairwise_lt_range.imp fun h => ?_))
  omega
theorem rj6 {o : List Int} {m n : Nat} {v : Int} (h : v ∈ partL o m n) : 0 ≤ v ∧ v < (n : Int) := by
  unfold partL rngI at h; have h1 := (List.mem_filter.1 h).1; obtain ⟨i, hi, rfl⟩ := List.mem_map.1 h1; have := List.mem_range.1 hi
  omega
theorem lq9 (o : List Int) (m n : Nat) : (partL o m n).length ≤ n := by
  unfold partL; have := List.length_filter_le (fun v => decide (v ∈ o.take m)) (rngI n); rw [pT] at this; exact this
theorem nz8 {o : List Int} {m n : Nat} (h : o.Perm (rngI n)) : (partL o m n).length ≤ m := by
  have hn : o.Nodup := h.nodup_iff.2 (by unfold rngI List.Nodup; exact List.pairwise_map.2 (List.pairwise_lt_range.imp fun h => by omega)); unfold partL; rw [(h.symm.filter _).length_eq]; have e : o.filter (fun v => decide (v ∈ o.take m)) = (o.take m).filter (fun v => decide (v ∈ o.take m)) ++ (o.drop m).filter (fun v => decide (v ∈ o.take m)) := by rw [← List.filter_append, List.take_append_drop]
  have hd := (List.nodup_append.1 ((List.take_append_drop m o).symm ▸ hn : (o.take m ++ o.drop m).Nodup)).2.2
  have h0 : (o.drop m).filter (fun v => decide (v ∈ o.take m)) = [] := List.filter_eq_nil_iff.2 fun a ha => by
    rw [decide_eq_true_eq]; exact fun h => hd a h a ha rfl
  rw [e, h0, List.append_nil]; exact Nat.le_trans (List.length_filter_le _ _) (by rw [List.length_take]; omega)
theorem aj8 {A : Option Addr} {c : Nat} (l : List Int) (s : Int) (hl : l.length ≤ 1000000) : Meets Tryz.prog F.yA [.slice A l.length c, int s] { LI := [Row A (rows l)], inv := fun z : Int => AtInv l s z, val := fun z => int z } := by
 refine i9 F.kj5 rfl t4 fun w0 => ?_; refine i5 (b8 rfl (d6 (d7 (i5 (b8 rfl (d6 (i8 ?_))))))); refine p9 (β := Nat) ⟨fun k => k ≤ l.length ∧ s ∉ l.take k, fun k => [(0, .slice A l.length c), (1, int s), (5, int k)], fun _ => [], fun _ => [Row A (rows l)]⟩ (fun k => l.length - k) 0 ⟨Nat.zero_le _, by simp⟩ mC (.refl _) ⟨m0, trivial⟩ fun k hk => ?_; obtain ⟨hk, ht⟩ := hk; refine d7 (i5 (a9 rfl (a9 rfl ?_))); refine j3 rfl T.l4 rfl ?_; refine u4 rfl rfl rfl (d6 ?_); refine m3 rfl (fun hb1 => ?_) (fun hb1 => ?_)
 ·have hb1' := hb1; try simp at hb1'
  have hk2 : k < l.length := by omega
  refine i6 (d8 (d7 (i8 (i5 (a9 rfl (a9 rfl ?_)))))); refine m7 (α := Int) _ _ rfl T.l4 T.q7 rfl rfl rfl mB rfl (by omega) (by decide) (c9 rfl T.i7 rfl (l8 mB (k6 (by omega) rfl)) ?_); refine a9 rfl (I3 rfl rfl rfl (d6 ?_)); refine m3 rfl (fun hb2 => ?_) (fun hb2 => ?_)
  ·have hb2' := hb2; try simp at hb2'
   refine i5 (a9 rfl (b8 rfl (d6 (j5 (w8 (r6 (w8 ?_))))))); exact ret1 (k : Int) rfl rfl rfl (dj0 hk2 hb2 ht) (.refl _) trivial
  have hb2' := hb2; try simp at hb2'
  refine i6 (t6 (d8 (d9 (a9 rfl ?_)))); refine r7 _ rfl rfl rfl rfl m6 ?_; refine b8 rfl (c8 ?_); exact again _ (k + 1) ⟨by omega, vI hk2 ht (fun e => hb2 e.symm)⟩ (u2 (by omega)) mC (.refl _) ⟨m0, trivial⟩
 have hb1' := hb1; try simp at hb1'
 have hk2 : k = l.length := by omega
 subst hk2; rw [List.take_length] at ht; refine p8 (v8 (p7 (d8 (i5 (b8 rfl (d6 (j5 ?_))))))); exact ret1 (-1) rfl rfl rfl (jj8 ht) (.refl _) trivial
set_option maxHeartbeats 1000000 in
theorem xZ {g : Nat} {A : Option Addr} {c : Nat} {nums : List Int} {s : Int × Int} (n m : Nat) (hn : nums.length ≤ 9223372036854775807) (hs : DOK nums s) (hI : n ≤ 100 ∧ m ≤ 100) :
    Meets Tryz.prog F.sW [.pointer (b4 g), int n, int m] (diceCon g A c nums s (fun x : List Int × OutC => (x.1.Pairwise (· < ·) ∧ ∀ v ∈ x.1, 0 ≤ v ∧ v < (n : Int)) ∧ x.1.length ≤ m ∧ x.1.length ≤ x.2.2) (fun x => .slice x.2.1 x.1.length x.2.2) (fun x => [Row x.2.1 (rows x.1)])) := by
 refine i9 F.ix3 rfl t4 fun w0 => ?_; refine i5 (b8 rfl (j8 (a9 rfl (a9 rfl ?_)))); refine j0 F.cZ rfl rfl (Z2 n hn hs hI.1) l7 mC fun x hx => ?_; obtain ⟨s1, o, oa, oc⟩ := x; obtain ⟨hs1, hP, hoc⟩ := hx; simp only at hP hoc; have hol : o.length = n := by rw [hP.length_eq, pT]
 refine b8 rfl (j8 (b8 rfl (d6 (d7 (i5 (b8 rfl ?_)))))); refine d6 (i8 ?_); refine p9 (β := Nat × OutC × Hp) ⟨fun x => x.1 ≤ n ∧ Grow T.int 1 x.2.1.1 (partL o m x.1).length x.2.1.2 (rows (partL o m x.1)) x.2.2, fun x => [(1, int n), (2, int m), (7, .slice oa o.length oc), (8, .slice x.2.1.1 (partL o m x.1).length x.2.1.2), (9, int x.1)], fun x => x.2.2 ++ [dice g A c nums s1], fun _ => [Row oa (rows o)]⟩ (fun x => n - x.1) (0, (none, 0), []) ⟨Nat.zero_le _, Grow.nil _ _⟩ mC (List.Sublist.refl _) mC fun x hx => ?_; obtain ⟨k, ⟨na, nc⟩, og⟩ := x; obtain ⟨hk, hG⟩ := hx; simp only at hk hG; have hpl := lq9 o m k; refine d7 (i5 (a9 rfl (a9 rfl (u4 rfl rfl rfl (d6 ?_))))); refine m3 rfl (fun hb1 => ?_) (fun hb1 => ?_)
 ·have hb1' := hb1; try simp at hb1'
  have hk2 : k < n := by omega
  have hmem : (k : Int) ∈ o := hP.mem_iff.2 (List.mem_map.2 ⟨k, List.mem_range.2 hk2, rfl⟩); refine i6 (d8 (d7 (i8 (i5 (a9 rfl (a9 rfl ?_)))))); refine j0 F.ix4 rfl rfl (aj8 o (k : Int) (by omega)) l7 mC fun z hz => ?_; refine b8 rfl (j8 (a9 rfl (a9 rfl (u4 rfl rfl rfl (d6 ?_))))); refine m3 rfl (fun hb2 => ?_) (fun hb2 => ?_)
  ·have hb2' := hb2; try simp at hb2'
   have hin := (hz.2 hmem m).1 hb2; refine d9 (a9 rfl (a9 rfl ?_)); refine l6 _ rfl rfl (fun _ => T.H1 ..) fun gS => ?_; refine w7 (rows [(k : Int)]) (List.prefix_refl _) ?_; refine G2 ((partL o m k).length + 1) (rows (partL o m k ++ [(k : Int)])) T.S3 rfl rfl rfl hG (.refl _) (Src.row (news := rows [(k : Int)]) (m := 1) m0 rfl (D0 _) (by decide)) rfl (y6 _ _).symm (by unfold maxLen; omega) (by omega) fun A' c' og' hG' => ?_; refine b8 rfl (c8 (t6 (d8 (d9 (a9 rfl ?_))))); refine r7 _ rfl rfl rfl rfl m6 ?_; refine b8 rfl (c8 ?_); exact again _ (k + 1, (A', c'), og') ⟨by show k + 1 ≤ n; omega, by show Grow _ _ _ (partL o m (k + 1)).length _ (rows (partL o m (k + 1))) _; rw [jS, if_pos hin, List.length_append]; exact hG'⟩ (u2 (by omega)) ⟨rfl, rfl, rfl, by show some (Value.slice A' ((partL o m k).length + 1) c') = some (Value.slice A' (partL o m (k + 1)).length c'); rw [jS, if_pos hin, List.length_append]; rfl, rfl, trivial⟩ (List.Sublist.refl _) mC
  have hb2' := hb2; try simp at hb2'
  have hin := mt (hz.2 hmem m).2 hb2; refine i6 (t6 (d8 (d9 (a9 rfl ?_)))); refine r7 _ rfl rfl rfl rfl m6 ?_; refine b8 rfl (c8 ?_); exact again _ (k + 1, (na, nc), og) ⟨by show k + 1 ≤ n; omega, by show Grow _ _ _ (partL o m (k + 1)).length _ (rows (partL o m (k + 1))) _; rw [jS, if_neg hin]; exact hG⟩ (u2 (by omega)) ⟨rfl, rfl, rfl, by show some (Value.slice na (partL o m k).length nc) = some (Value.slice na (partL o m (k + 1)).length nc); rw [jS, if_neg hin], rfl, trivial⟩ (List.Sublist.refl _) mC
 have hb1' := hb1; try simp at hb1'
 have hk2 : k = n := by omega
 subst hk2; refine p8 (v8 (p7 (d8 (i5 (a9 rfl (b8 rfl (d6 (j5 ?_)))))))); refine cF hG ?_; exact ret1 (s1, partL o m k, (na, nc)) rfl rfl rfl ⟨hs1, ⟨nz9 o m k, fun v hv => rj6 hv⟩, nz8 hP, hG.le⟩ (List.Sublist.refl _) ⟨m0, trivial⟩
end Go.Proofs.YtdlbbfcfahahdaaGreat
end
section
namespace Go.W
open Go Go.RowKit
section
variable {c : Cx} {Q : Exit → Act → World → Prop} {fr : Fr} {hp : Hp} {L : List Fact} {ops : Array Oper} {rest : List Oper}
variable {d : Tmp} {ty : TypeId} {pos : String} {af : Array Edge}
theorem hl_eff {o : Oper} (ho : o.dst = none) (hg : o.guard = none)
    (h : ∀ a w, Ok c a fr → WI c.b w hp L → ∃ v w' hp' L', (execOp a.eval o).run c.P w = .ok (.value v) w' ∧ WI c.b w' hp' L' ∧ HL c ops Q rest fr hp' L') (hok : okOp o = true := by exact rfl) : HL c ops Q (o :: rest) fr hp L := by
  intro a w ha hw; refine aZ hg fun K hK => fun d0 => ⟨Y4 hok _, ?_⟩; obtain ⟨v, w', hp', L', hr, hw', hk⟩ := h a (w.at d0) ha (hw.at d0); rw [hr, mG, ho]; exact hK _ _ (hk _ _ ha hw')
theorem jQ {t e : TypeId} {x i : Operand} {g o n sz : Nat} {kd : IntKind} {z : Int} (j q : Nat) (hd : Nat.blt d c.n = true) (ht : c.P.underlying t = some (.array n e)) (hz : Sz c.P e sz)
    (hx : ev fr x = some (.pointer (some ⟨g, o, none⟩))) (hi : ev fr i = some (.int kd z)) (hjz : z = (j : Int)) (hj : j < n) (hq : o + j * sz = q)
    (k : HL c ops Q rest ((d, .pointer (some ⟨g, q, none⟩)) :: fr) hp L) : HL c ops Q (⟨some d, .indexAddr t x i, ty, pos, af, none⟩ :: rest) fr hp L :=
  D3 _ rfl rfl hd (fun a w ha hw => by
    subst hjz
    have hr : (Instr.indexAt t (.pointer (some ⟨g, o, none⟩)) (.int kd (j : Int))).run c.P w = .ok (.pointer (some ⟨g, q, none⟩)) w := by
      subst hq
      simp [Instr.indexAt, asIntOf, run_underlying ht, Q3 hz, hj, Instr.sureAddr, aM]
    simp only [execOp, ha.ev hx, ha.ev hi, Sem.run_bind, hr, Result.andThen_ok, Sem.run_pure]) k
theorem hl_dup {F : Fact} (h : F ∈ L) (k : HL c ops Q rest fr hp (F :: L)) : HL c ops Q rest fr hp L := fun a w ha hw => k a w ha (hw.weak (List.Sublist.refl _) fun G hG => by
  rcases List.mem_cons.1 hG with rfl | hG
  · exact h
  exact hG)
theorem bH {f : Nat} {x : Operand} {ats : Array TypeId} {t : TypeId} {v v' : Value} {name : String} {β : Type} {k : Con β} {hpR : Hp} (hcb : Callable c.P f) (hd : Nat.blt d c.n = true) (hx : ev fr x = some (.iface t v))
    (hmt : ∀ w, (method (c.P.types.size + Made.depth) t v name).run c.P w = .ok (f, v') w)
    (hm : Meets c.P f [v'] k) (h1 : hp.Perm (k.hpI ++ hpR)) (h2 : LSub L k.LI) (kk : ∀ x, k.inv x → HL c ops Q rest ((d, k.val x) :: fr) (k.hpO x ++ hpR) (k.LO x ++ L)) :
    HL c ops Q (⟨some d, .call ⟨.invoke x name, #[], ats⟩, ty, pos, af, none⟩ :: rest) fr hp L := by
  intro a w ha hw; refine aZ rfl fun K hK => ?_; intro d0; have hw := hw.at d0
  have e2 : ∀ w, (execOp a.eval (⟨some d, .call ⟨.invoke x name, #[], ats⟩, ty, pos, af, none⟩ : Oper)).run c.P w = .ok (.enter f [v'].toArray) w := by
    intro w; show ((do let dd ← resolve a.eval ⟨.invoke x name, #[], ats⟩ ty; invoke dd.target dd.args) : Sem Next).run c.P w = _; simp only [resolve, ha.ev hx, Sem.run_bind, Sem.run_pure, Result.andThen_ok, invoke]; have e3 : (#[Value.iface t v] ++ Array.map a.eval #[]) = #[Value.iface t v] := by simp
    rw [e3]; have e4 : (#[Value.iface t v] : Array Value).extract 1 (#[Value.iface t v] : Array Value).size = #[] := by simp
    show (callMethod (.iface t v) name ((#[Value.iface t v] : Array Value).extract 1 (#[Value.iface t v] : Array Value).size)).run c.P w = _; rw [e4]; have e5 : (#[v'] ++ #[] : Array Value) = [v'].toArray := by simp
    simp only [callMethod, Sem.run_bind, Sem.run_pure, run_program, Result.andThen_ok, hmt, e5]; exact hcb.run _ _
  refine ⟨?_, ?_⟩
  · show ∀ e ∈ ((do let dd ← resolve a.eval ⟨.invoke x name, #[], ats⟩ ty; invoke dd.target dd.args) : Sem Next).events c.P _ #[], Calm e
    have e3 : (#[Value.iface t v] ++ Array.map a.eval #[]) = #[Value.iface t v] := by simp
    simp only [resolve, ha.ev hx, e3]; show ∀ e ∈ (callMethod (.iface t v) name ((#[Value.iface t v] : Array Value).extract 1 (#[Value.iface t v] : Array Value).size)).events c.P _ #[], Calm e; exact kq9 hcb hmt _ _
  rw [e2, mH]; refine (hm _ (hw.entry h1 h2.mem)).mono fun v w' hp => ?_; obtain ⟨x, rfl, hi, hwi⟩ := hp; exact hK _ _ (kk x hi _ _ (ha.put (by simpa using hd) _) (hw.back h1 h2.mem hwi))
/-! ### Loops that leave marks -/
def AgainM {β : Type} (s : Sta β) (ds : β → List Nat) (μ : β → Nat) (m : Nat) (P : Program) (n : Nat) (b : Bx) (a : Act) (w : World) : Prop := ∃ y, s.inv y ∧ μ y < m ∧ Ok ⟨P, n, b, (ds y).map markOf, none⟩ a (s.fr y) ∧ WI b w (shutM (ds y) ++ s.hp y) (s.L y)
end
end Go.W
end
section
namespace Go.Proofs.YtdlbbfcfahahdaaGreat
open Go Go.W
set_option maxRecDepth 20000
attribute [local irreducible] HL HC HQ HB Row Rows2 Blk Facts
theorem nQ {α : Type} [El α] (h1 : El.sz α = 1) {cur : Array Value} {l : List α} {i q : Nat} {v : Value} (h : cur.toList.take (l.length * 1) = rows l) (hi : i < l.length) (hq : q = i) (hv : El.cells (l.getD i default) = [v]) : cur[q]? = some v := by
  subst hq; have h2 := k6 hi (v := v) (by rw [hv]; rfl); rw [h1] at h2; rw [← h, List.getElem?_take, if_pos (by omega), Nat.mul_one] at h2; rw [← Array.getElem?_toList]; exact h2
theorem gq5 {α : Type} [El α] (h1 : El.sz α = 1) {cur : Array Value} {l : List α} {k : Nat} {v : Value} {a : α} (hv : El.cells a = [v]) (h : cur.toList.take (l.length * 1) = rows l) : (cur.setIfInBounds k v).toList.take ((l.set k a).length * 1) = rows (l.set k a) := by
  rw [Array.toList_setIfInBounds, List.length_set, List.take_set, h, pS h1 v a hv]
abbrev wat (l : List Str) (i : Nat) : Str := l.getD i default
abbrev wle (a b : Str) : Prop := ¬ b < a
theorem nq8 {a b c : Str} (h1 : wle a b) (h2 : wle b c) : wle a c := fun h => by
  rcases Classical.em (b < a) with h3 | h3
  · exact h1 h3
  rcases Classical.em (a < b) with h4 | h4
  · exact h2 (List.lt_trans h h4)
  rw [mq4 h4 h3] at h; exact h2 h
theorem nq9 {a b : Str} (h : a < b) : wle a b := fun h2 => ij4 a (List.lt_trans h h2)
def srtTo (l : List Str) (m : Nat) : Prop := ∀ p q, p < q → q < m → wle (wat l p) (wat l q)
structure InsOK (l : List Str) (i j : Nat) : Prop where
  o : ∀ p q, p < q → q ≤ i → ¬ p = j → ¬ q = j → wle (wat l p) (wat l q)
  a : ∀ q, j < q → q ≤ i → wle (wat l j) (wat l q)
theorem hq6 {l : List Str} {i j : Nat} {v : Str} (hi : i < l.length) : wat (l.set i v) j = if i = j then v else wat l j := by
  unfold wat; rw [List.getD_eq_getElem?_getD, List.getD_eq_getElem?_getD, List.getElem?_set]
  split
  · rfl
  rfl
def swp (l : List Str) (j : Nat) : List Str := (l.set (j + 1) (wat l j)).set j (wat l (j + 1))
theorem ij1 {l : List Str} {j k : Nat} (hj : j + 1 < l.length) : wat (swp l j) k = if k = j then wat l (j + 1) else if k = j + 1 then wat l j else wat l k := by
  unfold swp; rw [hq6 (by simp; omega), hq6 (by omega)]
  by_cases h1 : k = j
  · rw [if_pos h1.symm, if_pos h1]
  rw [if_neg (fun e => h1 e.symm), if_neg h1]
  by_cases h2 : k = j + 1
  · rw [if_pos h2.symm, if_pos h2]
  rw [if_neg (fun e => h2 e.symm), if_neg h2]
theorem InsOK.start {l : List Str} {i : Nat} (h : srtTo l i) : InsOK l i i := ⟨fun p q h1 h2 h3 h4 => h p q h1 (by omega), fun q h1 h2 => by omega⟩
theorem InsOK.swap {l : List Str} {i j : Nat} (h : InsOK l i (j + 1)) (hi : i < l.length) (hj : j + 1 ≤ i) (hlt : wat l (j + 1) < wat l j) : InsOK (swp l j) i j := by
  have hj2 : j + 1 < l.length := by omega
  refine ⟨fun p q h1 h2 h3 h4 => ?_, fun q h1 h2 => ?_⟩
  · rw [ij1 hj2, ij1 hj2, if_neg h3, if_neg h4]
    by_cases hp : p = j + 1
    · rw [if_pos hp, if_neg (by omega)]
      exact h.o j q (by omega) h2 (by omega) (by omega)
    rw [if_neg hp]
    by_cases hq : q = j + 1
    · rw [if_pos hq]
      exact h.o p j (by omega) (by omega) (by omega) (by omega)
    rw [if_neg hq]; exact h.o p q h1 h2 hp hq
  rw [ij1 hj2, ij1 hj2, if_pos rfl, if_neg (by omega)]
  by_cases hq : q = j + 1
  · rw [if_pos hq]; exact nq9 hlt
  rw [if_neg hq]; exact h.a q (by omega) h2
theorem InsOK.done {l : List Str} {i j : Nat} (h : InsOK l i j) (hj : j ≤ i) (he : ∀ k, j = k + 1 → ¬ wat l j < wat l k) : srtTo l (i + 1) := by
  intro p q h1 h2
  by_cases hp : p = j
  · subst hp; exact h.a q h1 (by omega)
  by_cases hq : q = j
  · subst hq
    obtain ⟨k, rfl⟩ : ∃ k, q = k + 1 := ⟨q - 1, by omega⟩; have h3 : wle (wat l k) (wat l (k + 1)) := he k rfl
    by_cases hpk : p = k
    · subst hpk; exact h3
    exact nq8 (h.o p k (by omega) (by omega) hp (by omega)) h3
  exact h.o p q h1 (by omega) hp hq
abbrev SrtW (ws l : List Str) : Prop := l.Perm ws ∧ srtTo l l.length
abbrev GrowS (A : Option Addr) (cap : Nat) (l : List Str) (og : Hp) : Prop := Grow T.string 1 A l.length cap (rows l) og
end Go.Proofs.YtdlbbfcfahahdaaGreat
end
section
namespace Go.Proofs.YtdlbbfcfahahdaaGreat
open Go Go.W
set_option maxRecDepth 20000
attribute [local irreducible] HL HC HQ HB Row Rows2 Blk Facts
def ascTo (l : List Str) (m : Nat) : Prop := ∀ p q, p < q → q < m → wat l p < wat l q
theorem qq1 {a b : Str} (h : wle a b) (hne : ¬ a = b) : a < b := by
  rcases Classical.em (a < b) with h1 | h1
  · exact h1
  exact absurd (mq4 h1 h) hne
theorem ascTo.next {l0 : List Str} {k : Nat} (h : ascTo l0 k) (h0 : 1 ≤ k) (hk : k < l0.length) (hs : srtTo l0 l0.length) (hne : ¬ wat l0 k = wat l0 (k - 1)) : ascTo l0 (k + 1) := by
  intro p q h1 h2
  by_cases hq : q = k
  · subst hq
    have h3 : wat l0 (q - 1) < wat l0 q := qq1 (hs _ _ (by omega) hk) (fun e => hne e.symm)
    by_cases hp : p = q - 1
    · subst hp; exact h3
    exact List.lt_trans (h p (q - 1) (by omega) (by omega)) h3
  exact h p q h1 (by omega)
structure CptOK (l0 : List Str) (b0 k j : Nat) (l : List Str) : Prop where
  len : l.length = l0.length
  j1 : 1 ≤ j
  jn : b0 + j ≤ l0.length
  k1 : 1 ≤ k
  kj : k < b0 + j
  asc : ascTo l k
  rest : ∀ q, b0 + j ≤ q + 1 → wat l q = wat l0 q
  mem : ∀ s, (∃ p, p < k ∧ wat l p = s) ↔ (∃ p, p < b0 + j ∧ wat l0 p = s)
  last : wat l (k - 1) = wat l0 (b0 + j - 1)
theorem CptOK.start {l0 : List Str} {k : Nat} (h : ascTo l0 k) (h0 : 1 ≤ k) (hk : k < l0.length) (he : wat l0 k = wat l0 (k - 1)) : CptOK l0 k k 1 l0 := by
  refine ⟨rfl, by omega, by omega, h0, by omega, h, fun _ _ => rfl, fun s => ⟨?_, ?_⟩, by rw [Nat.add_sub_cancel]; exact he.symm⟩
  · rintro ⟨p, h1, h2⟩; exact ⟨p, by omega, h2⟩
  rintro ⟨p, h1, h2⟩
  by_cases hp : p = k
  · subst hp; exact ⟨p - 1, by omega, by rw [← he]; exact h2⟩
  exact ⟨p, by omega, h2⟩
theorem CptOK.ne {l0 l : List Str} {b0 k j : Nat} (h : CptOK l0 b0 k j l) (hs : srtTo l0 l0.length) (hj : b0 + j < l0.length) (hne : ¬ wat l (b0 + j) = wat l (b0 + j - 1)) : CptOK l0 b0 (k + 1) (j + 1) (l.set k (wat l (b0 + j))) := by
  have hj1 := h.j1; have h1 := h.rest (b0 + j) (by omega); have h2 := h.rest (b0 + j - 1) (by omega); have hkj := h.kj; have hk1 := h.k1; have hkl : k < l.length := by rw [h.len]; omega
  have hat : ∀ p, wat (l.set k (wat l (b0 + j))) p = if k = p then wat l (b0 + j) else wat l p := fun p => hq6 hkl
  have hlt : wat l (k - 1) < wat l (b0 + j) := by
    rw [h.last, h1]; refine qq1 (hs _ _ (by omega) hj) (fun e => hne ?_); rw [h1, h2]; exact e.symm
  refine ⟨by rw [List.length_set]; exact h.len, by omega, by omega, by omega, by omega, fun p q h3 h4 => ?_, fun q hq => ?_, fun s => ?_, ?_⟩
  · rw [hat, hat, if_neg (by omega)]
    by_cases hq : k = q
    · rw [if_pos hq]
      by_cases hp : p = k - 1
      · subst hp; exact hlt
      exact List.lt_trans (h.asc p (k - 1) (by omega) (by omega)) hlt
    rw [if_neg hq]; exact h.asc p q h3 (by omega)
  · rw [hat, if_neg (by omega)]; exact h.rest q (by omega)
  · constructor
    · rintro ⟨p, h3, h4⟩
      rw [hat] at h4
      by_cases hp : k = p
      · rw [if_pos hp] at h4
        exact ⟨b0 + j, by omega, by rw [← h1]; exact h4⟩
      rw [if_neg hp] at h4; obtain ⟨q, h5, h6⟩ := (h.mem s).1 ⟨p, by omega, h4⟩; exact ⟨q, by omega, h6⟩
    rintro ⟨p, h3, h4⟩
    by_cases hp : p = b0 + j
    · subst hp
      exact ⟨k, by omega, by rw [hat, if_pos rfl, h1]; exact h4⟩
    obtain ⟨q, h5, h6⟩ := (h.mem s).2 ⟨p, by omega, h4⟩; exact ⟨q, by omega, by rw [hat, if_neg (by omega)]; exact h6⟩
  rw [hat, if_pos (by omega), h1, show b0 + (j + 1) - 1 = b0 + j by omega]
theorem mz0 {l : List Str} {s : Str} : s ∈ l ↔ ∃ p, p < l.length ∧ wat l p = s := by
  constructor
  · intro h
    obtain ⟨i, hi, rfl⟩ := List.getElem_of_mem h; exact ⟨i, hi, t5 hi⟩
  rintro ⟨p, hp, rfl⟩; unfold wat; exact n0 hp
theorem sx7 {l : List Str} (h : ascTo l l.length) : l.Pairwise (· < ·) := by
  rw [List.pairwise_iff_getElem]; intro i j hi hj hij; have := h i j hij hj; unfold wat at this; rw [t5 hi, t5 hj] at this; exact this
abbrev DedW (l0 r : List Str) : Prop := r.Pairwise (· < ·) ∧ ∀ s, s ∈ r ↔ s ∈ l0
theorem uE {l : List Str} {k p : Nat} (hp : p < k) (hk : k ≤ l.length) : wat (l.take k) p = wat l p := by
  unfold wat; rw [List.getD_eq_getElem?_getD, List.getD_eq_getElem?_getD, List.getElem?_take, if_pos hp]
theorem CptOK.done {l0 l : List Str} {b0 k j : Nat} (h : CptOK l0 b0 k j l) (hj : l0.length ≤ b0 + j) : DedW l0 (l.take k) := by
  have h1 := h.jn; have h2 := h.kj; have hlen : (l.take k).length = k := by rw [List.length_take, h.len]; omega
  have hkl : k ≤ l.length := by rw [h.len]; omega
  refine ⟨sx7 fun p q h3 h4 => ?_, fun s => ?_⟩
  · rw [hlen] at h4
    rw [uE (by omega) hkl, uE h4 hkl]; exact h.asc p q h3 h4
  rw [mz0, mz0, hlen]
  constructor
  · rintro ⟨p, h3, h4⟩
    rw [uE h3 hkl] at h4; obtain ⟨q, h5, h6⟩ := (h.mem s).1 ⟨p, h3, h4⟩; exact ⟨q, by omega, h6⟩
  rintro ⟨p, h3, h4⟩; obtain ⟨q, h5, h6⟩ := (h.mem s).2 ⟨p, by omega, h4⟩; exact ⟨q, h5, by rw [uE h5 hkl]; exact h6⟩
end Go.Proofs.YtdlbbfcfahahdaaGreat
end
section
namespace Go.Proofs.YtdlbbfcfahahdaaGreat
open Go Go.W
set_option maxRecDepth 20000
attribute [local irreducible] HL HC HQ HB Row Rows2 Blk Facts
def compareE (a b : Tr) : List Cl × Int := if ¬ checkT a = 0 then ([], checkT a) else if ¬ checkT b = 0 then ([], checkT b) else (compareT a b, 0)
end Go.Proofs.YtdlbbfcfahahdaaGreat
end
section
namespace Go.Proofs.YtdlbbfcfahahdaaGreat
open Go Go.W
set_option maxRecDepth 20000
attribute [local irreducible] HL HC HQ HB Row Rows2 Blk Facts
theorem mt_art (v : Value) (w : World) : (method (Tryz.prog.types.size + Made.depth) T.rB v "wayzgoose/trade.next").run Tryz.prog w = .ok (F.K0, v) w := by kernel_rfl
theorem mt_ptr (v : Value) (w : World) : (method (Tryz.prog.types.size + Made.depth) T.rA v "wayzgoose/trade.next").run Tryz.prog w = .ok (F.J9, v) w := by kernel_rfl
theorem mt_idx (v : Value) (w : World) : (method (Tryz.prog.types.size + Made.depth) T.zF v "wayzgoose/trade.next").run Tryz.prog w = .ok (F.M6, v) w := by kernel_rfl
def nextL (h : Hd) : List Int := if ¬ h.2.2.1 = -1 then [h.2.2.1] else h.2.2.2.l
abbrev SetIs (m : Nat) (p : Nat → Bool) : Prop := m < 256 ∧ ∀ j, m.testBit j = p j
theorem SetIs.add {m e : Nat} {p q : Nat → Bool} (h : SetIs m p) (he : e < 8) (hq : ∀ j, q j = (p j || decide (e = j))) : SetIs (m ||| 2 ^ e) q := ⟨Nat.or_lt_two_pow (n := 8) h.1 (Nat.pow_lt_pow_right (by omega) he), fun j => by rw [Nat.testBit_or, Nat.testBit_two_pow, h.2 j, hq j]⟩
theorem SetIs.same {m : Nat} {p q : Nat → Bool} (h : SetIs m p) (hq : ∀ j, q j = p j) : SetIs m q := ⟨h.1, fun j => by rw [h.2 j, hq j]⟩
theorem SetIs.or {m n : Nat} {p q : Nat → Bool} (h : SetIs m p) (h2 : SetIs n q) : SetIs (m ||| n) (fun j => p j || q j) := ⟨Nat.or_lt_two_pow (n := 8) h.1 h2.1, fun j => by rw [Nat.testBit_or, h.2 j, h2.2 j]⟩
theorem next_in {cs : List Cl} {hs : List Hd} (hok : TrOK (trOf cs hs)) {i : Nat} (hi : i < hs.length) : ∀ x ∈ nextL (hs.getD i default), 0 ≤ x ∧ x < (hs.length : Int) := by
  have hh := hok.h i (by rw [E4]; exact hi); have e : (trOf cs hs).hs.getD i default = (hs.getD i default).p := dX hi; have hS := hh.s; have ha := hh.a; rw [e, E4] at hS ha; intro x hx; unfold nextL at hx
  split at hx
  · rename_i h1
    rw [List.mem_singleton] at hx; subst hx; simp only [Hd.p] at hS
    omega
  obtain ⟨k, hk, rfl⟩ := List.getElem_of_mem hx; have := kS (ha k hk); simp only [Hd.p] at this; rw [t5 hk] at this
  omega
theorem kj1 {cs : List Cl} {hs : List Hd} (hok : TrOK (trOf cs hs)) {i : Nat} (hi : i < hs.length) (k : Nat) : nextB (trOf cs hs) i k = decide ((k : Int) ∈ nextL (hs.getD i default)) := by
  have hh := hok.h i (by rw [E4]; exact hi); have e : (trOf cs hs).hs.getD i default = (hs.getD i default).p := dX hi; have hk := hh.kinds; rw [e] at hk; unfold nextB nextL; rw [e, Bool.eq_iff_iff, Bool.or_eq_true, decide_eq_true_eq, decide_eq_true_eq, decide_eq_true_eq]; generalize hs.getD i default = h at *; simp only [Hd.p] at hk ⊢
  by_cases h1 : h.2.2.1 = -1
  · rw [if_neg (fun e => e h1)]
    exact ⟨fun e => e.elim (fun e => by omega) id, .inr⟩
  rw [if_pos h1]
  have h2 : h.2.2.2.l = [] := by
    rcases hk with ⟨_, _, h2⟩ | ⟨h2, _⟩ | ⟨h2, _⟩
    · exact h2
    · exact absurd h2 h1
    exact absurd h2 h1
  rw [h2, List.mem_singleton]; exact ⟨fun e => e.elim (fun e => e.symm) (fun e => by cases e), fun e => .inl e.symm⟩
theorem dK (c : Int) (al : Sl Int) : Meets Tryz.prog F.K0 [.agg #[int c, .slice al.a al.l.length al.c]] { val := fun _ : Unit => .slice al.a al.l.length al.c } := by
 refine i9 F.mP rfl t4 fun w0 => ?_; refine i5 ?_; refine C0 rfl rfl fun gB => ?_; refine b8 rfl (j8 ?_); refine a8 ⟨_, 1, none⟩ rfl rfl T.tF rfl (c9 rfl T.m8 rfl (l9 mB rfl) ?_); refine b8 rfl (d6 (j5 ?_)); exact ret1 () rfl rfl rfl trivial nil_sb trivial
theorem jF (al : Sl Int) : Meets Tryz.prog F.M6 [.agg #[.slice al.a al.l.length al.c]] { val := fun _ : Unit => .slice al.a al.l.length al.c } := by
 refine i9 F.rQ rfl t4 fun w0 => ?_; refine i5 ?_; refine C0 rfl rfl fun gB => ?_; refine b8 rfl (j8 ?_); refine a8 ⟨_, 0, none⟩ rfl rfl T.yG rfl (c9 rfl T.m8 rfl (l9 mB rfl) ?_); refine b8 rfl (d6 (j5 ?_)); exact ret1 () rfl rfl rfl trivial nil_sb trivial
theorem dF (s : Int) : Meets Tryz.prog F.J9 [.agg #[int s]] { val := fun x : OutC => .slice x.1 1 x.2, LO := fun x => [Row x.1 (rows [s])] } := by
 refine i9 F.mI rfl t4 fun w0 => ?_; refine i5 ?_; refine C0 rfl rfl fun gB => ?_; refine b8 rfl (j8 ?_); refine a8 ⟨_, 0, none⟩ rfl rfl T.tE rfl (c9 rfl T.i7 rfl (l9 mB rfl) ?_); refine l6 _ rfl rfl (fun _ => T.H1 ..) fun gS => ?_; refine b8 rfl (d6 (j5 ?_)); refine C3 (rows [s]) (List.prefix_refl _) ?_; exact ret1 (some ⟨gS, 0, none⟩, 1) rfl rfl rfl trivial nil_sb ⟨m0, trivial⟩
section
variable {c : Cx} {Q : Exit → Act → World → Prop} {fr : Fr} {hp : Hp} {L : List Fact} {ops : Array Oper} {rest : List Oper} {d : Tmp} {ty : TypeId} {pos : String} {af : Array Edge}
theorem r_next {x : Operand} {ats : Array TypeId} {h : Hd} (hd : Nat.blt d c.n = true) (hP : c.P = Tryz.prog) (hx : ev fr x = some (kindOf h).v) (hL : Hd.row h ∈ L)
    (k : ∀ o : OutC, HL c ops Q rest ((d, .slice o.1 (nextL h).length o.2) :: fr) hp (Row o.1 (rows (nextL h)) :: L)) : HL c ops Q (⟨some d, .call ⟨.invoke x "wayzgoose/trade.next", #[], ats⟩, ty, pos, af, none⟩ :: rest) fr hp L := by
  unfold kindOf at hx; unfold nextL at k
  by_cases h1 : ¬ h.2.2.1 = -1
  · rw [if_pos h1] at hx
    simp only [if_pos h1] at k; have hm := dF h.2.2.1; rw [← hP] at hm; refine bH (f := F.J9) (hpR := hp) (by rw [hP]; exact F.lK) hd hx (by rw [hP]; exact mt_ptr _) hm l7 trivial fun o _ => ?_; exact k o
  rw [if_neg h1] at hx; simp only [if_neg h1] at k; have k2 : HL c ops Q rest ((d, .slice h.2.2.2.a h.2.2.2.l.length h.2.2.2.c) :: fr) hp L := hl_dup hL (k (h.2.2.2.a, h.2.2.2.c))
  by_cases h2 : ¬ h.2.1 = -1
  · rw [if_pos h2] at hx
    have hm := dK h.2.1 h.2.2.2; rw [← hP] at hm; exact bH (f := F.K0) (hpR := hp) (by rw [hP]; exact F.lO) hd hx (by rw [hP]; exact mt_art _) hm l7 trivial fun _ _ => k2
  rw [if_neg h2] at hx; have hm := jF h.2.2.2; rw [← hP] at hm; exact bH (f := F.M6) (hpR := hp) (by rw [hP]; exact F.qL) hd hx (by rw [hP]; exact mt_idx _) hm l7 trivial fun _ _ => k2
end
end Go.Proofs.YtdlbbfcfahahdaaGreat
end
section
namespace Go.Proofs.YtdlbbfcfahahdaaGreat
open Go Go.W
set_option maxRecDepth 20000
attribute [local irreducible] HL HC HQ HB Row Rows2 Blk Facts
theorem jq0 {l : List Int} (h : ∀ k, k < l.length → 0 ≤ l.getD k default ∧ (0 < k → l.getD (k - 1) default < l.getD k default)) : ∀ k : Nat, k < l.length → (k : Int) ≤ l.getD k default
  | 0, hk => (h 0 hk).1
  | k + 1, hk => by
    have h1 := jq0 h k (by omega); have h2 := (h (k + 1) hk).2 (by omega); rw [Nat.add_sub_cancel] at h2
    omega
theorem rq0 {cs : List Cl} {hs : List Hd} (hok : TrOK (trOf cs hs)) {i : Nat} (hi : i < hs.length) : (nextL (hs.getD i default)).length ≤ 6 := by
  have h6h := hok.h6; rw [E4] at h6h; have hh := hok.h i (by rw [E4]; exact hi); have e : (trOf cs hs).hs.getD i default = (hs.getD i default).p := dX hi; have ha := hh.a; rw [e, E4] at ha; unfold nextL
  split
  · simp
  generalize hl : (hs.getD i default).2.2.2.l = l; have ha2 : ∀ k, k < l.length → alsoErr hs.length i l k = 0 := by rw [← hl]; exact ha
  have hg := jq0 (l := l) fun k hk => ⟨(kS (ha2 k hk)).1, (kS (ha2 k hk)).2.2.2⟩
  by_cases h0 : l.length = 0
  · omega
  have h1 := hg (l.length - 1) (by omega); have h2 := (kS (ha2 (l.length - 1) (by omega))).2.1
  omega
theorem rz5 {l : List Nat} {k j v : Nat} (hk : k < l.length) : (l.set k v).getD j default = if k = j then v else l.getD j default := by
  rw [List.getD_eq_getElem?_getD, List.getD_eq_getElem?_getD, List.getElem?_set]
  split
  · rfl
  rfl
structure NetK (t : Tr) (k : Nat) (ns : List Nat) : Prop where
  len : ns.length = 6
  is : ∀ i, SetIs (ns.getD i default) (fun x => decide (i < k) && nextB t i x)
structure NetJ (t : Tr) (k : Nat) (l : List Int) (ns : List Nat) : Prop where
  len : ns.length = 6
  is : ∀ i, SetIs (ns.getD i default) (fun x => if i = k then decide ((x : Int) ∈ l) else decide (i < k) && nextB t i x)
theorem NetK.zero (t : Tr) : NetK t 0 (List.replicate 6 0) := ⟨rfl, fun i => by
  have e : (List.replicate 6 0).getD i (default : Nat) = 0 := by
    rw [List.getD_eq_getElem?_getD, List.getElem?_replicate]
    split <;> rfl
  rw [e]
  exact ⟨by decide, fun j => by simp⟩⟩
theorem NetK.start {t : Tr} {k : Nat} {ns : List Nat} (h : NetK t k ns) : NetJ t k [] ns := ⟨h.len, fun i => (h.is i).same fun j => by
  by_cases hi : i = k
  · rw [if_pos hi]; subst hi; simp
  rw [if_neg hi]⟩
theorem NetJ.add {t : Tr} {k e : Nat} {l : List Int} {ns : List Nat} (h : NetJ t k l ns) (hk : k < 6) (he : e < 8) : NetJ t k (l ++ [(e : Int)]) (ns.set k (ns.getD k default ||| 2 ^ e)) := ⟨by rw [List.length_set]; exact h.len, fun i => by
  rw [rz5 (by rw [h.len]; exact hk)]
  by_cases hi : k = i
  · subst hi
    rw [if_pos rfl]; refine (h.is k).add he fun j => ?_; rw [if_pos rfl, if_pos rfl, ← Bool.decide_or]; refine decide_eq_decide.2 ?_; rw [List.mem_append, List.mem_singleton]; exact or_congr_right ⟨fun e => by omega, fun e => by omega⟩
  rw [if_neg hi]
  exact (h.is i).same fun j => by rw [if_neg (fun e => hi e.symm), if_neg (fun e => hi e.symm)]⟩
theorem NetJ.done {cs : List Cl} {hs : List Hd} {k : Nat} {ns : List Nat} (hok : TrOK (trOf cs hs)) (hk : k < hs.length) (h : NetJ (trOf cs hs) k (nextL (hs.getD k default)) ns) : NetK (trOf cs hs) (k + 1) ns := ⟨h.len, fun i => (h.is i).same fun j => by
  by_cases hi : i = k
  · subst hi
    rw [if_pos rfl, kj1 hok hk]
    simp
  rw [if_neg hi]; have e : decide (i < k + 1) = decide (i < k) := decide_eq_decide.2 (by omega)
  rw [e]⟩
end Go.Proofs.YtdlbbfcfahahdaaGreat
end
section
namespace Go.Proofs.YtdlbbfcfahahdaaGreat
open Go Go.W
set_option maxRecDepth 20000
attribute [local irreducible] HL HC HQ HB Row Rows2 Blk Facts
theorem kD {f : Nat → Int} : ∀ {n : Nat}, (∀ i, i < n → f i = 0) → firstE f n = 0
  | 0, _ => rfl
  | n + 1, h => by rw [firstE, if_pos (kD fun i hi => h i (by omega))]; exact h n (by omega)
def sortN (names : List Int) (i : Nat) : Str := sortsL.getD (names.getD i default).toNat default
def callN (words : List Int) (i : Nat) : Str := callingsL.getD (words.getD i default).toNat default
theorem lj2 : ∀ k, k < 9 → wordB (sortsL.getD k default) = true := by decide
theorem mj0 : ∀ k, k < 16 → wordB (callingsL.getD k default) = true := by decide
theorem nx7 : ∀ a, a < 9 → ∀ b, b < 9 → sortsL.getD a default = sortsL.getD b default → a = b := by decide
theorem pz3 : ∀ b, b < 16 → ∀ a, a < b → callingsL.getD a default < callingsL.getD b default := by decide
theorem lj5 {names : List Int} {n i : Nat} (hP : names.Perm (rngI n)) (hi : i < n) : 0 ≤ names.getD i default ∧ names.getD i default < (n : Int) := by
  have hl : names.length = n := by rw [hP.length_eq, pT]
  have hm : names.getD i default ∈ rngI n := hP.mem_iff.1 (n0 (by omega)); obtain ⟨k, hk, e⟩ := List.mem_map.1 hm; have := List.mem_range.1 hk
  omega
theorem rng_inj {names : List Int} {n i j : Nat} (hP : names.Perm (rngI n)) (hi : i < n) (hj : j < i) : ¬ names.getD j default = names.getD i default := by
  have hl : names.length = n := by rw [hP.length_eq, pT]
  have hnd : names.Nodup := hP.nodup_iff.2 (by
    unfold rngI; rw [List.nodup_iff_pairwise_ne, List.pairwise_map]
    exact List.pairwise_lt_range.imp fun h => by omega)
  rw [t5 (show j < names.length by omega), t5 (show i < names.length by omega)]; intro e; have := (List.getElem_inj hnd).1 e
  omega
def ClsMade (names : List Int) (cs : List Cl) : Prop := ∀ i, i < cs.length → (cs.getD i default).1 = sortN names i ∧ -1 ≤ (cs.getD i default).2 ∧ (cs.getD i default).2 < (i : Int)
theorem ClsMade.snoc {names : List Int} {cs : List Cl} (h : ClsMade names cs) {u : Int} (h1 : -1 ≤ u) (h2 : u < (cs.length : Int)) : ClsMade names (cs ++ [(sortN names cs.length, u)]) := by
  intro i hi; rw [List.length_append, List.length_singleton] at hi; rw [t5 (by simp; omega)]
  by_cases e : i < cs.length
  · rw [List.getElem_append_left e, ← t5 e]
    exact h i e
  obtain rfl : i = cs.length := by omega
  rw [List.getElem_append_right (by omega)]; simp only [Nat.sub_self, List.getElem_cons_zero]; exact ⟨trivial, h1, h2⟩
theorem cls_all {names : List Int} {cs : List Cl} (hP : names.Perm (rngI 9)) (h : ClsMade names cs) (h6 : cs.length ≤ 6) (i : Nat) (hi : i < cs.length) : clsErr cs i = 0 := by
  obtain ⟨e1, e2, e3⟩ := h i hi; have hr := lj5 hP (show i < 9 by omega); unfold clsErr; rw [if_neg, if_neg, if_neg (by omega), if_neg (by omega)]
  · intro hm
    obtain ⟨x, hx, ex⟩ := List.mem_map.1 hm; obtain ⟨j, hj, rfl⟩ := List.getElem_of_mem hx; rw [List.length_take] at hj; have hj2 : j < i := by omega
    rw [List.getElem_take, ← t5 (show j < cs.length by omega), (h j (by omega)).1, e1] at ex; have hrj := lj5 hP (show j < 9 by omega); have := nx7 _ (by omega) _ (by omega) ex; exact rng_inj hP (show i < 9 by omega) hj2 (by omega)
  rw [e1]; have := lj2 (names.getD i default).toNat (by omega); unfold sortN; rw [this]
  decide
def HdMade (nc n i : Nat) (h : Hd) : Prop := (∀ k, k < h.2.2.2.l.length → alsoErr n i h.2.2.2.l k = 0) ∧ ((0 ≤ h.2.2.1 ∧ h.2.2.1 < (n : Int) ∧ ¬ h.2.2.1 = (i : Int) ∧ h.2.1 = -1 ∧ h.2.2.2.l = []) ∨ (h.2.2.1 = -1 ∧ 0 ≤ h.2.1 ∧ h.2.1 < (nc : Int)) ∨ (h.2.2.1 = -1 ∧ h.2.1 = -1 ∧ h.2.2.2.l ≠ []))
def HsMade (words : List Int) (nc n : Nat) (hs : List Hd) : Prop := ∀ i, i < hs.length → (hs.getD i default).1 = callN words i ∧ HdMade nc n i (hs.getD i default)
theorem HsMade.snoc {words : List Int} {nc n : Nat} {hs : List Hd} (h : HsMade words nc n hs) {x : Hd} (h1 : x.1 = callN words hs.length) (h2 : HdMade nc n hs.length x) : HsMade words nc n (hs ++ [x]) := by
  intro i hi; rw [List.length_append, List.length_singleton] at hi; rw [t5 (by simp; omega)]
  by_cases e : i < hs.length
  · rw [List.getElem_append_left e, ← t5 e]
    exact h i e
  obtain rfl : i = hs.length := by omega
  rw [List.getElem_append_right (by omega)]; simp only [Nat.sub_self, List.getElem_cons_zero]; exact ⟨h1, h2⟩
theorem mj6 {l : List Int} (h : l.Pairwise (· < ·)) {j i : Nat} (hji : j < i) (hi : i < l.length) : l.getD j default < l.getD i default := by
  rw [t5 (show j < l.length by omega), t5 hi]; exact (List.pairwise_iff_getElem.1 h) j i (by omega) hi hji
theorem kx1 {words : List Int} (h : words.Pairwise (· < ·)) (h2 : ∀ v ∈ words, 0 ≤ v ∧ v < 16) {j i : Nat} (hji : j < i) (hi : i < words.length) : callN words j < callN words i := by
  have h3 := mj6 h hji hi; have h4 := h2 _ (n0 (show j < words.length by omega)); have h5 := h2 _ (n0 hi); exact pz3 _ (by omega) _ (by omega)
theorem pj9 {n nc i : Nat} {h : Hd} (e : (0 ≤ h.2.2.1 ∧ h.2.2.1 < (n : Int) ∧ ¬ h.2.2.1 = (i : Int) ∧ h.2.1 = -1 ∧ h.2.2.2.l = []) ∨ (h.2.2.1 = -1 ∧ 0 ≤ h.2.1 ∧ h.2.1 < (nc : Int)) ∨ (h.2.2.1 = -1 ∧ h.2.1 = -1 ∧ h.2.2.2.l ≠ [])) : kindBad h.p = false := by
  have e1 : h.p.2.2.1 = h.2.2.1 := rfl; have e2 : h.p.2.1 = h.2.1 := rfl; have e3 : h.p.2.2.2 = h.2.2.2.l := rfl; unfold kindBad; rw [e1, e2, e3]
  rcases e with ⟨h1, _, _, h2, h3⟩ | ⟨h1, h2, _⟩ | ⟨h1, h2, h3⟩
  · have h4 : ¬ h.2.2.1 = -1 := by omega
    rw [h2, h3, decide_eq_false h4]; simp
  · have h4 : ¬ h.2.1 = -1 := by omega
    rw [h1, decide_eq_false h4]; simp
  have h4 : ¬ h.2.2.2.l.length = 0 := fun e => h3 (List.eq_nil_of_length_eq_zero e); rw [h1, h2, decide_eq_false h4]; simp
theorem rx8 {words : List Int} {cs : List Cl} {hs : List Hd} {n : Nat} (hw : words.Pairwise (· < ·)) (hw2 : ∀ v ∈ words, 0 ≤ v ∧ v < 16) (hn : words.length = n) (hl : hs.length = n) (h : HsMade words cs.length n hs) (i : Nat) (hi : i < n) : headErr (trOf cs hs) i = 0 := by
  obtain ⟨e1, e2, e3⟩ := h i (by omega); have hg : ∀ j, j < n → (trOf cs hs).hs.getD j default = (hs.getD j default).p := fun j hj => dX (by omega); have hlen : (trOf cs hs).hs.length = n := by rw [E4, hl]
  have hwi := hw2 _ (n0 (show i < words.length by omega)); unfold headErr; rw [hlen, hg i hi]; rw [if_neg, if_neg, if_neg, if_neg, if_neg, if_neg, if_neg]
  · rw [pj9 e3]; decide
  · rw [Classical.not_not]
    exact kD e2
  · show ¬ (hs.getD i default).2.2.1 = (i : Int)
    rcases e3 with ⟨_, _, h1, _, _⟩ | ⟨h1, _, _⟩ | ⟨h1, _, _⟩ <;> omega
  · show ¬ ((hs.getD i default).2.1 < -1 ∨ (cs.length : Int) ≤ (hs.getD i default).2.1 ∨ (hs.getD i default).2.2.1 < -1 ∨ (n : Int) ≤ (hs.getD i default).2.2.1)
    rcases e3 with ⟨h1, h2, _, h3, _⟩ | ⟨h1, h2, h3⟩ | ⟨h1, h2, _⟩ <;> omega
  · rintro ⟨h0, hlt⟩
    rw [hg (i - 1) (by omega)] at hlt; have h1 : (hs.getD i default).1 < (hs.getD (i - 1) default).1 := hlt; rw [e1, (h (i - 1) (by omega)).1] at h1; exact ij4 _ (List.lt_trans h1 (kx1 hw hw2 (show i - 1 < i by omega) (by omega)))
  · intro hm
    obtain ⟨x, hx, ex⟩ := List.mem_map.1 hm; obtain ⟨j, hj, rfl⟩ := List.getElem_of_mem hx; rw [List.length_take, hlen] at hj; have hj2 : j < i := by omega
    rw [List.getElem_take, ← t5 (show j < (trOf cs hs).hs.length by rw [hlen]; omega), hg j (by omega)] at ex; have h1 : (hs.getD j default).1 = (hs.getD i default).1 := ex; rw [(h j (by omega)).1, e1] at h1; have h2 := kx1 hw hw2 hj2 (by omega); rw [h1] at h2; exact ij4 _ h2
  show ¬ wordB (hs.getD i default).1 = false; rw [e1]; have := mj0 (words.getD i default).toNat (by omega); unfold callN; rw [this]
  decide
theorem made_ok {names words : List Int} {cs : List Cl} {hs : List Hd} (hP : names.Perm (rngI 9)) (hC : ClsMade names cs) (h6 : cs.length ≤ 6) (hw : words.Pairwise (· < ·)) (hw2 : ∀ v ∈ words, 0 ≤ v ∧ v < 16) (hl : hs.length = words.length) (hn : words.length ≤ 6) (h : HsMade words cs.length words.length hs) : checkT (trOf cs hs) = 0 := by
  unfold checkT; have hlen : (trOf cs hs).hs.length = words.length := by rw [E4, hl]
  have h1 : firstE (clsErr cs) cs.length = 0 := kD fun i hi => cls_all hP hC h6 i hi; have h2 : firstE (headErr (trOf cs hs)) words.length = 0 := kD fun i hi => rx8 hw hw2 rfl hl h i hi; rw [hlen, if_neg (by show ¬ (6 < cs.length ∨ 6 < words.length); omega), if_neg (by rw [Classical.not_not]; exact h1)]; exact h2
def AscB (i k : Nat) (l : List Int) : Prop := l.Pairwise (· < ·) ∧ ∀ x ∈ l, 0 ≤ x ∧ x < (k : Int) ∧ ¬ x = (i : Int)
theorem AscB.step {i k : Nat} {l : List Int} (h : AscB i k l) : AscB i (k + 1) l := ⟨h.1, fun x hx => by have := h.2 x hx; omega⟩
theorem AscB.snoc {i k : Nat} {l : List Int} (h : AscB i k l) (hk : ¬ k = i) : AscB i (k + 1) (l ++ [(k : Int)]) := by
  refine ⟨List.pairwise_append.2 ⟨h.1, by simp, fun a ha b hb => ?_⟩, fun x hx => ?_⟩
  · rw [List.mem_singleton] at hb; have := (h.2 a ha).2.1; omega
  rcases List.mem_append.1 hx with hx | hx
  · have := h.2 x hx; omega
  rw [List.mem_singleton] at hx; omega
theorem AscB.err {i n : Nat} {l : List Int} (h : AscB i n l) (k : Nat) (hk : k < l.length) : alsoErr n i l k = 0 := by
  have h1 := h.2 _ (n0 hk); unfold alsoErr; rw [if_neg (by omega), if_neg h1.2.2, if_neg]; rintro ⟨h0, h2⟩; have := mj6 h.1 (show k - 1 < k by omega) hk
  omega
theorem AscB.len {i n : Nat} {l : List Int} (h : AscB i n l) : l.length ≤ n := by
  have hg := jq0 (l := l) fun k hk => ⟨(h.2 _ (n0 hk)).1, fun h0 => mj6 h.1 (show k - 1 < k by omega) hk⟩
  by_cases h0 : l.length = 0
  · omega
  have h1 := hg (l.length - 1) (by omega); have h2 := (h.2 _ (n0 (show l.length - 1 < l.length by omega))).2.1
  omega
theorem past {n i : Nat} {v : Int} (hi : i < n) (h0 : 0 ≤ v) (h1 : v ≤ (n : Int) - 2) : 0 ≤ (((i : Int) + 1 + v).tmod n) ∧ (((i : Int) + 1 + v).tmod n) < (n : Int) ∧ ¬ (((i : Int) + 1 + v).tmod n) = (i : Int) := by
  rw [Int.tmod_eq_emod_of_nonneg (by omega)]
  by_cases h : (i : Int) + 1 + v < (n : Int)
  · rw [Int.emod_eq_of_lt (by omega) h]; omega
  have e : ((i : Int) + 1 + v) % (n : Int) = (i : Int) + 1 + v - n := by
    rw [← Int.sub_emod_right]; exact Int.emod_eq_of_lt (by omega) (by omega)
  rw [e]; omega
end Go.Proofs.YtdlbbfcfahahdaaGreat
end
section
namespace Go.Proofs.YtdlbbfcfahahdaaGreat
open Go Go.W
set_option maxRecDepth 20000
attribute [local irreducible] HL HC HQ HB Row Rows2 Blk Facts
abbrev trB (g : Nat) (A : Option Addr) (n c : Nat) (B : Option Addr) (m k : Nat) : Nat × Obj := (g, .cells #[.slice A n c, .slice B m k] T.k7 (0, 0))
abbrev hdB (g : Nat) (w : Str) (cl se : Int) (A : Option Addr) (n c : Nat) : Nat × Obj := (g, .cells #[str w, int cl, int se, .slice A n c] T.C5 (0, 0))
abbrev TRes := List Cl × List Hd × OutC × OutC
structure TOf (m1 m2 : Nat) (x : TRes) : Prop where
  ok : checkT (trOf x.1 x.2.1) = 0
  c1 : 1 ≤ x.1.length
  c2 : x.1.length ≤ m1
  h2 : x.2.1.length ≤ m2
  ca : x.1.length ≤ x.2.2.1.2
  cb : x.2.1.length ≤ x.2.2.2.2
  ha : ∀ h ∈ x.2.1, h.2.2.2.l.length ≤ 1000000
theorem hs_ha {words : List Int} {nc n : Nat} {hs : List Hd} (hn : n ≤ 6) (h : HsMade words nc n hs) : ∀ x ∈ hs, x.2.2.2.l.length ≤ 1000000 := by
  intro x hx; obtain ⟨i, hi, rfl⟩ := List.getElem_of_mem hx; have ha := (h i hi).2.1; rw [t5 hi] at ha; have hg := jq0 (l := hs[i].2.2.2.l) fun k hk => ⟨(kS (ha k hk)).1, (kS (ha k hk)).2.2.2⟩
  by_cases h0 : hs[i].2.2.2.l.length = 0
  · omega
  have h1 := hg (hs[i].2.2.2.l.length - 1) (by omega); have h2 := (kS (ha (hs[i].2.2.2.l.length - 1) (by omega))).2.1
  omega
set_option maxHeartbeats 2000000 in
theorem sX {g : Nat} {A : Option Addr} {c : Nat} {nums : List Int} {s : Int × Int} (m1 m2 : Nat) (hn : nums.length ≤ 9223372036854775807) (hs : DOK nums s) (h1 : 2 ≤ m1 ∧ m1 ≤ 6) (h2 : m2 ≤ 6) :
    Meets Tryz.prog F.jW [.pointer (b4 g), int m1, int m2] (diceCon g A c nums s (TOf m1 m2) (fun x => .agg #[.slice x.2.2.1.1 x.1.length x.2.2.1.2, .slice x.2.2.2.1 x.2.1.length x.2.2.2.2]) (fun x => [Row x.2.2.1.1 (rows x.1), RowsF x.2.2.2.1 x.2.1 Hd.row])) := by
 refine i9 F.cj3 rfl t4 fun w0 => ?_; refine i5 ?_; refine B6 rfl (fun _ => T.O7 _) fun g6 => ?_; refine j8 ?_; refine B6 rfl (fun _ => T.O7 _) fun g7 => ?_; refine d6 (d7 ?_); refine dA (List.perm_append_comm (l₁ := [trB g7 none 0 0 none 0 0, trB g6 none 0 0 none 0 0]) (l₂ := [dice g A c nums s])) ?_; refine d9 (a9 rfl ?_); refine j0 F.vR rfl rfl (lC) l7 trivial fun gs _ => ?_; refine j3 rfl T.hq8 rfl ?_; refine j0 F.cZ rfl rfl (Z2 9 hn hs (by decide)) l7 mC fun x hx => ?_; obtain ⟨s1, no⟩ := x; obtain ⟨hs1, hno⟩ := hx; simp only at hs1; obtain ⟨names, nA, nC⟩ := no; obtain ⟨hP, hnc⟩ := hno; simp only at hP hnc; have hnl : names.length = 9 := by rw [hP.length_eq, pT]
 refine b8 rfl (d6 (d7 (i5 (a9 rfl (a9 rfl ?_))))); refine j0 F.iN rfl rfl (aR 1 (m1 : Int) hn hs1 (by omega)) l7 mC fun x hx => ?_; obtain ⟨s2, z⟩ := x; obtain ⟨hs2, hz⟩ := hx; simp only at hs2; simp only [FromInv] at hz; have hz2 : 1 ≤ z ∧ z ≤ m1 := ⟨hz.1, by by_cases h1 : (1 : Int) < m1; exact hz.2.1 h1; have := hz.2.2 (by omega); omega⟩; obtain ⟨zn, rfl⟩ := Int.eq_ofNat_of_zero_le (show 0 ≤ z by omega); refine b8 rfl (d6 (i8 ?_)); refine p9 (β := Nat × List Cl × OutC × Hp × (Int × Int)) ⟨fun x => x.2.1.length + x.1 = zn ∧ ClsMade names x.2.1 ∧ Grow T.Y7 2 x.2.2.1.1 x.2.1.length x.2.2.1.2 (rows x.2.1) x.2.2.2.1 ∧ DOK nums x.2.2.2.2, fun x => [(0, .pointer (b4 g)), (2, int m2), (6, .pointer (b4 g6)), (7, .pointer (b4 g7)), (8, .slice nA names.length nC), (9, int x.1)], fun x => dice g A c nums x.2.2.2.2 :: trB g7 x.2.2.1.1 x.2.1.length x.2.2.1.2 none 0 0 :: trB g6 none 0 0 none 0 0 :: x.2.2.2.1, fun _ => [Row nA (rows names), Row A (rows nums)]⟩ (fun x => x.1) (zn, [], (none, 0), [], s2) ⟨Nat.zero_add _, fun i hi => by simp at hi, Grow.nil _ _, hs2⟩ mC (List.Sublist.refl _) mC fun x hx => ?_; clear hs hs1 hs2 hz; obtain ⟨r, cs, ⟨cA, cC⟩, og, s⟩ := x; obtain ⟨hr, hC, hG, hs⟩ := hx; simp only at hr hC hG hs; refine d7 (i5 (a9 rfl (H5 rfl rfl rfl (d6 ?_)))); refine m3 rfl (fun hb1 => ?_) (fun hb1 => ?_)
 ·have hb1' := hb1; try simp at hb1'
  obtain ⟨r, rfl⟩ : ∃ q, r = q + 1 := ⟨r - 1, by omega⟩; have hcl : cs.length < 6 := by omega
  have hrg := lj5 hP (show cs.length < 9 by omega); obtain ⟨nm, hnm⟩ := Int.eq_ofNat_of_zero_le hrg.1; have hnm9 : nm < 9 := by omega
  have hsn : sortsL.getD nm default = sortN names cs.length := by unfold sortN; rw [hnm, Int.toNat_natCast]
  refine i6 (d8 (d7 (i8 ?_))); refine I8 (dice g A c nums s :: og) ([trB g7 cA cs.length cC none 0 0, trB g6 none 0 0 none 0 0]) (E1 fun p => by simp only [List.countP_append, List.countP_cons, List.countP_nil]; omega) 19 [16] mixed (by decide) (by decide) (by decide) rfl rfl rfl ?_; refine i4 (fun w1 => a8 ⟨_, 0, none⟩ rfl rfl T.q8 rfl (q_z rfl)) (i4 (fun w1 => c9 rfl T.q9 rfl (j9 mB rfl) (q_z rfl)) ?_); refine E2 ⟨Nat, fun _ => True, fun g => .slice (b4 g) 9 9, fun g => [Row (b4 g) (rows sortsL)]⟩ rfl rfl rfl ?_ ?_
  ·intro w1; refine j0 F.vR rfl rfl (lC) l7 trivial fun gs2 _ => ?_; refine c8 ?_; exact w3 gs2 trivial rfl ⟨m0, trivial⟩
  refine i4 (fun w1 => a9 rfl (q_z rfl)) (i4 (fun w1 => a8 ⟨_, 0, none⟩ rfl rfl T.q8 rfl (q_z rfl)) (i4 (fun w1 => c9 rfl T.q9 rfl (j9 mB rfl) (q_z rfl)) (i4 (fun w1 => j3 rfl T.t9 rfl (q_z rfl)) (i4 (fun w1 => m7 (α := Int) names cs.length rfl T.l4 T.q7 rfl rfl rfl mB rfl (by omega) (by decide) (q_z rfl)) (i4 (fun w1 => c9 (v := int (names.getD cs.length default)) rfl T.i7 rfl (l8 mB (k6 (by omega) rfl)) (q_z rfl)) ?_))))); refine E2 ⟨Nat, fun _ => True, fun g => .pointer (some ((adr (b4 g)).add (nm * 1))), fun g => [Row (b4 g) (rows sortsL)]⟩ rfl rfl rfl ?_ ?_
  ·intro g2 _; intro w1; refine m7 (α := Str) sortsL nm rfl T.hq8 T.gq6 rfl rfl hnm mB rfl hnm9 (by decide) ?_; refine c8 ?_; exact w3 g2 trivial rfl mC
  apply q6 _ rfl rfl rfl
  ·intro g9 _; intro w1; refine c9 (v := str (sortN names cs.length)) rfl T.z6 rfl (l8 mB (by rw [← hsn]; exact k6 (show nm < 9 from hnm9) rfl)) ?_; refine c8 ?_; exact j7 rfl
  refine i4 (fun w1 => a9 rfl (q_z rfl)) (i4 (fun w1 => a8 ⟨_, 0, none⟩ rfl rfl T.q8 rfl (q_z rfl)) (i4 (fun w1 => c9 rfl T.q9 rfl (j9 mB rfl) (q_z rfl)) (i4 (fun w1 => j3 rfl T.t9 rfl (q_z rfl)) (i4 (fun w1 => K2 ((cs.length : Int) - 1) rfl rfl rfl rfl m6 (q_z rfl)) ?_)))); refine cI ⟨(Int × Int) × Int, fun x => DOK nums x.1 ∧ FromInv (-1) ((cs.length : Int) - 1) x.2, fun x => int x.2, fun _ => [], fun x => dice g A c nums x.1 :: og⟩ rfl rfl rfl ?_ ?_
  ·intro w1; refine j0 F.iN rfl rfl (aR (-1) ((cs.length : Int) - 1) hn hs (by omega)) l7 mC fun x hx => ?_; obtain ⟨s3, u⟩ := x; obtain ⟨hs3, hu⟩ := hx; simp only at hs3; refine c8 ?_; exact H6 (s3, u) ⟨hs3, hu⟩ (fun _ => rfl) (List.Sublist.refl _) trivial
  refine E2 ⟨Int, fun u => FromInv (-1) ((cs.length : Int) - 1) u, fun u => .agg #[str (sortN names cs.length), int u], fun _ => []⟩ rfl rfl rfl ?_ ?_
  ·intro x hx; intro w1; refine B5 _ rfl rfl (fun _ => T.R0 ..) ?_; refine c8 ?_; exact w3 x.2 hx.2 rfl trivial
  refine E2 ⟨Nat × Int, fun x => FromInv (-1) ((cs.length : Int) - 1) x.2, fun x => .slice (some ⟨x.1, 0, none⟩) 1 1, fun x => [Row (some ⟨x.1, 0, none⟩) (rows [(((sortN names cs.length), x.2) : Cl)])]⟩ rfl rfl rfl ?_ ?_
  ·intro u hu; intro w1; refine l6 _ rfl rfl (fun _ => T.yQ ..) fun gS => ?_; refine c8 ?_; refine C3 (rows [(((sortN names cs.length), u) : Cl)]) (List.prefix_refl _) ?_; exact w3 (gS, u) hu rfl ⟨m0, trivial⟩
  refine v9 ⟨rfl, ?_⟩; intro g2 _ g9 _ x16 h16 u17 h17 x18 h18; obtain ⟨s4, z16⟩ := x16; obtain ⟨hs4, _⟩ := h16; obtain ⟨g18, u⟩ := x18; simp only at hs4; simp only [FromInv] at h18
  have hu5 : -1 ≤ u ∧ u < (cs.length : Int) := by
    refine ⟨h18.1, ?_⟩
    by_cases h1 : (-1 : Int) < (cs.length : Int) - 1
    · have := h18.2.1 h1; omega
    have := h18.2.2 (by omega); omega
  refine G2 (hp' := [dice g A c nums s4, trB g7 cA cs.length cC none 0 0, trB g6 none 0 0 none 0 0]) (cs.length + 1) (rows (cs ++ [(((sortN names cs.length), u) : Cl)])) T.pD rfl rfl rfl hG (show List.Perm (dice g A c nums s4 :: og ++ [trB g7 cA cs.length cC none 0 0, trB g6 none 0 0 none 0 0]) (og ++ [dice g A c nums s4, trB g7 cA cs.length cC none 0 0, trB g6 none 0 0 none 0 0]) from (E1 fun p => by simp only [List.countP_append, List.countP_cons, List.countP_nil]; omega)) (Src.row (news := rows [(((sortN names cs.length), u) : Cl)]) (m := 1) mB rfl (D0 _) (by decide)) rfl (y6 _ _).symm (by unfold maxLen; omega) (by omega) fun A4 c4 og4 hG4 => ?_; refine a8 ⟨_, 0, none⟩ rfl rfl T.q8 rfl ?_; refine z8 (hp' := og4 ++ [dice g A c nums s4, trB g6 none 0 0 none 0 0]) rfl rfl (show List.Perm (og4 ++ [dice g A c nums s4, trB g7 cA cs.length cC none 0 0, trB g6 none 0 0 none 0 0]) (trB g7 cA cs.length cC none 0 0 :: (og4 ++ [dice g A c nums s4, trB g6 none 0 0 none 0 0])) from (E1 fun p => by simp only [List.countP_append, List.countP_cons, List.countP_nil]; omega)) T.mU (by rfl) (by rfl) ?_; refine c8 (t6 (d8 (d9 (a9 rfl ?_)))); refine K2 (r : Int) rfl rfl rfl (by omega) m6 ?_; refine b8 rfl (c8 ?_); have hl1 : (cs ++ [(((sortN names cs.length), u) : Cl)]).length = cs.length + 1 := by simp
  refine P4 (show List.Perm (trB g7 A4 (cs.length + 1) c4 none 0 0 :: (og4 ++ [dice g A c nums s4, trB g6 none 0 0 none 0 0])) (dice g A c nums s4 :: trB g7 A4 (cs.length + 1) c4 none 0 0 :: trB g6 none 0 0 none 0 0 :: og4) from (E1 fun p => by simp only [List.countP_append, List.countP_cons, List.countP_nil]; omega)) ?_; exact again _ (r, cs ++ [(((sortN names cs.length), u) : Cl)], (A4, c4), og4, s4) ⟨by show (cs ++ [_]).length + r = zn; rw [hl1]; omega, hC.snoc hu5.1 hu5.2, by show Grow _ _ _ (cs ++ [_]).length _ _ _; rw [hl1]; exact hG4, hs4⟩ (by show r < r + 1; omega) mC (by show List.Sublist (_ :: trB g7 A4 (cs ++ [_]).length c4 none 0 0 :: _) _; rw [hl1]; exact List.Sublist.refl _) mC
 have hb1' := hb1; try simp at hb1'
 have hr0 : r = 0 := by omega
 subst hr0; refine p8 (v8 (p7 (d8 (d7 ?_)))); refine rz2 (og ++ [dice g A c nums s, trB g7 cA cs.length cC none 0 0, trB g6 none 0 0 none 0 0]) (by intro p; simp only [List.countP_append, List.countP_cons, List.countP_nil]; omega) ?_; have hCle := hG.le; have hC1 := hC; refine wE hG ?_; clear hG; refine d9 (a9 rfl ?_); refine j0 F.lD rfl rfl (cB) l7 trivial fun gk _ => ?_; refine j3 rfl T.hq8 rfl ?_; refine a9 rfl (a9 rfl ?_); refine j0 F.D2 rfl rfl (A5 (m2 : Int) hn hs (by omega)) l7 mC fun x hx => ?_; obtain ⟨s5, z5⟩ := x; obtain ⟨hs5, hz5⟩ := hx; simp only at hs5; simp only [ToInv] at hz5; obtain ⟨zm, rfl⟩ := Int.eq_ofNat_of_zero_le hz5.1; have hzm : zm ≤ m2 := by by_cases h1 : (1 : Int) ≤ m2; have := hz5.2.1 h1; omega; have := hz5.2.2 (by omega); omega
 refine j0 F.dx9 rfl rfl (xZ 16 zm hn hs5 ⟨by decide, by omega⟩) l7 mC fun x hx => ?_; obtain ⟨s6, wo⟩ := x; obtain ⟨hs6, hwo⟩ := hx; simp only at hs6; obtain ⟨words, wA, wC⟩ := wo; obtain ⟨⟨hwp, hwi⟩, hwl, hwc⟩ := hwo; simp only at hwp hwi hwl hwc; refine b8 rfl (j8 (a9 rfl ?_)); refine j3 rfl T.l4 rfl ?_; refine b8 rfl (d6 (d7 (i5 (b8 rfl (d6 (i8 ?_)))))); have hcs1 : 1 ≤ cs.length := by omega
 have hcs6 : cs.length ≤ 6 := by omega
 have hwl6 : words.length ≤ 6 := by omega
 refine cH (Fs := ([] : List Hd).map Hd.row) (by intro F hF; simp at hF) ?_; refine p9 (β := Nat × List Hd × OutC × Hp × (Int × Int)) ⟨fun x => x.1 ≤ words.length ∧ x.2.1.length = x.1 ∧ HsMade words cs.length words.length x.2.1 ∧ Grow T.C5 4 x.2.2.1.1 x.2.1.length x.2.2.1.2 (rows x.2.1) x.2.2.2.1 ∧ DOK nums x.2.2.2.2, fun x => [(0, .pointer (b4 g)), (6, .pointer (b4 g6)), (7, .pointer (b4 g7)), (10, .slice wA words.length wC), (11, int words.length), (12, int x.1)], fun x => dice g A c nums x.2.2.2.2 :: trB g7 cA cs.length cC x.2.2.1.1 x.2.1.length x.2.2.1.2 :: trB g6 none 0 0 none 0 0 :: x.2.2.2.1, fun x => [Row wA (rows words), Row cA (rows cs), Row A (rows nums), innersF x.2.1 Hd.row]⟩ (fun x => words.length - x.1) (0, [], (none, 0), [], s6) ⟨Nat.zero_le _, rfl, fun i hi => by simp at hi, Grow.nil _ _, hs6⟩ mC (List.Sublist.refl _) mC fun x hx => ?_; clear hs hs5 hs6 hz5; obtain ⟨i, hs, ⟨hA, hC⟩, og, s⟩ := x; obtain ⟨hi, hhl, hH, hG, hD⟩ := hx; simp only at hi hhl hH hG hD; refine d7 (i5 (a9 rfl (a9 rfl (u4 rfl rfl rfl (d6 ?_))))); refine m3 rfl (fun hb2 => ?_) (fun hb2 => ?_)
 ·have hb2' := hb2; try simp at hb2'
  have hi2 : i < words.length := by omega
  have hwi2 := hwi _ (n0 hi2); obtain ⟨wm, hwm⟩ := Int.eq_ofNat_of_zero_le hwi2.1; have hwm16 : wm < 16 := by omega
  have hcn : callingsL.getD wm default = callN words i := by unfold callN; rw [hwm, Int.toNat_natCast]
  refine i6 (d8 (d7 (i8 (d7 ?_)))); refine I8 ([dice g A c nums s]) (trB g7 cA cs.length cC hA hs.length hC :: trB g6 none 0 0 none 0 0 :: og) l7 15 [12] mixed (by decide) (by decide) (by decide) rfl rfl rfl ?_; refine E2 ⟨Nat, fun _ => True, fun g => .slice (b4 g) 16 16, fun g => [Row (b4 g) (rows callingsL)]⟩ rfl rfl rfl ?_ ?_
  ·intro w1; refine j0 F.lD rfl rfl (cB) l7 trivial fun gk2 _ => ?_; refine c8 ?_; exact w3 gk2 trivial rfl ⟨m0, trivial⟩
  refine i4 (fun w1 => a9 rfl (q_z rfl)) (i4 (fun w1 => a9 rfl (q_z rfl)) (i4 (fun w1 => m7 (α := Int) words i rfl T.l4 T.q7 rfl rfl rfl (List.mem_append_right _ mB) rfl hi2 (by decide) (q_z rfl)) (i4 (fun w1 => c9 (v := int (words.getD i default)) rfl T.i7 rfl (l8 (List.mem_append_right _ mB) (k6 hi2 rfl)) (q_z rfl)) ?_))); refine E2 ⟨Nat, fun _ => True, fun g => .pointer (some ((adr (b4 g)).add (wm * 1))), fun g => [Row (b4 g) (rows callingsL)]⟩ rfl rfl rfl ?_ ?_
  ·intro g0 _; intro w1; refine m7 (α := Str) callingsL wm rfl T.hq8 T.gq6 rfl rfl hwm mB rfl hwm16 (by decide) ?_; refine c8 ?_; exact w3 g0 trivial rfl mC
  apply q6 _ rfl rfl rfl
  ·intro g5 _; intro w1; refine c9 (v := str (callN words i)) rfl T.z6 rfl (l8 mB (by rw [← hcn]; exact k6 (show wm < 16 from hwm16) rfl)) ?_; refine c8 ?_; exact j7 rfl
  refine i4 (fun w1 => a9 rfl (q_z rfl)) (i4 (fun w1 => a8 ⟨_, 0, none⟩ rfl rfl T.q8 rfl (q_z rfl)) (i4 (fun w1 => c9 rfl T.q9 rfl (j9 mB rfl) (q_z rfl)) (i4 (fun w1 => j3 rfl T.t9 rfl (q_z rfl)) (i4 (fun w1 => K2 ((cs.length : Int) - 1) rfl rfl rfl rfl m6 (q_z rfl)) ?_)))); refine cI ⟨(Int × Int) × Int, fun x => DOK nums x.1 ∧ ToInv ((cs.length : Int) - 1) x.2, fun x => int x.2, fun _ => [], fun x => [dice g A c nums x.1]⟩ rfl rfl rfl ?_ ?_
  ·intro w1; refine j0 F.D2 rfl rfl (A5 ((cs.length : Int) - 1) hn hD (by omega)) l7 mC fun x hx => ?_; obtain ⟨s7, z7⟩ := x; obtain ⟨hs7, hz7⟩ := hx; simp only at hs7; refine c8 ?_; exact H6 (s7, z7) ⟨hs7, hz7⟩ (fun _ => rfl) (List.sublist_append_left _ _) trivial
  refine E2 ⟨Int, fun z => ToInv ((cs.length : Int) - 1) z, fun z => .agg #[str (callN words i), int z, int (-1), .slice none 0 0], fun _ => []⟩ rfl rfl rfl ?_ ?_
  ·intro x hx; intro w1; refine B5 _ rfl rfl (fun _ => T.L8 ..) ?_; refine c8 ?_; exact w3 x.2 hx.2 rfl trivial
  refine nj0 ⟨Nat, fun _ => True, fun g => .pointer (b4 g), fun _ => [], fun g => [hdB g [] 0 0 none 0 0]⟩ rfl rfl rfl ?_ ?_
  ·intro w1; refine B6 rfl (fun _ => T.U9 _) fun g13 => ?_; refine c8 ?_; exact H6 g13 trivial (fun _ => rfl) (List.Sublist.refl _) trivial
  refine v9 ⟨rfl, ?_⟩; intro _ _ _ _ x12 h12; refine fun (z : Int) hz => ?_; intro g13 _; obtain ⟨s8, _⟩ := x12; have hs8 : DOK nums s8 := h12.1; clear h12; simp only [ToInv] at hz
  have hz2 : 0 ≤ z ∧ z < (cs.length : Int) := by
    refine ⟨hz.1, ?_⟩
    by_cases h1 : 1 ≤ (cs.length : Int) - 1
    · have := hz.2.1 h1; omega
    have := hz.2.2 (by omega); omega
  refine B9 (cs := #[str (callN words i), int z, int (-1), .slice none 0 0]) rfl rfl (.refl _) T.u0 (by rfl) (by rfl) ?_; refine d6 (d7 ?_); refine W0 ⟨fun x : (Int × Int) × Bool => DOK nums x.1 ∧ (x.2 = true → 1 < words.length), fun x => [(0, .pointer (b4 g)), (6, .pointer (b4 g6)), (7, .pointer (b4 g7)), (10, .slice wA words.length wC), (11, int words.length), (12, int i), (13, .pointer (b4 g13)), (80, .bool x.2)], fun x => dice g A c nums x.1 :: hdB g13 (callN words i) z (-1) none 0 0 :: trB g7 cA cs.length cC hA hs.length hC :: trB g6 none 0 0 none 0 0 :: og, fun _ => [Row wA (rows words), Row cA (rows cs), Row A (rows nums), innersF hs Hd.row]⟩ ?_ ?_
  ·skip
   refine d9 (a9 rfl (H5 rfl rfl rfl (a9 rfl ?_))); refine t7 rfl rfl ?_ ?_
   ·intro hg1; have hg1' := hg1; try simp at hg1'
    refine i3 rfl rfl hg1 (a9 rfl (i3 rfl rfl hg1 ?_)); refine j0 F.Y2 rfl rfl (R5 3 hn hs8 (by omega)) (List.Perm.swap _ _ _) mC fun x hx => ?_; obtain ⟨s9, b9⟩ := x; obtain ⟨hs9, hb9⟩ := hx; simp only at hs9; refine p_t rfl rfl (bt1 hg1) rfl ?_; refine c8 ?_; exact J7 _ (s9, b9) ⟨hs9, fun _ => by simp at hg1; omega⟩ mC (List.Sublist.refl _) mC
   intro hg1; have hg1' := hg1; try simp at hg1'
   refine k4 rfl rfl rfl rfl rfl hg1 (k4 rfl rfl rfl rfl rfl hg1 ?_); refine p_f rfl rfl (bf2 hg1) rfl ?_; refine c8 ?_; refine P4 (List.Perm.swap _ _ _) ?_; exact J7 _ (s8, false) ⟨hs8, fun h => by cases h⟩ mC (List.Sublist.refl _) mC
  intro x hx; obtain ⟨s9, b9⟩ := x; obtain ⟨hs9, hb9⟩ := hx; simp only at hs9 hb9; refine w6 rfl (fun hb3 => ?_) (fun hb3 => ?_)
  ·have hb3' := hb3; try simp at hb3'
   have h1w : 1 < words.length := hb9 hb3; refine d7 ?_; refine I8 ([dice g A c nums s9, hdB g13 (callN words i) z (-1) none 0 0]) (trB g7 cA cs.length cC hA hs.length hC :: trB g6 none 0 0 none 0 0 :: og) l7 11 [10, 5] mixed (by decide) (by decide) (by decide) rfl rfl rfl (i4 (fun w1 => a9 rfl (q_z rfl)) (i4 (fun w1 => r7 _ rfl rfl rfl rfl m6 (q_z rfl)) (i4 (fun w1 => a9 rfl (q_z rfl)) (i4 (fun w1 => a9 rfl (q_z rfl)) (i4 (fun w1 => K2 ((words.length : Int) - 2) rfl rfl rfl rfl m6 (q_z rfl)) ?_))))); refine cI ⟨(Int × Int) × Int, fun x => DOK nums x.1 ∧ ToInv ((words.length : Int) - 2) x.2, fun x => int x.2, fun _ => [], fun x => [dice g A c nums x.1, hdB g13 (callN words i) z (-1) none 0 0]⟩ rfl rfl rfl ?_ ?_
   ·intro w1; refine j0 F.D2 rfl rfl (A5 ((words.length : Int) - 2) hn hs9 (by omega)) l7 mC fun x hx => ?_; obtain ⟨s10, v10⟩ := x; obtain ⟨hs10, hv10⟩ := hx; simp only at hs10; refine c8 ?_; exact H6 (s10, v10) ⟨hs10, hv10⟩ (fun _ => rfl) (List.Sublist.refl _) trivial
   refine E2 ⟨Int, fun v => ToInv ((words.length : Int) - 2) v, fun v => int ((i : Int) + 1 + v), fun _ => []⟩ rfl rfl rfl ?_ ?_
   ·intro x hx; intro w1; refine r7 ((i : Int) + 1 + x.2) rfl rfl rfl rfl (by have h1 := hx.2; simp only [ToInv] at h1; have h2 : x.2 ≤ 6 := (by by_cases h3 : 1 ≤ (words.length : Int) - 2; have := h1.2.1 h3; omega; have := h1.2.2 (by omega); omega); unfold I64; omega) ?_; refine c8 ?_; exact w3 x.2 hx.2 rfl trivial
   refine i4 (fun w1 => a9 rfl (q_z rfl)) ?_; refine E2 ⟨Int, fun v => ToInv ((words.length : Int) - 2) v, fun v => int (((i : Int) + 1 + v).tmod words.length), fun _ => []⟩ rfl rfl rfl ?_ ?_
   ·intro v hv; intro w1; refine r_rem rfl rfl rfl (by omega) ?_; refine c8 ?_; exact w3 v hv rfl trivial
   refine i4 (fun w1 => a8 ⟨_, 1, none⟩ rfl rfl T.A8 rfl (q_z rfl)) ?_; refine hb_st ⟨Int × Int, fun s => DOK nums s, fun _ => undef, fun _ => [], fun s => [hdB g13 (callN words i) (-1) (-1) none 0 0, dice g A c nums s]⟩ rfl rfl ?_ ?_
   ·intro x hx; intro w1; refine z8 rfl rfl (.swap _ _ _) T.q7 (by rfl) (by rfl) ?_; refine c8 ?_; exact H6 x.1 hx.1 (fun h => by cases h) (List.Sublist.refl _) trivial
   refine v9 ⟨rfl, ?_⟩; intro _ _ _ _; refine fun (v : Int) hv => ?_; intro s11 hs11; have hs11 : DOK nums s11 := hs11; simp only [ToInv] at hv
   have hv2 : 0 ≤ v ∧ v ≤ (words.length : Int) - 2 := by
     refine ⟨hv.1, ?_⟩
     by_cases h1 : 1 ≤ (words.length : Int) - 2
     · exact hv.2.1 h1
     have := hv.2.2 (by omega); omega
   have hps := past hi2 hv2.1 hv2.2; refine a8 ⟨_, 2, none⟩ rfl rfl T.B8 rfl (z8 rfl rfl (.refl _) T.q7 (by rfl) (by rfl) ?_); refine j8 ?_; refine a8 ⟨_, 1, none⟩ rfl rfl T.j4 rfl (c9 rfl T.j6 rfl (l9 mB rfl) (D4 rfl T.L6 T.u0 rfl mB (by rfl) ?_)); refine l6 _ rfl rfl (fun _ => T.lE ..) fun gS => ?_; refine w7 (rows [(((callN words i), -1, (((i : Int) + 1 + v).tmod words.length), ⟨none, 0, []⟩) : Hd)]) (List.prefix_refl _) (qC (α := Int) ?_); refine G2 (hp' := [hdB g13 (callN words i) (-1) (((i : Int) + 1 + v).tmod words.length) none 0 0, dice g A c nums s11, trB g7 cA cs.length cC hA hs.length hC, trB g6 none 0 0 none 0 0]) (hs.length + 1) (rows (hs ++ [(((callN words i), -1, (((i : Int) + 1 + v).tmod words.length), ⟨none, 0, []⟩) : Hd)])) T.dZ rfl rfl rfl hG (show List.Perm (hdB g13 (callN words i) (-1) (((i : Int) + 1 + v).tmod words.length) none 0 0 :: dice g A c nums s11 :: trB g7 cA cs.length cC hA hs.length hC :: trB g6 none 0 0 none 0 0 :: og) (og ++ [hdB g13 (callN words i) (-1) (((i : Int) + 1 + v).tmod words.length) none 0 0, dice g A c nums s11, trB g7 cA cs.length cC hA hs.length hC, trB g6 none 0 0 none 0 0]) from (E1 fun p => by simp only [List.countP_append, List.countP_cons, List.countP_nil]; omega)) (Src.row (news := rows [(((callN words i), -1, (((i : Int) + 1 + v).tmod words.length), ⟨none, 0, []⟩) : Hd)]) (m := 1) mB rfl (D0 _) (by decide)) rfl (y6 _ _).symm (by unfold maxLen; omega) (by omega) fun A' c' og' hG' => ?_; refine a8 ⟨_, 1, none⟩ rfl rfl T.j4 rfl ?_; refine z8 (hp' := og' ++ [hdB g13 (callN words i) (-1) (((i : Int) + 1 + v).tmod words.length) none 0 0, dice g A c nums s11, trB g6 none 0 0 none 0 0]) rfl rfl (show List.Perm (og' ++ [hdB g13 (callN words i) (-1) (((i : Int) + 1 + v).tmod words.length) none 0 0, dice g A c nums s11, trB g7 cA cs.length cC hA hs.length hC, trB g6 none 0 0 none 0 0]) (trB g7 cA cs.length cC hA hs.length hC :: (og' ++ [hdB g13 (callN words i) (-1) (((i : Int) + 1 + v).tmod words.length) none 0 0, dice g A c nums s11, trB g6 none 0 0 none 0 0])) from (E1 fun p => by simp only [List.countP_append, List.countP_cons, List.countP_nil]; omega)) T.dL (by rfl) (by rfl) ?_; refine kj6 (Z3 (ps := hs) (f := Hd.row) (p := (((callN words i), -1, (((i : Int) + 1 + v).tmod words.length), ⟨none, 0, []⟩) : Hd)) (by repeat constructor) (by repeat constructor)) ?_; refine d6 (p8 (bA (p7 (d8 (d9 (a9 rfl ?_)))))); refine r7 _ rfl rfl rfl rfl m6 ?_; refine b8 rfl (c8 ?_); have hl1 : (hs ++ [(((callN words i), -1, (((i : Int) + 1 + v).tmod words.length), ⟨none, 0, []⟩) : Hd)]).length = hs.length + 1 := by simp
   refine P4 (show List.Perm (trB g7 cA cs.length cC A' (hs.length + 1) c' :: (og' ++ [hdB g13 (callN words i) (-1) (((i : Int) + 1 + v).tmod words.length) none 0 0, dice g A c nums s11, trB g6 none 0 0 none 0 0])) (hdB g13 (callN words i) (-1) (((i : Int) + 1 + v).tmod words.length) none 0 0 :: dice g A c nums s11 :: trB g7 cA cs.length cC A' (hs.length + 1) c' :: trB g6 none 0 0 none 0 0 :: og') from (E1 fun p => by simp only [List.countP_append, List.countP_cons, List.countP_nil]; omega)) ?_; exact again _ (i + 1, hs ++ [(((callN words i), -1, (((i : Int) + 1 + v).tmod words.length), ⟨none, 0, []⟩) : Hd)], (A', c'), og', s11) ⟨by show i + 1 ≤ words.length; omega, by show (hs ++ [_]).length = i + 1; rw [hl1]; omega, hH.snoc (by rw [hhl]) (by rw [hhl]; exact ⟨fun k hk => by simp at hk, .inl ⟨hps.1, hps.2.1, hps.2.2, rfl, rfl⟩⟩), by show Grow _ _ _ (hs ++ [_]).length _ _ _; rw [hl1]; exact hG', by assumption⟩ (u2 (by omega)) mC (by show List.Sublist (_ :: trB g7 _ _ _ _ (hs ++ [_]).length _ :: _) _; rw [hl1]; exact List.sublist_cons_self _ _) mC
  have hb3' := hb3; try simp at hb3'
  refine i6 (d8 (d7 (i5 (b8 rfl (d6 (i8 ?_)))))); refine p9 (β := Nat × List Int × OutC × Hp × (Int × Int)) ⟨fun x => x.1 ≤ words.length ∧ AscB i x.1 x.2.1 ∧ Grow T.int 1 x.2.2.1.1 x.2.1.length x.2.2.1.2 (rows x.2.1) x.2.2.2.1 ∧ DOK nums x.2.2.2.2, fun x => [(0, .pointer (b4 g)), (6, .pointer (b4 g6)), (7, .pointer (b4 g7)), (10, .slice wA words.length wC), (11, int words.length), (12, int i), (13, .pointer (b4 g13)), (14, int x.1)], fun x => dice g A c nums x.2.2.2.2 :: hdB g13 (callN words i) z (-1) x.2.2.1.1 x.2.1.length x.2.2.1.2 :: trB g7 cA cs.length cC hA hs.length hC :: trB g6 none 0 0 none 0 0 :: (x.2.2.2.1 ++ og), fun _ => [Row wA (rows words), Row cA (rows cs), Row A (rows nums), innersF hs Hd.row]⟩ (fun x => words.length - x.1) (0, [], (none, 0), [], s9) ⟨Nat.zero_le _, ⟨List.Pairwise.nil, fun x hx => by cases hx⟩, Grow.nil _ _, hs9⟩ mC (List.Sublist.refl _) mC fun x hx => ?_; clear hs9; obtain ⟨k, al, ⟨aA, aC⟩, og3, s9⟩ := x; obtain ⟨hk, hB, hG3, hs9⟩ := hx; simp only at hk hB hG3 hs9; refine d7 (i5 (a9 rfl (a9 rfl (u4 rfl rfl rfl (d6 ?_))))); refine m3 rfl (fun hb4 => ?_) (fun hb4 => ?_)
  ·have hb4' := hb4; try simp at hb4'
   have hk2 : k < words.length := by omega
   have hal := hB.len; refine i6 (d8 (d7 (i8 ?_))); refine W0 ⟨fun x : (Int × Int) × Bool => DOK nums x.1 ∧ (x.2 = true → ¬ k = i), fun x => [(0, .pointer (b4 g)), (6, .pointer (b4 g6)), (7, .pointer (b4 g7)), (10, .slice wA words.length wC), (11, int words.length), (12, int i), (13, .pointer (b4 g13)), (14, int k), (109, .bool x.2)], fun x => dice g A c nums x.1 :: hdB g13 (callN words i) z (-1) aA al.length aC :: trB g7 cA cs.length cC hA hs.length hC :: trB g6 none 0 0 none 0 0 :: (og3 ++ og), fun _ => [Row wA (rows words), Row cA (rows cs), Row A (rows nums), innersF hs Hd.row]⟩ ?_ ?_
   ·skip
    refine d9 (a9 rfl (a9 rfl (H2 rfl rfl rfl (a9 rfl ?_)))); refine t7 rfl rfl ?_ ?_
    ·intro hg2; have hg2' := hg2; try simp at hg2'
     refine i3 rfl rfl hg2 (a9 rfl (i3 rfl rfl hg2 ?_)); refine j0 F.Y2 rfl rfl (R5 4 hn hs9 (by omega)) l7 mC fun x hx => ?_; obtain ⟨s12, b12⟩ := x; obtain ⟨hs12, hb12⟩ := hx; simp only at hs12; refine p_t rfl rfl (bt1 hg2) rfl ?_; refine c8 ?_; exact J7 _ (s12, b12) ⟨hs12, fun _ => by simp at hg2; omega⟩ mC (List.Sublist.refl _) mC
    intro hg2; have hg2' := hg2; try simp at hg2'
    refine k4 rfl rfl rfl rfl rfl hg2 (k4 rfl rfl rfl rfl rfl hg2 ?_); refine p_f rfl rfl (bf2 hg2) rfl ?_; refine c8 ?_; exact J7 _ (s9, false) ⟨hs9, fun h => by cases h⟩ mC (List.Sublist.refl _) mC
   intro x hx; obtain ⟨s13, b13⟩ := x; obtain ⟨hs13, hb13⟩ := hx; simp only at hs13 hb13; refine w6 rfl (fun hb5 => ?_) (fun hb5 => ?_)
   ·have hb5' := hb5; try simp at hb5'
    refine d9 ?_; refine a8 ⟨_, 3, none⟩ rfl rfl T.u9 rfl (c9 rfl T.m8 rfl (l9 mB rfl) (a9 rfl ?_)); refine l6 _ rfl rfl (fun _ => T.H1 ..) fun gS => ?_; refine w7 (rows [(k : Int)]) (List.prefix_refl _) ?_; refine G2 (hp' := dice g A c nums s13 :: hdB g13 (callN words i) z (-1) aA al.length aC :: trB g7 cA cs.length cC hA hs.length hC :: trB g6 none 0 0 none 0 0 :: og) (al.length + 1) (rows (al ++ [(k : Int)])) T.S3 rfl rfl rfl hG3 (show List.Perm (dice g A c nums s13 :: hdB g13 (callN words i) z (-1) aA al.length aC :: trB g7 cA cs.length cC hA hs.length hC :: trB g6 none 0 0 none 0 0 :: (og3 ++ og)) (og3 ++ (dice g A c nums s13 :: hdB g13 (callN words i) z (-1) aA al.length aC :: trB g7 cA cs.length cC hA hs.length hC :: trB g6 none 0 0 none 0 0 :: og)) from (E1 fun p => by simp only [List.countP_append, List.countP_cons, List.countP_nil]; omega)) (Src.row (news := rows [(k : Int)]) (m := 1) m0 rfl (D0 _) (by decide)) rfl (y6 _ _).symm (by unfold maxLen; omega) (by omega) fun A' c' og' hG' => ?_; refine a8 ⟨_, 3, none⟩ rfl rfl T.u9 rfl ?_; refine z8 (hp' := og' ++ (dice g A c nums s13 :: trB g7 cA cs.length cC hA hs.length hC :: trB g6 none 0 0 none 0 0 :: og)) rfl rfl (show List.Perm (og' ++ (dice g A c nums s13 :: hdB g13 (callN words i) z (-1) aA al.length aC :: trB g7 cA cs.length cC hA hs.length hC :: trB g6 none 0 0 none 0 0 :: og)) (hdB g13 (callN words i) z (-1) aA al.length aC :: (og' ++ (dice g A c nums s13 :: trB g7 cA cs.length cC hA hs.length hC :: trB g6 none 0 0 none 0 0 :: og))) from (E1 fun p => by simp only [List.countP_append, List.countP_cons, List.countP_nil]; omega)) T.K8 (by rfl) (by rfl) ?_; refine c8 (t6 (d8 (d9 (a9 rfl ?_)))); refine r7 _ rfl rfl rfl rfl m6 ?_; refine b8 rfl (c8 ?_); have hl1 : (al ++ [(k : Int)]).length = al.length + 1 := by simp
    refine P4 (show List.Perm (hdB g13 (callN words i) z (-1) A' (al.length + 1) c' :: (og' ++ (dice g A c nums s13 :: trB g7 cA cs.length cC hA hs.length hC :: trB g6 none 0 0 none 0 0 :: og))) (dice g A c nums s13 :: hdB g13 (callN words i) z (-1) A' (al.length + 1) c' :: trB g7 cA cs.length cC hA hs.length hC :: trB g6 none 0 0 none 0 0 :: (og' ++ og)) from (E1 fun p => by simp only [List.countP_append, List.countP_cons, List.countP_nil]; omega)) ?_; exact again _ (k + 1, al ++ [(k : Int)], (A', c'), og', s13) ⟨by show k + 1 ≤ words.length; omega, hB.snoc (hb13 hb5), by show Grow _ _ _ (al ++ [_]).length _ _ _; rw [hl1]; exact hG', hs13⟩ (u2 (by omega)) mC (by show List.Sublist (_ :: hdB g13 _ _ _ _ (al ++ [_]).length _ :: _) _; rw [hl1]; exact List.Sublist.refl _) mC
   have hb5' := hb5; try simp at hb5'
   refine i6 (t6 (d8 (d9 (a9 rfl ?_)))); refine r7 _ rfl rfl rfl rfl m6 ?_; refine b8 rfl (c8 ?_); exact again _ (k + 1, al, (aA, aC), og3, s13) ⟨by show k + 1 ≤ words.length; omega, hB.step, hG3, hs13⟩ (u2 (by omega)) mC (List.Sublist.refl _) mC
  have hb4' := hb4; try simp at hb4'
  have hk2 : k = words.length := by omega
  subst hk2; have hal := hB.len; refine p8 (v8 (p7 (d8 ?_))); refine W0 ⟨fun x : (Int × Int) × Int => DOK nums x.1 ∧ ((0 ≤ x.2 ∧ x.2 < (cs.length : Int)) ∨ (x.2 = -1 ∧ al ≠ [])), fun x => [(0, .pointer (b4 g)), (6, .pointer (b4 g6)), (7, .pointer (b4 g7)), (10, .slice wA words.length wC), (11, int words.length), (12, int i), (13, .pointer (b4 g13))], fun x => dice g A c nums x.1 :: hdB g13 (callN words i) x.2 (-1) aA al.length aC :: trB g7 cA cs.length cC hA hs.length hC :: trB g6 none 0 0 none 0 0 :: (og3 ++ og), fun _ => [Row wA (rows words), Row cA (rows cs), Row A (rows nums), innersF hs Hd.row]⟩ ?_ ?_
  ·skip
   refine W0 ⟨fun x : (Int × Int) × Bool => DOK nums x.1 ∧ (x.2 = true → al ≠ []), fun x => [(0, .pointer (b4 g)), (6, .pointer (b4 g6)), (7, .pointer (b4 g7)), (10, .slice wA words.length wC), (11, int words.length), (12, int i), (13, .pointer (b4 g13)), (123, .bool x.2)], fun x => dice g A c nums x.1 :: hdB g13 (callN words i) z (-1) aA al.length aC :: trB g7 cA cs.length cC hA hs.length hC :: trB g6 none 0 0 none 0 0 :: (og3 ++ og), fun _ => [Row wA (rows words), Row cA (rows cs), Row A (rows nums), innersF hs Hd.row]⟩ ?_ ?_
   ·skip
    refine d9 ?_; refine a8 ⟨_, 3, none⟩ rfl rfl T.u9 rfl (c9 rfl T.m8 rfl (l9 mB rfl) (j3 rfl T.l4 rfl ?_)); refine H5 rfl rfl rfl (a9 rfl ?_); refine t7 rfl rfl ?_ ?_
    ·intro hg3; have hg3' := hg3; try simp at hg3'
     refine i3 rfl rfl hg3 (a9 rfl (i3 rfl rfl hg3 ?_)); refine j0 F.Y2 rfl rfl (R5 4 hn hs9 (by omega)) l7 mC fun x hx => ?_; obtain ⟨s14, b14⟩ := x; obtain ⟨hs14, hb14⟩ := hx; simp only at hs14; refine p_t rfl rfl (bt1 hg3) rfl ?_; refine c8 ?_; exact J7 _ (s14, b14) ⟨hs14, fun _ e => by subst e; simp at hg3⟩ mC (List.Sublist.refl _) mC
    intro hg3; have hg3' := hg3; try simp at hg3'
    refine k4 rfl rfl rfl rfl rfl hg3 (k4 rfl rfl rfl rfl rfl hg3 ?_); refine p_f rfl rfl (bf2 hg3) rfl ?_; refine c8 ?_; exact J7 _ (s9, false) ⟨hs9, fun h => by cases h⟩ mC (List.Sublist.refl _) mC
   intro x hx; obtain ⟨s15, b15⟩ := x; obtain ⟨hs15, hb15⟩ := hx; simp only at hs15 hb15; refine w6 rfl (fun hb6 => ?_) (fun hb6 => ?_)
   ·have hb6' := hb6; try simp at hb6'
    refine d9 ?_; refine a8 ⟨_, 1, none⟩ rfl rfl T.A8 rfl (z8 rfl rfl (.swap _ _ _) T.q7 (by rfl) (by rfl) ?_); refine c8 ?_; refine P4 (List.Perm.swap _ _ _) ?_; exact J7 _ (s15, -1) ⟨hs15, .inr ⟨rfl, hb15 hb6⟩⟩ mC (List.Sublist.refl _) mC
   have hb6' := hb6; try simp at hb6'
   refine i6 ?_; exact J7 _ (s15, z) ⟨hs15, .inl hz2⟩ mC (List.Sublist.refl _) mC
  intro x hx; obtain ⟨s16, cl⟩ := x; obtain ⟨hs16, hcl⟩ := hx; simp only at hs16 hcl; refine dA (show List.Perm (dice g A c nums s16 :: hdB g13 (callN words i) cl (-1) aA al.length aC :: trB g7 cA cs.length cC hA hs.length hC :: trB g6 none 0 0 none 0 0 :: (og3 ++ og)) (og3 ++ (hdB g13 (callN words i) cl (-1) aA al.length aC :: dice g A c nums s16 :: trB g7 cA cs.length cC hA hs.length hC :: trB g6 none 0 0 none 0 0 :: og)) from (E1 fun p => by simp only [List.countP_append, List.countP_cons, List.countP_nil]; omega)) ?_; refine wE hG3 (d9 ?_); refine a8 ⟨_, 1, none⟩ rfl rfl T.j4 rfl (c9 rfl T.j6 rfl (l9 mB rfl) (D4 rfl T.L6 T.u0 rfl mB (by rfl) ?_)); refine l6 _ rfl rfl (fun _ => T.lE ..) fun gS => ?_; refine w7 (rows [(((callN words i), cl, -1, ⟨aA, aC, al⟩) : Hd)]) (List.prefix_refl _) ?_; refine G2 (hp' := [hdB g13 (callN words i) cl (-1) aA al.length aC, dice g A c nums s16, trB g7 cA cs.length cC hA hs.length hC, trB g6 none 0 0 none 0 0]) (hs.length + 1) (rows (hs ++ [(((callN words i), cl, -1, ⟨aA, aC, al⟩) : Hd)])) T.dZ rfl rfl rfl hG (show List.Perm (hdB g13 (callN words i) cl (-1) aA al.length aC :: dice g A c nums s16 :: trB g7 cA cs.length cC hA hs.length hC :: trB g6 none 0 0 none 0 0 :: og) (og ++ [hdB g13 (callN words i) cl (-1) aA al.length aC, dice g A c nums s16, trB g7 cA cs.length cC hA hs.length hC, trB g6 none 0 0 none 0 0]) from (E1 fun p => by simp only [List.countP_append, List.countP_cons, List.countP_nil]; omega)) (Src.row (news := rows [(((callN words i), cl, -1, ⟨aA, aC, al⟩) : Hd)]) (m := 1) m0 rfl (D0 _) (by decide)) rfl (y6 _ _).symm (by unfold maxLen; omega) (by omega) fun A' c' og' hG' => ?_; refine a8 ⟨_, 1, none⟩ rfl rfl T.j4 rfl ?_; refine z8 (hp' := og' ++ [hdB g13 (callN words i) cl (-1) aA al.length aC, dice g A c nums s16, trB g6 none 0 0 none 0 0]) rfl rfl (show List.Perm (og' ++ [hdB g13 (callN words i) cl (-1) aA al.length aC, dice g A c nums s16, trB g7 cA cs.length cC hA hs.length hC, trB g6 none 0 0 none 0 0]) (trB g7 cA cs.length cC hA hs.length hC :: (og' ++ [hdB g13 (callN words i) cl (-1) aA al.length aC, dice g A c nums s16, trB g6 none 0 0 none 0 0])) from (E1 fun p => by simp only [List.countP_append, List.countP_cons, List.countP_nil]; omega)) T.dL (by rfl) (by rfl) ?_; refine kj6 (Z3 (ps := hs) (f := Hd.row) (p := (((callN words i), cl, -1, ⟨aA, aC, al⟩) : Hd)) (by repeat constructor) (by repeat constructor)) ?_; refine c8 (t6 (d8 (d9 (a9 rfl ?_)))); refine r7 _ rfl rfl rfl rfl m6 ?_; refine b8 rfl (c8 ?_); have hl1 : (hs ++ [(((callN words i), cl, -1, ⟨aA, aC, al⟩) : Hd)]).length = hs.length + 1 := by simp
  refine P4 (show List.Perm (trB g7 cA cs.length cC A' (hs.length + 1) c' :: (og' ++ [hdB g13 (callN words i) cl (-1) aA al.length aC, dice g A c nums s16, trB g6 none 0 0 none 0 0])) (hdB g13 (callN words i) cl (-1) aA al.length aC :: dice g A c nums s16 :: trB g7 cA cs.length cC A' (hs.length + 1) c' :: trB g6 none 0 0 none 0 0 :: og') from (E1 fun p => by simp only [List.countP_append, List.countP_cons, List.countP_nil]; omega)) ?_; exact again _ (i + 1, hs ++ [(((callN words i), cl, -1, ⟨aA, aC, al⟩) : Hd)], (A', c'), og', s16) ⟨by show i + 1 ≤ words.length; omega, by show (hs ++ [_]).length = i + 1; rw [hl1]; omega, hH.snoc (by rw [hhl]) (by rw [hhl]; exact ⟨hB.err, hcl.elim (fun h => .inr (.inl ⟨rfl, h.1, h.2⟩)) (fun h => .inr (.inr ⟨rfl, h.1, h.2⟩))⟩), by show Grow _ _ _ (hs ++ [_]).length _ _ _; rw [hl1]; exact hG', by assumption⟩ (u2 (by omega)) mC (by show List.Sublist (_ :: trB g7 _ _ _ _ (hs ++ [_]).length _ :: _) _; rw [hl1]; exact List.sublist_cons_self _ _) mC
 have hb2' := hb2; try simp at hb2'
 have hi2 : i = words.length := by omega
 subst hi2; refine p8 (v8 (p7 (d8 (d7 ?_)))); refine dA (show List.Perm (dice g A c nums s :: trB g7 cA cs.length cC hA hs.length hC :: trB g6 none 0 0 none 0 0 :: og) (og ++ [trB g7 cA cs.length cC hA hs.length hC, trB g6 none 0 0 none 0 0, dice g A c nums s]) from (E1 fun p => by simp only [List.countP_append, List.countP_cons, List.countP_nil]; omega)) ?_; have hHle := hG.le; refine wE hG (kj7 (A := hA) (ps := hs) (f := Hd.row) mB mB ?_); refine d9 ?_; refine D4 rfl T.m4 T.k8 rfl mB (by rfl) (B9 (cs := #[.slice cA cs.length cC, .slice hA hs.length hC]) rfl rfl (.swap _ _ _) T.k8 (by rfl) (by rfl) ?_); refine d6 (j5 ?_); refine pU (s, cs, hs, (cA, cC), (hA, hC)) rfl rfl T.m4 T.k8 rfl m0 rfl rfl ⟨hD, ⟨made_ok hP hC1 hcs6 hwp hwi hhl hwl6 hH, hcs1, by show cs.length ≤ m1; omega, by show hs.length ≤ m2; omega, hCle, hHle, hs_ha hwl6 hH⟩⟩ (List.Sublist.cons _ (List.Sublist.cons _ (List.Sublist.refl _))) mC
end Go.Proofs.YtdlbbfcfahahdaaGreat
end
