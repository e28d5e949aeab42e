/- Texts. -/
import Derived.Lib.SliceRun
import Derived.Laws.AppendOwn
import Derived.Laws.MakeOwn
import Derived.Test.YtpihanmcnmlodaaGreatDoorBAg
import Derived.Test.YtpihanmcnmlodaaGreatDoorBAe
set_option linter.unusedVariables false
set_option linter.unusedSimpArgs false
section
namespace Go.Proofs.YtpihanmcnmlodaaGreatDoor
open Go Go.W Tryz T F
set_option maxRecDepth 20000
attribute [local irreducible] HL HC HQ HB Row Rows2 Blk Facts
abbrev rngI (n : Nat) : List Int := (List.range n).map fun i : Nat => (i : Int)
theorem pW (n : Nat) : (rngI n).length = n := by simp
theorem dq0 (n : Nat) : rngI (n + 1) = rngI n ++ [(n : Int)] := by unfold rngI; rw [List.range_succ, List.map_append]; rfl
theorem lz7 {e : TypeId} {g n cap : Nat} {xs : List Value} {cur : Array Value} (hG : Grow e 1 (i7 g) n cap xs [(g, Obj.cells cur e (0, 0))]) (hn : 0 < n) : n ≤ cap ∧ cap ≤ maxLen ∧ cur.size = cap * 1 ∧ cur.toList.take (n * 1) = xs := by
  obtain ⟨g', cur', e1, e2, h1, h2, h3, h4, _⟩ := hG.open_ hn
  cases e1
  injection e2 with e2 _
  injection e2 with _ e2
  injection e2 with e2 _ _
  subst e2; exact ⟨h1, h2, h3, h4⟩
theorem yL {cur : Array Value} {l : List Int} {i : Nat} (h : cur.toList.take (l.length * 1) = rows l) (hi : i < l.length) : cur[0 + i * 1]? = some (int (l.getD i default)) := by
  have h1 : (rows l)[i * 1]? = some (int (l.getD i default)) := c5 hi rfl; rw [← h, List.getElem?_take, if_pos (by omega)] at h1; rw [Nat.zero_add, ← Array.getElem?_toList]; exact h1
theorem jj0 {l : List Int} {i j : Nat} (hi : i < l.length) (hj : j < l.length) : ((l.set i (l.getD j default)).set j (l.getD i default)).Perm l := by
  rw [q7 hi, q7 hj]; exact List.set_set_perm hi hj
set_option maxHeartbeats 1000000 in
theorem aP {g : Nat} {A : Option Addr} {c : Nat} {nums : List Int} {s : Int × Int} (n : Nat) (hn : nums.length ≤ 9223372036854775807) (hs : DOK nums s) (hI : n ≤ 100) :
    Meets prog X4 [.pointer (i7 g), int n] (diceCon g A c nums s (fun x : List Int × OutC => x.1.Perm (rngI n) ∧ x.1.length ≤ x.2.2) (fun x => .slice x.2.1 x.1.length x.2.2) (fun x => [Row x.2.1 (rows x.1)])) := by
 refine d3 qR rfl n2 fun w0 => ?_; refine d4 (b6 rfl (j4 (b6 rfl (c3 (cW ?_))))); refine c9 (b6 rfl (c3 (i8 ?_))); refine p6 (β := Nat × OutC × Hp) ⟨fun x => x.1 ≤ n ∧ Grow y2 1 x.2.1.1 x.1 x.2.1.2 (rows (rngI x.1)) x.2.2, fun x => [(0, .pointer (i7 g)), (1, int n), (5, .slice x.2.1.1 x.1 x.2.1.2), (6, int x.1)], fun x => x.2.2 ++ [dice g A c nums s], fun _ => [Row A (rows nums)]⟩ (fun x => n - x.1) (0, (none, 0), []) ⟨Nat.zero_le _, Grow.nil _ _⟩ mC (List.Sublist.refl _) mC fun x hx => ?_; obtain ⟨k, ⟨na, nc⟩, og⟩ := x; obtain ⟨hk, hG⟩ := hx; simp only at hk hG; refine d1 (d4 (b4 rfl (b4 rfl (u7 rfl rfl rfl (c3 ?_)))))
 first | refine j9 rfl (fun hb1 => ?_) (fun hb1 => ?_) | refine d6 rfl (fun hb1 => ?_) (fun hb1 => ?_)
 ·have hb1' := hb1; try simp at hb1'
  have hk2 : k < n := by omega
  refine i4 (c7 (d1 (i8 (c9 (b4 rfl (b4 rfl ?_)))))); refine l5 _ rfl rfl (fun _ => w6 ..) fun gS => v8 (rows [(k : Int)]) (List.prefix_refl _) ?_; refine C0 (k + 1) (rows (rngI k ++ [(k : Int)])) I5 rfl rfl rfl hG (.refl _) (Src.row (news := rows [(k : Int)]) (m := 1) m0 rfl (D0 _) (by decide)) rfl (r8 _ _).symm (by unfold maxLen; omega) (by omega) fun A' c' og' hG' => ?_; refine b6 rfl (b7 (q8 (c7 (c9 (b4 rfl ?_))))); refine r4 _ rfl rfl rfl rfl m7 ?_; refine b6 rfl (b7 ?_); exact again _ (k + 1, (A', c'), og') ⟨by show k + 1 ≤ n; omega, by show Grow _ _ _ _ _ (rows (rngI (k + 1))) _; rw [dq0]; exact hG'⟩ (r9 (by omega)) mC (List.Sublist.refl _) mC
 have hb1' := hb1; try simp at hb1'
 have hk2 : k = n := by omega
 subst hk2; refine m4 (v6 (l9 (c7 (d1 (d4 (b4 rfl ?_)))))); refine H3 _ rfl rfl rfl rfl m7 ?_; refine b6 rfl (c3 (i8 ?_)); refine p6 (β := (Int × Int) × List Int × Nat × Hp) ⟨fun x => DOK nums x.1 ∧ x.2.1.Perm (rngI k) ∧ x.2.2.1 ≤ k ∧ Grow y2 1 na k nc (rows x.2.1) x.2.2.2, fun x => [(0, .pointer (i7 g)), (5, .slice na k nc), (7, int ((x.2.2.1 : Int) - 1))], fun x => x.2.2.2 ++ [dice g A c nums x.1], fun _ => [Row A (rows nums)]⟩ (fun x => x.2.2.1) (s, rngI k, k, og) ⟨hs, .refl _, Nat.le_refl _, hG⟩ mC (List.Sublist.refl _) mC fun x hx => ?_; clear hG; obtain ⟨s, l, m, og⟩ := x; obtain ⟨hs, hP, hm, hG⟩ := hx; simp only at hs hP hm hG; have hll : l.length = k := by rw [hP.length_eq, pW]
 refine d1 (d4 (b4 rfl (K5 rfl rfl rfl (c3 ?_))))
 first | refine j9 rfl (fun hb2 => ?_) (fun hb2 => ?_) | refine d6 rfl (fun hb2 => ?_) (fun hb2 => ?_)
 ·have hb2' := hb2; try simp at hb2'
  obtain ⟨i, rfl⟩ : ∃ i, m = i + 1 := ⟨m - 1, by omega⟩; have hi1 : (((i + 1 : Nat) : Int) - 1) = (i : Int) := by omega
  obtain ⟨gd, cur, e1, e2, hnc, hcm, hcs, hct, _⟩ := hG.open_ (by omega); subst e1; subst e2; rw [← hll] at hct; refine i4 (c7 (d1 (i8 (d4 (b4 rfl ?_))))); refine rE (v := int (i : Int)) rfl (congrArg (fun z => some (int z)) hi1) ?_; refine i5 w9 rfl rfl (w8 (i : Int) hn hs (by omega)) (.swap _ _ _) mC fun x hx => ?_; obtain ⟨s1, z⟩ := x; obtain ⟨hs1, hz⟩ := hx; simp only [ToInv] at hz; obtain ⟨j, rfl⟩ := Int.eq_ofNat_of_zero_le hz.1
  have hj : j ≤ i := by
    by_cases h1 : 1 ≤ (i : Int)
    · have := hz.2.1 h1; omega
    have := hz.2.2 (by omega); omega
  refine b6 rfl (j4 (b4 rfl ?_)); refine rE (v := int (i : Int)) rfl (congrArg (fun z => some (int z)) hi1) ?_; refine p7 i (0 + i * 1) rfl j2 k6 rfl rfl rfl (by omega) rfl (b3 (v := int (l.getD i default)) rfl b5 rfl (j3 mB (yL hct (by omega))) ?_); refine b6 rfl (j4 (b4 rfl ?_)); refine rE (v := int (i : Int)) rfl (congrArg (fun z => some (int z)) hi1) ?_; refine b4 rfl (b4 rfl ?_); refine p7 j (0 + j * 1) rfl j2 k6 rfl rfl rfl (by omega) rfl (b3 (v := int (l.getD j default)) rfl b5 rfl (j3 mB (yL hct (by omega))) (p7 i i rfl j2 k6 rfl rfl rfl (by omega) (by omega) ?_)); refine u9 rfl rfl (.swap _ _ _) k6 (by have := yL hct (show i < l.length by omega); rw [Nat.zero_add, Nat.mul_one] at this; exact this) (by rfl) ?_; have hG1 := Grow.set (e := y2) (g := gd) (l := l) (k := i) (a := l.getD j default) rfl rfl (by omega) hcm hcs hct; rw [hll] at hG1; have hc1 := (lz7 hG1 (by omega)).2.2; have hl1 : (l.set i (l.getD j default)).length = l.length := List.length_set ..; rw [← hll, ← hl1] at hc1; refine c3 (c9 (b4 rfl (b4 rfl (b4 rfl ?_)))); refine p7 j j rfl j2 k6 rfl rfl rfl (by omega) (by omega) ?_; refine u9 rfl rfl (.refl _) k6 (by have := yL hc1.2 (show j < _ by omega); rw [Nat.zero_add, Nat.mul_one] at this; exact this) (by rfl) ?_; have hG2 := Grow.set (e := y2) (g := gd) (l := l.set i (l.getD j default)) (k := j) (a := l.getD i default) rfl rfl (by omega) hcm hc1.1 hc1.2; rw [hl1, hll] at hG2; refine b7 (q8 (c7 (c9 ?_))); refine rE (v := int (i : Int)) rfl (congrArg (fun z => some (int z)) hi1) ?_; refine H3 ((i : Int) - 1) rfl rfl rfl (by omega) m7 ?_; refine b6 rfl (b7 ?_); exact again _ (s1, (l.set i (l.getD j default)).set j (l.getD i default), i, [_]) ⟨hs1, (jj0 (by omega) (by omega)).trans hP, by show i ≤ k; omega, hG2⟩ (by show i < i + 1; omega) mC (List.Sublist.refl _) mC
 have hb2' := hb2; try simp at hb2'
 refine m4 (v6 (l9 (c7 (d4 (b4 rfl (b6 rfl (c3 (j6 ?_)))))))); refine cX hG ?_; exact ret1 (s, l, (na, nc)) rfl (by show some (Value.slice na k nc) = some (Value.slice na l.length nc); rw [hll]) rfl ⟨hs, hP, by show l.length ≤ nc; rw [hll]; exact hG.le⟩ (List.Sublist.refl _) ⟨m0, tK⟩
theorem cj2 {α : Type} [Inhabited α] {l : List α} {k : Nat} {s : α} (hk : k < l.length) (h : s ∉ l.take k) (h1 : ¬ s = l.getD k default) : s ∉ l.take (k + 1) := by
  rw [A6 l k hk]; simp only [List.mem_append, List.mem_singleton, not_or]; exact ⟨h, h1⟩
def AtInv (l : List Int) (s z : Int) : Prop := (0 ≤ z ↔ s ∈ l) ∧ (s ∈ l → ∀ k : Nat, z < (k : Int) ↔ s ∈ l.take k)
theorem gq1 {l : List Int} {k : Nat} {s : Int} (hk : k < l.length) (hb : l.getD k default = s) (ht : s ∉ l.take k) : AtInv l s (k : Int) := by
  refine ⟨⟨fun _ => hb ▸ n7 hk, fun _ => by omega⟩, fun _ j => ⟨fun h => ?_, fun h => ?_⟩⟩
  · have h1 : s ∈ l.take (k + 1) := by rw [A6 l k hk, hb]; simp
    exact List.take_subset_take_left l (by omega) h1
  rcases Nat.lt_or_ge k j with h2 | h2
  · omega
  exact absurd (List.take_subset_take_left l h2 h) ht
theorem ix7 {l : List Int} {s : Int} (ht : s ∉ l) : AtInv l s (-1) := ⟨⟨fun h => by omega, fun h => absurd h ht⟩, fun h => absurd h ht⟩
def partL (o : List Int) (m n : Nat) : List Int := (rngI n).filter fun v => decide (v ∈ o.take m)
theorem lA (o : List Int) (m n : Nat) : partL o m (n + 1) = if (n : Int) ∈ o.take m then partL o m n ++ [(n : Int)] else partL o m n := by
  unfold partL; rw [dq0, List.filter_append]
  by_cases h : (n : Int) ∈ o.take m <;> simp [h]
theorem jq0 (o : List Int) (m n : Nat) : (partL o m n).Pairwise (· < ·) := by
  unfold partL rngI; refine List.Pairwise.filter _ (List.pairwise_map.2 (List.pairwise_lt_range.imp fun h => ?_))
  omega
theorem lj8 {o : List Int} {m n : Nat} {v : Int} (h : v ∈ partL o m n) : 0 ≤ v ∧ v < (n : Int) := by
  unfold partL rngI at h; have h1 := (List.mem_filter.1 h).1; obtain ⟨i, hi, rfl⟩ := List.mem_map.1 h1; have := List.mem_range.1 hi
  omega
theorem hj8 (o : List Int) (m n : Nat) : (partL o m n).length ≤ n := by
  unfold partL; have := List.length_filter_le (fun v => decide (v ∈ o.take m)) (rngI n); rw [pW] at this; exact this
theorem jj9 {o : List Int} {m n : Nat} (h : o.Perm (rngI n)) : (partL o m n).length ≤ m := by
  have hn : o.Nodup := h.nodup_iff.2 (by unfold rngI List.Nodup; exact List.pairwise_map.2 (List.pairwise_lt_range.imp fun h => by omega)); unfold partL; rw [(h.symm.filter _).length_eq]; have e : o.filter (fun v => decide (v ∈ o.take m)) = (o.take m).filter (fun v => decide (v ∈ o.take m)) ++ (o.drop m).filter (fun v => decide (v ∈ o.take m)) := by rw [← List.filter_append, List.take_append_drop]
  have hd := (List.nodup_append.1 ((List.take_append_drop m o).symm ▸ hn : (o.take m ++ o.drop m).Nodup)).2.2
  have h0 : (o.drop m).filter (fun v => decide (v ∈ o.take m)) = [] := List.filter_eq_nil_iff.2 fun a ha => by
    rw [decide_eq_true_eq]; exact fun h => hd a h a ha rfl
  rw [e, h0, List.append_nil]; exact Nat.le_trans (List.length_filter_le _ _) (by rw [List.length_take]; omega)
theorem M3 {A : Option Addr} {c : Nat} (l : List Int) (s : Int) (hl : l.length ≤ 1000000) : Meets prog lZ [.slice A l.length c, int s] { LI := [Row A (rows l)], inv := fun z : Int => AtInv l s z, val := fun z => int z } := by
 refine d3 aj4 rfl n2 fun w0 => ?_; refine d4 (b6 rfl (c3 (d1 (d4 (b6 rfl (c3 (i8 ?_))))))); refine p6 (β := Nat) ⟨fun k => k ≤ l.length ∧ s ∉ l.take k, fun k => [(0, .slice A l.length c), (1, int s), (5, int k)], fun _ => [], fun _ => [Row A (rows l)]⟩ (fun k => l.length - k) 0 ⟨Nat.zero_le _, by simp⟩ mC (.refl _) ⟨m0, tK⟩ fun k hk => ?_; obtain ⟨hk, ht⟩ := hk; refine d1 (d4 (b4 rfl (b4 rfl ?_))); refine k5 rfl j2 rfl ?_; refine u7 rfl rfl rfl (c3 ?_)
 first | refine j9 rfl (fun hb1 => ?_) (fun hb1 => ?_) | refine d6 rfl (fun hb1 => ?_) (fun hb1 => ?_)
 ·have hb1' := hb1; try simp at hb1'
  have hk2 : k < l.length := by omega
  refine i4 (c7 (d1 (i8 (d4 (b4 rfl (b4 rfl ?_)))))); refine p8 (α := Int) _ _ rfl j2 k6 rfl rfl rfl mB rfl (by omega) (by decide) (b3 rfl b5 rfl (i1 mB (c5 (by omega) rfl)) ?_); refine b4 rfl (I2 rfl rfl rfl (c3 ?_))
  first | refine j9 rfl (fun hb2 => ?_) (fun hb2 => ?_) | refine d6 rfl (fun hb2 => ?_) (fun hb2 => ?_)
  ·have hb2' := hb2; try simp at hb2'
   refine d4 (b4 rfl (b6 rfl (c3 (j6 (A1 (u4 (A1 ?_))))))); exact ret1 (k : Int) rfl rfl rfl (gq1 hk2 hb2 ht) (.refl _) tK
  have hb2' := hb2; try simp at hb2'
  refine i4 (q8 (c7 (c9 (b4 rfl ?_)))); refine r4 _ rfl rfl rfl rfl m7 ?_; refine b6 rfl (b7 ?_); exact again _ (k + 1) ⟨by omega, cj2 hk2 ht (fun e => hb2 e.symm)⟩ (r9 (by omega)) mC (.refl _) ⟨m0, tK⟩
 have hb1' := hb1; try simp at hb1'
 have hk2 : k = l.length := by omega
 subst hk2; rw [List.take_length] at ht; refine m4 (v6 (l9 (c7 (d4 (b6 rfl (c3 (j6 ?_))))))); exact ret1 (-1) rfl rfl rfl (ix7 ht) (.refl _) tK
set_option maxHeartbeats 1000000 in
theorem vV {g : Nat} {A : Option Addr} {c : Nat} {nums : List Int} {s : Int × Int} (n m : Nat) (hn : nums.length ≤ 9223372036854775807) (hs : DOK nums s) (hI : n ≤ 100 ∧ m ≤ 100) :
    Meets prog iR [.pointer (i7 g), int n, int m] (diceCon g A c nums s (fun x : List Int × OutC => (x.1.Pairwise (· < ·) ∧ ∀ v ∈ x.1, 0 ≤ v ∧ v < (n : Int)) ∧ x.1.length ≤ m ∧ x.1.length ≤ x.2.2) (fun x => .slice x.2.1 x.1.length x.2.2) (fun x => [Row x.2.1 (rows x.1)])) := by
 refine d3 yD rfl n2 fun w0 => ?_; refine d4 (b6 rfl (j4 (b4 rfl (b4 rfl ?_)))); refine i5 aV rfl rfl (aP n hn hs hI.1) k8 mC fun x hx => ?_; obtain ⟨s1, o, oa, oc⟩ := x; obtain ⟨hs1, hP, hoc⟩ := hx; simp only at hP hoc; have hol : o.length = n := by rw [hP.length_eq, pW]
 refine b6 rfl (j4 (b6 rfl (c3 (d1 (d4 (b6 rfl ?_)))))); refine c3 (i8 ?_); refine p6 (β := Nat × OutC × Hp) ⟨fun x => x.1 ≤ n ∧ Grow y2 1 x.2.1.1 (partL o m x.1).length x.2.1.2 (rows (partL o m x.1)) x.2.2, fun x => [(1, int n), (2, int m), (7, .slice oa o.length oc), (8, .slice x.2.1.1 (partL o m x.1).length x.2.1.2), (9, int x.1)], fun x => x.2.2 ++ [dice g A c nums s1], fun _ => [Row oa (rows o)]⟩ (fun x => n - x.1) (0, (none, 0), []) ⟨Nat.zero_le _, Grow.nil _ _⟩ mC (List.Sublist.refl _) mC fun x hx => ?_; obtain ⟨k, ⟨na, nc⟩, og⟩ := x; obtain ⟨hk, hG⟩ := hx; simp only at hk hG; have hpl := hj8 o m k; refine d1 (d4 (b4 rfl (b4 rfl (u7 rfl rfl rfl (c3 ?_)))))
 first | refine j9 rfl (fun hb1 => ?_) (fun hb1 => ?_) | refine d6 rfl (fun hb1 => ?_) (fun hb1 => ?_)
 ·have hb1' := hb1; try simp at hb1'
  have hk2 : k < n := by omega
  have hmem : (k : Int) ∈ o := hP.mem_iff.2 (List.mem_map.2 ⟨k, List.mem_range.2 hk2, rfl⟩); refine i4 (c7 (d1 (i8 (d4 (b4 rfl (b4 rfl ?_)))))); refine i5 M4 rfl rfl (M3 o (k : Int) (by omega)) k8 mC fun z hz => ?_; refine b6 rfl (j4 (b4 rfl (b4 rfl (u7 rfl rfl rfl (c3 ?_)))))
  first | refine j9 rfl (fun hb2 => ?_) (fun hb2 => ?_) | refine d6 rfl (fun hb2 => ?_) (fun hb2 => ?_)
  ·have hb2' := hb2; try simp at hb2'
   have hin := (hz.2 hmem m).1 hb2; refine c9 (b4 rfl (b4 rfl ?_)); refine l5 _ rfl rfl (fun _ => w6 ..) fun gS => v8 (rows [(k : Int)]) (List.prefix_refl _) ?_; refine C0 ((partL o m k).length + 1) (rows (partL o m k ++ [(k : Int)])) I5 rfl rfl rfl hG (.refl _) (Src.row (news := rows [(k : Int)]) (m := 1) m0 rfl (D0 _) (by decide)) rfl (r8 _ _).symm (by unfold maxLen; omega) (by omega) fun A' c' og' hG' => ?_; refine b6 rfl (b7 (q8 (c7 (c9 (b4 rfl ?_))))); refine r4 _ rfl rfl rfl rfl m7 ?_; refine b6 rfl (b7 ?_); exact again _ (k + 1, (A', c'), og') ⟨by show k + 1 ≤ n; omega, by show Grow _ _ _ (partL o m (k + 1)).length _ (rows (partL o m (k + 1))) _; rw [lA, if_pos hin, List.length_append]; exact hG'⟩ (r9 (by omega)) ⟨rfl, rfl, rfl, by show some (Value.slice A' ((partL o m k).length + 1) c') = some (Value.slice A' (partL o m (k + 1)).length c'); rw [lA, if_pos hin, List.length_append]; rfl, rfl, tK⟩ (List.Sublist.refl _) mC
  have hb2' := hb2; try simp at hb2'
  have hin := mt (hz.2 hmem m).2 hb2; refine i4 (q8 (c7 (c9 (b4 rfl ?_)))); refine r4 _ rfl rfl rfl rfl m7 ?_; refine b6 rfl (b7 ?_); exact again _ (k + 1, (na, nc), og) ⟨by show k + 1 ≤ n; omega, by show Grow _ _ _ (partL o m (k + 1)).length _ (rows (partL o m (k + 1))) _; rw [lA, if_neg hin]; exact hG⟩ (r9 (by omega)) ⟨rfl, rfl, rfl, by show some (Value.slice na (partL o m k).length nc) = some (Value.slice na (partL o m (k + 1)).length nc); rw [lA, if_neg hin], rfl, tK⟩ (List.Sublist.refl _) mC
 have hb1' := hb1; try simp at hb1'
 have hk2 : k = n := by omega
 subst hk2; refine m4 (v6 (l9 (c7 (d4 (b4 rfl (b6 rfl (c3 (j6 ?_)))))))); refine cX hG ?_; exact ret1 (s1, partL o m k, (na, nc)) rfl rfl rfl ⟨hs1, ⟨jq0 o m k, fun v hv => lj8 hv⟩, jj9 hP, hG.le⟩ (List.Sublist.refl _) ⟨m0, tK⟩
end Go.Proofs.YtpihanmcnmlodaaGreatDoor
end
section
namespace Go.W
open Go Go.RowKit
section
variable {c : Cx} {Q : Exit → Act → World → Prop} {fr : Fr} {hp : Hp} {L : List Fact} {ops : Array Oper} {rest : List Oper}
variable {d : Tmp} {ty : TypeId} {pos : String} {af : Array Edge}
theorem hl_dup {F : Fact} (h : F ∈ L) (k : HL c ops Q rest fr hp (F :: L)) : HL c ops Q rest fr hp L := fun a w ha hw => k a w ha (hw.weak (List.Sublist.refl _) fun G hG => by
  rcases List.mem_cons.1 hG with rfl | hG
  · exact h
  exact hG)
theorem vY {f : Nat} {x : Operand} {ats : Array TypeId} {t : TypeId} {v v' : Value} {name : String} {β : Type} {k : Con β} {hpR : Hp} (hcb : Callable c.P f) (hd : Nat.blt d c.n = true) (hx : ev fr x = some (.iface t v))
    (hmt : ∀ w, (method (c.P.types.size + Made.depth) t v name).run c.P w = .ok (f, v') w)
    (hm : Meets c.P f [v'] k) (h1 : hp.Perm (k.hpI ++ hpR)) (h2 : LSub L k.LI) (kk : ∀ x, k.inv x → HL c ops Q rest ((d, k.val x) :: fr) (k.hpO x ++ hpR) (k.LO x ++ L)) :
    HL c ops Q (⟨some d, .call ⟨.invoke x name, #[], ats⟩, ty, pos, af, none⟩ :: rest) fr hp L := by
  intro a w ha hw; refine cD rfl fun K hK => ?_; unfold Oper.wp
  have e2 : (execOp a.eval (⟨some d, .call ⟨.invoke x name, #[], ats⟩, ty, pos, af, none⟩ : Oper)).run c.P w = .ok (.enter f [v'].toArray) w := by
    show ((do let dd ← resolve a.eval ⟨.invoke x name, #[], ats⟩ ty; invoke dd.target dd.args) : Sem Next).run c.P w = _; simp only [resolve, ha.ev hx, Sem.run_bind, Sem.run_pure, Result.andThen_ok, invoke]; have e3 : (#[Value.iface t v] ++ Array.map a.eval #[]) = #[Value.iface t v] := by simp
    rw [e3]; have e4 : (#[Value.iface t v] : Array Value).extract 1 (#[Value.iface t v] : Array Value).size = #[] := by simp
    show (callMethod (.iface t v) name ((#[Value.iface t v] : Array Value).extract 1 (#[Value.iface t v] : Array Value).size)).run c.P w = _; rw [e4]; have e5 : (#[v'] ++ #[] : Array Value) = [v'].toArray := by simp
    simp only [callMethod, Sem.run_bind, Sem.run_pure, run_program, Result.andThen_ok, hmt, e5]; exact hcb.run _ _
  rw [e2, Oper.upon_enter]; refine (hm w (hw.entry h1 h2.mem)).mono fun e w' hp => ?_; obtain ⟨x, rfl, hi, hwi⟩ := hp; exact hK _ _ (kk x hi _ _ (ha.put (by simpa using hd) _) (hw.back h1 h2.mem hwi))
/-! ### Loops that leave marks -/
def AgainM {β : Type} (s : Sta β) (ds : β → List Nat) (μ : β → Nat) (m : Nat) (P : Program) (n : Nat) (b : Bx) (a : Act) (w : World) : Prop := ∃ y, s.inv y ∧ μ y < m ∧ Ok ⟨P, n, b, (ds y).map markOf, none⟩ a (s.fr y) ∧ WI b w (shutM (ds y) ++ s.hp y) (s.L y)
end
end Go.W
end
section
namespace Go.Proofs.YtpihanmcnmlodaaGreatDoor
open Go Go.W Tryz T F
set_option maxRecDepth 20000
attribute [local irreducible] HL HC HQ HB Row Rows2 Blk Facts
theorem bz9 {α : Type} [El α] (h1 : El.sz α = 1) {cur : Array Value} {l : List α} {i q : Nat} {v : Value} (h : cur.toList.take (l.length * 1) = rows l) (hi : i < l.length) (hq : q = i) (hv : El.cells (l.getD i default) = [v]) : cur[q]? = some v := by
  subst hq; have h2 := c5 hi (v := v) (by rw [hv]; rfl); rw [h1] at h2; rw [← h, List.getElem?_take, if_pos (by omega), Nat.mul_one] at h2; rw [← Array.getElem?_toList]; exact h2
abbrev wat (l : List Str) (i : Nat) : Str := l.getD i default
abbrev wle (a b : Str) : Prop := ¬ b < a
theorem iz2 {a b c : Str} (h1 : wle a b) (h2 : wle b c) : wle a c := fun h => by
  rcases Classical.em (b < a) with h3 | h3
  · exact h1 h3
  rcases Classical.em (a < b) with h4 | h4
  · exact h2 (List.lt_trans h h4)
  rw [ij5 h4 h3] at h; exact h2 h
theorem iz3 {a b : Str} (h : a < b) : wle a b := fun h2 => bz5 a (List.lt_trans h h2)
def srtTo (l : List Str) (m : Nat) : Prop := ∀ p q, p < q → q < m → wle (wat l p) (wat l q)
structure InsOK (l : List Str) (i j : Nat) : Prop where
  o : ∀ p q, p < q → q ≤ i → ¬ p = j → ¬ q = j → wle (wat l p) (wat l q)
  a : ∀ q, j < q → q ≤ i → wle (wat l j) (wat l q)
theorem ij1 {l : List Str} {i j : Nat} {v : Str} (hi : i < l.length) : wat (l.set i v) j = if i = j then v else wat l j := by
  unfold wat; rw [List.getD_eq_getElem?_getD, List.getD_eq_getElem?_getD, List.getElem?_set]
  split
  · rfl
  rfl
def swp (l : List Str) (j : Nat) : List Str := (l.set (j + 1) (wat l j)).set j (wat l (j + 1))
theorem bz2 {l : List Str} {j k : Nat} (hj : j + 1 < l.length) : wat (swp l j) k = if k = j then wat l (j + 1) else if k = j + 1 then wat l j else wat l k := by
  unfold swp; rw [ij1 (by simp; omega), ij1 (by omega)]
  by_cases h1 : k = j
  · rw [if_pos h1.symm, if_pos h1]
  rw [if_neg (fun e => h1 e.symm), if_neg h1]
  by_cases h2 : k = j + 1
  · rw [if_pos h2.symm, if_pos h2]
  rw [if_neg (fun e => h2 e.symm), if_neg h2]
theorem InsOK.start {l : List Str} {i : Nat} (h : srtTo l i) : InsOK l i i := ⟨fun p q h1 h2 h3 h4 => h p q h1 (by omega), fun q h1 h2 => by omega⟩
theorem InsOK.swap {l : List Str} {i j : Nat} (h : InsOK l i (j + 1)) (hi : i < l.length) (hj : j + 1 ≤ i) (hlt : wat l (j + 1) < wat l j) : InsOK (swp l j) i j := by
  have hj2 : j + 1 < l.length := by omega
  refine ⟨fun p q h1 h2 h3 h4 => ?_, fun q h1 h2 => ?_⟩
  · rw [bz2 hj2, bz2 hj2, if_neg h3, if_neg h4]
    by_cases hp : p = j + 1
    · rw [if_pos hp, if_neg (by omega)]
      exact h.o j q (by omega) h2 (by omega) (by omega)
    rw [if_neg hp]
    by_cases hq : q = j + 1
    · rw [if_pos hq]
      exact h.o p j (by omega) (by omega) (by omega) (by omega)
    rw [if_neg hq]; exact h.o p q h1 h2 hp hq
  rw [bz2 hj2, bz2 hj2, if_pos rfl, if_neg (by omega)]
  by_cases hq : q = j + 1
  · rw [if_pos hq]; exact iz3 hlt
  rw [if_neg hq]; exact h.a q (by omega) h2
theorem InsOK.done {l : List Str} {i j : Nat} (h : InsOK l i j) (hj : j ≤ i) (he : ∀ k, j = k + 1 → ¬ wat l j < wat l k) : srtTo l (i + 1) := by
  intro p q h1 h2
  by_cases hp : p = j
  · subst hp; exact h.a q h1 (by omega)
  by_cases hq : q = j
  · subst hq
    obtain ⟨k, rfl⟩ : ∃ k, q = k + 1 := ⟨q - 1, by omega⟩; have h3 : wle (wat l k) (wat l (k + 1)) := he k rfl
    by_cases hpk : p = k
    · subst hpk; exact h3
    exact iz2 (h.o p k (by omega) (by omega) hp (by omega)) h3
  exact h.o p q h1 (by omega) hp hq
abbrev SrtW (ws l : List Str) : Prop := l.Perm ws ∧ srtTo l l.length
abbrev GrowS (A : Option Addr) (cap : Nat) (l : List Str) (og : Hp) : Prop := Grow J1 1 A l.length cap (rows l) og
def ascTo (l : List Str) (m : Nat) : Prop := ∀ p q, p < q → q < m → wat l p < wat l q
theorem wlt_of {a b : Str} (h : wle a b) (hne : ¬ a = b) : a < b := by
  rcases Classical.em (a < b) with h1 | h1
  · exact h1
  exact absurd (ij5 h1 h) hne
theorem ascTo.next {l0 : List Str} {k : Nat} (h : ascTo l0 k) (h0 : 1 ≤ k) (hk : k < l0.length) (hs : srtTo l0 l0.length) (hne : ¬ wat l0 k = wat l0 (k - 1)) : ascTo l0 (k + 1) := by
  intro p q h1 h2
  by_cases hq : q = k
  · subst hq
    have h3 : wat l0 (q - 1) < wat l0 q := wlt_of (hs _ _ (by omega) hk) (fun e => hne e.symm)
    by_cases hp : p = q - 1
    · subst hp; exact h3
    exact List.lt_trans (h p (q - 1) (by omega) (by omega)) h3
  exact h p q h1 (by omega)
structure CptOK (l0 : List Str) (b0 k j : Nat) (l : List Str) : Prop where
  len : l.length = l0.length
  j1 : 1 ≤ j
  jn : b0 + j ≤ l0.length
  k1 : 1 ≤ k
  kj : k < b0 + j
  asc : ascTo l k
  rest : ∀ q, b0 + j ≤ q + 1 → wat l q = wat l0 q
  mem : ∀ s, (∃ p, p < k ∧ wat l p = s) ↔ (∃ p, p < b0 + j ∧ wat l0 p = s)
  last : wat l (k - 1) = wat l0 (b0 + j - 1)
theorem CptOK.start {l0 : List Str} {k : Nat} (h : ascTo l0 k) (h0 : 1 ≤ k) (hk : k < l0.length) (he : wat l0 k = wat l0 (k - 1)) : CptOK l0 k k 1 l0 := by
  refine ⟨rfl, by omega, by omega, h0, by omega, h, fun _ _ => rfl, fun s => ⟨?_, ?_⟩, by rw [Nat.add_sub_cancel]; exact he.symm⟩
  · rintro ⟨p, h1, h2⟩; exact ⟨p, by omega, h2⟩
  rintro ⟨p, h1, h2⟩
  by_cases hp : p = k
  · subst hp; exact ⟨p - 1, by omega, by rw [← he]; exact h2⟩
  exact ⟨p, by omega, h2⟩
theorem iq6 {l : List Str} {s : Str} : s ∈ l ↔ ∃ p, p < l.length ∧ wat l p = s := by
  constructor
  · intro h
    obtain ⟨i, hi, rfl⟩ := List.getElem_of_mem h; exact ⟨i, hi, q7 hi⟩
  rintro ⟨p, hp, rfl⟩; unfold wat; exact n7 hp
theorem mx3 {l : List Str} (h : ascTo l l.length) : l.Pairwise (· < ·) := by
  rw [List.pairwise_iff_getElem]; intro i j hi hj hij; have := h i j hij hj; unfold wat at this; rw [q7 hi, q7 hj] at this; exact this
abbrev DedW (l0 r : List Str) : Prop := r.Pairwise (· < ·) ∧ ∀ s, s ∈ r ↔ s ∈ l0
theorem sY {l : List Str} {k p : Nat} (hp : p < k) (hk : k ≤ l.length) : wat (l.take k) p = wat l p := by
  unfold wat; rw [List.getD_eq_getElem?_getD, List.getD_eq_getElem?_getD, List.getElem?_take, if_pos hp]
theorem CptOK.done {l0 l : List Str} {b0 k j : Nat} (h : CptOK l0 b0 k j l) (hj : l0.length ≤ b0 + j) : DedW l0 (l.take k) := by
  have h1 := h.jn; have h2 := h.kj; have hlen : (l.take k).length = k := by rw [List.length_take, h.len]; omega
  have hkl : k ≤ l.length := by rw [h.len]; omega
  refine ⟨mx3 fun p q h3 h4 => ?_, fun s => ?_⟩
  · rw [hlen] at h4
    rw [sY (by omega) hkl, sY h4 hkl]; exact h.asc p q h3 h4
  rw [iq6, iq6, hlen]
  constructor
  · rintro ⟨p, h3, h4⟩
    rw [sY h3 hkl] at h4; obtain ⟨q, h5, h6⟩ := (h.mem s).1 ⟨p, h3, h4⟩; exact ⟨q, by omega, h6⟩
  rintro ⟨p, h3, h4⟩; obtain ⟨q, h5, h6⟩ := (h.mem s).2 ⟨p, by omega, h4⟩; exact ⟨q, h5, by rw [sY h5 hkl]; exact h6⟩
def compareE (a b : Tr) : List Cl × Int := if ¬ checkT a = 0 then ([], checkT a) else if ¬ checkT b = 0 then ([], checkT b) else (compareT a b, 0)
theorem mt_art (v : Value) (w : World) : (method (prog.types.size + Made.depth) E5 v "wayzgoose/trade.next").run prog w = .ok (E2, v) w := n9
theorem mt_ptr (v : Value) (w : World) : (method (prog.types.size + Made.depth) E4 v "wayzgoose/trade.next").run prog w = .ok (E1, v) w := n9
theorem mt_idx (v : Value) (w : World) : (method (prog.types.size + Made.depth) nS v "wayzgoose/trade.next").run prog w = .ok (H5, v) w := n9
def nextL (h : Hd) : List Int := if ¬ h.2.2.1 = -1 then [h.2.2.1] else h.2.2.2.l
abbrev SetIs (m : Nat) (p : Nat → Bool) : Prop := m < 256 ∧ ∀ j, m.testBit j = p j
theorem SetIs.add {m e : Nat} {p q : Nat → Bool} (h : SetIs m p) (he : e < 8) (hq : ∀ j, q j = (p j || decide (e = j))) : SetIs (m ||| 2 ^ e) q := ⟨Nat.or_lt_two_pow (n := 8) h.1 (Nat.pow_lt_pow_right (by omega) he), fun j => by rw [Nat.testBit_or, Nat.testBit_two_pow, h.2 j, hq j]⟩
theorem SetIs.same {m : Nat} {p q : Nat → Bool} (h : SetIs m p) (hq : ∀ j, q j = p j) : SetIs m q := ⟨h.1, fun j => by rw [h.2 j, hq j]⟩
theorem SetIs.or {m n : Nat} {p q : Nat → Bool} (h : SetIs m p) (h2 : SetIs n q) : SetIs (m ||| n) (fun j => p j || q j) := ⟨Nat.or_lt_two_pow (n := 8) h.1 h2.1, fun j => by rw [Nat.testBit_or, h.2 j, h2.2 j]⟩
theorem next_in {cs : List Cl} {hs : List Hd} (hok : TrOK (trOf cs hs)) {i : Nat} (hi : i < hs.length) : ∀ x ∈ nextL (hs.getD i default), 0 ≤ x ∧ x < (hs.length : Int) := by
  have hh := hok.h i (by rw [y6]; exact hi); have e : (trOf cs hs).hs.getD i default = (hs.getD i default).p := Q5 hi; have hS := hh.s; have ha := hh.a; rw [e, y6] at hS ha; intro x hx; unfold nextL at hx
  split at hx
  · rename_i h1
    rw [List.mem_singleton] at hx; subst hx; simp only [Hd.p] at hS
    omega
  obtain ⟨k, hk, rfl⟩ := List.getElem_of_mem hx; have := mF (ha k hk); simp only [Hd.p] at this; rw [q7 hk] at this
  omega
theorem dx7 {cs : List Cl} {hs : List Hd} (hok : TrOK (trOf cs hs)) {i : Nat} (hi : i < hs.length) (k : Nat) : nextB (trOf cs hs) i k = decide ((k : Int) ∈ nextL (hs.getD i default)) := by
  have hh := hok.h i (by rw [y6]; exact hi); have e : (trOf cs hs).hs.getD i default = (hs.getD i default).p := Q5 hi; have hk := hh.kinds; rw [e] at hk; unfold nextB nextL; rw [e, Bool.eq_iff_iff, Bool.or_eq_true, decide_eq_true_eq, decide_eq_true_eq, decide_eq_true_eq]; generalize hs.getD i default = h at *; simp only [Hd.p] at hk ⊢
  by_cases h1 : h.2.2.1 = -1
  · rw [if_neg (fun e => e h1)]
    exact ⟨fun e => e.elim (fun e => by omega) id, .inr⟩
  rw [if_pos h1]
  have h2 : h.2.2.2.l = [] := by
    rcases hk with ⟨_, _, h2⟩ | ⟨h2, _⟩ | ⟨h2, _⟩
    · exact h2
    · exact absurd h2 h1
    exact absurd h2 h1
  rw [h2, List.mem_singleton]; exact ⟨fun e => e.elim (fun e => e.symm) (fun e => by cases e), fun e => .inl e.symm⟩
theorem gY (c : Int) (al : Sl Int) : Meets prog E2 [.agg #[int c, .slice al.a al.l.length al.c]] { val := fun _ : Unit => .slice al.a al.l.length al.c } := by
 refine d3 jW rfl n2 fun w0 => d4 (B7 rfl rfl fun gB => ?_); refine b6 rfl (j4 ?_)
 first | refine b2 ⟨_, 1, none⟩ rfl rfl Y1 rfl ?_ | refine b2 _ rfl rfl Y1 rfl ?_
 first | refine b3 rfl d9 rfl (j3 mB rfl) ?_ | refine b3 rfl d9 rfl (d5 mB rfl) ?_ | refine b3 rfl d9 rfl (i1 mB (c5 (by omega) rfl)) ?_ | refine b3 rfl d9 rfl (i3 mB (rows_get (by omega) rfl)) ?_ | refine b3 rfl d9 rfl (j8 mB rfl) ?_
 refine b6 rfl (c3 (j6 ?_)); exact ret1 () rfl rfl rfl tK nK tK
theorem kR (al : Sl Int) : Meets prog H5 [.agg #[.slice al.a al.l.length al.c]] { val := fun _ : Unit => .slice al.a al.l.length al.c } := by
 refine d3 mZ rfl n2 fun w0 => d4 (B7 rfl rfl fun gB => ?_); refine b6 rfl (j4 ?_)
 first | refine b2 ⟨_, 0, none⟩ rfl rfl bO rfl ?_ | refine b2 _ rfl rfl bO rfl ?_
 first | refine b3 rfl d9 rfl (j3 mB rfl) ?_ | refine b3 rfl d9 rfl (d5 mB rfl) ?_ | refine b3 rfl d9 rfl (i1 mB (c5 (by omega) rfl)) ?_ | refine b3 rfl d9 rfl (i3 mB (rows_get (by omega) rfl)) ?_ | refine b3 rfl d9 rfl (j8 mB rfl) ?_
 refine b6 rfl (c3 (j6 ?_)); exact ret1 () rfl rfl rfl tK nK tK
theorem gR (s : Int) : Meets prog E1 [.agg #[int s]] { val := fun x : OutC => .slice x.1 1 x.2, LO := fun x => [Row x.1 (rows [s])] } := by
 refine d3 jQ rfl n2 fun w0 => d4 (B7 rfl rfl fun gB => ?_); refine b6 rfl (j4 ?_)
 first | refine b2 ⟨_, 0, none⟩ rfl rfl I8 rfl ?_ | refine b2 _ rfl rfl I8 rfl ?_
 first | refine b3 rfl b5 rfl (j3 mB rfl) ?_ | refine b3 rfl b5 rfl (d5 mB rfl) ?_ | refine b3 rfl b5 rfl (i1 mB (c5 (by omega) rfl)) ?_ | refine b3 rfl b5 rfl (i3 mB (rows_get (by omega) rfl)) ?_ | refine b3 rfl b5 rfl (j8 mB rfl) ?_
 refine l5 _ rfl rfl (fun _ => w6 ..) fun gS => ?_; refine b6 rfl (c3 (j6 ?_)); refine J7 (rows [s]) (List.prefix_refl _) ?_; exact ret1 (some ⟨gS, 0, none⟩, 1) rfl rfl rfl tK nK ⟨m0, tK⟩
section
variable {c : Cx} {Q : Exit → Act → World → Prop} {fr : Fr} {hp : Hp} {L : List Fact} {ops : Array Oper} {rest : List Oper} {d : Tmp} {ty : TypeId} {pos : String} {af : Array Edge}
theorem r_next {x : Operand} {ats : Array TypeId} {h : Hd} (hd : Nat.blt d c.n = true) (hP : c.P = prog) (hx : ev fr x = some (kindOf h).v) (hL : Hd.row h ∈ L)
    (k : ∀ o : OutC, HL c ops Q rest ((d, .slice o.1 (nextL h).length o.2) :: fr) hp (Row o.1 (rows (nextL h)) :: L)) : HL c ops Q (⟨some d, .call ⟨.invoke x "wayzgoose/trade.next", #[], ats⟩, ty, pos, af, none⟩ :: rest) fr hp L := by
  unfold kindOf at hx; unfold nextL at k
  by_cases h1 : ¬ h.2.2.1 = -1
  · rw [if_pos h1] at hx
    simp only [if_pos h1] at k; have hm := gR h.2.2.1; rw [← hP] at hm; refine vY (f := E1) (hpR := hp) (by rw [hP]; exact iB) hd hx (by rw [hP]; exact mt_ptr _) hm k8 tK fun o _ => ?_; exact k o
  rw [if_neg h1] at hx; simp only [if_neg h1] at k; have k2 : HL c ops Q rest ((d, .slice h.2.2.2.a h.2.2.2.l.length h.2.2.2.c) :: fr) hp L := hl_dup hL (k (h.2.2.2.a, h.2.2.2.c))
  by_cases h2 : ¬ h.2.1 = -1
  · rw [if_pos h2] at hx
    have hm := gY h.2.1 h.2.2.2; rw [← hP] at hm; exact vY (f := E2) (hpR := hp) (by rw [hP]; exact iF) hd hx (by rw [hP]; exact mt_art _) hm k8 tK fun _ _ => k2
  rw [if_neg h2] at hx; have hm := kR h.2.2.2; rw [← hP] at hm; exact vY (f := H5) (hpR := hp) (by rw [hP]; exact lE) hd hx (by rw [hP]; exact mt_idx _) hm k8 tK fun _ _ => k2
end
theorem cx4 {l : List Int} (h : ∀ k, k < l.length → 0 ≤ l.getD k default ∧ (0 < k → l.getD (k - 1) default < l.getD k default)) : ∀ k : Nat, k < l.length → (k : Int) ≤ l.getD k default
  | 0, hk => (h 0 hk).1
  | k + 1, hk => by
    have h1 := cx4 h k (by omega); have h2 := (h (k + 1) hk).2 (by omega); rw [Nat.add_sub_cancel] at h2
    omega
theorem lq3 {cs : List Cl} {hs : List Hd} (hok : TrOK (trOf cs hs)) {i : Nat} (hi : i < hs.length) : (nextL (hs.getD i default)).length ≤ 6 := by
  have h6h := hok.h6; rw [y6] at h6h; have hh := hok.h i (by rw [y6]; exact hi); have e : (trOf cs hs).hs.getD i default = (hs.getD i default).p := Q5 hi; have ha := hh.a; rw [e, y6] at ha; unfold nextL
  split
  · simp
  generalize hl : (hs.getD i default).2.2.2.l = l; have ha2 : ∀ k, k < l.length → alsoErr hs.length i l k = 0 := by rw [← hl]; exact ha
  have hg := cx4 (l := l) fun k hk => ⟨(mF (ha2 k hk)).1, (mF (ha2 k hk)).2.2.2⟩
  by_cases h0 : l.length = 0
  · omega
  have h1 := hg (l.length - 1) (by omega); have h2 := (mF (ha2 (l.length - 1) (by omega))).2.1
  omega
theorem lz9 {l : List Nat} {k j v : Nat} (hk : k < l.length) : (l.set k v).getD j default = if k = j then v else l.getD j default := by
  rw [List.getD_eq_getElem?_getD, List.getD_eq_getElem?_getD, List.getElem?_set]
  split
  · rfl
  rfl
structure NetK (t : Tr) (k : Nat) (ns : List Nat) : Prop where
  len : ns.length = 6
  is : ∀ i, SetIs (ns.getD i default) (fun x => decide (i < k) && nextB t i x)
structure NetJ (t : Tr) (k : Nat) (l : List Int) (ns : List Nat) : Prop where
  len : ns.length = 6
  is : ∀ i, SetIs (ns.getD i default) (fun x => if i = k then decide ((x : Int) ∈ l) else decide (i < k) && nextB t i x)
theorem NetK.zero (t : Tr) : NetK t 0 (List.replicate 6 0) := ⟨rfl, fun i => by
  have e : (List.replicate 6 0).getD i (default : Nat) = 0 := by
    rw [List.getD_eq_getElem?_getD, List.getElem?_replicate]
    split <;> rfl
  rw [e]
  exact ⟨by decide, fun j => by simp⟩⟩
theorem NetK.start {t : Tr} {k : Nat} {ns : List Nat} (h : NetK t k ns) : NetJ t k [] ns := ⟨h.len, fun i => (h.is i).same fun j => by
  by_cases hi : i = k
  · rw [if_pos hi]; subst hi; simp
  rw [if_neg hi]⟩
theorem NetJ.add {t : Tr} {k e : Nat} {l : List Int} {ns : List Nat} (h : NetJ t k l ns) (hk : k < 6) (he : e < 8) : NetJ t k (l ++ [(e : Int)]) (ns.set k (ns.getD k default ||| 2 ^ e)) := ⟨by rw [List.length_set]; exact h.len, fun i => by
  rw [lz9 (by rw [h.len]; exact hk)]
  by_cases hi : k = i
  · subst hi
    rw [if_pos rfl]; refine (h.is k).add he fun j => ?_; rw [if_pos rfl, if_pos rfl, ← Bool.decide_or]; refine decide_eq_decide.2 ?_; rw [List.mem_append, List.mem_singleton]; exact or_congr_right ⟨fun e => by omega, fun e => by omega⟩
  rw [if_neg hi]
  exact (h.is i).same fun j => by rw [if_neg (fun e => hi e.symm), if_neg (fun e => hi e.symm)]⟩
theorem NetJ.done {cs : List Cl} {hs : List Hd} {k : Nat} {ns : List Nat} (hok : TrOK (trOf cs hs)) (hk : k < hs.length) (h : NetJ (trOf cs hs) k (nextL (hs.getD k default)) ns) : NetK (trOf cs hs) (k + 1) ns := ⟨h.len, fun i => (h.is i).same fun j => by
  by_cases hi : i = k
  · subst hi
    rw [if_pos rfl, dx7 hok hk]
    simp
  rw [if_neg hi]; have e : decide (i < k + 1) = decide (i < k) := decide_eq_decide.2 (by omega)
  rw [e]⟩
theorem mD {f : Nat → Int} : ∀ {n : Nat}, (∀ i, i < n → f i = 0) → firstE f n = 0
  | 0, _ => rfl
  | n + 1, h => by rw [firstE, if_pos (mD fun i hi => h i (by omega))]; exact h n (by omega)
def sortN (names : List Int) (i : Nat) : Str := sortsL.getD (names.getD i default).toNat default
def callN (words : List Int) (i : Nat) : Str := callingsL.getD (words.getD i default).toNat default
theorem gz3 : ∀ k, k < 9 → wordB (sortsL.getD k default) = true := by decide
theorem hz6 : ∀ k, k < 16 → wordB (callingsL.getD k default) = true := by decide
theorem jj1 : ∀ a, a < 9 → ∀ b, b < 9 → sortsL.getD a default = sortsL.getD b default → a = b := by decide
theorem kj8 : ∀ b, b < 16 → ∀ a, a < b → callingsL.getD a default < callingsL.getD b default := by decide
theorem gz4 {names : List Int} {n i : Nat} (hP : names.Perm (rngI n)) (hi : i < n) : 0 ≤ names.getD i default ∧ names.getD i default < (n : Int) := by
  have hl : names.length = n := by rw [hP.length_eq, pW]
  have hm : names.getD i default ∈ rngI n := hP.mem_iff.1 (n7 (by omega)); obtain ⟨k, hk, e⟩ := List.mem_map.1 hm; have := List.mem_range.1 hk
  omega
theorem rng_inj {names : List Int} {n i j : Nat} (hP : names.Perm (rngI n)) (hi : i < n) (hj : j < i) : ¬ names.getD j default = names.getD i default := by
  have hl : names.length = n := by rw [hP.length_eq, pW]
  have hnd : names.Nodup := hP.nodup_iff.2 (by
    unfold rngI; rw [List.nodup_iff_pairwise_ne, List.pairwise_map]
    exact List.pairwise_lt_range.imp fun h => by omega)
  rw [q7 (show j < names.length by omega), q7 (show i < names.length by omega)]; intro e; have := (List.getElem_inj hnd).1 e
  omega
def ClsMade (names : List Int) (cs : List Cl) : Prop := ∀ i, i < cs.length → (cs.getD i default).1 = sortN names i ∧ -1 ≤ (cs.getD i default).2 ∧ (cs.getD i default).2 < (i : Int)
theorem ClsMade.snoc {names : List Int} {cs : List Cl} (h : ClsMade names cs) {u : Int} (h1 : -1 ≤ u) (h2 : u < (cs.length : Int)) : ClsMade names (cs ++ [(sortN names cs.length, u)]) := by
  intro i hi; rw [List.length_append, List.length_singleton] at hi; rw [q7 (by simp; omega)]
  by_cases e : i < cs.length
  · rw [List.getElem_append_left e, ← q7 e]
    exact h i e
  obtain rfl : i = cs.length := by omega
  rw [List.getElem_append_right (by omega)]; simp only [Nat.sub_self, List.getElem_cons_zero]; exact ⟨tK, h1, h2⟩
theorem cls_all {names : List Int} {cs : List Cl} (hP : names.Perm (rngI 9)) (h : ClsMade names cs) (h6 : cs.length ≤ 6) (i : Nat) (hi : i < cs.length) : clsErr cs i = 0 := by
  obtain ⟨e1, e2, e3⟩ := h i hi; have hr := gz4 hP (show i < 9 by omega); unfold clsErr; rw [if_neg, if_neg, if_neg (by omega), if_neg (by omega)]
  · intro hm
    obtain ⟨x, hx, ex⟩ := List.mem_map.1 hm; obtain ⟨j, hj, rfl⟩ := List.getElem_of_mem hx; rw [List.length_take] at hj; have hj2 : j < i := by omega
    rw [List.getElem_take, ← q7 (show j < cs.length by omega), (h j (by omega)).1, e1] at ex; have hrj := gz4 hP (show j < 9 by omega); have := jj1 _ (by omega) _ (by omega) ex; exact rng_inj hP (show i < 9 by omega) hj2 (by omega)
  rw [e1]; have := gz3 (names.getD i default).toNat (by omega); unfold sortN; rw [this]
  decide
def HdMade (nc n i : Nat) (h : Hd) : Prop := (∀ k, k < h.2.2.2.l.length → alsoErr n i h.2.2.2.l k = 0) ∧ ((0 ≤ h.2.2.1 ∧ h.2.2.1 < (n : Int) ∧ ¬ h.2.2.1 = (i : Int) ∧ h.2.1 = -1 ∧ h.2.2.2.l = []) ∨ (h.2.2.1 = -1 ∧ 0 ≤ h.2.1 ∧ h.2.1 < (nc : Int)) ∨ (h.2.2.1 = -1 ∧ h.2.1 = -1 ∧ h.2.2.2.l ≠ []))
def HsMade (words : List Int) (nc n : Nat) (hs : List Hd) : Prop := ∀ i, i < hs.length → (hs.getD i default).1 = callN words i ∧ HdMade nc n i (hs.getD i default)
theorem HsMade.snoc {words : List Int} {nc n : Nat} {hs : List Hd} (h : HsMade words nc n hs) {x : Hd} (h1 : x.1 = callN words hs.length) (h2 : HdMade nc n hs.length x) : HsMade words nc n (hs ++ [x]) := by
  intro i hi; rw [List.length_append, List.length_singleton] at hi; rw [q7 (by simp; omega)]
  by_cases e : i < hs.length
  · rw [List.getElem_append_left e, ← q7 e]
    exact h i e
  obtain rfl : i = hs.length := by omega
  rw [List.getElem_append_right (by omega)]; simp only [Nat.sub_self, List.getElem_cons_zero]; exact ⟨h1, h2⟩
theorem hz9 {l : List Int} (h : l.Pairwise (· < ·)) {j i : Nat} (hji : j < i) (hi : i < l.length) : l.getD j default < l.getD i default := by
  rw [q7 (show j < l.length by omega), q7 hi]; exact (List.pairwise_iff_getElem.1 h) j i (by omega) hi hji
theorem gq0 {words : List Int} (h : words.Pairwise (· < ·)) (h2 : ∀ v ∈ words, 0 ≤ v ∧ v < 16) {j i : Nat} (hji : j < i) (hi : i < words.length) : callN words j < callN words i := by
  have h3 := hz9 h hji hi; have h4 := h2 _ (n7 (show j < words.length by omega)); have h5 := h2 _ (n7 hi); exact kj8 _ (by omega) _ (by omega)
theorem jq9 {n nc i : Nat} {h : Hd} (e : (0 ≤ h.2.2.1 ∧ h.2.2.1 < (n : Int) ∧ ¬ h.2.2.1 = (i : Int) ∧ h.2.1 = -1 ∧ h.2.2.2.l = []) ∨ (h.2.2.1 = -1 ∧ 0 ≤ h.2.1 ∧ h.2.1 < (nc : Int)) ∨ (h.2.2.1 = -1 ∧ h.2.1 = -1 ∧ h.2.2.2.l ≠ [])) : kindBad h.p = false := by
  have e1 : h.p.2.2.1 = h.2.2.1 := rfl; have e2 : h.p.2.1 = h.2.1 := rfl; have e3 : h.p.2.2.2 = h.2.2.2.l := rfl; unfold kindBad; rw [e1, e2, e3]
  rcases e with ⟨h1, _, _, h2, h3⟩ | ⟨h1, h2, _⟩ | ⟨h1, h2, h3⟩
  · have h4 : ¬ h.2.2.1 = -1 := by omega
    rw [h2, h3, decide_eq_false h4]; simp
  · have h4 : ¬ h.2.1 = -1 := by omega
    rw [h1, decide_eq_false h4]; simp
  have h4 : ¬ h.2.2.2.l.length = 0 := fun e => h3 (List.eq_nil_of_length_eq_zero e); rw [h1, h2, decide_eq_false h4]; simp
theorem lz1 {words : List Int} {cs : List Cl} {hs : List Hd} {n : Nat} (hw : words.Pairwise (· < ·)) (hw2 : ∀ v ∈ words, 0 ≤ v ∧ v < 16) (hn : words.length = n) (hl : hs.length = n) (h : HsMade words cs.length n hs) (i : Nat) (hi : i < n) : headErr (trOf cs hs) i = 0 := by
  obtain ⟨e1, e2, e3⟩ := h i (by omega); have hg : ∀ j, j < n → (trOf cs hs).hs.getD j default = (hs.getD j default).p := fun j hj => Q5 (by omega); have hlen : (trOf cs hs).hs.length = n := by rw [y6, hl]
  have hwi := hw2 _ (n7 (show i < words.length by omega)); unfold headErr; rw [hlen, hg i hi]; rw [if_neg, if_neg, if_neg, if_neg, if_neg, if_neg, if_neg]
  · rw [jq9 e3]; decide
  · rw [Classical.not_not]
    exact mD e2
  · show ¬ (hs.getD i default).2.2.1 = (i : Int)
    rcases e3 with ⟨_, _, h1, _, _⟩ | ⟨h1, _, _⟩ | ⟨h1, _, _⟩ <;> omega
  · show ¬ ((hs.getD i default).2.1 < -1 ∨ (cs.length : Int) ≤ (hs.getD i default).2.1 ∨ (hs.getD i default).2.2.1 < -1 ∨ (n : Int) ≤ (hs.getD i default).2.2.1)
    rcases e3 with ⟨h1, h2, _, h3, _⟩ | ⟨h1, h2, h3⟩ | ⟨h1, h2, _⟩ <;> omega
  · rintro ⟨h0, hlt⟩
    rw [hg (i - 1) (by omega)] at hlt; have h1 : (hs.getD i default).1 < (hs.getD (i - 1) default).1 := hlt; rw [e1, (h (i - 1) (by omega)).1] at h1; exact bz5 _ (List.lt_trans h1 (gq0 hw hw2 (show i - 1 < i by omega) (by omega)))
  · intro hm
    obtain ⟨x, hx, ex⟩ := List.mem_map.1 hm; obtain ⟨j, hj, rfl⟩ := List.getElem_of_mem hx; rw [List.length_take, hlen] at hj; have hj2 : j < i := by omega
    rw [List.getElem_take, ← q7 (show j < (trOf cs hs).hs.length by rw [hlen]; omega), hg j (by omega)] at ex; have h1 : (hs.getD j default).1 = (hs.getD i default).1 := ex; rw [(h j (by omega)).1, e1] at h1; have h2 := gq0 hw hw2 hj2 (by omega); rw [h1] at h2; exact bz5 _ h2
  show ¬ wordB (hs.getD i default).1 = false; rw [e1]; have := hz6 (words.getD i default).toNat (by omega); unfold callN; rw [this]
  decide
theorem made_ok {names words : List Int} {cs : List Cl} {hs : List Hd} (hP : names.Perm (rngI 9)) (hC : ClsMade names cs) (h6 : cs.length ≤ 6) (hw : words.Pairwise (· < ·)) (hw2 : ∀ v ∈ words, 0 ≤ v ∧ v < 16) (hl : hs.length = words.length) (hn : words.length ≤ 6) (h : HsMade words cs.length words.length hs) : checkT (trOf cs hs) = 0 := by
  unfold checkT; have hlen : (trOf cs hs).hs.length = words.length := by rw [y6, hl]
  have h1 : firstE (clsErr cs) cs.length = 0 := mD fun i hi => cls_all hP hC h6 i hi; have h2 : firstE (headErr (trOf cs hs)) words.length = 0 := mD fun i hi => lz1 hw hw2 rfl hl h i hi; rw [hlen, if_neg (by show ¬ (6 < cs.length ∨ 6 < words.length); omega), if_neg (by rw [Classical.not_not]; exact h1)]; exact h2
def AscB (i k : Nat) (l : List Int) : Prop := l.Pairwise (· < ·) ∧ ∀ x ∈ l, 0 ≤ x ∧ x < (k : Int) ∧ ¬ x = (i : Int)
theorem AscB.step {i k : Nat} {l : List Int} (h : AscB i k l) : AscB i (k + 1) l := ⟨h.1, fun x hx => by have := h.2 x hx; omega⟩
theorem AscB.snoc {i k : Nat} {l : List Int} (h : AscB i k l) (hk : ¬ k = i) : AscB i (k + 1) (l ++ [(k : Int)]) := by
  refine ⟨List.pairwise_append.2 ⟨h.1, by simp, fun a ha b hb => ?_⟩, fun x hx => ?_⟩
  · rw [List.mem_singleton] at hb; have := (h.2 a ha).2.1; omega
  rcases List.mem_append.1 hx with hx | hx
  · have := h.2 x hx; omega
  rw [List.mem_singleton] at hx; omega
theorem AscB.err {i n : Nat} {l : List Int} (h : AscB i n l) (k : Nat) (hk : k < l.length) : alsoErr n i l k = 0 := by
  have h1 := h.2 _ (n7 hk); unfold alsoErr; rw [if_neg (by omega), if_neg h1.2.2, if_neg]; rintro ⟨h0, h2⟩; have := hz9 h.1 (show k - 1 < k by omega) hk
  omega
theorem AscB.len {i n : Nat} {l : List Int} (h : AscB i n l) : l.length ≤ n := by
  have hg := cx4 (l := l) fun k hk => ⟨(h.2 _ (n7 hk)).1, fun h0 => hz9 h.1 (show k - 1 < k by omega) hk⟩
  by_cases h0 : l.length = 0
  · omega
  have h1 := hg (l.length - 1) (by omega); have h2 := (h.2 _ (n7 (show l.length - 1 < l.length by omega))).2.1
  omega
theorem past {n i : Nat} {v : Int} (hi : i < n) (h0 : 0 ≤ v) (h1 : v ≤ (n : Int) - 2) : 0 ≤ (((i : Int) + 1 + v).tmod n) ∧ (((i : Int) + 1 + v).tmod n) < (n : Int) ∧ ¬ (((i : Int) + 1 + v).tmod n) = (i : Int) := by
  rw [Int.tmod_eq_emod_of_nonneg (by omega)]
  by_cases h : (i : Int) + 1 + v < (n : Int)
  · rw [Int.emod_eq_of_lt (by omega) h]; omega
  have e : ((i : Int) + 1 + v) % (n : Int) = (i : Int) + 1 + v - n := by
    rw [← Int.sub_emod_right]; exact Int.emod_eq_of_lt (by omega) (by omega)
  rw [e]; omega
end Go.Proofs.YtpihanmcnmlodaaGreatDoor
end
