/- A part of the first numbers. -/
import Derived.Test.YtlpgheniajdkfaaPan
namespace Go.Proofs.Ytlpgheniajdkfaa
open Go Go.W
set_option linter.unusedVariables false
set_option linter.unusedSimpArgs false
set_option maxRecDepth 20000
attribute [local irreducible] HL HC HQ HB Row Rows2 Blk Facts

theorem not_mem_take {α : Type} [Inhabited α] {l : List α} {k : Nat} {s : α} (hk : k < l.length) (h : s ∉ l.take k) (h1 : ¬ s = l.getD k default) : s ∉ l.take (k + 1) := by
  rw [take_succ_getD l k hk]
  simp only [List.mem_append, List.mem_singleton, not_or]
  exact ⟨h, h1⟩
/-- Where a number lies. -/
def AtInv (l : List Int) (s z : Int) : Prop := (0 ≤ z ↔ s ∈ l) ∧ (s ∈ l → ∀ k : Nat, z < (k : Int) ↔ s ∈ l.take k)
theorem at_found {l : List Int} {k : Nat} {s : Int} (hk : k < l.length) (hb : l.getD k default = s) (ht : s ∉ l.take k) : AtInv l s (k : Int) := by
  refine ⟨⟨fun _ => hb ▸ getD_mem hk, fun _ => by omega⟩, fun _ j => ⟨fun h => ?_, fun h => ?_⟩⟩
  · have h1 : s ∈ l.take (k + 1) := by rw [take_succ_getD l k hk, hb]; simp
    exact List.take_subset_take_left l (by omega) h1
  · rcases Nat.lt_or_ge k j with h2 | h2
    · omega
    · exact absurd (List.take_subset_take_left l h2 h) ht
theorem at_none {l : List Int} {s : Int} (ht : s ∉ l) : AtInv l s (-1) := ⟨⟨fun h => by omega, fun h => absurd h ht⟩, fun h => absurd h ht⟩
def partL (o : List Int) (m n : Nat) : List Int := (rngI n).filter fun v => decide (v ∈ o.take m)
theorem partL_succ (o : List Int) (m n : Nat) : partL o m (n + 1) = if (n : Int) ∈ o.take m then partL o m n ++ [(n : Int)] else partL o m n := by
  unfold partL
  rw [rng_succ, List.filter_append]
  by_cases h : (n : Int) ∈ o.take m <;> simp [h]
theorem partL_asc (o : List Int) (m n : Nat) : (partL o m n).Pairwise (· < ·) := by
  unfold partL rngI
  refine List.Pairwise.filter _ (List.pairwise_map.2 (List.pairwise_lt_range.imp fun h => ?_))
  omega
theorem partL_in {o : List Int} {m n : Nat} {v : Int} (h : v ∈ partL o m n) : 0 ≤ v ∧ v < (n : Int) := by
  unfold partL rngI at h
  have h1 := (List.mem_filter.1 h).1
  obtain ⟨i, hi, rfl⟩ := List.mem_map.1 h1
  have := List.mem_range.1 hi
  omega
theorem partL_len0 (o : List Int) (m n : Nat) : (partL o m n).length ≤ n := by
  unfold partL
  have := List.length_filter_le (fun v => decide (v ∈ o.take m)) (rngI n)
  rw [rng_len] at this
  exact this
theorem partL_len {o : List Int} {m n : Nat} (h : o.Perm (rngI n)) : (partL o m n).length ≤ m := by
  have hn : o.Nodup := h.nodup_iff.2 (by unfold rngI List.Nodup; exact List.pairwise_map.2 (List.pairwise_lt_range.imp fun h => by omega))
  unfold partL
  rw [(h.symm.filter _).length_eq]
  have e : o.filter (fun v => decide (v ∈ o.take m)) = (o.take m).filter (fun v => decide (v ∈ o.take m)) ++ (o.drop m).filter (fun v => decide (v ∈ o.take m)) := by rw [← List.filter_append, List.take_append_drop]
  have hd := (List.nodup_append.1 ((List.take_append_drop m o).symm ▸ hn : (o.take m ++ o.drop m).Nodup)).2.2
  have h0 : (o.drop m).filter (fun v => decide (v ∈ o.take m)) = [] := List.filter_eq_nil_iff.2 fun a ha => by
    rw [decide_eq_true_eq]
    exact fun h => hd a h a ha rfl
  rw [e, h0, List.append_nil]
  exact Nat.le_trans (List.length_filter_le _ _) (by rw [List.length_take]; omega)

theorem kit_Index_meets {A : Option Addr} {c : Nat} (l : List Int) (s : Int) (hl : l.length ≤ 1000000) : Meets Try.prog F.kit_Index [.slice A l.length c, int s] { LI := [Row A (rows l)], inv := fun z : Int => AtInv l s z, val := fun z => int z } := by
 refine meets_intro F.kit_Index_f rfl (Nat.le_of_ble_eq_true rfl) fun w0 => ?_
 refine hc_seq ?_
 refine hc_region ?_
 refine r_assign rfl rfl ?_
 refine hl_nil ?_
 refine then_n ?_
 refine hc_seq ?_
 refine hc_seq ?_
 refine hc_region ?_
 refine r_assign rfl rfl ?_
 refine hl_nil ?_
 refine then_n ?_
 refine hc_block ?_
 refine hc_loop (β := Nat) ⟨fun k => k ≤ l.length ∧ s ∉ l.take k, fun k => [(0, .slice A l.length c), (1, int s), (5, int k)], fun _ => [], fun _ => [Row A (rows l)]⟩ (fun k => l.length - k) 0 ⟨Nat.zero_le _, by simp⟩ ⟨rfl, rfl, rfl, trivial⟩ (.refl _) ⟨m0, trivial⟩ fun k hk => ?_
 obtain ⟨hk, ht⟩ := hk
 refine hc_seq ?_
 refine hc_seq ?_
 refine hc_region ?_
 refine r_move rfl rfl ?_
 refine r_move rfl rfl ?_
 refine r_len_sl rfl T.u_ints rfl ?_
 refine r_lss rfl rfl rfl ?_
 refine hl_nil ?_
 refine then_n ?_
 first | refine c_dec rfl (fun hb1 => ?_) (fun hb1 => ?_) | refine hc_cond rfl (fun hb1 => ?_) (fun hb1 => ?_)
 ·have hb1' := hb1; try simp at hb1'
  have hk2 : k < l.length := by omega
  refine hc_skip ?_
  refine then_n ?_
  refine hc_seq ?_
  refine hc_block ?_
  refine hc_seq ?_
  refine hc_region ?_
  refine r_move rfl rfl ?_
  refine r_move rfl rfl ?_
  refine r_elem (α := Int) _ _ rfl T.u_ints T.sz_int rfl rfl rfl (by repeat constructor) rfl (by omega) (by decide) ?_
  refine r_load rfl T.cell_int rfl (cell_row (by repeat constructor) (rows_get0 (by omega) rfl)) ?_
  refine r_move rfl rfl ?_
  refine r_eql rfl rfl rfl ?_
  refine hl_nil ?_
  refine then_n ?_
  first | refine c_dec rfl (fun hb2 => ?_) (fun hb2 => ?_) | refine hc_cond rfl (fun hb2 => ?_) (fun hb2 => ?_)
  ·have hb2' := hb2; try simp at hb2'
   refine hc_seq ?_
   refine hc_region ?_
   refine r_move rfl rfl ?_
   refine r_assign rfl rfl ?_
   refine hl_nil ?_
   refine then_n ?_
   refine hc_ret ?_
   refine inb_ret ?_
   refine then_ret ?_
   refine then_ret ?_
   refine inb_ret ?_
   refine then_ret ?_
   exact ret1 (k : Int) rfl rfl rfl (at_found hk2 hb2 ht) (.refl _) trivial
  ·have hb2' := hb2; try simp at hb2'
   refine hc_skip ?_
   refine inb_n ?_
   refine then_n ?_
   refine hc_region ?_
   refine r_move rfl rfl ?_
   refine r_add _ rfl rfl rfl rfl (by unfold I64; omega) ?_
   refine r_assign rfl rfl ?_
   refine hl_nil ?_
   exact again _ (k + 1) ⟨by omega, not_mem_take hk2 ht (fun e => hb2 e.symm)⟩ (by show l.length - (k + 1) < l.length - k; omega) ⟨rfl, rfl, rfl, trivial⟩ (.refl _) ⟨m0, trivial⟩
 ·have hb1' := hb1; try simp at hb1'
  have hk2 : k = l.length := by omega
  subst hk2
  rw [List.take_length] at ht
  refine hc_exit ?_
  refine then_exit ?_
  refine then_exit ?_
  refine inb_hit ?_
  refine then_n ?_
  refine hc_seq ?_
  refine hc_region ?_
  refine r_assign rfl rfl ?_
  refine hl_nil ?_
  refine then_n ?_
  refine hc_ret ?_
  exact ret1 (-1) rfl rfl rfl (at_none ht) (.refl _) trivial

set_option maxHeartbeats 1000000 in
theorem kit_partOf_meets {g : Nat} {A : Option Addr} {c : Nat} {nums : List Int} {s : Int × Int} (n m : Nat) (hn : nums.length ≤ 9223372036854775807) (hs : DOK nums s) (hI : n ≤ 100 ∧ m ≤ 100) :
    Meets Try.prog F.kit_partOf [.pointer (some ⟨g, 0, none⟩), int n, int m] (diceCon g A c nums s (fun x : List Int × OutC => (x.1.Pairwise (· < ·) ∧ ∀ v ∈ x.1, 0 ≤ v ∧ v < (n : Int)) ∧ x.1.length ≤ m ∧ x.1.length ≤ x.2.2) (fun x => .slice x.2.1 x.1.length x.2.2) (fun x => [Row x.2.1 (rows x.1)])) := by
 refine meets_intro F.kit_partOf_f rfl (Nat.le_of_ble_eq_true rfl) fun w0 => ?_
 refine hc_seq ?_
 refine hc_region ?_
 refine r_assign rfl rfl ?_
 refine hl_nil ?_
 refine then_n ?_
 refine hc_seq ?_
 refine hc_region ?_
 refine r_move rfl rfl ?_
 refine r_move rfl rfl ?_
 refine hl_call F.kit_Dice_Order_cb rfl rfl (kit_Dice_Order_meets n hn hs hI.1) (List.Perm.refl _) ⟨(by repeat constructor), trivial⟩ fun x hx => ?_
 obtain ⟨s1, o, oa, oc⟩ := x
 obtain ⟨hs1, hP, hoc⟩ := hx
 simp only at hP hoc
 have hol : o.length = n := by rw [hP.length_eq, rng_len]
 refine r_assign rfl rfl ?_
 refine hl_nil ?_
 refine then_n ?_
 refine hc_seq ?_
 refine hc_region ?_
 refine r_assign rfl rfl ?_
 refine hl_nil ?_
 refine then_n ?_
 refine hc_seq ?_
 refine hc_seq ?_
 refine hc_region ?_
 refine r_assign rfl rfl ?_
 refine hl_nil ?_
 refine then_n ?_
 refine hc_block ?_
 refine hc_loop (β := Nat × OutC × Hp) ⟨fun x => x.1 ≤ n ∧ Grow T.int 1 x.2.1.1 (partL o m x.1).length x.2.1.2 (rows (partL o m x.1)) x.2.2, fun x => [(1, int n), (2, int m), (7, .slice oa o.length oc), (8, .slice x.2.1.1 (partL o m x.1).length x.2.1.2), (9, int x.1)], fun x => x.2.2 ++ [dice g A c nums s1], fun _ => [Row oa (rows o)]⟩ (fun x => n - x.1) (0, (none, 0), []) ⟨Nat.zero_le _, Grow.nil _ _⟩ ⟨rfl, rfl, rfl, rfl, rfl, trivial⟩ (List.Sublist.refl _) ⟨(by repeat constructor), trivial⟩ fun x hx => ?_
 obtain ⟨k, ⟨na, nc⟩, og⟩ := x
 obtain ⟨hk, hG⟩ := hx
 simp only at hk hG
 have hpl := partL_len0 o m k
 refine hc_seq ?_
 refine hc_seq ?_
 refine hc_region ?_
 refine r_move rfl rfl ?_
 refine r_move rfl rfl ?_
 refine r_lss rfl rfl rfl ?_
 refine hl_nil ?_
 refine then_n ?_
 first | refine c_dec rfl (fun hb1 => ?_) (fun hb1 => ?_) | refine hc_cond rfl (fun hb1 => ?_) (fun hb1 => ?_)
 ·have hb1' := hb1; try simp at hb1'
  have hk2 : k < n := by omega
  have hmem : (k : Int) ∈ o := hP.mem_iff.2 (List.mem_map.2 ⟨k, List.mem_range.2 hk2, rfl⟩)
  refine hc_skip ?_
  refine then_n ?_
  refine hc_seq ?_
  refine hc_block ?_
  refine hc_seq ?_
  refine hc_region ?_
  refine r_move rfl rfl ?_
  refine r_move rfl rfl ?_
  refine hl_call F.kit_Index_cb rfl rfl (kit_Index_meets o (k : Int) (by omega)) (List.Perm.refl _) ⟨(by repeat constructor), trivial⟩ fun z hz => ?_
  refine r_assign rfl rfl ?_
  refine hl_nil ?_
  refine then_n ?_
  refine hc_seq ?_
  refine hc_region ?_
  refine r_move rfl rfl ?_
  refine r_move rfl rfl ?_
  refine r_lss rfl rfl rfl ?_
  refine hl_nil ?_
  refine then_n ?_
  first | refine c_dec rfl (fun hb2 => ?_) (fun hb2 => ?_) | refine hc_cond rfl (fun hb2 => ?_) (fun hb2 => ?_)
  ·have hb2' := hb2; try simp at hb2'
   have hin := (hz.2 hmem m).1 hb2
   refine hc_region ?_
   refine r_move rfl rfl ?_
   refine r_move rfl rfl ?_
   refine r_buildSlice _ rfl rfl (fun _ => T.bs_ints_1 ..) fun gS => ?_
   refine hl_letgo (rows [(k : Int)]) (List.prefix_refl _) ?_
   refine r_append ((partL o m k).length + 1) (rows (partL o m k ++ [(k : Int)])) T.el_ints rfl rfl rfl hG (.refl _) (Src.row (news := rows [(k : Int)]) (m := 1) m0 rfl (rows_one _) (by decide)) rfl (rows_append _ _).symm (by unfold maxLen; omega) (by omega) fun A' c' og' hG' => ?_
   refine r_assign rfl rfl ?_
   refine hl_nil ?_
   refine inb_n ?_
   refine then_n ?_
   refine hc_region ?_
   refine r_move rfl rfl ?_
   refine r_add _ rfl rfl rfl rfl (by unfold I64; omega) ?_
   refine r_assign rfl rfl ?_
   refine hl_nil ?_
   exact again _ (k + 1, (A', c'), og') ⟨by show k + 1 ≤ n; omega, by show Grow _ _ _ (partL o m (k + 1)).length _ (rows (partL o m (k + 1))) _; rw [partL_succ, if_pos hin, List.length_append]; exact hG'⟩ (by show n - (k + 1) < n - k; omega) ⟨rfl, rfl, rfl, by show some (Value.slice A' ((partL o m k).length + 1) c') = some (Value.slice A' (partL o m (k + 1)).length c'); rw [partL_succ, if_pos hin, List.length_append]; rfl, rfl, trivial⟩ (List.Sublist.refl _) ⟨(by repeat constructor), trivial⟩
  ·have hb2' := hb2; try simp at hb2'
   have hin := mt (hz.2 hmem m).2 hb2
   refine hc_skip ?_
   refine inb_n ?_
   refine then_n ?_
   refine hc_region ?_
   refine r_move rfl rfl ?_
   refine r_add _ rfl rfl rfl rfl (by unfold I64; omega) ?_
   refine r_assign rfl rfl ?_
   refine hl_nil ?_
   exact again _ (k + 1, (na, nc), og) ⟨by show k + 1 ≤ n; omega, by show Grow _ _ _ (partL o m (k + 1)).length _ (rows (partL o m (k + 1))) _; rw [partL_succ, if_neg hin]; exact hG⟩ (by show n - (k + 1) < n - k; omega) ⟨rfl, rfl, rfl, by show some (Value.slice na (partL o m k).length nc) = some (Value.slice na (partL o m (k + 1)).length nc); rw [partL_succ, if_neg hin], rfl, trivial⟩ (List.Sublist.refl _) ⟨(by repeat constructor), trivial⟩
 ·have hb1' := hb1; try simp at hb1'
  have hk2 : k = n := by omega
  subst hk2
  refine hc_exit ?_
  refine then_exit ?_
  refine then_exit ?_
  refine inb_hit ?_
  refine then_n ?_
  refine hc_seq ?_
  refine hc_region ?_
  refine r_move rfl rfl ?_
  refine r_assign rfl rfl ?_
  refine hl_nil ?_
  refine then_n ?_
  refine hc_ret ?_
  refine hq_grown hG ?_
  exact ret1 (s1, partL o m k, (na, nc)) rfl rfl rfl ⟨hs1, ⟨partL_asc o m k, fun v hv => partL_in hv⟩, partL_len hP, hG.le⟩ (List.Sublist.refl _) ⟨m0, trivial⟩

end Go.Proofs.Ytlpgheniajdkfaa
