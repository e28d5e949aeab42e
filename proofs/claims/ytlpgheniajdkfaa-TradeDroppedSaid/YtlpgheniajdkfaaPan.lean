/- An order of the first numbers. -/
import Derived.Test.YtlpgheniajdkfaaPam
namespace Go.Proofs.Ytlpgheniajdkfaa
open Go Go.W
set_option linter.unusedVariables false
set_option linter.unusedSimpArgs false
set_option maxRecDepth 20000
attribute [local irreducible] HL HC HQ HB Row Rows2 Blk Facts

abbrev rngI (n : Nat) : List Int := (List.range n).map fun i : Nat => (i : Int)
theorem rng_len (n : Nat) : (rngI n).length = n := by simp
theorem rng_succ (n : Nat) : rngI (n + 1) = rngI n ++ [(n : Int)] := by unfold rngI; rw [List.range_succ, List.map_append]; rfl
theorem grow_own {e : TypeId} {g n cap : Nat} {xs : List Value} {cur : Array Value} (hG : Grow e 1 (some ⟨g, 0, none⟩) n cap xs [(g, Obj.cells cur e (0, 0))]) (hn : 0 < n) : n ≤ cap ∧ cap ≤ maxLen ∧ cur.size = cap * 1 ∧ cur.toList.take (n * 1) = xs := by
  obtain ⟨g', cur', e1, e2, h1, h2, h3, h4, _⟩ := hG.open_ hn
  cases e1
  injection e2 with e2 _
  injection e2 with _ e2
  injection e2 with e2 _ _
  subst e2
  exact ⟨h1, h2, h3, h4⟩
theorem own_int {cur : Array Value} {l : List Int} {i : Nat} (h : cur.toList.take (l.length * 1) = rows l) (hi : i < l.length) : cur[0 + i * 1]? = some (int (l.getD i default)) := by
  have h1 : (rows l)[i * 1]? = some (int (l.getD i default)) := rows_get0 hi rfl
  rw [← h, List.getElem?_take, if_pos (by omega)] at h1
  rw [Nat.zero_add, ← Array.getElem?_toList]
  exact h1
theorem swap_perm {l : List Int} {i j : Nat} (hi : i < l.length) (hj : j < l.length) : ((l.set i (l.getD j default)).set j (l.getD i default)).Perm l := by
  rw [getD_at hi, getD_at hj]
  exact List.set_set_perm hi hj

set_option maxHeartbeats 1000000 in
theorem kit_Dice_Order_meets {g : Nat} {A : Option Addr} {c : Nat} {nums : List Int} {s : Int × Int} (n : Nat) (hn : nums.length ≤ 9223372036854775807) (hs : DOK nums s) (hI : n ≤ 100) :
    Meets Try.prog F.kit_Dice_Order [.pointer (some ⟨g, 0, none⟩), int n] (diceCon g A c nums s (fun x : List Int × OutC => x.1.Perm (rngI n) ∧ x.1.length ≤ x.2.2) (fun x => .slice x.2.1 x.1.length x.2.2) (fun x => [Row x.2.1 (rows x.1)])) := by
 refine meets_intro F.kit_Dice_Order_f rfl (Nat.le_of_ble_eq_true rfl) fun w0 => ?_
 refine hc_seq ?_
 refine hc_region ?_
 refine r_assign rfl rfl ?_
 refine hl_nil ?_
 refine then_n ?_
 refine hc_seq ?_
 refine hc_region ?_
 refine r_assign rfl rfl ?_
 refine hl_nil ?_
 refine then_n ?_
 refine hc_seq ?_
 refine hc_seq ?_
 refine hc_region ?_
 refine r_assign rfl rfl ?_
 refine hl_nil ?_
 refine then_n ?_
 refine hc_block ?_
 refine hc_loop (β := Nat × OutC × Hp) ⟨fun x => x.1 ≤ n ∧ Grow T.int 1 x.2.1.1 x.1 x.2.1.2 (rows (rngI x.1)) x.2.2, fun x => [(0, .pointer (some ⟨g, 0, none⟩)), (1, int n), (5, .slice x.2.1.1 x.1 x.2.1.2), (6, int x.1)], fun x => x.2.2 ++ [dice g A c nums s], fun _ => [Row A (rows nums)]⟩ (fun x => n - x.1) (0, (none, 0), []) ⟨Nat.zero_le _, Grow.nil _ _⟩ ⟨rfl, rfl, rfl, rfl, trivial⟩ (List.Sublist.refl _) ⟨(by repeat constructor), trivial⟩ fun x hx => ?_
 obtain ⟨k, ⟨na, nc⟩, og⟩ := x
 obtain ⟨hk, hG⟩ := hx
 simp only at hk hG
 refine hc_seq ?_
 refine hc_seq ?_
 refine hc_region ?_
 refine r_move rfl rfl ?_
 refine r_move rfl rfl ?_
 refine r_lss rfl rfl rfl ?_
 refine hl_nil ?_
 refine then_n ?_
 first | refine c_dec rfl (fun hb1 => ?_) (fun hb1 => ?_) | refine hc_cond rfl (fun hb1 => ?_) (fun hb1 => ?_)
 ·have hb1' := hb1; try simp at hb1'
  have hk2 : k < n := by omega
  refine hc_skip ?_
  refine then_n ?_
  refine hc_seq ?_
  refine hc_block ?_
  refine hc_region ?_
  refine r_move rfl rfl ?_
  refine r_move rfl rfl ?_
  refine r_buildSlice _ rfl rfl (fun _ => T.bs_ints_1 ..) fun gS => ?_
  refine hl_letgo (rows [(k : Int)]) (List.prefix_refl _) ?_
  refine r_append (k + 1) (rows (rngI k ++ [(k : Int)])) T.el_ints rfl rfl rfl hG (.refl _) (Src.row (news := rows [(k : Int)]) (m := 1) m0 rfl (rows_one _) (by decide)) rfl (rows_append _ _).symm (by unfold maxLen; omega) (by omega) fun A' c' og' hG' => ?_
  refine r_assign rfl rfl ?_
  refine hl_nil ?_
  refine inb_n ?_
  refine then_n ?_
  refine hc_region ?_
  refine r_move rfl rfl ?_
  refine r_add _ rfl rfl rfl rfl (by unfold I64; omega) ?_
  refine r_assign rfl rfl ?_
  refine hl_nil ?_
  exact again _ (k + 1, (A', c'), og') ⟨by show k + 1 ≤ n; omega, by show Grow _ _ _ _ _ (rows (rngI (k + 1))) _; rw [rng_succ]; exact hG'⟩ (by show n - (k + 1) < n - k; omega) ⟨rfl, rfl, rfl, rfl, trivial⟩ (List.Sublist.refl _) ⟨(by repeat constructor), trivial⟩
 ·have hb1' := hb1; try simp at hb1'
  have hk2 : k = n := by omega
  subst hk2
  refine hc_exit ?_
  refine then_exit ?_
  refine then_exit ?_
  refine inb_hit ?_
  refine then_n ?_
  refine hc_seq ?_
  refine hc_seq ?_
  refine hc_region ?_
  refine r_move rfl rfl ?_
  refine r_sub _ rfl rfl rfl rfl (by unfold I64; omega) ?_
  refine r_assign rfl rfl ?_
  refine hl_nil ?_
  refine then_n ?_
  refine hc_block ?_
  refine hc_loop (β := (Int × Int) × List Int × Nat × Hp) ⟨fun x => DOK nums x.1 ∧ x.2.1.Perm (rngI k) ∧ x.2.2.1 ≤ k ∧ Grow T.int 1 na k nc (rows x.2.1) x.2.2.2, fun x => [(0, .pointer (some ⟨g, 0, none⟩)), (5, .slice na k nc), (7, int ((x.2.2.1 : Int) - 1))], fun x => x.2.2.2 ++ [dice g A c nums x.1], fun _ => [Row A (rows nums)]⟩ (fun x => x.2.2.1) (s, rngI k, k, og) ⟨hs, .refl _, Nat.le_refl _, hG⟩ ⟨rfl, rfl, rfl, trivial⟩ (List.Sublist.refl _) ⟨(by repeat constructor), trivial⟩ fun x hx => ?_
  clear hG
  obtain ⟨s, l, m, og⟩ := x
  obtain ⟨hs, hP, hm, hG⟩ := hx
  simp only at hs hP hm hG
  have hll : l.length = k := by rw [hP.length_eq, rng_len]
  refine hc_seq ?_
  refine hc_seq ?_
  refine hc_region ?_
  refine r_move rfl rfl ?_
  refine r_gtr rfl rfl rfl ?_
  refine hl_nil ?_
  refine then_n ?_
  first | refine c_dec rfl (fun hb2 => ?_) (fun hb2 => ?_) | refine hc_cond rfl (fun hb2 => ?_) (fun hb2 => ?_)
  ·have hb2' := hb2; try simp at hb2'
   obtain ⟨i, rfl⟩ : ∃ i, m = i + 1 := ⟨m - 1, by omega⟩
   have hi1 : (((i + 1 : Nat) : Int) - 1) = (i : Int) := by omega
   obtain ⟨gd, cur, e1, e2, hnc, hcm, hcs, hct, _⟩ := hG.open_ (by omega)
   subst e1
   subst e2
   rw [← hll] at hct
   refine hc_skip ?_
   refine then_n ?_
   refine hc_seq ?_
   refine hc_block ?_
   refine hc_seq ?_
   refine hc_region ?_
   refine r_move rfl rfl ?_
   refine r_move (v := int (i : Int)) rfl (congrArg (fun z => some (int z)) hi1) ?_
   refine hl_call F.kit_Dice_To_cb rfl rfl (kit_Dice_To_meets (i : Int) hn hs (by omega)) (.swap _ _ _) ⟨(by repeat constructor), trivial⟩ fun x hx => ?_
   obtain ⟨s1, z⟩ := x
   obtain ⟨hs1, hz⟩ := hx
   simp only [ToInv] at hz
   obtain ⟨j, rfl⟩ := Int.eq_ofNat_of_zero_le hz.1
   have hj : j ≤ i := by
     by_cases h1 : 1 ≤ (i : Int)
     · have := hz.2.1 h1; omega
     · have := hz.2.2 (by omega); omega
   refine r_assign rfl rfl ?_
   refine hl_nil ?_
   refine then_n ?_
   refine hc_seq ?_
   refine hc_region ?_
   refine r_move rfl rfl ?_
   refine r_move (v := int (i : Int)) rfl (congrArg (fun z => some (int z)) hi1) ?_
   refine r_indexAddr_own i (0 + i * 1) rfl T.u_ints T.sz_int rfl rfl rfl (by omega) rfl ?_
   refine r_load (v := int (l.getD i default)) rfl T.cell_int rfl (cell_own (by repeat constructor) (own_int hct (by omega))) ?_
   refine r_assign rfl rfl ?_
   refine hl_nil ?_
   refine then_n ?_
   refine hc_seq ?_
   refine hc_region ?_
   refine r_move rfl rfl ?_
   refine r_move (v := int (i : Int)) rfl (congrArg (fun z => some (int z)) hi1) ?_
   refine r_move rfl rfl ?_
   refine r_move rfl rfl ?_
   refine r_indexAddr_own j (0 + j * 1) rfl T.u_ints T.sz_int rfl rfl rfl (by omega) rfl ?_
   refine r_load (v := int (l.getD j default)) rfl T.cell_int rfl (cell_own (by repeat constructor) (own_int hct (by omega))) ?_
   refine r_indexAddr_own i i rfl T.u_ints T.sz_int rfl rfl rfl (by omega) (by omega) ?_
   refine r_store rfl rfl (.swap _ _ _) T.sz_int (by have := own_int hct (show i < l.length by omega); rw [Nat.zero_add, Nat.mul_one] at this; exact this) (by rfl) ?_
   have hG1 := Grow.set (e := T.int) (g := gd) (l := l) (k := i) (a := l.getD j default) rfl rfl (by omega) hcm hcs hct
   rw [hll] at hG1
   have hc1 := (grow_own hG1 (by omega)).2.2
   have hl1 : (l.set i (l.getD j default)).length = l.length := List.length_set ..
   rw [← hll, ← hl1] at hc1
   refine hl_nil ?_
   refine then_n ?_
   refine hc_region ?_
   refine r_move rfl rfl ?_
   refine r_move rfl rfl ?_
   refine r_move rfl rfl ?_
   refine r_indexAddr_own j j rfl T.u_ints T.sz_int rfl rfl rfl (by omega) (by omega) ?_
   refine r_store rfl rfl (.refl _) T.sz_int (by have := own_int hc1.2 (show j < _ by omega); rw [Nat.zero_add, Nat.mul_one] at this; exact this) (by rfl) ?_
   have hG2 := Grow.set (e := T.int) (g := gd) (l := l.set i (l.getD j default)) (k := j) (a := l.getD i default) rfl rfl (by omega) hcm hc1.1 hc1.2
   rw [hl1, hll] at hG2
   refine hl_nil ?_
   refine inb_n ?_
   refine then_n ?_
   refine hc_region ?_
   refine r_move (v := int (i : Int)) rfl (congrArg (fun z => some (int z)) hi1) ?_
   refine r_sub ((i : Int) - 1) rfl rfl rfl (by omega) (by unfold I64; omega) ?_
   refine r_assign rfl rfl ?_
   refine hl_nil ?_
   exact again _ (s1, (l.set i (l.getD j default)).set j (l.getD i default), i, [_]) ⟨hs1, (swap_perm (by omega) (by omega)).trans hP, by show i ≤ k; omega, hG2⟩ (by show i < i + 1; omega) ⟨rfl, rfl, rfl, trivial⟩ (List.Sublist.refl _) ⟨(by repeat constructor), trivial⟩
  ·have hb2' := hb2; try simp at hb2'
   refine hc_exit ?_
   refine then_exit ?_
   refine then_exit ?_
   refine inb_hit ?_
   refine then_n ?_
   refine hc_seq ?_
   refine hc_region ?_
   refine r_move rfl rfl ?_
   refine r_assign rfl rfl ?_
   refine hl_nil ?_
   refine then_n ?_
   refine hc_ret ?_
   refine hq_grown hG ?_
   exact ret1 (s, l, (na, nc)) rfl (by show some (Value.slice na k nc) = some (Value.slice na l.length nc); rw [hll]) rfl ⟨hs, hP, by show l.length ≤ nc; rw [hll]; exact hG.le⟩ (List.Sublist.refl _) ⟨m0, trivial⟩

end Go.Proofs.Ytlpgheniajdkfaa
