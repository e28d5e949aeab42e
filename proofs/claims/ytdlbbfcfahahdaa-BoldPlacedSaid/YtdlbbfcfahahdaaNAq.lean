/- Texts of this claim, one behind another. -/
import Derived.ProofKit
import Derived.OpenShut
import Derived.ShutString
import Derived.ChangeOld
import Derived.Below
import Derived.SliceStrings
import Derived.ChangeSlices
import Derived.Deep.Slices
import Derived.Conc.LeavingOf
import Derived.Test.YtdlbbfcfahahdaaNAp
import Derived.Test.YtdlbbfcfahahdaaNAf
import Derived.Test.YtdlbbfcfahahdaaNAa
section
namespace Go.Proofs.Ytdlbbfcfahahdaa
open Go Go.W
set_option linter.unusedVariables false
set_option linter.unusedSimpArgs false
set_option maxRecDepth 20000
attribute [local irreducible] HL HC HQ HB Row Rows2 Blk Facts
abbrev lsts (ps : List (Sl Int)) : List (List Int) := ps.map (·.l)
theorem lsts_len (ps : List (Sl Int)) : (lsts ps).length = ps.length := List.length_map ..
theorem lsts_at (ps : List (Sl Int)) {k : Nat} (hk : k < ps.length) : (lsts ps).getD k [] = (ps.getD k default).l := by
  rw [getD_at hk]
  simp [List.getD_eq_getElem?_getD, hk]
theorem combos_none {α : Type} : ∀ (k : Nat) (l : List α), l.length < k → combos k l = []
  | 0, l, h => by omega
  | k + 1, [], _ => rfl
  | k + 1, x :: l, h => by
    rw [List.length_cons] at h
    rw [combos, combos_none k l (by omega), combos_none (k + 1) l (by omega)]
    rfl
abbrev OutSL := List (Sl Int) × OutC
def upI (f n : Nat) : List Int := (List.range' f (n - f)).map fun i : Nat => (i : Int)
theorem upI_len (f n : Nat) : (upI f n).length = n - f := by rw [upI, List.length_map, List.length_range']
theorem upI_cons {f n : Nat} (h : f < n) : upI f n = (f : Int) :: upI (f + 1) n := by
  obtain ⟨k, e⟩ : ∃ k, n - f = k + 1 := ⟨n - f - 1, by omega⟩
  have e2 : n - (f + 1) = k := by omega
  unfold upI
  rw [e, e2, List.range'_succ]
  rfl
theorem combos_pow {α : Type} : ∀ (l : List α) (k : Nat), (combos k l).length ≤ 2 ^ l.length
  | l, 0 => by
    rw [combos]
    exact Nat.one_le_two_pow
  | [], k + 1 => Nat.zero_le _
  | x :: l, k + 1 => by
    have h1 := combos_pow l k
    have h2 := combos_pow l (k + 1)
    rw [combos, List.length_append, List.length_map, List.length_cons, Nat.pow_succ]
    omega
theorem combos_size {α : Type} : ∀ {k : Nat} {l c : List α}, c ∈ combos k l → c.length = k
  | 0, l, c, h => by
    rw [combos, List.mem_singleton] at h
    rw [h]
    rfl
  | k + 1, [], c, h => by rw [combos] at h; cases h
  | k + 1, x :: l, c, h => by
    rw [combos, List.mem_append] at h
    rcases h with h | h
    · obtain ⟨d, hd, rfl⟩ := List.mem_map.1 h
      rw [List.length_cons, combos_size hd]
    · exact combos_size h
theorem combos_sub {α : Type} : ∀ {k : Nat} {l c : List α}, c ∈ combos k l → c.Sublist l
  | 0, l, c, h => by
    rw [combos, List.mem_singleton] at h
    rw [h]
    exact List.nil_sublist _
  | k + 1, [], c, h => by rw [combos] at h; cases h
  | k + 1, x :: l, c, h => by
    rw [combos, List.mem_append] at h
    rcases h with h | h
    · obtain ⟨d, hd, rfl⟩ := List.mem_map.1 h
      exact List.Sublist.cons_cons _ (combos_sub hd)
    · exact List.Sublist.cons _ (combos_sub h)
def subK (m f n k : Nat) : List (List Int) := ((List.range' f (k - f)).map fun i : Nat => (combos m (upI (i + 1) n)).map ((i : Int) :: ·)).flatten
theorem subK_succ {m f n k : Nat} (h : f ≤ k) : subK m f n (k + 1) = subK m f n k ++ (combos m (upI (k + 1) n)).map ((k : Int) :: ·) := by
  have e : k + 1 - f = (k - f) + 1 := by omega
  unfold subK
  rw [e, List.range'_1_concat, List.map_append, List.flatten_append, show f + (k - f) = k by omega]
  simp
theorem subK_cut {m n : Nat} : ∀ (d f k : Nat), k - f = d → f ≤ k → k ≤ n → combos (m + 1) (upI f n) = subK m f n k ++ combos (m + 1) (upI k n)
  | 0, f, k, hd, h, _ => by
    obtain rfl : f = k := by omega
    unfold subK
    rw [Nat.sub_self]
    rfl
  | d + 1, f, k, hd, h, hk => by
    rw [subK_cut d f (k - 1) (by omega) (by omega) (by omega)]
    obtain ⟨j, rfl⟩ : ∃ j, k = j + 1 := ⟨k - 1, by omega⟩
    rw [Nat.add_sub_cancel, subK_succ (by omega), upI_cons (show j < n by omega), combos, List.append_assoc]
theorem subK_end {m f n k : Nat} (h : f ≤ k) (hk : k ≤ n) (hn : n < k + (m + 1)) : combos (m + 1) (upI f n) = subK m f n k := by
  rw [subK_cut _ f k rfl h hk, combos_none (m + 1) (upI k n) (by rw [upI_len]; omega), List.append_nil]
theorem subK_len {m f n k : Nat} (h : f ≤ k) (hk : k ≤ n) (hn : n ≤ 16) : (subK m f n k).length ≤ 65536 := by
  have h1 := combos_pow (upI f n) (m + 1)
  rw [subK_cut _ f k rfl h hk, List.length_append, upI_len] at h1
  have h2 : 2 ^ (n - f) ≤ 2 ^ 16 := Nat.pow_le_pow_right (by decide) (by omega)
  omega
set_option maxHeartbeats 1000000 in
theorem kit_subsets_meets (n : Nat) (hn16 : n ≤ 16) : ∀ (many f : Nat), f ≤ n → many ≤ 20 → Meets Try.prog F.kit_subsets [int (f : Int), int (n : Int), int (many : Int)] { inv := fun x : OutSL => lsts x.1 = combos many (upI f n), val := fun x => .slice x.2.1 x.1.length x.2.2, LO := fun x => [Rows2 x.2.1 x.1] } := by
 intro many
 induction many using Nat.strongRecOn
 rename_i many ih
 intro f hf hm20
 refine meets_intro F.kit_subsets_f rfl (Nat.le_of_ble_eq_true rfl) fun w0 => ?_
 refine hc_seq (hc_region (r_assign rfl rfl (hl_nil (then_n (hc_seq (hc_seq (hc_region (r_move rfl rfl (r_eql rfl rfl rfl (hl_nil (then_n ?_)))))))))))
 first | refine c_dec rfl (fun hb1 => ?_) (fun hb1 => ?_) | refine hc_cond rfl (fun hb1 => ?_) (fun hb1 => ?_)
 ·have hb1' := hb1; try simp at hb1'
  obtain rfl : many = 0 := by omega
  refine hc_seq (hc_region ?_)
  refine r_buildSlice _ rfl rfl (fun _ => T.bs_intss_1 ..) fun gS => ?_
  refine r_assign rfl rfl (hl_nil (then_n (hc_ret (then_ret ?_))))
  refine hq_letgo (rows [(⟨none, 0, []⟩ : Sl Int)]) (List.prefix_refl _) ?_
  refine hq_nilrow (α := Int) ?_
  refine hq_rows2 (A := some ⟨gS, 0, none⟩) (ps := [(⟨none, 0, []⟩ : Sl Int)]) mB (by intro p hp; rw [List.mem_singleton.1 hp]; exact mB) ?_
  exact ret1 ([(⟨none, 0, []⟩ : Sl Int)], (some ⟨gS, 0, none⟩, 1)) rfl rfl rfl (by show lsts [(⟨none, 0, []⟩ : Sl Int)] = _; rw [combos]; rfl) (List.nil_sublist _) ⟨m0, trivial⟩
 ·have hb1' := hb1; try simp at hb1'
  obtain ⟨m, rfl⟩ : ∃ q, many = q + 1 := ⟨many - 1, by omega⟩
  refine hc_skip (then_n (hc_seq (hc_region (r_assign rfl rfl (hl_nil (then_n (hc_seq (hc_seq (hc_region (r_move rfl rfl (r_assign rfl rfl ?_)))))))))))
  refine hl_nil (then_n (hc_block ?_))
  refine hc_facts (Fs := ([] : List (Sl Int)).map (fun p : Sl Int => Row p.a (rows p.l))) (by intro F hF; simp at hF) ?_
  refine hc_loop (β := Nat × List (Sl Int) × OutC × Hp) ⟨fun x => f ≤ x.1 ∧ x.1 ≤ n ∧ Grow T.ints 1 x.2.2.1.1 x.2.1.length x.2.2.1.2 (rows x.2.1) x.2.2.2 ∧ lsts x.2.1 = subK m f n x.1, fun x => [(1, int (n : Int)), (2, int ((m + 1 : Nat) : Int)), (7, .slice x.2.2.1.1 x.2.1.length x.2.2.1.2), (8, int x.1)], fun x => x.2.2.2, fun x => [innersF x.2.1 (fun p : Sl Int => Row p.a (rows p.l))]⟩ (fun x => n + 1 - x.1) (f, [], (none, 0), []) ⟨Nat.le_refl _, hf, Grow.nil _ _, by show [] = subK m f n f; unfold subK; rw [Nat.sub_self]; rfl⟩ ⟨rfl, rfl, rfl, rfl, trivial⟩ (List.nil_sublist _) ⟨mB, trivial⟩ fun x hx => ?_
  obtain ⟨i, ps, ⟨na, nc⟩, og⟩ := x
  obtain ⟨hif, hi, hG, hps⟩ := hx
  simp only at hif hi hG hps
  refine hc_seq (hc_seq (hc_region (r_move rfl rfl (r_move rfl rfl ?_))))
  refine r_add ((i + (m + 1) : Nat) : Int) rfl rfl rfl (by show (i : Int) + ((m + 1 : Nat) : Int) = ((i + (m + 1) : Nat) : Int); omega) (by unfold I64; omega) ?_
  refine r_move rfl rfl (r_leq rfl rfl rfl (hl_nil (then_n ?_)))
  first | refine c_dec rfl (fun hb2 => ?_) (fun hb2 => ?_) | refine hc_cond rfl (fun hb2 => ?_) (fun hb2 => ?_)
  ·have hb2' := hb2; try simp at hb2'
   have hi2 : i + (m + 1) ≤ n := by omega
   refine hc_skip (then_n (hc_seq (hc_block (hc_seq (hc_region (r_move rfl rfl ?_))))))
   refine r_add ((i + 1 : Nat) : Int) rfl rfl rfl (by show (i : Int) + 1 = ((i + 1 : Nat) : Int); omega) (by unfold I64; omega) ?_
   refine r_move rfl rfl (r_move rfl rfl ?_)
   refine r_sub ((m : Nat) : Int) rfl rfl rfl (by show ((m + 1 : Nat) : Int) - 1 = (m : Int); omega) (by unfold I64; omega) ?_
   refine hl_call F.kit_subsets_cb rfl rfl (ih m (by omega) (i + 1) (by omega) (by omega)) (hpR := og) (List.Perm.refl _) trivial fun y hy => ?_
   refine r_assign rfl rfl (hl_nil (then_n (hc_seq (hc_region (r_assign rfl rfl (hl_nil (then_n (hc_block ?_))))))))
   have hyl : y.1.length = (combos m (upI (i + 1) n)).length := by have h9 := congrArg List.length hy; rw [lsts_len] at h9; exact h9
   have hyat : ∀ k, k < y.1.length → (y.1.getD k default).l = (combos m (upI (i + 1) n)).getD k default := fun k hk => by rw [← lsts_at y.1 hk, show lsts y.1 = _ from hy]; rfl
   have hsn := subK_succ (m := m) (n := n) hif
   have hsl := subK_len (m := m) (n := n) (show f ≤ i + 1 by omega) (by omega) hn16
   rw [hsn, List.length_append, List.length_map] at hsl
   refine hc_loop (β := Nat × List (Sl Int) × OutC × Hp) ⟨fun x => x.1 ≤ y.1.length ∧ Grow T.ints 1 x.2.2.1.1 x.2.1.length x.2.2.1.2 (rows x.2.1) x.2.2.2 ∧ lsts x.2.1 = subK m f n i ++ (((combos m (upI (i + 1) n)).take x.1).map ((i : Int) :: ·)), fun x => [(1, int (n : Int)), (2, int ((m + 1 : Nat) : Int)), (7, .slice x.2.2.1.1 x.2.1.length x.2.2.1.2), (8, int i), (9, .slice y.2.1 y.1.length y.2.2), (10, int x.1)], fun x => x.2.2.2, fun x => [innersF x.2.1 (fun p : Sl Int => Row p.a (rows p.l)), Rows2 y.2.1 y.1]⟩ (fun x => y.1.length - x.1) (0, ps, (na, nc), og) ⟨Nat.zero_le _, hG, by show lsts ps = _; rw [hps, List.take_zero, List.map_nil, List.append_nil]⟩ ⟨rfl, rfl, rfl, rfl, rfl, rfl, trivial⟩ (List.Sublist.refl _) ⟨mB, mB, trivial⟩ fun x hx => ?_
   clear hG hps
   obtain ⟨k, ps, ⟨na, nc⟩, og⟩ := x
   obtain ⟨hk, hG, hps⟩ := hx
   simp only at hk hG hps
   have hpl : ps.length ≤ 65536 := by have h9 := congrArg List.length hps; rw [lsts_len, List.length_append, List.length_map, List.length_take] at h9; omega
   refine hc_seq (hc_seq (hc_region (r_move rfl rfl (r_move rfl rfl ?_))))
   refine r_len_sl rfl T.u_intss rfl ?_
   refine r_lss rfl rfl rfl (hl_nil (then_n ?_))
   first | refine c_dec rfl (fun hb3 => ?_) (fun hb3 => ?_) | refine hc_cond rfl (fun hb3 => ?_) (fun hb3 => ?_)
   ·have hb3' := hb3; try simp at hb3'
    have hk2 : k < y.1.length := by omega
    have hyk := hyat k hk2
    have hyc : (y.1.getD k default).l.length = m := by rw [hyk]; exact combos_size (getD_mem (by omega))
    refine hc_skip (then_n (hc_seq (hc_block (hc_region (r_move rfl rfl (r_move rfl rfl ?_))))))
    refine r_buildSlice _ rfl rfl (fun _ => T.bs_ints_1 ..) fun gS => ?_
    refine r_move rfl rfl (r_move rfl rfl ?_)
    refine hl_outer (A := y.2.1) (ps := y.1) mB ?_
    refine r_elem (α := Sl Int) y.1 k rfl T.u_intss T.sz_ints rfl rfl rfl mB rfl hk2 (by decide) ?_
    refine r_load (v := .slice (y.1.getD k default).a (y.1.getD k default).l.length (y.1.getD k default).c) rfl T.cell_ints rfl (cell_row mB (rows_get0 hk2 rfl)) ?_
    refine hl_inner (A := y.2.1) (ps := y.1) (p := (y.1.getD k default)) mB (getD_mem hk2) ?_
    refine r_append (hp' := og) ((y.1.getD k default).l.length + 1) (rows ((i : Int) :: (y.1.getD k default).l)) T.el_ints rfl rfl rfl (Grow.new (cs := #[int (i : Int)]) (n := 1) rfl (by decide)) (List.Perm.refl _) (Src.row mB (rows_len (y.1.getD k default).l) (rows_one (y.1.getD k default).l) (by decide)) (Nat.add_comm _ _) rfl (by unfold maxLen; omega) (by omega) fun A' c' og' hG' => ?_
    refine hl_grown hG' ?_
    refine r_buildSlice _ rfl rfl (fun _ => T.bs_intss_1 ..) fun gS2 => ?_
    refine hl_letgo (rows [(⟨A', c', (i : Int) :: (y.1.getD k default).l⟩ : Sl Int)]) (List.prefix_refl _) ?_
    refine r_append (ps.length + 1) (rows (ps ++ [(⟨A', c', (i : Int) :: (y.1.getD k default).l⟩ : Sl Int)])) T.el_intss rfl rfl rfl hG (hp' := []) (by first | (rw [List.append_nil]; done) | (rw [List.append_nil]; exact List.Perm.refl _)) (Src.row (news := rows [(⟨A', c', (i : Int) :: (y.1.getD k default).l⟩ : Sl Int)]) (m := 1) m0 rfl (rows_one _) (by decide)) rfl (rows_append _ _).symm (by unfold maxLen; omega) (by omega) fun A2 c2 og2 hG2 => ?_
    refine r_assign rfl rfl (hl_nil (inb_n (then_n (hc_region (r_move rfl rfl ?_)))))
    refine r_add _ rfl rfl rfl rfl (by unfold I64; omega) ?_
    refine r_assign rfl rfl (hl_nil ?_)
    refine hq_facts (innerF_snoc (ps := ps) (f := (fun p : Sl Int => Row p.a (rows p.l))) (p := (⟨A', c', (i : Int) :: (y.1.getD k default).l⟩ : Sl Int)) mB mB) ?_
    exact again _ (k + 1, ps ++ [(⟨A', c', (i : Int) :: (y.1.getD k default).l⟩ : Sl Int)], (A2, c2), og2) ⟨by show k + 1 ≤ y.1.length; omega, by show Grow _ _ _ (ps ++ [_]).length _ _ _; rw [List.length_append]; exact hG2, by show lsts (ps ++ [_]) = _ ++ (((combos m (upI (i + 1) n)).take (k + 1)).map ((i : Int) :: ·)); rw [take_succ_getD _ k (by omega), List.map_append, ← List.append_assoc, ← hps, lsts, List.map_append, ← hyk]; rfl⟩ (by show y.1.length - (k + 1) < y.1.length - k; omega) ⟨rfl, rfl, by show some (Value.slice A2 (ps.length + 1) c2) = some (Value.slice A2 (ps ++ [_]).length c2); rw [List.length_append]; rfl, rfl, rfl, rfl, trivial⟩ (by first | exact List.Sublist.refl _ | (rw [List.append_nil]; exact List.Sublist.refl _)) ⟨mB, mB, trivial⟩
   ·have hb3' := hb3; try simp at hb3'
    obtain rfl : k = y.1.length := by omega
    rw [hyl, List.take_length, ← hsn] at hps
    refine hc_exit (then_exit (then_exit (inb_hit (inb_n (then_n (hc_region (r_move rfl rfl ?_)))))))
    refine r_add _ rfl rfl rfl rfl (by unfold I64; omega) ?_
    refine r_assign rfl rfl (hl_nil ?_)
    exact again _ (i + 1, ps, (na, nc), og) ⟨by show f ≤ i + 1; omega, by show i + 1 ≤ n; omega, hG, hps⟩ (by show n + 1 - (i + 1) < n + 1 - i; omega) ⟨rfl, rfl, rfl, rfl, trivial⟩ (List.Sublist.refl _) ⟨mB, trivial⟩
  ·have hb2' := hb2; try simp at hb2'
   have hi2 : n < i + (m + 1) := by omega
   refine hc_exit (then_exit (then_exit (inb_hit (then_n (hc_seq (hc_region (r_move rfl rfl (r_assign rfl rfl (hl_nil (then_n (hc_ret ?_)))))))))))
   refine hq_grown0 hG ?_
   refine hq_rows2F (A := na) (ps := ps) mB mB ?_
   exact ret1 (ps, (na, nc)) rfl rfl rfl (by show lsts ps = _; rw [subK_end hif hi hi2]; exact hps) (List.nil_sublist _) ⟨m0, trivial⟩
theorem kit_Subsets_meets (n many : Nat) (hn16 : n ≤ 16) (hm20 : many ≤ 20) : Meets Try.prog F.kit_Subsets [int (n : Int), int (many : Int)] { inv := fun x : OutSL => lsts x.1 = combos many (upI 0 n), val := fun x => .slice x.2.1 x.1.length x.2.2, LO := fun x => [Rows2 x.2.1 x.1] } := by
 refine meets_intro F.kit_Subsets_f rfl (Nat.le_of_ble_eq_true rfl) fun w0 => ?_
 refine hc_seq (hc_region (r_assign rfl rfl (hl_nil (then_n (hc_seq (hc_region (r_move rfl rfl (r_move rfl rfl ?_))))))))
 refine hl_call F.kit_subsets_cb rfl rfl (kit_subsets_meets n hn16 many 0 (by omega) hm20) (hpR := []) (List.Perm.refl _) trivial fun y hy => ?_
 refine r_assign rfl rfl (hl_nil (then_n (hc_ret ?_)))
 exact ret1 y rfl rfl rfl hy (List.nil_sublist _) ⟨m0, trivial⟩
theorem combos_mem {α : Type} : ∀ {c l : List α}, c.Sublist l → c ∈ combos c.length l
  | [], l, _ => by
    show [] ∈ combos 0 l
    rw [combos]; exact List.mem_singleton.2 rfl
  | x :: c, l, h => by
    induction l with
    | nil => cases h
    | cons y l ih =>
      show x :: c ∈ combos (c.length + 1) (y :: l)
      rw [combos, List.mem_append]
      cases h with
      | cons _ h => exact .inr (ih h)
      | cons_cons _ h => exact .inl (List.mem_map.2 ⟨c, combos_mem h, rfl⟩)
theorem upI_snoc (n : Nat) : upI 0 (n + 1) = upI 0 n ++ [(n : Int)] := by
  unfold upI
  rw [Nat.sub_zero, Nat.sub_zero, ← List.range_eq_range', ← List.range_eq_range', List.range_succ, List.map_append]; rfl
theorem pick_sub (s : Nat) : ∀ n, (pickK s n).Sublist (upI 0 n)
  | 0 => .refl _
  | n + 1 => by
    rw [pickK_succ, upI_snoc]
    split
    · exact (pick_sub s n).append (.refl _)
    · exact (pick_sub s n).trans (List.sublist_append_left _ _)
theorem pick_congr {s t n : Nat} (h : ∀ i, i < n → s.testBit i = t.testBit i) : pickK s n = pickK t n := by
  unfold pickK
  refine congrArg _ (List.filter_congr fun i hi => h i (List.mem_range.1 hi))
theorem sub_one {a : Int} : ∀ {l : List Int}, l.Sublist [a] → l = [] ∨ l = [a]
  | _, .cons _ h => .inl (List.sublist_nil.1 h)
  | _, .cons_cons _ h => .inr (by rw [List.sublist_nil.1 h])
theorem pick_all : ∀ {n : Nat} {c : List Int}, c.Sublist (upI 0 n) → ∃ s, s < 2 ^ n ∧ pickK s n = c
  | 0, c, h => ⟨0, by decide, by
    have : c = [] := List.sublist_nil.1 h
    rw [this]; rfl⟩
  | n + 1, c, h => by
    rw [upI_snoc] at h
    obtain ⟨c1, c2, rfl, h1, h2⟩ := List.sublist_append_iff.1 h
    obtain ⟨s, hs, rfl⟩ := pick_all h1
    have hsb : s.testBit n = false := Nat.testBit_lt_two_pow hs
    have hp : 2 ^ (n + 1) = 2 * 2 ^ n := by rw [Nat.pow_succ]; omega
    rcases sub_one h2 with rfl | rfl
    · exact ⟨s, by omega, by rw [pickK_succ, hsb, List.append_nil]; rfl⟩
    · refine ⟨s ||| 2 ^ n, Nat.or_lt_two_pow (by omega) (by omega), ?_⟩
      rw [pickK_succ, Nat.testBit_or, hsb, Nat.testBit_two_pow_self, Bool.or_true, if_pos rfl]
      rw [pick_congr (t := s) fun i hi => by rw [Nat.testBit_or, Nat.testBit_two_pow, show decide (n = i) = false from decide_eq_false (by omega), Bool.or_false]]
-- ---- orders
theorem cmpI_lt (a b : Int) : cmpI a b < 0 ↔ a < b := by
  unfold cmpI
  split
  · omega
  · split <;> omega
theorem cmpI_eq (a b : Int) : cmpI a b = 0 ↔ a = b := by
  unfold cmpI
  split
  · omega
  · split <;> omega
theorem cmpIs_nil (a : List Int) : ¬ cmpIs a [] < 0 := by cases a <;> simp [cmpIs]
theorem cmpIs_cons (a b : Int) (l l' : List Int) : cmpIs (a :: l) (b :: l') < 0 ↔ a < b ∨ (a = b ∧ cmpIs l l' < 0) := by
  rw [cmpIs]
  split
  · rename_i e
    rw [cmpI_lt]
    have := mt (cmpI_eq a b).2 e
    omega
  · rename_i e
    have := (cmpI_eq a b).1 (Classical.not_not.1 e)
    omega
theorem cmpIs_trans : ∀ {a b c : List Int}, cmpIs a b < 0 → cmpIs b c < 0 → cmpIs a c < 0
  | [], [], c, h, _ => absurd h (cmpIs_nil _)
  | [], y :: b, [], _, h2 => absurd h2 (cmpIs_nil _)
  | [], y :: b, z :: c, _, _ => by simp [cmpIs]
  | x :: a, [], c, h, _ => absurd h (cmpIs_nil _)
  | x :: a, y :: b, [], _, h2 => absurd h2 (cmpIs_nil _)
  | x :: a, y :: b, z :: c, h, h2 => by
    rw [cmpIs_cons] at *
    rcases h with h | ⟨h, h3⟩ <;> rcases h2 with h2 | ⟨h2, h4⟩
    · exact .inl (by omega)
    · exact .inl (by omega)
    · exact .inl (by omega)
    · exact .inr ⟨by omega, cmpIs_trans h3 h4⟩
theorem cmpIs_irr : ∀ a : List Int, ¬ cmpIs a a < 0
  | [] => by simp [cmpIs]
  | x :: a => by rw [cmpIs_cons]; have := cmpIs_irr a; omega
theorem cmpIs_total : ∀ {a b : List Int}, ¬ a = b → cmpIs a b < 0 ∨ cmpIs b a < 0
  | [], [], h => absurd rfl h
  | [], y :: b, _ => .inl (by simp [cmpIs])
  | x :: a, [], _ => .inr (by simp [cmpIs])
  | x :: a, y :: b, h => by
    rw [cmpIs_cons, cmpIs_cons]
    by_cases e : x = y
    · subst e
      have := cmpIs_total (a := a) (b := b) (fun e => h (by rw [e]))
      omega
    · omega
theorem orL3 (a b c : Int) : orL [a, b, c] < 0 ↔ a < 0 ∨ (a = 0 ∧ (b < 0 ∨ (b = 0 ∧ c < 0))) := by
  simp only [orL]
  split
  · omega
  · split
    · omega
    · split <;> omega
theorem ordP_lt (x y : Hn) : ordP x y < 0 ↔ x.2.2 < y.2.2 ∨ (x.2.2 = y.2.2 ∧ (x.1.length < y.1.length ∨ (x.1.length = y.1.length ∧ cmpIs x.1 y.1 < 0))) := by
  unfold ordP
  rw [orL3, cmpI_lt, cmpI_lt, cmpI_eq, cmpI_eq]; omega
/-- An order of hands that tells any two apart that have other cards. -/
structure Tot (o : Hn → Hn → Int) : Prop where
  tr : ∀ {x y z}, o x y < 0 → o y z < 0 → o x z < 0
  to : ∀ {x y}, ¬ x.1 = y.1 → o x y < 0 ∨ o y x < 0
  ir : ∀ {x y}, x.1 = y.1 → x.2 = y.2 → ¬ o x y < 0
theorem tot_P : Tot ordP := ⟨fun {x y z} h1 h2 => by
    rw [ordP_lt] at *
    rcases h1 with h1 | ⟨h1, h1 | ⟨h3, h5⟩⟩ <;> rcases h2 with h2 | ⟨h2, h2 | ⟨h4, h6⟩⟩ <;> first | omega | exact .inr ⟨by omega, .inr ⟨by omega, cmpIs_trans h5 h6⟩⟩,
  fun {x y} h => by
    rw [ordP_lt, ordP_lt]
    have := cmpIs_total h
    omega,
  fun {x y} h h2 => by
    rw [ordP_lt, h, h2]
    have := cmpIs_irr y.1
    omega⟩
/-- The best of some hands. -/
def BestIs (o : Hn → Hn → Int) (S : Hn → Prop) (b : Hn) : Prop := S b ∧ ∀ x, S x → ¬ o x b < 0
theorem best_step {o : Hn → Hn → Int} (ho : Tot o) {S : Hn → Prop} {b x : Hn} (h : BestIs o S b) (hs : x.1 = b.1 → x = b) : BestIs o (fun y => S y ∨ y = x) (if o x b < 0 then x else b) := by
  split
  · rename_i e
    refine ⟨.inr rfl, fun y hy => ?_⟩
    rcases hy with hy | rfl
    · exact fun e2 => h.2 y hy (ho.tr e2 e)
    · exact ho.ir rfl rfl
  · rename_i e
    refine ⟨.inl h.1, fun y hy => ?_⟩
    rcases hy with hy | rfl
    · exact h.2 y hy
    · exact e
theorem best_uniq {o : Hn → Hn → Int} (ho : Tot o) {S S' : Hn → Prop} {b b' : Hn} (h : BestIs o S b) (h' : BestIs o S' b') (hS : ∀ x, S x ↔ S' x) (hf : ∀ x y, S x → S y → x.1 = y.1 → x = y) : b = b' := by
  refine hf _ _ h.1 ((hS _).2 h'.1) (Classical.byContradiction fun e => ?_)
  rcases ho.to e with h1 | h1
  · exact h'.2 _ ((hS _).1 h.1) h1
  · exact h.2 _ ((hS _).2 h'.1) h1
/-- The program's best hand is the best. -/
theorem bestL_is {o : Hn → Hn → Int} (ho : Tot o) : ∀ {l : List Hn}, (∀ x ∈ l, ∀ y ∈ l, x.1 = y.1 → x = y) → ((bestL o l).2 = false ∧ l = []) ∨ ((bestL o l).2 = true ∧ BestIs o (· ∈ l) (bestL o l).1) := by
  intro l
  rw [← List.reverse_reverse l]
  generalize l.reverse = r
  induction r with
  | nil => intro _; exact .inl ⟨rfl, rfl⟩
  | cons x r ih =>
    intro hf
    rw [List.reverse_cons] at hf ⊢
    right
    rw [best_snoc]
    have ih := ih fun x hx y hy => hf x (List.mem_append_left _ hx) y (List.mem_append_left _ hy)
    unfold offS
    rcases ih with ⟨h1, h2⟩ | ⟨h1, h2⟩
    · rw [if_pos (.inl h1), h2]
      exact ⟨rfl, List.mem_singleton.2 rfl, fun y hy => by rw [List.mem_singleton.1 hy]; exact ho.ir rfl rfl⟩
    · have h3 := best_step ho (x := x) h2 (fun e => hf x (List.mem_append_right _ (List.mem_singleton.2 rfl)) _ (List.mem_append_left _ h2.1) e)
      have h4 : ∀ b, BestIs o (fun y => y ∈ r.reverse ∨ y = x) b → BestIs o (· ∈ r.reverse ++ [x]) b := fun b hb => ⟨by show b ∈ r.reverse ++ [x]; rw [List.mem_append, List.mem_singleton]; exact hb.1, fun y hy => hb.2 y (by have hy : y ∈ r.reverse ++ [x] := hy; rw [List.mem_append, List.mem_singleton] at hy; exact hy)⟩
      by_cases e : o x (bestL o r.reverse).1 < 0
      · rw [if_pos (.inr e)]
        rw [if_pos e] at h3
        exact ⟨rfl, h4 _ h3⟩
      · rw [if_neg (by rw [h1]; intro h; exact h.elim (fun h => by cases h) e)]
        rw [if_neg e] at h3
        exact ⟨h1, h4 _ h3⟩
end Go.Proofs.Ytdlbbfcfahahdaa
end
section
namespace Go.Proofs.Ytdlbbfcfahahdaa
open Go Go.W
set_option linter.unusedVariables false
set_option linter.unusedSimpArgs false
set_option maxRecDepth 20000
attribute [local irreducible] HL HC HQ HB Row Rows2 Blk Facts
abbrev saB (g : Nat) (c : Ch) (sA : Option Addr) (sn sC : Nat) (aA : Option Addr) (an aC : Nat) : Nat × Obj := (g, .cells #[int c.1, int c.2.1, int c.2.2.1, int c.2.2.2.1, int c.2.2.2.2.1, int c.2.2.2.2.2, .slice sA sn sC, .slice aA an aC] T.api_Sales (0, 0))
abbrev SRes := Ch × Sl Int × Sl Ad
/-- Sales as the kit makes them. -/
structure SOf (m : Nat) (x : SRes) : Prop where
  ok : chkS x.1 x.2.1.l x.2.2.l = 0
  x8 : x.2.2.l.length ≤ m
  ca : x.2.1.l.length ≤ x.2.1.c
  cb : x.2.2.l.length ≤ x.2.2.c
end Go.Proofs.Ytdlbbfcfahahdaa
end
section
namespace Go.Proofs.Ytdlbbfcfahahdaa
open Go Go.W
set_option linter.unusedVariables false
set_option linter.unusedSimpArgs false
set_option maxRecDepth 20000
attribute [local irreducible] HL HC HQ HB Row Rows2 Blk Facts
end Go.Proofs.Ytdlbbfcfahahdaa
end
section
namespace Go.Proofs.Ytdlbbfcfahahdaa
open Go Go.W
set_option linter.unusedVariables false
set_option linter.unusedSimpArgs false
set_option maxRecDepth 20000
attribute [local irreducible] HL HC HQ HB Row Rows2 Blk Facts
def handL (cs : List Cd) (ks : List Int) : Hn := (ks, (linL cs ks).sum, (priL cs ks).sum)
def fillS (cs : List Cd) (room : Int) (st : Hn) (x : List Int) : Hn := if (handL cs x).2.1 ≤ room ∧ ordF (handL cs x) st < 0 then handL cs x else st
def fillO (cs : List Cd) (room : Int) : Nat → Hn
  | 0 => handL cs []
  | m + 1 => (combos (m + 1) (upI 0 cs.length)).foldl (fillS cs room) (fillO cs room m)
/-- All hands that have room. -/
def FitS (cs : List Cd) (room : Int) (x : Hn) : Prop := ∃ c, c.Sublist (upI 0 cs.length) ∧ x = handL cs c ∧ (handL cs c).2.1 ≤ room
def fillB (cs : List Cd) (room : Int) : Hn := (bestL ordF (handsK cs room (2 ^ cs.length))).1
theorem upI_mem {f n : Nat} {z : Int} (h : z ∈ upI f n) : (f : Int) ≤ z ∧ z < (n : Int) := by
  obtain ⟨i, hi, rfl⟩ := List.mem_map.1 h
  have h1 := List.mem_range'_1.1 hi
  omega
end Go.Proofs.Ytdlbbfcfahahdaa
end
section
namespace Go.Proofs.Ytdlbbfcfahahdaa
open Go Go.W
set_option linter.unusedVariables false
set_option linter.unusedSimpArgs false
set_option maxRecDepth 20000
attribute [local irreducible] HL HC HQ HB Row Rows2 Blk Facts
theorem combos_sorted : ∀ (k : Nat) (l : List Int), l.Pairwise (· < ·) → (combos k l).Pairwise fun a b => cmpIs a b < 0
  | 0, l, _ => by rw [combos]; exact List.pairwise_singleton _ _
  | k + 1, [], _ => by rw [combos]; exact .nil
  | k + 1, x :: l, h => by
    rw [List.pairwise_cons] at h
    rw [combos, List.pairwise_append]
    refine ⟨List.pairwise_map.2 ((combos_sorted k l h.2).imp fun h2 => (cmpIs_cons ..).2 (.inr ⟨rfl, h2⟩)), combos_sorted (k + 1) l h.2, fun a ha b hb => ?_⟩
    obtain ⟨c, hc, rfl⟩ := List.mem_map.1 ha
    cases b with
    | nil => have := combos_size hb; cases this
    | cons y b => exact (cmpIs_cons ..).2 (.inl (h.1 y ((combos_sub hb).subset (List.mem_cons_self ..))))
theorem upI_lt (n : Nat) : (upI 0 n).Pairwise (· < ·) := by
  unfold upI
  rw [Nat.sub_zero, ← List.range_eq_range']
  exact List.pairwise_map.2 (List.pairwise_lt_range.imp fun h => by omega)
def ExS (cs : List Cd) (room : Int) (x : Hn) : Prop := ∃ c, c.Sublist (upI 0 cs.length) ∧ x = handL cs c ∧ (handL cs c).2.1 = room
end Go.Proofs.Ytdlbbfcfahahdaa
end
section
namespace Go.Proofs.Ytdlbbfcfahahdaa
open Go Go.W
set_option linter.unusedVariables false
set_option linter.unusedSimpArgs false
set_option maxRecDepth 20000
attribute [local irreducible] HL HC HQ HB Row Rows2 Blk Facts
/-- From a heading another one is found in so many steps. -/
def nearB (t : Tr) (p : Int) (w : Int) (k : Int) : Bool := decide (0 ≤ (stepsT t w).getD k.toNat default ∧ (stepsT t w).getD k.toNat default ≤ p)
theorem near_at {cs : List Cl} {hs : List Hd} (h0 : checkT (trOf cs hs) = 0) {p w k : Int} (hw : 0 ≤ w ∧ w < (hs.length : Int)) (hk : 0 ≤ k ∧ k < (hs.length : Int)) : ((reachK (trOf cs hs) p hs.length).getD w.toNat default).getD k.toNat default = nearB (trOf cs hs) p w k := by
  obtain ⟨a, rfl⟩ := Int.eq_ofNat_of_zero_le hw.1
  obtain ⟨b, rfl⟩ := Int.eq_ofNat_of_zero_le hk.1
  rw [Int.toNat_natCast, Int.toNat_natCast]
  have hl : (trOf cs hs).hs.length = hs.length := hs_len cs hs
  have e1 : (reachK (trOf cs hs) p hs.length).getD a default = rdK p (stepsE (trOf cs hs) (a : Int)).1 := range_getD _ (by omega)
  have e2 : stepsE (trOf cs hs) (a : Int) = (stepsT (trOf cs hs) (a : Int), 0) := by
    exact if_neg (fun e => e (ask_one h0 (by omega)))
  rw [e1, e2]
  unfold nearB rdK
  have h3 : ((stepsT (trOf cs hs) (a : Int), (0 : Int)).1).length = hs.length := by rw [← hl]; exact steps_len (trOf cs hs) (a : Int)
  rw [getD_at (by rw [List.length_map]; omega), List.getElem_map, Int.toNat_natCast, ← getD_at (by rw [h3]; omega)]
theorem found_eq {cs : List Cl} {hs : List Hd} (h0 : checkT (trOf cs hs) = 0) {p : Int} {ws s : List Int} (hw : ∀ w ∈ ws, 0 ≤ w ∧ w < (hs.length : Int)) (hk : ∀ k ∈ s, 0 ≤ k ∧ k < (hs.length : Int)) : fndOK hs (reachK (trOf cs hs) p hs.length) ws s = ((s.all fun k => decide (0 ≤ (hs.getD k.toNat default).2.1)) && ws.all fun w => s.any fun k => nearB (trOf cs hs) p w k) := by
  unfold fndOK
  congr 1
  rw [Bool.eq_iff_iff, List.all_eq_true, List.all_eq_true]
  refine forall_congr' fun w => forall_congr' fun hw2 => ?_
  rw [List.any_eq_true, List.any_eq_true]
  refine exists_congr fun k => and_congr_right fun hk2 => ?_
  rw [near_at h0 (hw w hw2) (hk k hk2)]
theorem any_cut {α : Type} [Inhabited α] {p : α → Bool} {l : List α} {k : Nat} (hk : k < l.length) : (l.take (k + 1)).any p = ((l.take k).any p || p (l.getD k default)) := by
  rw [List.take_succ_eq_append_getElem hk, List.any_append, getD_at hk]
  simp
theorem all_cut {α : Type} [Inhabited α] {p : α → Bool} {l : List α} {k : Nat} (hk : k < l.length) : (l.take (k + 1)).all p = ((l.take k).all p && p (l.getD k default)) := by
  rw [List.take_succ_eq_append_getElem hk, List.all_append, getD_at hk]
  simp
theorem any_here {α : Type} [Inhabited α] {p : α → Bool} {l : List α} {k : Nat} (hk : k < l.length) (h : p (l.getD k default) = true) : l.any p = true := List.any_eq_true.2 ⟨_, getD_mem hk, h⟩
theorem law09_found_meets {A B S : Option Addr} {ca cb sc n : Nat} (cs : List Cl) (hs : List Hd) (h : Int) (ks : List Int) (p : Int) (hca : cs.length ≤ ca) (hcb : hs.length ≤ cb) (ha : ∀ h ∈ hs, h.2.2.2.l.length ≤ 1000000) (h0 : checkT (trOf cs hs) = 0) (hh : 0 ≤ h ∧ h < (hs.length : Int)) (hk : ∀ k ∈ ks, 0 ≤ k ∧ k < (hs.length : Int)) (hkl : ks.length ≤ 1000000) (e : ks.length = n) : Meets Try.prog F.law09_found [.agg #[.slice A cs.length ca, .slice B hs.length cb], int h, .slice S n sc, int p] { LI := [Row A (rows cs), RowsF B hs Hd.row, Row S (rows ks)], val := fun _ : Unit => .tuple #[.bool (ks.any (nearB (trOf cs hs) p h)), .bool true] } := by
 subst e
 have hln := hs_len cs hs
 have hsl := steps_len (trOf cs hs) h
 refine meets_intro F.law09_found_f rfl (Nat.le_of_ble_eq_true rfl) fun w0 => ?_
 refine hc_seq (hc_region ?_)
 refine r_box rfl rfl fun gB => ?_
 refine r_assign rfl rfl (r_assign rfl rfl (hl_nil (then_n (hc_seq (hc_region ?_)))))
 first | refine r_loadA rfl T.row_api_Trades T.sz_api_Trades rfl mB (by rfl) ?_ | refine r_loadB rfl T.row_api_Trades T.sz_api_Trades rfl mB (by rfl) ?_ | refine r_loadS rfl T.row_api_Trades T.sz_api_Trades rfl rfl (cells_row mB (rows_all (by omega))) ?_
 refine r_move rfl rfl ?_
 refine hl_call F.trade_Steps_cb rfl rfl (steps_is cs hs h hca hcb ha h0 (by omega)) (List.Perm.refl _) ⟨mB, mB, trivial⟩ fun y hy => ?_
 obtain ⟨sa, sc1⟩ := y
 refine r_move rfl rfl (r_extract rfl rfl rfl (r_extract rfl rfl rfl (r_assign rfl rfl (r_assign rfl rfl (hl_nil (then_n (hc_seq (hc_seq (hc_region (r_move rfl rfl (r_neq rfl rfl rfl ?_)))))))))))
 refine r_move rfl rfl ?_
 refine g_split rfl rfl ?_ ?_
 ·intro hg1; have hg1' := hg1; try simp at hg1'
  refine g_yes rfl rfl hg1 (r_move rfl rfl (g_yes rfl rfl hg1 ?_))
  refine r_len_sl rfl T.u_ints rfl ?_
  refine g_yes rfl rfl hg1 ?_
  first | refine r_fieldAddr ⟨_, 1, none⟩ rfl rfl T.fa_api_Trades_1 rfl ?_ | refine r_fieldAddr _ rfl rfl T.fa_api_Trades_1 rfl ?_
  refine g_yes rfl rfl hg1 ?_
  first | refine r_load rfl T.cell_L_api_Head rfl (cell_own mB rfl) ?_ | refine r_load rfl T.cell_L_api_Head rfl (cell_blk mB rfl) ?_ | refine r_load rfl T.cell_L_api_Head rfl (cell_row mB (rows_get0 (by omega) rfl)) ?_ | refine r_load rfl T.cell_L_api_Head rfl (cell_row_f mB (rows_get (by omega) rfl)) ?_ | refine r_load rfl T.cell_L_api_Head rfl (cell_rowg mB rfl) ?_
  refine g_yes rfl rfl hg1 ?_
  refine r_len_sl rfl T.u_L_api_Head rfl ?_
  refine g_yes rfl rfl hg1 (r_neq rfl rfl rfl ?_)
  refine p_f rfl rfl (bf1 hg1) rfl ?_
  refine hl_nil (then_n ?_)
  first | refine c_dec rfl (fun hb1 => ?_) (fun hb1 => ?_) | refine hc_cond rfl (fun hb1 => ?_) (fun hb1 => ?_)
  ·all_goals omega
  ·have hb1' := hb1; try simp at hb1'
   refine hc_skip (then_n (hc_seq (hc_seq (hc_region (r_assign rfl rfl (hl_nil (then_n (hc_block ?_))))))))
   refine hc_loop (β := Nat) ⟨fun k => k ≤ ks.length ∧ (ks.take k).any (nearB (trOf cs hs) p h) = false, fun k => [(2, .slice S ks.length sc), (3, int p), (10, .slice sa (stepsT (trOf cs hs) h).length sc1), (12, int k)], fun _ => [], fun _ => [Row sa (rows (stepsT (trOf cs hs) h)), Row S (rows ks)]⟩ (fun k => ks.length - k) 0 ⟨Nat.zero_le _, rfl⟩ ⟨rfl, rfl, rfl, rfl, trivial⟩ (List.nil_sublist _) ⟨mB, mB, trivial⟩ fun k hkk => ?_
   obtain ⟨hkk, hno⟩ := hkk
   refine hc_seq (hc_seq (hc_region (r_move rfl rfl (r_move rfl rfl ?_))))
   refine r_len_sl rfl T.u_ints rfl ?_
   refine r_lss rfl rfl rfl (hl_nil (then_n ?_))
   first | refine c_dec rfl (fun hb2 => ?_) (fun hb2 => ?_) | refine hc_cond rfl (fun hb2 => ?_) (fun hb2 => ?_)
   ·have hb2' := hb2; try simp at hb2'
    have hk2 : k < ks.length := by omega
    have hkv := hk _ (getD_mem hk2)
    obtain ⟨m, hme⟩ := Int.eq_ofNat_of_zero_le hkv.1
    have hm2 : m < (stepsT (trOf cs hs) h).length := by omega
    have hcut := any_cut (p := nearB (trOf cs hs) p h) hk2
    rw [hno, Bool.false_or] at hcut
    have hnr : nearB (trOf cs hs) p h (ks.getD k default) = decide (0 ≤ (stepsT (trOf cs hs) h).getD m default ∧ (stepsT (trOf cs hs) h).getD m default ≤ p) := by unfold nearB; rw [hme, Int.toNat_natCast]
    refine hc_skip (then_n (hc_seq (hc_block (hc_seq (hc_region (r_move rfl rfl (r_move rfl rfl (r_move rfl rfl ?_))))))))
    refine r_elem (α := Int) ks k rfl T.u_ints T.sz_int rfl rfl rfl mB rfl (hk2) (by decide) ?_
    refine r_load (v := int ((m : Int))) rfl T.cell_int rfl (cell_row mB (by rw [← hme]; exact rows_get0 (hk2) rfl)) ?_
    refine r_elem (α := Int) (stepsT (trOf cs hs) h) m rfl T.u_ints T.sz_int rfl rfl rfl mB rfl (hm2) (by decide) ?_
    refine r_load (v := int ((stepsT (trOf cs hs) h).getD m default)) rfl T.cell_int rfl (cell_row mB (rows_get0 (hm2) rfl)) ?_
    refine r_assign rfl rfl (hl_nil (then_n (hc_seq (hc_region (r_move rfl rfl (r_geq rfl rfl rfl (r_move rfl rfl ?_)))))))
    refine g_split rfl rfl ?_ ?_
    ·intro hg2; have hg2' := hg2; try simp at hg2'
     have q1 : 0 ≤ (stepsT (trOf cs hs) h).getD m default := of_decide_eq_true (eq_of_beq hg2)
     refine g_yes rfl rfl hg2 (r_move rfl rfl (g_yes rfl rfl hg2 (r_move rfl rfl (g_yes rfl rfl hg2 (r_leq rfl rfl rfl ?_)))))
     refine p_t rfl rfl (bt1 hg2) rfl ?_
     refine hl_nil (then_n ?_)
     first | refine c_dec rfl (fun hb3 => ?_) (fun hb3 => ?_) | refine hc_cond rfl (fun hb3 => ?_) (fun hb3 => ?_)
     ·have hb3' := hb3; try simp at hb3'
      refine hc_seq (hc_region (r_assign rfl rfl (r_assign rfl rfl (hl_nil (then_n (hc_ret (inb_ret (then_ret (then_ret (inb_ret (then_ret ?_)))))))))))
      exact ret2 () rfl rfl rfl (by show Value.tuple #[.bool (ks.any (nearB (trOf cs hs) p h)), .bool true] = _; rw [show ks.any (nearB (trOf cs hs) p h) = true from any_here hk2 (by rw [hnr]; exact decide_eq_true ⟨q1, hb3⟩)]) rfl trivial (List.nil_sublist _) trivial
     ·have hb3' := hb3; try simp at hb3'
      refine hc_skip (inb_n (then_n (hc_region (r_move rfl rfl ?_))))
      refine r_add _ rfl rfl rfl rfl (by unfold I64; omega) ?_
      refine r_assign rfl rfl (hl_nil ?_)
      exact again _ (k + 1) ⟨by show k + 1 ≤ ks.length; omega, by rw [hcut, hnr]; exact decide_eq_false fun e => hb3 e.2⟩ (by show ks.length - (k + 1) < ks.length - k; omega) ⟨rfl, rfl, rfl, rfl, trivial⟩ (.refl _) ⟨mB, mB, trivial⟩
    ·intro hg2; have hg2' := hg2; try simp at hg2'
     have q1 : ¬ 0 ≤ (stepsT (trOf cs hs) h).getD m default := of_decide_eq_false (bf2 hg2)
     refine g_no rfl rfl rfl rfl rfl hg2 (g_no rfl rfl rfl rfl rfl hg2 (g_no rfl rfl rfl rfl rfl hg2 ?_))
     refine p_f rfl rfl (bf2 hg2) rfl ?_
     refine hl_nil (then_n (c_f rfl rfl (hc_skip (inb_n (then_n (hc_region (r_move rfl rfl ?_)))))))
     refine r_add _ rfl rfl rfl rfl (by unfold I64; omega) ?_
     refine r_assign rfl rfl (hl_nil ?_)
     exact again _ (k + 1) ⟨by show k + 1 ≤ ks.length; omega, by rw [hcut, hnr]; exact decide_eq_false fun e => q1 e.1⟩ (by show ks.length - (k + 1) < ks.length - k; omega) ⟨rfl, rfl, rfl, rfl, trivial⟩ (.refl _) ⟨mB, mB, trivial⟩
   ·have hb2' := hb2; try simp at hb2'
    obtain rfl : k = ks.length := by omega
    rw [List.take_length] at hno
    refine hc_exit (then_exit (then_exit (inb_hit (then_n (hc_seq (hc_region (r_assign rfl rfl (r_assign rfl rfl (hl_nil (then_n (hc_ret ?_)))))))))))
    exact ret2 () rfl rfl rfl (by show Value.tuple #[.bool (ks.any (nearB (trOf cs hs) p h)), .bool true] = _; rw [show ks.any (nearB (trOf cs hs) p h) = false from hno]) rfl trivial (List.nil_sublist _) trivial
 ·intro hg1; have hg1' := hg1; try simp at hg1'
/-- The headings of a list that are found from all wanted ones, with their price. -/
def FoundS (hs : List Hd) (rs : List (List Bool)) (pr ws : List Int) (x : Hn) : Prop := ∃ c, c.Sublist (upI 0 hs.length) ∧ fndOK hs rs ws c = true ∧ x = fndH pr c
theorem fndH_inj {pr a b : List Int} (h : (fndH pr a).1 = (fndH pr b).1) : fndH pr a = fndH pr b := congrArg (fndH pr) h
theorem fnd_mem {hs : List Hd} {rs : List (List Bool)} {pr ws : List Int} {x : Hn} : x ∈ fndL hs rs pr ws (2 ^ hs.length) ↔ FoundS hs rs pr ws x := by
  unfold fndL
  rw [List.mem_map]
  constructor
  · rintro ⟨c, hc, rfl⟩
    obtain ⟨h1, h2⟩ := List.mem_filter.1 hc
    obtain ⟨s, hs1, rfl⟩ := List.mem_map.1 h1
    exact ⟨_, pick_sub s _, h2, rfl⟩
  · rintro ⟨c, h1, h2, rfl⟩
    obtain ⟨s, hs1, rfl⟩ := pick_all h1
    exact ⟨_, List.mem_filter.2 ⟨List.mem_map.2 ⟨s, List.mem_range.2 hs1, rfl⟩, h2⟩, rfl⟩
theorem found_inj {hs : List Hd} {rs : List (List Bool)} {pr ws : List Int} {x y : Hn} (hx : FoundS hs rs pr ws x) (hy : FoundS hs rs pr ws y) (h : x.1 = y.1) : x = y := by
  obtain ⟨c, _, _, rfl⟩ := hx
  obtain ⟨d, _, _, rfl⟩ := hy
  exact fndH_inj h
theorem fndB_is {t : Tr} {hs : List Hd} {pr ws : List Int} {p : Int} : ((fndB t hs pr ws p).2 = false ∧ ∀ x, ¬ FoundS hs (reachK t p hs.length) pr ws x) ∨ ((fndB t hs pr ws p).2 = true ∧ BestIs ordP (FoundS hs (reachK t p hs.length) pr ws) (fndB t hs pr ws p).1) := by
  rcases bestL_is tot_P (l := fndL hs (reachK t p hs.length) pr ws (2 ^ hs.length)) (fun x hx y hy => found_inj (fnd_mem.1 hx) (fnd_mem.1 hy)) with ⟨h1, h2⟩ | ⟨h1, h2⟩
  · exact .inl ⟨h1, fun x hx => by have := fnd_mem.2 hx; rw [h2] at this; cases this⟩
  · exact .inr ⟨h1, fnd_mem.1 h2.1, fun x hx => h2.2 x (fnd_mem.2 hx)⟩
theorem found_ok {cs : List Cl} {hs : List Hd} {pr ws : List Int} {p : Int} (h0 : checkT (trOf cs hs) = 0) (hl : pr.length = hs.length) (hp : ∀ x ∈ pr, prB x) (hw : ∀ w ∈ ws, 0 ≤ w ∧ w < (hs.length : Int)) (h6 : 0 ≤ p ∧ p ≤ 6) : foundE cs hs pr ws p = if (fndB (trOf cs hs) hs pr ws p).2 = false then ([], 0, 11) else ((fndB (trOf cs hs) hs pr ws p).1.1, (fndB (trOf cs hs) hs pr ws p).1.2.2, 0) := by
  unfold foundE
  rw [if_neg (fun e => e h0), if_neg (by omega), if_neg (by omega), if_neg (fun e => e hp), if_neg (fun e => e fun w h => by have := hw w h; omega), if_neg (fun e => e h6)]
theorem made_pr {l : List Int} (h : ∀ y ∈ l, 0 ≤ y ∧ y ≤ 40) : ∀ x ∈ l, prB x := fun x hx => by
  have := h x hx
  exact ⟨by omega, by omega⟩
end Go.Proofs.Ytdlbbfcfahahdaa
end
section
namespace Go.Proofs.Ytdlbbfcfahahdaa
open Go Go.W
set_option linter.unusedVariables false
set_option linter.unusedSimpArgs false
set_option maxRecDepth 20000
attribute [local irreducible] HL HC HQ HB Row Rows2 Blk Facts
def xl : Option Hn → List Int
  | none => []
  | some b => b.1
def xp : Option Hn → Int
  | none => -1
  | some b => b.2.2
/-- The best so far, if there is one. -/
def BestO (o : Hn → Hn → Int) (S : Hn → Prop) (st : Option Hn) : Prop := (st = none ∧ ∀ x, ¬ S x) ∨ ∃ b, st = some b ∧ BestIs o S b
/-- What has been tried: all lists with less than m headings, and the first i ones with m. -/
def PrS (hs : List Hd) (rs : List (List Bool)) (pr ws : List Int) (m i : Nat) (x : Hn) : Prop := ∃ c : List Int, c.Sublist (upI 0 hs.length) ∧ (c.length < m ∨ ∃ j, j < i ∧ c = (combos m (upI 0 hs.length)).getD j default) ∧ fndOK hs rs ws c = true ∧ x = fndH pr c
theorem best_congr {o : Hn → Hn → Int} {S S' : Hn → Prop} {st : Option Hn} (h : ∀ x, S x ↔ S' x) (hb : BestO o S st) : BestO o S' st := by
  rcases hb with ⟨h1, h2⟩ | ⟨b, h1, h2, h3⟩
  · exact .inl ⟨h1, fun x hx => h2 x ((h x).2 hx)⟩
  · exact .inr ⟨b, h1, (h b).1 h2, fun x hx => h3 x ((h x).2 hx)⟩
section
variable {hs : List Hd} {rs : List (List Bool)} {pr ws : List Int} {m i : Nat} {st : Option Hn}
theorem pr_next (hi : i < (combos m (upI 0 hs.length)).length) (x : Hn) : PrS hs rs pr ws m (i + 1) x ↔ PrS hs rs pr ws m i x ∨ (fndOK hs rs ws ((combos m (upI 0 hs.length)).getD i default) = true ∧ x = fndH pr ((combos m (upI 0 hs.length)).getD i default)) := by
  constructor
  · rintro ⟨c, h1, h2, h3, h4⟩
    rcases h2 with h2 | ⟨j, hj, h2⟩
    · exact .inl ⟨c, h1, .inl h2, h3, h4⟩
    · rcases Nat.lt_or_ge j i with h5 | h5
      · exact .inl ⟨c, h1, .inr ⟨j, h5, h2⟩, h3, h4⟩
      · obtain rfl : j = i := by omega
        subst h2
        exact .inr ⟨h3, h4⟩
  · rintro (⟨c, h1, h2, h3, h4⟩ | ⟨h3, h4⟩)
    · exact ⟨c, h1, h2.elim .inl fun ⟨j, hj, e⟩ => .inr ⟨j, by omega, e⟩, h3, h4⟩
    · exact ⟨_, combos_sub (getD_mem hi), .inr ⟨i, by omega, rfl⟩, h3, h4⟩
theorem pr_more (x : Hn) : PrS hs rs pr ws m (combos m (upI 0 hs.length)).length x ↔ PrS hs rs pr ws (m + 1) 0 x := by
  constructor
  · rintro ⟨c, h1, h2, h3, h4⟩
    refine ⟨c, h1, .inl ?_, h3, h4⟩
    rcases h2 with h2 | ⟨j, hj, rfl⟩
    · omega
    · rw [combos_size (getD_mem hj)]; omega
  · rintro ⟨c, h1, h2, h3, h4⟩
    rcases h2 with h2 | ⟨j, hj, _⟩
    · by_cases e : c.length < m
      · exact ⟨c, h1, .inl e, h3, h4⟩
      · have h5 := combos_mem h1
        rw [show c.length = m by omega] at h5
        obtain ⟨j, hj, e⟩ := List.getElem_of_mem h5
        exact ⟨c, h1, .inr ⟨j, hj, by rw [getD_at hj, e]⟩, h3, h4⟩
    · omega
theorem pr_no (hi : i < (combos m (upI 0 hs.length)).length) (h : ¬ fndOK hs rs ws ((combos m (upI 0 hs.length)).getD i default) = true) (hb : BestO ordP (PrS hs rs pr ws m i) st) : BestO ordP (PrS hs rs pr ws m (i + 1)) st :=
  best_congr (fun x => ⟨fun hx => (pr_next hi x).2 (.inl hx), fun hx => ((pr_next hi x).1 hx).elim id fun hx => absurd hx.1 h⟩) hb
theorem pr_yes (hi : i < (combos m (upI 0 hs.length)).length) (h : fndOK hs rs ws ((combos m (upI 0 hs.length)).getD i default) = true) (hb : BestO ordP (PrS hs rs pr ws m i) st) (hn : ∀ b, st = some b → 0 ≤ b.2.2) :
    BestO ordP (PrS hs rs pr ws m (i + 1)) (if xp st < 0 ∨ (fndH pr ((combos m (upI 0 hs.length)).getD i default)).2.2 < xp st then some (fndH pr ((combos m (upI 0 hs.length)).getD i default)) else st) := by
  have hS : ∀ x, PrS hs rs pr ws m (i + 1) x ↔ PrS hs rs pr ws m i x ∨ x = fndH pr ((combos m (upI 0 hs.length)).getD i default) := fun x => (pr_next hi x).trans ⟨fun e => e.elim .inl fun e => .inr e.2, fun e => e.elim .inl fun e => .inr ⟨h, e⟩⟩
  rcases hb with ⟨rfl, h2⟩ | ⟨b, rfl, h2⟩
  · rw [if_pos (.inl (by decide))]
    refine .inr ⟨_, rfl, (hS _).2 (.inr rfl), fun x hx => ?_⟩
    rcases (hS x).1 hx with h3 | rfl
    · exact absurd h3 (h2 x)
    · exact tot_P.ir rfl rfl
  · have h4 := best_step tot_P (x := fndH pr ((combos m (upI 0 hs.length)).getD i default)) h2 (fun e => by obtain ⟨d, _, _, _, rfl⟩ := h2.1; exact fndH_inj e)
    have key : ordP (fndH pr ((combos m (upI 0 hs.length)).getD i default)) b < 0 ↔ (fndH pr ((combos m (upI 0 hs.length)).getD i default)).2.2 < b.2.2 := by
      rw [ordP_lt]
      refine ⟨fun e => e.elim id fun ⟨e1, e2⟩ => absurd e2 ?_, .inl⟩
      obtain ⟨d, hd1, hd2, _, rfl⟩ := h2.1
      have hcm := combos_size (getD_mem hi)
      show ¬ (((combos m (upI 0 hs.length)).getD i default).length < d.length ∨ (((combos m (upI 0 hs.length)).getD i default).length = d.length ∧ cmpIs ((combos m (upI 0 hs.length)).getD i default) d < 0))
      rcases hd2 with h5 | ⟨j, hj, rfl⟩
      · omega
      · have hjl : j < (combos m (upI 0 hs.length)).length := by omega
        have h6 := combos_size (getD_mem hjl)
        have h7 := List.pairwise_iff_getElem.1 (combos_sorted m _ (upI_lt hs.length)) j i hjl hi hj
        rw [← getD_at hjl, ← getD_at hi] at h7
        rintro (h8 | ⟨_, h8⟩)
        · omega
        · exact cmpIs_irr _ (cmpIs_trans h7 h8)
    have hb0 := hn b rfl
    have e1 : (if xp (some b) < 0 ∨ (fndH pr ((combos m (upI 0 hs.length)).getD i default)).2.2 < xp (some b) then some (fndH pr ((combos m (upI 0 hs.length)).getD i default)) else some b) = some (if ordP (fndH pr ((combos m (upI 0 hs.length)).getD i default)) b < 0 then fndH pr ((combos m (upI 0 hs.length)).getD i default) else b) := by
      by_cases e : (fndH pr ((combos m (upI 0 hs.length)).getD i default)).2.2 < b.2.2
      · rw [if_pos (.inr e), if_pos (key.2 e)]
      · rw [if_neg (by show ¬ (b.2.2 < 0 ∨ _ < b.2.2); omega), if_neg (mt key.1 e)]
    rw [e1]
    exact .inr ⟨_, rfl, (hS _).2 h4.1, fun x hx => h4.2 x ((hS x).1 hx)⟩
theorem pr_all (hm : hs.length < m) (x : Hn) : PrS hs rs pr ws m 0 x ↔ FoundS hs rs pr ws x := by
  constructor
  · rintro ⟨c, h1, _, h3, h4⟩; exact ⟨c, h1, h3, h4⟩
  · rintro ⟨c, h1, h3, h4⟩; exact ⟨c, h1, .inl (by have := h1.length_le; rw [upI_len] at this; omega), h3, h4⟩
end
theorem placed_is {t : Tr} {hs : List Hd} {pr ws : List Int} {p : Int} {st : Option Hn} {m : Nat} (hm : hs.length < m) (hb : BestO ordP (PrS hs (reachK t p hs.length) pr ws m 0) st) : (if (fndB t hs pr ws p).2 = false then (([], 0, 11) : Hn) else ((fndB t hs pr ws p).1.1, (fndB t hs pr ws p).1.2.2, 0)) = match st with | none => ([], 0, 11) | some b => (b.1, b.2.2, 0) := by
  have hb := best_congr (pr_all hm) hb
  rcases hb with ⟨rfl, h2⟩ | ⟨b, rfl, h2⟩ <;> rcases fndB_is (t := t) (hs := hs) (pr := pr) (ws := ws) (p := p) with ⟨h3, h4⟩ | ⟨h3, h4⟩
  · rw [if_pos h3]
  · exact absurd h4.1 (h2 _)
  · exact absurd h2.1 (h4 _)
  · rw [if_neg (by rw [h3]; decide), best_uniq tot_P h4 h2 (fun x => Iff.rfl) fun x y hx hy => found_inj hx hy]
theorem xp_nn {st : Option Hn} (h : ∀ b, st = some b → 0 ≤ b.2.2) : (xp st < 0 ↔ st = none) ∧ -1 ≤ xp st := by
  cases st with
  | none => exact ⟨⟨fun _ => rfl, fun _ => by decide⟩, by decide⟩
  | some b => have := h b rfl; exact ⟨⟨fun e => by simp only [xp] at e; omega, fun e => by cases e⟩, by simp only [xp]; omega⟩
set_option maxHeartbeats 2000000 in
theorem law09_BoldPlaced_meets {A : Option Addr} {cn : Nat} (nums : List Int) (hn : nums.length ≤ 9223372036854775807) : Meets Try.prog F.law09_BoldPlaced [.slice A nums.length cn] { LI := [Row A (rows nums)], val := fun _ : Unit => .bool true } := by
 refine meets_intro F.law09_BoldPlaced_f rfl (Nat.le_of_ble_eq_true rfl) fun w0 => ?_
 refine hc_seq (hc_region (r_assign rfl rfl (hl_nil (then_n (hc_seq (hc_region (r_move rfl rfl ?_)))))))
 refine hl_call F.kit_NewDice_cb rfl rfl (kit_NewDice_meets nums) (List.Perm.refl _) ⟨mB, trivial⟩ fun g _ => ?_
 refine r_assign rfl rfl (hl_nil (then_n (hc_seq (hc_region (r_move rfl rfl ?_)))))
 refine hl_call F.kit_TradesOf_cb rfl rfl (kit_TradesOf_meets 3 6 hn (dok0 nums) (by decide) (by decide)) (List.Perm.refl _) ⟨mB, trivial⟩ fun x hx => ?_
 obtain ⟨sd, cs, hs, ⟨CA, ca⟩, ⟨HB, cb⟩⟩ := x
 obtain ⟨hsd, hT⟩ := hx
 have hca : cs.length ≤ ca := hT.ca
 have hcb : hs.length ≤ cb := hT.cb
 have ha : ∀ h ∈ hs, h.2.2.2.l.length ≤ 1000000 := hT.ha
 have hT0 : checkT (trOf cs hs) = 0 := hT.ok
 have hok : TrOK (trOf cs hs) := tr_ok hT0
 clear hT
 have h6 : cs.length ≤ 6 := hok.c6
 have h6h := hok.h6
 have hln := hs_len cs hs
 rw [hln] at h6h
 have hcl : ∀ i, i < cs.length → ClsOK cs i := hok.c
 refine r_alloc rfl (fun _ => T.al_api_Trades _) fun gT => ?_
 refine r_storeS (cs := #[.slice CA cs.length ca, .slice HB hs.length cb]) rfl rfl (.refl _) T.sz_api_Trades (by rfl) (by rfl) ?_
 refine hl_nil (then_n (hc_seq (hc_letgoB (hc_region ?_))))
 first | refine r_fieldAddr ⟨_, 1, none⟩ rfl rfl T.fa_api_Trades_1 rfl ?_ | refine r_fieldAddr _ rfl rfl T.fa_api_Trades_1 rfl ?_
 first | refine r_load rfl T.cell_L_api_Head rfl (cell_own mB rfl) ?_ | refine r_load rfl T.cell_L_api_Head rfl (cell_blk mB rfl) ?_ | refine r_load rfl T.cell_L_api_Head rfl (cell_row mB (rows_get0 (by omega) rfl)) ?_ | refine r_load rfl T.cell_L_api_Head rfl (cell_row_f mB (rows_get (by omega) rfl)) ?_ | refine r_load rfl T.cell_L_api_Head rfl (cell_rowg mB rfl) ?_
 refine r_len_sl rfl T.u_L_api_Head rfl ?_
 refine r_assign rfl rfl (hl_nil (then_n (hc_seq (hc_region (r_move rfl rfl (r_move rfl rfl ?_))))))
 refine hl_call F.kit_PricesOf_cb rfl rfl (kit_PricesOf_meets hs.length hn hsd (by omega)) (List.Perm.refl _) ⟨mB, trivial⟩ fun xs2 hs2 => ?_
 obtain ⟨s2, y⟩ := xs2
 obtain ⟨hs2, hy⟩ := hs2
 simp only at hs2
 obtain ⟨pr, pA, pC⟩ := y
 obtain ⟨hpl, hp40, hpc⟩ := hy
 simp only at hpl hp40 hpc
 have hprb := made_pr hp40
 refine r_move rfl rfl (r_move rfl rfl ?_)
 refine hl_call F.kit_HeadsOf_cb rfl rfl (kit_HeadsOf_meets hs.length 3 hn hs2 (by omega) (by decide)) (List.Perm.refl _) ⟨mB, trivial⟩ fun xs3 hs3 => ?_
 obtain ⟨s3, y⟩ := xs3
 obtain ⟨hs3, hy⟩ := hs3
 simp only at hs3
 obtain ⟨ws, wA, wC⟩ := y
 obtain ⟨hw3, hwb, hwc⟩ := hy
 simp only at hw3 hwb hwc
 refine r_move rfl rfl ?_
 refine hl_call F.kit_Dice_To_cb rfl rfl (kit_Dice_To_meets (3) hn hs3 (by omega)) (List.Perm.refl _) ⟨mB, trivial⟩ fun xs4 hs4 => ?_
 obtain ⟨s4, z⟩ := xs4
 obtain ⟨hs4, hz⟩ := hs4
 simp only at hs4
 have hz : 0 ≤ z ∧ z ≤ 3 := to_bd hz (by omega)
 refine r_assign rfl rfl (r_assign rfl rfl (r_assign rfl rfl (hl_nil (then_n (hc_seq (hc_region ?_))))))
 first | refine r_loadA rfl T.row_api_Trades T.sz_api_Trades rfl mB (by rfl) ?_ | refine r_loadB rfl T.row_api_Trades T.sz_api_Trades rfl mB (by rfl) ?_ | refine r_loadS rfl T.row_api_Trades T.sz_api_Trades rfl rfl (cells_row mB (rows_all (by omega))) ?_
 refine r_move rfl rfl (r_move rfl rfl (r_move rfl rfl ?_))
 refine hl_call F.bold_Found_cb rfl rfl (bold_Found_meets cs hs pr ws z hca hcb ha (by omega) (by omega)) (List.Perm.refl _) ⟨mB, mB, mB, mB, trivial⟩ fun x1 _ => ?_
 obtain ⟨a1, c1⟩ := x1
 have hFE := found_ok (p := z) hT0 hpl hprb hwb (by omega)
 refine r_move rfl rfl (r_extract rfl rfl rfl (r_extract rfl rfl rfl (r_extract rfl rfl rfl (r_assign rfl rfl (r_assign rfl rfl (r_assign rfl rfl (hl_nil (then_n (hc_seq (hc_region (r_assign rfl rfl ?_)))))))))))
 refine hl_nil (then_n (hc_seq (hc_region (r_assign rfl rfl (hl_nil (then_n (hc_seq (hc_seq (hc_region (r_assign rfl rfl (hl_nil ?_)))))))))))
 refine then_n (hc_block ?_)
 refine hc_nilrow (α := Int) ?_
 refine hc_loop (β := Nat × Option Hn × OutC) ⟨fun x => x.1 ≤ hs.length + 1 ∧ BestO ordP (PrS hs (reachK (trOf cs hs) z hs.length) pr ws x.1 0) x.2.1 ∧ (∀ b, x.2.1 = some b → 0 ≤ b.2.2 ∧ b.1.length ≤ 6), fun x => [(4, .pointer (some ⟨gT, 0, none⟩)), (5, int hs.length), (6, .slice pA pr.length pC), (7, .slice wA ws.length wC), (8, int z), (9, .slice a1 (foundE cs hs pr ws z).1.length c1), (10, int (foundE cs hs pr ws z).2.1), (11, int (foundE cs hs pr ws z).2.2), (12, .slice x.2.2.1 (xl x.2.1).length x.2.2.2), (13, int (xp x.2.1)), (14, int x.1)], fun _ => [], fun x => [Row x.2.2.1 (rows (xl x.2.1)), Row a1 (rows (foundE cs hs pr ws z).1), Blk gT (.cells #[.slice CA cs.length ca, .slice HB hs.length cb] T.api_Trades (0, 0)), Row CA (rows cs), RowsF HB hs Hd.row, Row pA (rows pr), Row wA (rows ws)]⟩ (fun x => hs.length + 1 - x.1) (0, none, (none, 0)) ⟨Nat.zero_le _, .inl ⟨rfl, fun x ⟨c, _, h, _⟩ => h.elim (fun h => absurd h (Nat.not_lt_zero _)) fun ⟨j, hj, _⟩ => absurd hj (Nat.not_lt_zero _)⟩, fun b e => by cases e⟩ ⟨rfl, rfl, rfl, rfl, rfl, rfl, rfl, rfl, rfl, rfl, rfl, trivial⟩ (List.nil_sublist _) ⟨mB, mB, mB, mB, mB, mB, mB, trivial⟩ fun x hx => ?_
 obtain ⟨m, st, o⟩ := x
 obtain ⟨hm, hB, hst⟩ := hx
 simp only at hm hB hst
 refine hc_seq (hc_seq (hc_region (r_move rfl rfl (r_move rfl rfl (r_leq rfl rfl rfl (hl_nil (then_n ?_)))))))
 first | refine c_dec rfl (fun hb1 => ?_) (fun hb1 => ?_) | refine hc_cond rfl (fun hb1 => ?_) (fun hb1 => ?_)
 ·have hb1' := hb1; try simp at hb1'
  have hm2 : m ≤ hs.length := by omega
  refine hc_skip (then_n (hc_seq (hc_block (hc_seq (hc_region (r_move rfl rfl (r_move rfl rfl ?_)))))))
  refine hl_call F.kit_Subsets_cb rfl rfl (kit_Subsets_meets hs.length m (by omega) (by omega)) (List.Perm.refl _) trivial fun y hz2 => ?_
  obtain ⟨zp, ZA, zc⟩ := y
  change lsts zp = _ at hz2
  have hzl : zp.length = (combos m (upI 0 hs.length)).length := by rw [← lsts_len, hz2]
  have hzb : zp.length ≤ 64 := by have h9 := combos_pow (upI 0 hs.length) m; rw [upI_len] at h9; have h8 : 2 ^ (hs.length - 0) ≤ 2 ^ 6 := Nat.pow_le_pow_right (by decide) (by omega); omega
  refine r_assign rfl rfl (hl_nil (then_n (hc_seq (hc_region (r_assign rfl rfl (hl_nil (then_n (hc_block ?_))))))))
  refine hc_loop (β := Nat × Option Hn × OutC) ⟨fun x => x.1 ≤ zp.length ∧ BestO ordP (PrS hs (reachK (trOf cs hs) z hs.length) pr ws m x.1) x.2.1 ∧ (∀ b, x.2.1 = some b → 0 ≤ b.2.2 ∧ b.1.length ≤ 6), fun x => [(4, .pointer (some ⟨gT, 0, none⟩)), (5, int hs.length), (6, .slice pA pr.length pC), (7, .slice wA ws.length wC), (8, int z), (9, .slice a1 (foundE cs hs pr ws z).1.length c1), (10, int (foundE cs hs pr ws z).2.1), (11, int (foundE cs hs pr ws z).2.2), (12, .slice x.2.2.1 (xl x.2.1).length x.2.2.2), (13, int (xp x.2.1)), (14, int m), (15, .slice ZA zp.length zc), (16, int x.1)], fun _ => [], fun x => Rows2 ZA zp :: [Row x.2.2.1 (rows (xl x.2.1)), Row a1 (rows (foundE cs hs pr ws z).1), Blk gT (.cells #[.slice CA cs.length ca, .slice HB hs.length cb] T.api_Trades (0, 0)), Row CA (rows cs), RowsF HB hs Hd.row, Row pA (rows pr), Row wA (rows ws)]⟩ (fun x => zp.length - x.1) (0, st, o) ⟨Nat.zero_le _, hB, hst⟩ ⟨rfl, rfl, rfl, rfl, rfl, rfl, rfl, rfl, rfl, rfl, rfl, rfl, rfl, trivial⟩ (.refl _) ⟨mB, mB, mB, mB, mB, mB, mB, mB, trivial⟩ fun x hx => ?_
  clear hB hst
  obtain ⟨i, st, o⟩ := x
  obtain ⟨hi, hB, hst⟩ := hx
  simp only at hi hB hst
  refine hc_seq (hc_seq (hc_region (r_move rfl rfl (r_move rfl rfl ?_))))
  refine r_len_sl rfl T.u_intss rfl ?_
  refine r_lss rfl rfl rfl (hl_nil (then_n ?_))
  first | refine c_dec rfl (fun hb2 => ?_) (fun hb2 => ?_) | refine hc_cond rfl (fun hb2 => ?_) (fun hb2 => ?_)
  ·have hb2' := hb2; try simp at hb2'
   have hi2 : i < zp.length := by omega
   have hcl : i < (combos m (upI 0 hs.length)).length := by omega
   have hpi : (zp.getD i default).l = (combos m (upI 0 hs.length)).getD i default := by rw [← lsts_at zp hi2, hz2]; rfl
   have hpc : (zp.getD i default).l ∈ (combos m (upI 0 hs.length)) := by rw [hpi]; exact getD_mem hcl
   have hps := combos_sub hpc
   have hpm : (zp.getD i default).l.length = m := combos_size hpc
   have hpb : ∀ v ∈ (zp.getD i default).l, 0 ≤ v ∧ v < (hs.length : Int) := fun v hv => by have := upI_mem (hps.subset hv); omega
   have hpbd := fun k => sum_bd (priP_bd (s := (zp.getD i default).l) hprb (by rw [hpl]; exact hpb)) k
   have hxn := xp_nn (fun b e => (hst b e).1)
   have hok := found_eq (cs := cs) (hs := hs) (p := z) (ws := ws) (s := (zp.getD i default).l) hT0 hwb hpb
   refine hc_outer (A := ZA) (ps := zp) mB ?_
   refine hc_inner (A := ZA) (ps := zp) (p := (zp.getD i default)) mB (getD_mem hi2) ?_
   refine hc_skip (then_n (hc_seq (hc_block (hc_seq (hc_region (r_assign rfl rfl (r_assign rfl rfl (hl_nil (then_n (hc_seq (hc_seq ?_)))))))))))
   refine hc_region (r_assign rfl rfl (hl_nil (then_n (hc_block ?_))))
   refine hc_loop (β := Nat) ⟨fun k => k ≤ m, fun k => [(4, .pointer (some ⟨gT, 0, none⟩)), (5, int hs.length), (6, .slice pA pr.length pC), (7, .slice wA ws.length wC), (8, int z), (9, .slice a1 (foundE cs hs pr ws z).1.length c1), (10, int (foundE cs hs pr ws z).2.1), (11, int (foundE cs hs pr ws z).2.2), (12, .slice o.1 (xl st).length o.2), (13, int (xp st)), (14, int m), (15, .slice ZA zp.length zc), (16, int i), (17, int ((priP pr (zp.getD i default).l).take k).sum), (18, .bool (((zp.getD i default).l.take k).all (fun v : Int => decide (0 ≤ (hs.getD v.toNat default).2.1)))), (19, int k)], fun _ => [], fun _ => [Row o.1 (rows (xl st)), Row (zp.getD i default).a (rows (zp.getD i default).l), Rows2 ZA zp, Row a1 (rows (foundE cs hs pr ws z).1), Blk gT (.cells #[.slice CA cs.length ca, .slice HB hs.length cb] T.api_Trades (0, 0)), Row CA (rows cs), RowsF HB hs Hd.row, Row pA (rows pr), Row wA (rows ws)]⟩ (fun k => m - k) 0 (Nat.zero_le _) ⟨rfl, rfl, rfl, rfl, rfl, rfl, rfl, rfl, rfl, rfl, rfl, rfl, rfl, rfl, rfl, rfl, trivial⟩ (.refl _) ⟨mB, mB, mB, mB, mB, mB, mB, mB, mB, trivial⟩ fun k hk => ?_
   simp only at hk
   have hbk := hpbd k
   refine hc_seq (hc_seq (hc_region (r_move rfl rfl (r_move rfl rfl (r_lss rfl rfl rfl (hl_nil (then_n ?_)))))))
   first | refine c_dec rfl (fun hb3 => ?_) (fun hb3 => ?_) | refine hc_cond rfl (fun hb3 => ?_) (fun hb3 => ?_)
   ·have hb3' := hb3; try simp at hb3'
    have hk2 : k < (zp.getD i default).l.length := by omega
    have hkv := hpb _ (getD_mem hk2)
    obtain ⟨v, hve⟩ := Int.eq_ofNat_of_zero_le hkv.1
    have hv2 : v < hs.length := by omega
    have hv3 : v < pr.length := by omega
    have hpv := hp40 _ (getD_mem hv3)
    have hsum : ((priP pr (zp.getD i default).l).take (k + 1)).sum = ((priP pr (zp.getD i default).l).take k).sum + pr.getD v default := by rw [sum_take (by rw [priP_len]; exact hk2), priP_at hk2, hve, Int.toNat_natCast]
    have hall : ((zp.getD i default).l.take (k + 1)).all (fun v : Int => decide (0 ≤ (hs.getD v.toNat default).2.1)) = (((zp.getD i default).l.take k).all (fun v : Int => decide (0 ≤ (hs.getD v.toNat default).2.1)) && decide (0 ≤ (hs.getD v default).2.1)) := by rw [all_cut hk2, hve]; rfl
    refine hc_skip (then_n (hc_seq (hc_block ?_)))
    refine hc_draw 29 mixed (by decide) (by decide) rfl rfl ?_
    refine hb_ex _ rfl rfl rfl (fun w1 => r_move rfl rfl (hl_nil (qe_done rfl))) ?_
    refine hb_ex _ rfl rfl rfl (fun w1 => r_move rfl rfl (hl_nil (qe_done rfl))) ?_
    refine hb_ex _ rfl rfl rfl (fun w1 => r_move rfl rfl (hl_nil (qe_done rfl))) ?_
    refine hb_ex _ rfl rfl rfl (fun w1 => r_move rfl rfl (hl_nil (qe_done rfl))) ?_
    apply hb_ex _ rfl rfl rfl
    ·intro w1
     refine hl_outer (A := ZA) (ps := zp) mB ?_
     refine r_elem (α := Sl Int) zp i rfl T.u_intss T.sz_ints rfl rfl rfl mB rfl hi2 (by decide) ?_
     refine hl_nil ?_
     exact qe_done rfl
    apply hb_ex _ rfl rfl rfl
    ·intro w1
     refine hl_outer (A := ZA) (ps := zp) mB ?_
     refine r_load (v := .slice (zp.getD i default).a (zp.getD i default).l.length (zp.getD i default).c) rfl T.cell_ints rfl (cell_row mB (rows_get0 hi2 rfl)) ?_
     refine hl_nil ?_
     exact qe_done rfl
    refine hb_ex _ rfl rfl rfl (fun w1 => r_move rfl rfl (hl_nil (qe_done rfl))) ?_
    refine hb_ex _ rfl rfl rfl (fun w1 => r_elem (α := Int) (zp.getD i default).l k rfl T.u_ints T.sz_int rfl rfl rfl mB rfl (hk2) (by decide) (hl_nil (qe_done rfl))) ?_
    refine hb_ex _ rfl rfl rfl (fun w1 => r_load (v := int ((v : Int))) rfl T.cell_int rfl (cell_row mB (by rw [← hve]; exact rows_get0 (hk2) rfl)) (hl_nil (qe_done rfl))) ?_
    refine hb_ex _ rfl rfl rfl (fun w1 => r_elem (α := Int) pr v rfl T.u_ints T.sz_int rfl rfl rfl mB rfl (hv3) (by decide) (hl_nil (qe_done rfl))) ?_
    refine hb_ex _ rfl rfl rfl (fun w1 => r_load (v := int (pr.getD v default)) rfl T.cell_int rfl (cell_row mB (rows_get0 (hv3) rfl)) (hl_nil (qe_done rfl))) ?_
    refine hb_ex _ rfl rfl rfl (fun w1 => r_add _ rfl rfl rfl rfl (by unfold I64; omega) (hl_nil (qe_done rfl))) ?_
    refine hb_ex _ rfl rfl rfl (fun w1 => r_move rfl rfl (hl_nil (qe_done rfl))) ?_
    refine hb_ex _ rfl rfl rfl (fun w1 => r_move rfl rfl (hl_nil (qe_done rfl))) ?_
    refine hb_split (t := 79) (want := true) rfl ?_ ?_
    ·intro hg1; have hg1' := hg1; try simp at hg1'
     have qa : ((zp.getD i default).l.take k).all (fun v : Int => decide (0 ≤ (hs.getD v.toNat default).2.1)) = true := eq_of_beq hg1
     apply hb_ex _ rfl rfl rfl
     ·intro w1
      refine g_yes rfl rfl hg1 ?_
      first | refine r_fieldAddr ⟨_, 1, none⟩ rfl rfl T.fa_api_Trades_1 rfl ?_ | refine r_fieldAddr _ rfl rfl T.fa_api_Trades_1 rfl ?_
      refine hl_nil ?_
      exact qe_done rfl
     apply hb_ex _ rfl rfl rfl
     ·intro w1
      refine g_yes rfl rfl hg1 ?_
      refine r_load (v := .slice HB hs.length cb) rfl T.cell_L_api_Head rfl (cell_blk mB rfl) ?_
      refine hl_nil ?_
      exact qe_done rfl
     apply hb_ex _ rfl rfl rfl
     ·intro w1
      refine g_yes rfl rfl hg1 (r_move rfl rfl (hl_nil ?_))
      exact qe_done rfl
     apply hb_ex _ rfl rfl rfl
     ·intro w1
      refine g_yes rfl rfl hg1 (r_move rfl rfl (hl_nil ?_))
      exact qe_done rfl
     apply hb_ex _ rfl rfl rfl
     ·intro w1
      refine g_yes rfl rfl hg1 ?_
      refine hl_outer (A := ZA) (ps := zp) mB ?_
      refine r_elem (α := Sl Int) zp i rfl T.u_intss T.sz_ints rfl rfl rfl mB rfl hi2 (by decide) ?_
      refine hl_nil ?_
      exact qe_done rfl
     apply hb_ex _ rfl rfl rfl
     ·intro w1
      refine g_yes rfl rfl hg1 ?_
      refine hl_outer (A := ZA) (ps := zp) mB ?_
      refine r_load (v := .slice (zp.getD i default).a (zp.getD i default).l.length (zp.getD i default).c) rfl T.cell_ints rfl (cell_row mB (rows_get0 hi2 rfl)) ?_
      refine hl_nil ?_
      exact qe_done rfl
     apply hb_ex _ rfl rfl rfl
     ·intro w1
      refine g_yes rfl rfl hg1 (r_move rfl rfl (hl_nil ?_))
      exact qe_done rfl
     apply hb_ex _ rfl rfl rfl
     ·intro w1
      refine g_yes rfl rfl hg1 ?_
      refine r_elem (α := Int) (zp.getD i default).l k rfl T.u_ints T.sz_int rfl rfl rfl mB rfl (hk2) (by decide) ?_
      refine hl_nil ?_
      exact qe_done rfl
     apply hb_ex _ rfl rfl rfl
     ·intro w1
      refine g_yes rfl rfl hg1 ?_
      refine r_load (v := int ((v : Int))) rfl T.cell_int rfl (cell_row mB (by rw [← hve]; exact rows_get0 (hk2) rfl)) ?_
      refine hl_nil ?_
      exact qe_done rfl
     apply hb_ex _ rfl rfl rfl
     ·intro w1
      refine g_yes rfl rfl hg1 ?_
      refine hl_outerF (A := HB) (ps := hs) (f := Hd.row) mB ?_
      refine r_elem (α := Hd) hs v rfl T.u_L_api_Head T.sz_api_Head rfl rfl rfl mB rfl hv2 (by decide) ?_
      refine hl_nil ?_
      exact qe_done rfl
     apply hb_ex _ rfl rfl rfl
     ·intro w1
      refine g_yes rfl rfl hg1 ?_
      first | refine r_fieldAddr ⟨_, 1, none⟩ rfl rfl T.fa_api_Head_1 rfl ?_ | refine r_fieldAddr _ rfl rfl T.fa_api_Head_1 rfl ?_
      refine hl_nil ?_
      exact qe_done rfl
     apply hb_ex _ rfl rfl rfl
     ·intro w1
      refine g_yes rfl rfl hg1 ?_
      refine hl_outerF (A := HB) (ps := hs) (f := Hd.row) mB ?_
      refine r_load (v := int (hs.getD v default).2.1) rfl T.cell_int rfl (cell_row_f mB (rows_get hv2 rfl)) ?_
      refine hl_nil ?_
      exact qe_done rfl
     apply hb_ex _ rfl rfl rfl
     ·intro w1
      refine g_yes rfl rfl hg1 (r_geq rfl rfl rfl (hl_nil ?_))
      exact qe_done rfl
     refine hb_ex _ rfl rfl rfl (fun w1 => p_t rfl rfl (bt1 hg1) rfl (hl_nil (qe_done rfl))) ?_
     refine hb_ex _ rfl rfl rfl (fun w1 => r_assign rfl rfl (hl_nil (qe_done rfl))) ?_
     refine hb_nil ⟨rfl, ?_⟩
     refine r_assign rfl rfl (hl_nil (inb_n (then_n (hc_region (r_move rfl rfl ?_)))))
     refine r_add _ rfl rfl rfl rfl (by unfold I64; omega) ?_
     refine r_assign rfl rfl (hl_nil ?_)
     exact again _ (k + 1) (by show k + 1 ≤ m; omega) (by show m - (k + 1) < m - k; omega) ⟨rfl, rfl, rfl, rfl, rfl, rfl, rfl, rfl, rfl, rfl, rfl, rfl, rfl, congrArg (fun x => some (int x)) hsum.symm, congrArg (fun x => some (Value.bool x)) (show decide (0 ≤ (hs.getD v default).2.1) = ((zp.getD i default).l.take (k + 1)).all (fun v : Int => decide (0 ≤ (hs.getD v.toNat default).2.1)) by rw [hall, qa, Bool.true_and]), rfl, trivial⟩ (.refl _) ⟨mB, mB, mB, mB, mB, mB, mB, mB, mB, trivial⟩
    ·intro hg1; have hg1' := hg1; try simp at hg1'
     have qa : ((zp.getD i default).l.take k).all (fun v : Int => decide (0 ≤ (hs.getD v.toNat default).2.1)) = false := by simpa using hg1
     refine hb_ex _ rfl rfl rfl (fun w1 => g_no rfl rfl rfl rfl rfl hg1 (hl_nil (qe_done rfl))) ?_
     refine hb_ex _ rfl rfl rfl (fun w1 => g_no rfl rfl rfl rfl rfl hg1 (hl_nil (qe_done rfl))) ?_
     refine hb_ex _ rfl rfl rfl (fun w1 => g_no rfl rfl rfl rfl rfl hg1 (hl_nil (qe_done rfl))) ?_
     refine hb_ex _ rfl rfl rfl (fun w1 => g_no rfl rfl rfl rfl rfl hg1 (hl_nil (qe_done rfl))) ?_
     refine hb_ex _ rfl rfl rfl (fun w1 => g_no rfl rfl rfl rfl rfl hg1 (hl_nil (qe_done rfl))) ?_
     refine hb_ex _ rfl rfl rfl (fun w1 => g_no rfl rfl rfl rfl rfl hg1 (hl_nil (qe_done rfl))) ?_
     refine hb_ex _ rfl rfl rfl (fun w1 => g_no rfl rfl rfl rfl rfl hg1 (hl_nil (qe_done rfl))) ?_
     refine hb_ex _ rfl rfl rfl (fun w1 => g_no rfl rfl rfl rfl rfl hg1 (hl_nil (qe_done rfl))) ?_
     refine hb_ex _ rfl rfl rfl (fun w1 => g_no rfl rfl rfl rfl rfl hg1 (hl_nil (qe_done rfl))) ?_
     refine hb_ex _ rfl rfl rfl (fun w1 => g_no rfl rfl rfl rfl rfl hg1 (hl_nil (qe_done rfl))) ?_
     refine hb_ex _ rfl rfl rfl (fun w1 => g_no rfl rfl rfl rfl rfl hg1 (hl_nil (qe_done rfl))) ?_
     refine hb_ex _ rfl rfl rfl (fun w1 => g_no rfl rfl rfl rfl rfl hg1 (hl_nil (qe_done rfl))) ?_
     refine hb_ex _ rfl rfl rfl (fun w1 => g_no rfl rfl rfl rfl rfl hg1 (hl_nil (qe_done rfl))) ?_
     refine hb_ex _ rfl rfl rfl (fun w1 => p_f rfl rfl (bf2 hg1) rfl (hl_nil (qe_done rfl))) ?_
     refine hb_ex _ rfl rfl rfl (fun w1 => r_assign rfl rfl (hl_nil (qe_done rfl))) ?_
     refine hb_nil ⟨rfl, ?_⟩
     refine r_assign rfl rfl (hl_nil (inb_n (then_n (hc_region (r_move rfl rfl ?_)))))
     refine r_add _ rfl rfl rfl rfl (by unfold I64; omega) ?_
     refine r_assign rfl rfl (hl_nil ?_)
     exact again _ (k + 1) (by show k + 1 ≤ m; omega) (by show m - (k + 1) < m - k; omega) ⟨rfl, rfl, rfl, rfl, rfl, rfl, rfl, rfl, rfl, rfl, rfl, rfl, rfl, congrArg (fun x => some (int x)) hsum.symm, congrArg (fun x => some (Value.bool x)) (show false = ((zp.getD i default).l.take (k + 1)).all (fun v : Int => decide (0 ≤ (hs.getD v.toNat default).2.1)) by rw [hall, qa, Bool.false_and]), rfl, trivial⟩ (.refl _) ⟨mB, mB, mB, mB, mB, mB, mB, mB, mB, trivial⟩
   ·have hb3' := hb3; try simp at hb3'
    have hkm : m = k := by omega
    subst hkm
    have hpf : ((priP pr (zp.getD i default).l).take m).sum = (fndH pr (zp.getD i default).l).2.2 := by rw [List.take_of_length_le (by rw [priP_len]; omega)]; rfl
    have hcf : ((zp.getD i default).l.take m).all (fun v : Int => decide (0 ≤ (hs.getD v.toNat default).2.1)) = (zp.getD i default).l.all (fun v : Int => decide (0 ≤ (hs.getD v.toNat default).2.1)) := by rw [List.take_of_length_le (by omega)]
    refine hc_exit (then_exit (then_exit (inb_hit (then_n ?_))))
    refine hc_cut ⟨fun _ : Unit => True, fun _ => [(4, .pointer (some ⟨gT, 0, none⟩)), (5, int hs.length), (6, .slice pA pr.length pC), (7, .slice wA ws.length wC), (8, int z), (9, .slice a1 (foundE cs hs pr ws z).1.length c1), (10, int (foundE cs hs pr ws z).2.1), (11, int (foundE cs hs pr ws z).2.2), (12, .slice o.1 (xl st).length o.2), (13, int (xp st)), (14, int m), (15, .slice ZA zp.length zc), (16, int i), (17, int (fndH pr (zp.getD i default).l).2.2), (18, .bool (fndOK hs (reachK (trOf cs hs) z hs.length) ws (zp.getD i default).l))], fun _ => [], fun _ => [Row o.1 (rows (xl st)), Row (zp.getD i default).a (rows (zp.getD i default).l), Rows2 ZA zp, Row a1 (rows (foundE cs hs pr ws z).1), Blk gT (.cells #[.slice CA cs.length ca, .slice HB hs.length cb] T.api_Trades (0, 0)), Row CA (rows cs), RowsF HB hs Hd.row, Row pA (rows pr), Row wA (rows ws)]⟩ ?_ ?_
    ·skip
     refine hc_seq (hc_region (r_assign rfl rfl (hl_nil (then_n (hc_block ?_)))))
     refine hc_loop (β := Nat × Bool) ⟨fun x => x.1 ≤ ws.length ∧ x.2 = ((zp.getD i default).l.all (fun v : Int => decide (0 ≤ (hs.getD v.toNat default).2.1)) && (ws.take x.1).all fun w => ((zp.getD i default).l.any (nearB (trOf cs hs) z w))), fun x => [(4, .pointer (some ⟨gT, 0, none⟩)), (5, int hs.length), (6, .slice pA pr.length pC), (7, .slice wA ws.length wC), (8, int z), (9, .slice a1 (foundE cs hs pr ws z).1.length c1), (10, int (foundE cs hs pr ws z).2.1), (11, int (foundE cs hs pr ws z).2.2), (12, .slice o.1 (xl st).length o.2), (13, int (xp st)), (14, int m), (15, .slice ZA zp.length zc), (16, int i), (17, int (fndH pr (zp.getD i default).l).2.2), (18, .bool x.2), (20, int x.1)], fun _ => [], fun _ => [Row o.1 (rows (xl st)), Row (zp.getD i default).a (rows (zp.getD i default).l), Rows2 ZA zp, Row a1 (rows (foundE cs hs pr ws z).1), Blk gT (.cells #[.slice CA cs.length ca, .slice HB hs.length cb] T.api_Trades (0, 0)), Row CA (rows cs), RowsF HB hs Hd.row, Row pA (rows pr), Row wA (rows ws)]⟩ (fun x => ws.length - x.1) (0, (zp.getD i default).l.all (fun v : Int => decide (0 ≤ (hs.getD v.toNat default).2.1))) ⟨Nat.zero_le _, by show _ = (_ && ([] : List Int).all _); simp⟩ ⟨rfl, rfl, rfl, rfl, rfl, rfl, rfl, rfl, rfl, rfl, rfl, rfl, rfl, congrArg (fun x => some (int x)) hpf, congrArg (fun x => some (Value.bool x)) hcf, rfl, trivial⟩ (.refl _) ⟨mB, mB, mB, mB, mB, mB, mB, mB, mB, trivial⟩ fun x hx => ?_
     obtain ⟨k2, f⟩ := x
     obtain ⟨hk2, hf⟩ := hx
     simp only at hk2 hf
     refine hc_seq (hc_seq (hc_region (r_move rfl rfl (r_move rfl rfl ?_))))
     refine r_len_sl rfl T.u_ints rfl ?_
     refine r_lss rfl rfl rfl (r_move rfl rfl ?_)
     refine g_split rfl rfl ?_ ?_
     ·intro hg2; have hg2' := hg2; try simp at hg2'
      have hk3 : k2 < ws.length := by simpa using hg2
      refine g_yes rfl rfl hg2 (r_move rfl rfl ?_)
      refine p_t rfl rfl (bt1 hg2) rfl ?_
      refine hl_nil (then_n ?_)
      first | refine c_dec rfl (fun hb4 => ?_) (fun hb4 => ?_) | refine hc_cond rfl (fun hb4 => ?_) (fun hb4 => ?_)
      ·have hb4' := hb4; try simp at hb4'
       have hft : f = true := hb4
       have hwk := hwb _ (getD_mem hk3)
       obtain ⟨wv, hwe⟩ := Int.eq_ofNat_of_zero_le hwk.1
       have hcut := all_cut (p := fun w => ((zp.getD i default).l.any (nearB (trOf cs hs) z w))) hk3
       refine hc_skip (then_n (hc_seq (hc_block (hc_seq ?_))))
       refine hc_draw 15 mixed (by decide) (by decide) rfl rfl ?_
       apply hb_ex _ rfl rfl rfl
       ·intro w1
        first | refine r_loadA rfl T.row_api_Trades T.sz_api_Trades rfl mB (by rfl) ?_ | refine r_loadB rfl T.row_api_Trades T.sz_api_Trades rfl mB (by rfl) ?_ | refine r_loadS rfl T.row_api_Trades T.sz_api_Trades rfl rfl (cells_row mB (rows_all (by omega))) ?_
        refine hl_nil ?_
        exact qe_done rfl
       refine hb_ex _ rfl rfl rfl (fun w1 => r_move rfl rfl (hl_nil (qe_done rfl))) ?_
       refine hb_ex _ rfl rfl rfl (fun w1 => r_move rfl rfl (hl_nil (qe_done rfl))) ?_
       refine hb_ex _ rfl rfl rfl (fun w1 => r_elem (α := Int) ws k2 rfl T.u_ints T.sz_int rfl rfl rfl mB rfl (hk3) (by decide) (hl_nil (qe_done rfl))) ?_
       refine hb_ex _ rfl rfl rfl (fun w1 => r_load (v := int (ws.getD k2 default)) rfl T.cell_int rfl (cell_row mB (rows_get0 (hk3) rfl)) (hl_nil (qe_done rfl))) ?_
       refine hb_ex _ rfl rfl rfl (fun w1 => r_move rfl rfl (hl_nil (qe_done rfl))) ?_
       refine hb_ex _ rfl rfl rfl (fun w1 => r_move rfl rfl (hl_nil (qe_done rfl))) ?_
       apply hb_ex _ rfl rfl rfl
       ·intro w1
        refine hl_outer (A := ZA) (ps := zp) mB ?_
        refine r_elem (α := Sl Int) zp i rfl T.u_intss T.sz_ints rfl rfl rfl mB rfl hi2 (by decide) ?_
        refine hl_nil ?_
        exact qe_done rfl
       apply hb_ex _ rfl rfl rfl
       ·intro w1
        refine hl_outer (A := ZA) (ps := zp) mB ?_
        refine r_load (v := .slice (zp.getD i default).a (zp.getD i default).l.length (zp.getD i default).c) rfl T.cell_ints rfl (cell_row mB (rows_get0 hi2 rfl)) ?_
        refine hl_nil ?_
        exact qe_done rfl
       refine hb_ex _ rfl rfl rfl (fun w1 => r_move rfl rfl (hl_nil (qe_done rfl))) ?_
       refine hb_ex _ rfl rfl rfl (fun w1 => hl_call F.law09_found_cb rfl rfl (law09_found_meets cs hs (ws.getD k2 default) (zp.getD i default).l z hca hcb ha hT0 hwk hpb (by omega) rfl) (List.Perm.refl _) ⟨mB, mB, mB, trivial⟩ fun _ _ => (hl_nil (qe_done rfl))) ?_
       refine hb_ex _ rfl rfl rfl (fun w1 => r_move rfl rfl (hl_nil (qe_done rfl))) ?_
       refine hb_ex _ rfl rfl rfl (fun w1 => r_extract rfl rfl rfl (hl_nil (qe_done rfl))) ?_
       refine hb_ex _ rfl rfl rfl (fun w1 => r_extract rfl rfl rfl (hl_nil (qe_done rfl))) ?_
       refine hb_ex _ rfl rfl rfl (fun w1 => r_assign rfl rfl (hl_nil (qe_done rfl))) ?_
       refine hb_nil ⟨rfl, ?_⟩
       refine r_assign rfl rfl (hl_nil (then_n (hc_seq (hc_seq (hc_region (r_move rfl rfl (r_not rfl rfl (hl_nil (then_n ?_)))))))))
       first | refine c_dec rfl (fun hb5 => ?_) (fun hb5 => ?_) | refine hc_cond rfl (fun hb5 => ?_) (fun hb5 => ?_)
       ·cases hb5
       ·have hb5' := hb5; try simp at hb5'
        refine hc_skip (then_n (hc_region (r_move rfl rfl (r_assign rfl rfl (hl_nil (inb_n (then_n (hc_region (r_move rfl rfl ?_)))))))))
        refine r_add _ rfl rfl rfl rfl (by unfold I64; omega) ?_
        refine r_assign rfl rfl (hl_nil ?_)
        exact again _ (k2 + 1, ((zp.getD i default).l.any (nearB (trOf cs hs) z (ws.getD k2 default)))) ⟨by show k2 + 1 ≤ ws.length; omega, by show ((zp.getD i default).l.any (nearB (trOf cs hs) z (ws.getD k2 default))) = _; rw [hcut]; rw [hft] at hf; have hf := (Bool.and_eq_true _ _).mp hf.symm; rw [hf.1, hf.2, Bool.true_and, Bool.true_and]⟩ (by show ws.length - (k2 + 1) < ws.length - k2; omega) ⟨rfl, rfl, rfl, rfl, rfl, rfl, rfl, rfl, rfl, rfl, rfl, rfl, rfl, rfl, rfl, rfl, trivial⟩ (.refl _) ⟨mB, mB, mB, mB, mB, mB, mB, mB, mB, trivial⟩
      ·have hb4' := hb4; try simp at hb4'
       refine hc_exit (then_exit (then_exit (inb_hit ?_)))
       have hff : (fndOK hs (reachK (trOf cs hs) z hs.length) ws (zp.getD i default).l) = f := by
         have hfn : f = false := hb4
         rw [hok, hfn]
         rw [hfn] at hf
         refine Bool.eq_false_iff.2 fun e => ?_
         rw [Bool.and_eq_true] at e
         have e2 : (ws.take k2).all (fun w => ((zp.getD i default).l.any (nearB (trOf cs hs) z w))) = true := List.all_eq_true.2 fun w hw => List.all_eq_true.1 e.2 w (List.mem_of_mem_take hw)
         rw [e.1, e2] at hf
         cases hf
       exact cut_n _ () trivial ⟨rfl, rfl, rfl, rfl, rfl, rfl, rfl, rfl, rfl, rfl, rfl, rfl, rfl, rfl, congrArg (fun x => some (Value.bool x)) hff.symm, trivial⟩ (.refl _) ⟨mB, mB, mB, mB, mB, mB, mB, mB, mB, trivial⟩
     ·intro hg2; have hg2' := hg2; try simp at hg2'
      have hk3 : k2 = ws.length := by have h9 : ¬ k2 < ws.length := (by simpa using hg2); omega
      refine g_no rfl rfl rfl rfl rfl hg2 ?_
      refine p_f rfl rfl (bf2 hg2) rfl ?_
      refine hl_nil (then_n (c_f rfl rfl (hc_exit (then_exit (then_exit (inb_hit ?_))))))
      have hff : (fndOK hs (reachK (trOf cs hs) z hs.length) ws (zp.getD i default).l) = f := by rw [hok, hf, hk3, List.take_length]
      exact cut_n _ () trivial ⟨rfl, rfl, rfl, rfl, rfl, rfl, rfl, rfl, rfl, rfl, rfl, rfl, rfl, rfl, congrArg (fun x => some (Value.bool x)) hff.symm, trivial⟩ (.refl _) ⟨mB, mB, mB, mB, mB, mB, mB, mB, mB, trivial⟩
    ·refine fun _ _ => ?_
     refine hc_cut ⟨fun x : Bool => x = decide ((fndOK hs (reachK (trOf cs hs) z hs.length) ws (zp.getD i default).l) = true ∧ (xp st < 0 ∨ (fndH pr (zp.getD i default).l).2.2 < xp st)), fun x => [(4, .pointer (some ⟨gT, 0, none⟩)), (5, int hs.length), (6, .slice pA pr.length pC), (7, .slice wA ws.length wC), (8, int z), (9, .slice a1 (foundE cs hs pr ws z).1.length c1), (10, int (foundE cs hs pr ws z).2.1), (11, int (foundE cs hs pr ws z).2.2), (12, .slice o.1 (xl st).length o.2), (13, int (xp st)), (14, int m), (15, .slice ZA zp.length zc), (16, int i), (17, int (fndH pr (zp.getD i default).l).2.2), (129, .bool x)], fun _ => [], fun _ => [Row o.1 (rows (xl st)), Row (zp.getD i default).a (rows (zp.getD i default).l), Rows2 ZA zp, Row a1 (rows (foundE cs hs pr ws z).1), Blk gT (.cells #[.slice CA cs.length ca, .slice HB hs.length cb] T.api_Trades (0, 0)), Row CA (rows cs), RowsF HB hs Hd.row, Row pA (rows pr), Row wA (rows ws)]⟩ ?_ ?_
     ·skip
      refine hc_region (r_move rfl rfl (r_move rfl rfl ?_))
      refine g_split rfl rfl ?_ ?_
      ·intro hg3; have hg3' := hg3; try simp at hg3'
       have hokt : (fndOK hs (reachK (trOf cs hs) z hs.length) ws (zp.getD i default).l) = true := eq_of_beq hg3
       refine g_yes rfl rfl hg3 (r_move rfl rfl (g_yes rfl rfl hg3 (r_lss rfl rfl rfl (g_yes rfl rfl hg3 (r_move rfl rfl ?_)))))
       refine g_split rfl rfl ?_ ?_
       ·intro hg4; have hg4' := hg4; try simp at hg4'
        have hxl : ¬ xp st < 0 := of_decide_eq_false (eq_of_beq hg4)
        refine g_yes rfl rfl hg4 (r_move rfl rfl (g_yes rfl rfl hg4 (r_move rfl rfl (g_yes rfl rfl hg4 (r_lss rfl rfl rfl (g_yes rfl rfl hg3 ?_))))))
        refine p_f rfl rfl (bf1 hg4) rfl ?_
        refine p_t rfl rfl (bt1 hg3) rfl ?_
        refine hl_nil ?_
        exact cut_n _ (decide ((fndH pr (zp.getD i default).l).2.2 < xp st)) (decide_eq_decide.2 ⟨fun h => ⟨hokt, .inr h⟩, fun h => h.2.elim (fun h => absurd h hxl) id⟩) ⟨rfl, rfl, rfl, rfl, rfl, rfl, rfl, rfl, rfl, rfl, rfl, rfl, rfl, rfl, rfl, trivial⟩ (.refl _) ⟨mB, mB, mB, mB, mB, mB, mB, mB, mB, trivial⟩
       ·intro hg4; have hg4' := hg4; try simp at hg4'
        have hxl : xp st < 0 := by simpa using hg4
        refine g_no rfl rfl rfl rfl rfl hg4 (g_no rfl rfl rfl rfl rfl hg4 (g_no rfl rfl rfl rfl rfl hg4 (g_yes rfl rfl hg3 ?_)))
        refine p_t rfl rfl (bt2 hg4) rfl ?_
        refine p_t rfl rfl (bt1 hg3) rfl ?_
        refine hl_nil ?_
        exact cut_n _ true (decide_eq_true ⟨hokt, .inl hxl⟩).symm ⟨rfl, rfl, rfl, rfl, rfl, rfl, rfl, rfl, rfl, rfl, rfl, rfl, rfl, rfl, rfl, trivial⟩ (.refl _) ⟨mB, mB, mB, mB, mB, mB, mB, mB, mB, trivial⟩
      ·intro hg3; have hg3' := hg3; try simp at hg3'
       have hokf : (fndOK hs (reachK (trOf cs hs) z hs.length) ws (zp.getD i default).l) = false := bf2 hg3
       refine g_no rfl rfl rfl rfl rfl hg3 (g_no rfl rfl rfl rfl rfl hg3 (g_no rfl rfl rfl rfl rfl hg3 (g_und rfl rfl rfl rfl rfl rfl (g_und rfl rfl rfl rfl rfl rfl (g_und rfl rfl rfl rfl rfl rfl (g_no rfl rfl rfl rfl rfl hg3 ?_))))))
       refine p_f rfl rfl (bf2 hg3) rfl ?_
       refine hl_nil ?_
       exact cut_n _ false (decide_eq_false (fun h => by rw [hokf] at h; cases h.1)).symm ⟨rfl, rfl, rfl, rfl, rfl, rfl, rfl, rfl, rfl, rfl, rfl, rfl, rfl, rfl, rfl, trivial⟩ (.refl _) ⟨mB, mB, mB, mB, mB, mB, mB, mB, mB, trivial⟩
     ·rintro x rfl
      first | refine c_dec rfl (fun hb6 => ?_) (fun hb6 => ?_) | refine hc_cond rfl (fun hb6 => ?_) (fun hb6 => ?_)
      ·have hb6' := hb6; try simp at hb6'
       refine hc_region (r_move rfl rfl (r_move rfl rfl ?_))
       refine hl_outer (A := ZA) (ps := zp) mB ?_
       refine r_elem (α := Sl Int) zp i rfl T.u_intss T.sz_ints rfl rfl rfl mB rfl hi2 (by decide) ?_
       refine hl_outer (A := ZA) (ps := zp) mB ?_
       refine r_load (v := .slice (zp.getD i default).a (zp.getD i default).l.length (zp.getD i default).c) rfl T.cell_ints rfl (cell_row mB (rows_get0 hi2 rfl)) ?_
       refine r_move rfl rfl (r_assign rfl rfl (r_assign rfl rfl (hl_nil (inb_n (then_n (hc_region (r_move rfl rfl ?_)))))))
       refine r_add _ rfl rfl rfl rfl (by unfold I64; omega) ?_
       refine r_assign rfl rfl (hl_nil ?_)
       have hyes := pr_yes (pr := pr) hcl (by rw [← hpi]; exact hb6.1) hB (fun b e => (hst b e).1)
       rw [← hpi, if_pos hb6.2] at hyes
       exact again _ (i + 1, some (fndH pr (zp.getD i default).l), ((zp.getD i default).a, (zp.getD i default).c)) ⟨by show i + 1 ≤ zp.length; omega, hyes, fun b e => by cases e; exact ⟨by have := hpbd (zp.getD i default).l.length; rw [List.take_of_length_le (Nat.le_of_eq (priP_len ..))] at this; exact this.1, by show (zp.getD i default).l.length ≤ 6; omega⟩⟩ (by show zp.length - (i + 1) < zp.length - i; omega) ⟨rfl, rfl, rfl, rfl, rfl, rfl, rfl, rfl, rfl, rfl, rfl, rfl, rfl, trivial⟩ (.refl _) ⟨mB, mB, mB, mB, mB, mB, mB, mB, trivial⟩
      ·have hb6' := hb6; try simp at hb6'
       refine hc_skip (inb_n (then_n (hc_region (r_move rfl rfl ?_))))
       refine r_add _ rfl rfl rfl rfl (by unfold I64; omega) ?_
       refine r_assign rfl rfl (hl_nil ?_)
       exact again _ (i + 1, st, o) ⟨by show i + 1 ≤ zp.length; omega, by
         by_cases hokt : (fndOK hs (reachK (trOf cs hs) z hs.length) ws (zp.getD i default).l) = true
         · have hyes := pr_yes (pr := pr) hcl (by rw [← hpi]; exact hokt) hB (fun b e => (hst b e).1)
           rw [← hpi, if_neg (fun h => hb6 ⟨hokt, h⟩)] at hyes
           exact hyes
         · exact pr_no hcl (by rw [← hpi]; exact hokt) hB, hst⟩ (by show zp.length - (i + 1) < zp.length - i; omega) ⟨rfl, rfl, rfl, rfl, rfl, rfl, rfl, rfl, rfl, rfl, rfl, rfl, rfl, trivial⟩ (.refl _) ⟨mB, mB, mB, mB, mB, mB, mB, mB, trivial⟩
  ·have hb2' := hb2; try simp at hb2'
   obtain rfl : i = zp.length := by omega
   refine hc_exit (then_exit (then_exit (inb_hit (inb_n (then_n (hc_region (r_move rfl rfl ?_)))))))
   refine r_add _ rfl rfl rfl rfl (by unfold I64; omega) ?_
   refine r_assign rfl rfl (hl_nil ?_)
   exact again _ (m + 1, st, o) ⟨by show m + 1 ≤ hs.length + 1; omega, by rw [hzl] at hB; exact best_congr pr_more hB, hst⟩ (by show hs.length + 1 - (m + 1) < hs.length + 1 - m; omega) ⟨rfl, rfl, rfl, rfl, rfl, rfl, rfl, rfl, rfl, rfl, rfl, trivial⟩ (.refl _) ⟨mB, mB, mB, mB, mB, mB, mB, trivial⟩
 ·have hb1' := hb1; try simp at hb1'
  obtain rfl : m = hs.length + 1 := by omega
  have hfin := placed_is (t := trOf cs hs) (Nat.lt_succ_self hs.length) hB
  rw [← hFE] at hfin
  have hxn := xp_nn (fun b e => (hst b e).1)
  refine hc_exit (then_exit (then_exit (inb_hit (then_n (hc_seq (hc_seq (hc_region (r_move rfl rfl (r_lss rfl rfl rfl (hl_nil (then_n ?_)))))))))))
  first | refine c_dec rfl (fun hb7 => ?_) (fun hb7 => ?_) | refine hc_cond rfl (fun hb7 => ?_) (fun hb7 => ?_)
  ·have hb7' := hb7; try simp at hb7'
   have hsn := hxn.1.1 hb7
   subst hsn
   have hfin : (foundE cs hs pr ws z) = ([], 0, 11) := hfin
   have he0 : (foundE cs hs pr ws z).1 = [] := by rw [hfin]
   have he1 : (foundE cs hs pr ws z).2.1 = 0 := by rw [hfin]
   have he2 : (foundE cs hs pr ws z).2.2 = 11 := by rw [hfin]
   refine hc_seq (hc_region (r_move rfl rfl (r_eql rfl rfl rfl (r_move rfl rfl ?_))))
   refine g_split rfl rfl ?_ ?_
   ·intro hg5; have hg5' := hg5; try simp at hg5'
    refine g_yes rfl rfl hg5 (r_move rfl rfl (g_yes rfl rfl hg5 ?_))
    refine r_len_sl rfl T.u_ints rfl ?_
    refine g_yes rfl rfl hg5 (r_eql rfl rfl rfl ?_)
    refine p_t rfl rfl (bt1 hg5) rfl ?_
    refine r_move rfl rfl ?_
    refine g_split rfl rfl ?_ ?_
    ·intro hg6; have hg6' := hg6; try simp at hg6'
     refine g_yes rfl rfl hg6 (r_move rfl rfl (g_yes rfl rfl hg6 (r_eql rfl rfl rfl ?_)))
     refine p_t rfl rfl (bt1 hg6) rfl ?_
     refine r_move rfl rfl ?_
     refine g_split rfl rfl ?_ ?_
     ·intro hg7; have hg7' := hg7; try simp at hg7'
      refine g_yes rfl rfl hg7 ?_
      refine hl_call F.law09_paying_cb rfl rfl (law09_paying_meets) (List.Perm.refl _) trivial fun _ _ => ?_
      refine p_t rfl rfl (bt1 hg7) rfl ?_
      refine r_assign rfl rfl (hl_nil (then_n (hc_ret (then_ret ?_))))
      exact ret1 () rfl rfl rfl trivial (List.nil_sublist _) trivial
     ·intro hg7; have hg7' := hg7; try simp at hg7'
      all_goals omega
    ·intro hg6; have hg6' := hg6; try simp at hg6'
     all_goals exact absurd he0 (by simpa using hg6)
   ·intro hg5; have hg5' := hg5; try simp at hg5'
    all_goals omega
  ·have hb7' := hb7; try simp at hb7'
   obtain ⟨b, rfl⟩ : ∃ b, st = some b := Option.ne_none_iff_exists'.1 (fun e => hb7 (hxn.1.2 e))
   have hfin : (foundE cs hs pr ws z) = (b.1, b.2.2, 0) := hfin
   have he0 : (foundE cs hs pr ws z).1 = b.1 := by rw [hfin]
   have he1 : (foundE cs hs pr ws z).2.1 = b.2.2 := by rw [hfin]
   have he2 : (foundE cs hs pr ws z).2.2 = 0 := by rw [hfin]
   have hb6l := (hst b rfl).2
   refine hc_skip (then_n (hc_seq (hc_region (r_move rfl rfl (r_eql rfl rfl rfl (r_move rfl rfl ?_))))))
   refine g_split rfl rfl ?_ ?_
   ·intro hg8; have hg8' := hg8; try simp at hg8'
    refine g_yes rfl rfl hg8 (r_move rfl rfl (g_yes rfl rfl hg8 (r_move rfl rfl (g_yes rfl rfl hg8 (r_eql rfl rfl rfl ?_)))))
    refine p_t rfl rfl (bt1 hg8) rfl ?_
    refine r_move rfl rfl ?_
    refine g_split rfl rfl ?_ ?_
    ·intro hg9; have hg9' := hg9; try simp at hg9'
     refine g_yes rfl rfl hg9 (r_move rfl rfl (g_yes rfl rfl hg9 (r_move rfl rfl (g_yes rfl rfl hg9 ?_))))
     refine hl_call F.kit_EqInts_cb rfl rfl (kit_EqInts_meets (foundE cs hs pr ws z).1 b.1 (by rw [he0]; omega)) (List.Perm.refl _) ⟨mB, mB, trivial⟩ fun _ _ => ?_
     rw [decide_eq_true he0]
     refine p_t rfl rfl (bt1 hg9) rfl ?_
     refine r_move rfl rfl ?_
     refine g_split rfl rfl ?_ ?_
     ·intro hg10; have hg10' := hg10; try simp at hg10'
      refine g_yes rfl rfl hg10 ?_
      refine hl_call F.law09_paying_cb rfl rfl (law09_paying_meets) (List.Perm.refl _) trivial fun _ _ => ?_
      refine p_t rfl rfl (bt1 hg10) rfl ?_
      refine r_assign rfl rfl (hl_nil (then_n (hc_ret ?_)))
      exact ret1 () rfl rfl rfl trivial (List.nil_sublist _) trivial
     ·intro hg10; have hg10' := hg10; try simp at hg10'
      all_goals (first | exact absurd rfl hg10 | cases hg10)
    ·intro hg9; have hg9' := hg9; try simp at hg9'
     all_goals (have q9 : ¬ (foundE cs hs pr ws z).2.1 = b.2.2 := of_decide_eq_false (bf2 hg9); exact (q9 he1).elim)
   ·intro hg8; have hg8' := hg8; try simp at hg8'
    all_goals omega
end Go.Proofs.Ytdlbbfcfahahdaa
end
section
namespace Go.W
open Go Go.RowKit Go.ChangeShapes Go.WideShapes
set_option linter.unusedVariables false
set_option linter.unusedSimpArgs false
section
variable {H : Type} {enc : TypeId × Value → H} {P : Program} {w : World} {base : Nat} {spare : Nat → Bool} {held : Bool}
/-- A row of elements of one cell each. -/
theorem row_of {α : Type} [El α] (h1 : El.sz α = 1) {a : Addr} {l : List α} (h : ∀ j (hj : j < l.length), ∃ v, El.cells l[j] = [v] ∧ w.cell? (a.add j) = some v) : (Row (some a) (rows l)).P w := by
  intro j u hu
  refine ⟨a, rfl, ?_⟩
  have hj : j < l.length := by
    have := (List.getElem?_eq_some_iff.1 hu).1
    rw [rows_len, h1, Nat.mul_one] at this
    exact this
  obtain ⟨v, hv, hc⟩ := h j hj
  have h2 := rows_get (l := l) (i := j) (j := 0) (v := v) hj (by simp [List.getD_eq_getElem?_getD, hj, hv])
  rw [h1] at h2
  simp only [Nat.mul_one, Nat.add_zero] at h2
  rw [hu] at h2
  cases h2
  exact hc
theorem in_ints {t e : TypeId} {A : Option Addr} {n c fuel : Nat} {x : DataW H × List MemPlace} (ht : P.underlying t = some (.slice e)) (he : P.underlying e = some (.int .i64)) (hc : P.cellsOf e = 1)
    (h : DataW.trod enc P w base spare held fuel t [.slice A n c] = some x) : ∃ l : List Int, n = l.length ∧ l.length ≤ c ∧ c ≤ maxLen ∧ (Row A (rows l)).P w ∧ ∀ z ∈ l, I64 z := by
  rcases open_ints ht he hc h with ⟨hcs, _⟩ | ⟨a, len, cap, zs, hcs, _, hl, hm, hlen, _, hcell, hwf⟩
  · simp at hcs
    obtain ⟨rfl, rfl, rfl⟩ := hcs
    exact ⟨[], rfl, Nat.le_refl _, by unfold maxLen; omega, Row.nil _ _, by intro z hz; simp at hz⟩
  · simp at hcs
    obtain ⟨rfl, rfl, rfl⟩ := hcs
    have hle : n ≤ zs.length := by rw [hlen]; split <;> omega
    have hlen2 : (zs.take n).length = n := by rw [List.length_take]; omega
    refine ⟨zs.take n, hlen2.symm, by rw [hlen2]; exact hl, hm, row_of rfl fun j hj => ?_, fun z hz => ?_⟩
    · rw [hlen2] at hj
      refine ⟨int zs[j], by simp [El.cells], ?_⟩
      rw [hcell j (by omega)]
      simp [List.getD_eq_getElem?_getD, show j < zs.length by omega]
    · have := hwf z (List.mem_of_mem_take hz)
      simp [Lit.wf, IntKind.min, IntKind.max, IntKind.signed, IntKind.bits] at this
      exact ⟨by omega, by omega⟩
/-- A law's contract, as the row wants it. -/
theorem law_calls {f : Nat} {args : List Value} {LI : List Fact} (h : Meets P f args ({ LI := LI, val := fun _ : Unit => .bool true } : Con Unit)) (hL : ∀ F ∈ LI, F.P w) : CallsB P f args.toArray w fun v w' => v = .bool true ∧ Below w.heap.size w w' := by
  refine (h w ⟨Ext.refl _ _, by simp, by simp, by simp, hL, by simp, fun F hF k hk => .inr (.inr ⟨F, hF, hk⟩)⟩).mono fun v w' hp => ?_
  obtain ⟨_, rfl, _, hwi⟩ := hp
  exact ⟨rfl, hwi.ext.below⟩
end
end Go.W
end
section
namespace Go.W
open Go Go.Conc
set_option linter.unusedVariables false
theorem Lv.at {P : Program} {fr : Frame} {w : World} {v : Value} (h : Lv P fr w v) (d : Nat) : Lv P fr (w.at d) v :=
  ⟨h.1, h.2.1, h.2.2.1, h.2.2.2.elim fun fn x => ⟨fn, x.1, fun d' => x.2 d'⟩⟩
theorem run_of {P : Program} {f : FuncId} {fn : Func} {t : Tmp} {args : Array Value} {W : World} {R : Value → World → Prop} (hf : P.funcs[f]? = some fn) (hres : fn.results = #[.tmp t]) (hin : P.inits.idxOf? f = none)
    (h : CallsB P f args W R) (hat : ∀ v w d, R v w → R v (w.at d)) :
    ∃ M last o w' t', runNT P (M + 1) (solo (G (Frame.enter P f args .normal) []) W) #[] = (.ended o w', t') ∧ runN P M (solo (G (Frame.enter P f args .normal) []) W) = .next last ∧ step P last = .ended o w' ∧ Conc.Good P R last o w' t' := by
  have hco := h [] (fun g w => ∃ v fr, g = G fr [] ∧ fr.fn = f ∧ Lv P fr w v ∧ R v w) (fun fr v w' hfr hR hl => co_done fun d => ⟨v, fr, rfl, hfr, hl.at d, hat _ _ _ hR⟩)
  obtain ⟨N, gs, g, w, sl, t0, q, B, r, h0, hL, hP, v, fr, rfl, hfr, hl, hR⟩ := hco W.drawn #[G (Frame.enter P f args .normal) []] none #[] (fun _ => 0) 0 rfl (leavers_one P _) past_nil
  have hG : Goes P true AtRel (fun _ _ es => ∀ e ∈ es, EvL noS B e) (AtEnd P noS B R) 0 (G fr []) w := by
    rintro w₁ ⟨d, rfl⟩
    refine ⟨rfl, v, #[], ?_, by simp, hat _ _ _ hR⟩
    obtain ⟨hm, hd, hn, fn', hf', hr⟩ := hl.at d
    rw [hfr, hf] at hf'
    obtain rfl := Option.some.inj hf'
    have hf2 : P.funcs[fr.fn]? = some fn := by rw [hfr]; exact hf
    have hin2 : P.inits.idxOf? fr.fn = none := by rw [hfr]; exact hin
    have he : (results fn fr.tmps).events P (w.at d) #[] = #[] := events_results_tmp hres _ _
    have hr0 : (results fn fr.tmps).run P (w.at d) = .ok v (w.at d) := hr d
    simp [G, stepG, unwind, doReturn, hn, hd, hm, hf2, hr0, he, hin2, GStep.after, seen]
  obtain ⟨M, last, o, w', t', e1, e2, e3, e4⟩ := beside_ends (P := P) (Post := R) (sl := sl) (fun _ _ _ h => h) h0 hL hP hG
  have hrun : runNT P N (solo (G (Frame.enter P f args .normal) []) W) #[] = (.next (crowd gs w sl), t0) := r
  refine ⟨N + M, last, o, w', t', ?_, ?_, e3, e4⟩
  · rw [Nat.add_assoc, runNT_two hrun]; exact e1
  · rw [runN_add, ← runNT_fst P _ _ #[], hrun]; exact e2
end Go.W
end
