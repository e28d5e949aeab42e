/- All subsets of the first numbers, as the document's kit lists them. -/
import Derived.Test.YtlpgheniajdkfaaGreatPnz
namespace Go.Proofs.YtlpgheniajdkfaaGreat
open Go Go.W
set_option linter.unusedVariables false
set_option linter.unusedSimpArgs false
set_option maxRecDepth 20000
attribute [local irreducible] HL HC HQ HB Row Rows2 Blk Facts

def upI (f n : Nat) : List Int := (List.range' f (n - f)).map fun i : Nat => (i : Int)
theorem upI_len (f n : Nat) : (upI f n).length = n - f := by rw [upI, List.length_map, List.length_range']
theorem upI_cons {f n : Nat} (h : f < n) : upI f n = (f : Int) :: upI (f + 1) n := by
  obtain ⟨k, e⟩ : ∃ k, n - f = k + 1 := ⟨n - f - 1, by omega⟩
  have e2 : n - (f + 1) = k := by omega
  unfold upI
  rw [e, e2, List.range'_succ]
  rfl
theorem combos_pow {α : Type} : ∀ (l : List α) (k : Nat), (combos k l).length ≤ 2 ^ l.length
  | l, 0 => by
    rw [combos]
    exact Nat.one_le_two_pow
  | [], k + 1 => Nat.zero_le _
  | x :: l, k + 1 => by
    have h1 := combos_pow l k
    have h2 := combos_pow l (k + 1)
    rw [combos, List.length_append, List.length_map, List.length_cons, Nat.pow_succ]
    omega
theorem combos_size {α : Type} : ∀ {k : Nat} {l c : List α}, c ∈ combos k l → c.length = k
  | 0, l, c, h => by
    rw [combos, List.mem_singleton] at h
    rw [h]
    rfl
  | k + 1, [], c, h => by rw [combos] at h; cases h
  | k + 1, x :: l, c, h => by
    rw [combos, List.mem_append] at h
    rcases h with h | h
    · obtain ⟨d, hd, rfl⟩ := List.mem_map.1 h
      rw [List.length_cons, combos_size hd]
    · exact combos_size h
theorem combos_sub {α : Type} : ∀ {k : Nat} {l c : List α}, c ∈ combos k l → c.Sublist l
  | 0, l, c, h => by
    rw [combos, List.mem_singleton] at h
    rw [h]
    exact List.nil_sublist _
  | k + 1, [], c, h => by rw [combos] at h; cases h
  | k + 1, x :: l, c, h => by
    rw [combos, List.mem_append] at h
    rcases h with h | h
    · obtain ⟨d, hd, rfl⟩ := List.mem_map.1 h
      exact List.Sublist.cons_cons _ (combos_sub hd)
    · exact List.Sublist.cons _ (combos_sub h)
theorem combos_map {α β : Type} (f : α → β) : ∀ (k : Nat) (l : List α), combos k (l.map f) = (combos k l).map (List.map f)
  | 0, l => by rw [combos, combos]; rfl
  | k + 1, [] => rfl
  | k + 1, x :: l => by
    rw [List.map_cons, combos, combos, combos_map f k l, combos_map f (k + 1) l, List.map_append, List.map_map, List.map_map]
    rfl
-- the subsets that begin with a number below k
def subK (m f n k : Nat) : List (List Int) := ((List.range' f (k - f)).map fun i : Nat => (combos m (upI (i + 1) n)).map ((i : Int) :: ·)).flatten
theorem subK_succ {m f n k : Nat} (h : f ≤ k) : subK m f n (k + 1) = subK m f n k ++ (combos m (upI (k + 1) n)).map ((k : Int) :: ·) := by
  have e : k + 1 - f = (k - f) + 1 := by omega
  unfold subK
  rw [e, List.range'_1_concat, List.map_append, List.flatten_append, show f + (k - f) = k by omega]
  simp
theorem subK_cut {m n : Nat} : ∀ (d f k : Nat), k - f = d → f ≤ k → k ≤ n → combos (m + 1) (upI f n) = subK m f n k ++ combos (m + 1) (upI k n)
  | 0, f, k, hd, h, _ => by
    obtain rfl : f = k := by omega
    unfold subK
    rw [Nat.sub_self]
    rfl
  | d + 1, f, k, hd, h, hk => by
    rw [subK_cut d f (k - 1) (by omega) (by omega) (by omega)]
    obtain ⟨j, rfl⟩ : ∃ j, k = j + 1 := ⟨k - 1, by omega⟩
    rw [Nat.add_sub_cancel, subK_succ (by omega), upI_cons (show j < n by omega), combos, List.append_assoc]
theorem subK_end {m f n k : Nat} (h : f ≤ k) (hk : k ≤ n) (hn : n < k + (m + 1)) : combos (m + 1) (upI f n) = subK m f n k := by
  rw [subK_cut _ f k rfl h hk, combos_none (m + 1) (upI k n) (by rw [upI_len]; omega), List.append_nil]
theorem subK_len {m f n k : Nat} (h : f ≤ k) (hk : k ≤ n) (hn : n ≤ 16) : (subK m f n k).length ≤ 65536 := by
  have h1 := combos_pow (upI f n) (m + 1)
  rw [subK_cut _ f k rfl h hk, List.length_append, upI_len] at h1
  have h2 : 2 ^ (n - f) ≤ 2 ^ 16 := Nat.pow_le_pow_right (by decide) (by omega)
  omega

set_option maxHeartbeats 1000000 in
theorem kit_subsets_meets (n : Nat) (hn16 : n ≤ 16) : ∀ (many f : Nat), f ≤ n → many ≤ 20 → Meets Tryz.prog F.kit_subsets [int (f : Int), int (n : Int), int (many : Int)] { inv := fun x : OutS => lsts x.1 = combos many (upI f n), val := fun x => .slice x.2.1 x.1.length x.2.2, LO := fun x => [Rows2 x.2.1 x.1] } := by
 intro many
 induction many using Nat.strongRecOn
 rename_i many ih
 intro f hf hm20
 refine meets_intro F.kit_subsets_f rfl (Nat.le_of_ble_eq_true rfl) fun w0 => ?_
 refine hc_seq (hc_region (r_assign rfl rfl (hl_nil (then_n (hc_seq (hc_seq (hc_region (r_move rfl rfl (r_eql rfl rfl rfl (hl_nil (then_n ?_)))))))))))
 refine c_dec rfl (fun hb1 => ?_) (fun hb1 => ?_)
 ·have hb1' := hb1; try simp at hb1'
  obtain rfl : many = 0 := by omega
  refine hc_seq (hc_region ?_)
  refine r_buildSlice _ rfl rfl (fun _ => T.bs_intss_1 ..) fun gS => ?_
  refine r_assign rfl rfl (hl_nil (then_n (hc_ret (then_ret ?_))))
  refine hq_letgo (rows [(⟨none, 0, []⟩ : Sl Int)]) (List.prefix_refl _) ?_
  refine hq_nilrow (α := Int) ?_
  refine hq_rows2 (A := some ⟨gS, 0, none⟩) (ps := [(⟨none, 0, []⟩ : Sl Int)]) (by repeat constructor) (by intro p hp; rw [List.mem_singleton.1 hp]; exact (by repeat constructor)) ?_
  exact ret1 ([(⟨none, 0, []⟩ : Sl Int)], (some ⟨gS, 0, none⟩, 1)) rfl rfl rfl (by show lsts [(⟨none, 0, []⟩ : Sl Int)] = _; rw [combos]; rfl) (List.nil_sublist _) ⟨m0, trivial⟩
 ·have hb1' := hb1; try simp at hb1'
  obtain ⟨m, rfl⟩ : ∃ q, many = q + 1 := ⟨many - 1, by omega⟩
  refine hc_skip (then_n (hc_seq (hc_region (r_assign rfl rfl (hl_nil (then_n (hc_seq (hc_seq (hc_region (r_move rfl rfl (r_assign rfl rfl ?_)))))))))))
  refine hl_nil (then_n (hc_block ?_))
  refine hc_facts (Fs := ([] : List (Sl Int)).map (fun p : Sl Int => Row p.a (rows p.l))) (by intro F hF; simp at hF) ?_
  refine hc_loop (β := Nat × List (Sl Int) × OutC × Hp) ⟨fun x => f ≤ x.1 ∧ x.1 ≤ n ∧ Grow T.ints 1 x.2.2.1.1 x.2.1.length x.2.2.1.2 (rows x.2.1) x.2.2.2 ∧ lsts x.2.1 = subK m f n x.1, fun x => [(1, int (n : Int)), (2, int ((m + 1 : Nat) : Int)), (7, .slice x.2.2.1.1 x.2.1.length x.2.2.1.2), (8, int x.1)], fun x => x.2.2.2, fun x => [innersF x.2.1 (fun p : Sl Int => Row p.a (rows p.l))]⟩ (fun x => n + 1 - x.1) (f, [], (none, 0), []) ⟨Nat.le_refl _, hf, Grow.nil _ _, by show [] = subK m f n f; unfold subK; rw [Nat.sub_self]; rfl⟩ ⟨rfl, rfl, rfl, rfl, trivial⟩ (List.nil_sublist _) ⟨(by repeat constructor), trivial⟩ fun x hx => ?_
  obtain ⟨i, ps, ⟨na, nc⟩, og⟩ := x
  obtain ⟨hif, hi, hG, hps⟩ := hx
  simp only at hif hi hG hps
  refine hc_seq (hc_seq (hc_region (r_move rfl rfl (r_move rfl rfl ?_))))
  refine r_add ((i + (m + 1) : Nat) : Int) rfl rfl rfl (by show (i : Int) + ((m + 1 : Nat) : Int) = ((i + (m + 1) : Nat) : Int); omega) (by unfold I64; omega) ?_
  refine r_move rfl rfl (r_leq rfl rfl rfl (hl_nil (then_n ?_)))
  refine c_dec rfl (fun hb2 => ?_) (fun hb2 => ?_)
  ·have hb2' := hb2; try simp at hb2'
   have hi2 : i + (m + 1) ≤ n := by omega
   refine hc_skip (then_n (hc_seq (hc_block (hc_seq (hc_region (r_move rfl rfl ?_))))))
   refine r_add ((i + 1 : Nat) : Int) rfl rfl rfl (by show (i : Int) + 1 = ((i + 1 : Nat) : Int); omega) (by unfold I64; omega) ?_
   refine r_move rfl rfl (r_move rfl rfl ?_)
   refine r_sub ((m : Nat) : Int) rfl rfl rfl (by show ((m + 1 : Nat) : Int) - 1 = (m : Int); omega) (by unfold I64; omega) ?_
   refine hl_call F.kit_subsets_cb rfl rfl (ih m (by omega) (i + 1) (by omega) (by omega)) (hpR := og) (List.Perm.refl _) trivial fun y hy => ?_
   refine r_assign rfl rfl (hl_nil (then_n (hc_seq (hc_region (r_assign rfl rfl (hl_nil (then_n (hc_block ?_))))))))
   have hyl : y.1.length = (combos m (upI (i + 1) n)).length := by have h9 := congrArg List.length hy; rw [lsts_len] at h9; exact h9
   have hyat : ∀ k, k < y.1.length → (y.1.getD k default).l = (combos m (upI (i + 1) n)).getD k default := fun k hk => by rw [← lsts_at y.1 hk, show lsts y.1 = _ from hy]; rfl
   have hsn := subK_succ (m := m) (n := n) hif
   have hsl := subK_len (m := m) (n := n) (show f ≤ i + 1 by omega) (by omega) hn16
   rw [hsn, List.length_append, List.length_map] at hsl
   refine hc_loop (β := Nat × List (Sl Int) × OutC × Hp) ⟨fun x => x.1 ≤ y.1.length ∧ Grow T.ints 1 x.2.2.1.1 x.2.1.length x.2.2.1.2 (rows x.2.1) x.2.2.2 ∧ lsts x.2.1 = subK m f n i ++ (((combos m (upI (i + 1) n)).take x.1).map ((i : Int) :: ·)), fun x => [(1, int (n : Int)), (2, int ((m + 1 : Nat) : Int)), (7, .slice x.2.2.1.1 x.2.1.length x.2.2.1.2), (8, int i), (9, .slice y.2.1 y.1.length y.2.2), (10, int x.1)], fun x => x.2.2.2, fun x => [innersF x.2.1 (fun p : Sl Int => Row p.a (rows p.l)), Rows2 y.2.1 y.1]⟩ (fun x => y.1.length - x.1) (0, ps, (na, nc), og) ⟨Nat.zero_le _, hG, by show lsts ps = _; rw [hps, List.take_zero, List.map_nil, List.append_nil]⟩ ⟨rfl, rfl, rfl, rfl, rfl, rfl, trivial⟩ (List.Sublist.refl _) ⟨(by repeat constructor), (by repeat constructor), trivial⟩ fun x hx => ?_
   clear hG hps
   obtain ⟨k, ps, ⟨na, nc⟩, og⟩ := x
   obtain ⟨hk, hG, hps⟩ := hx
   simp only at hk hG hps
   have hpl : ps.length ≤ 65536 := by have h9 := congrArg List.length hps; rw [lsts_len, List.length_append, List.length_map, List.length_take] at h9; omega
   refine hc_seq (hc_seq (hc_region (r_move rfl rfl (r_move rfl rfl ?_))))
   refine r_len_sl rfl T.u_intss rfl ?_
   refine r_lss rfl rfl rfl (hl_nil (then_n ?_))
   refine c_dec rfl (fun hb3 => ?_) (fun hb3 => ?_)
   ·have hb3' := hb3; try simp at hb3'
    have hk2 : k < y.1.length := by omega
    have hyk := hyat k hk2
    have hyc : (y.1.getD k default).l.length = m := by rw [hyk]; exact combos_size (getD_mem (by omega))
    refine hc_skip (then_n (hc_seq (hc_block (hc_region (r_move rfl rfl (r_move rfl rfl ?_))))))
    refine r_buildSlice _ rfl rfl (fun _ => T.bs_ints_1 ..) fun gS => ?_
    refine r_move rfl rfl (r_move rfl rfl ?_)
    refine hl_outer (A := y.2.1) (ps := y.1) (by repeat constructor) ?_
    refine r_elem (α := Sl Int) y.1 k rfl T.u_intss T.sz_ints rfl rfl rfl (by repeat constructor) rfl hk2 (by decide) ?_
    refine r_load (v := .slice (y.1.getD k default).a (y.1.getD k default).l.length (y.1.getD k default).c) rfl T.cell_ints rfl (cell_row (by repeat constructor) (rows_get0 hk2 rfl)) ?_
    refine hl_inner (A := y.2.1) (ps := y.1) (p := (y.1.getD k default)) (by repeat constructor) (getD_mem hk2) ?_
    refine r_append (hp' := og) ((y.1.getD k default).l.length + 1) (rows ((i : Int) :: (y.1.getD k default).l)) T.el_ints rfl rfl rfl (Grow.new (cs := #[int (i : Int)]) (n := 1) rfl (by decide)) (List.Perm.refl _) (Src.row (by repeat constructor) (rows_len (y.1.getD k default).l) (rows_one (y.1.getD k default).l) (by decide)) (Nat.add_comm _ _) rfl (by unfold maxLen; omega) (by omega) fun A' c' og' hG' => ?_
    refine hl_grown hG' ?_
    refine r_buildSlice _ rfl rfl (fun _ => T.bs_intss_1 ..) fun gS2 => ?_
    refine hl_letgo (rows [(⟨A', c', (i : Int) :: (y.1.getD k default).l⟩ : Sl Int)]) (List.prefix_refl _) ?_
    refine r_append (ps.length + 1) (rows (ps ++ [(⟨A', c', (i : Int) :: (y.1.getD k default).l⟩ : Sl Int)])) T.el_intss rfl rfl rfl hG (hp' := []) (by first | (rw [List.append_nil]; done) | (rw [List.append_nil]; exact List.Perm.refl _)) (Src.row (news := rows [(⟨A', c', (i : Int) :: (y.1.getD k default).l⟩ : Sl Int)]) (m := 1) m0 rfl (rows_one _) (by decide)) rfl (rows_append _ _).symm (by unfold maxLen; omega) (by omega) fun A2 c2 og2 hG2 => ?_
    refine r_assign rfl rfl (hl_nil (inb_n (then_n (hc_region (r_move rfl rfl ?_)))))
    refine r_add _ rfl rfl rfl rfl (by unfold I64; omega) ?_
    refine r_assign rfl rfl (hl_nil ?_)
    refine hq_facts (innerF_snoc (ps := ps) (f := (fun p : Sl Int => Row p.a (rows p.l))) (p := (⟨A', c', (i : Int) :: (y.1.getD k default).l⟩ : Sl Int)) (by repeat constructor) (by repeat constructor)) ?_
    exact again _ (k + 1, ps ++ [(⟨A', c', (i : Int) :: (y.1.getD k default).l⟩ : Sl Int)], (A2, c2), og2) ⟨by show k + 1 ≤ y.1.length; omega, by show Grow _ _ _ (ps ++ [_]).length _ _ _; rw [List.length_append]; exact hG2, by show lsts (ps ++ [_]) = _ ++ (((combos m (upI (i + 1) n)).take (k + 1)).map ((i : Int) :: ·)); rw [take_succ_getD _ k (by omega), List.map_append, ← List.append_assoc, ← hps, lsts, List.map_append, ← hyk]; rfl⟩ (by show y.1.length - (k + 1) < y.1.length - k; omega) ⟨rfl, rfl, by show some (Value.slice A2 (ps.length + 1) c2) = some (Value.slice A2 (ps ++ [_]).length c2); rw [List.length_append]; rfl, rfl, rfl, rfl, trivial⟩ (by first | exact List.Sublist.refl _ | (rw [List.append_nil]; exact List.Sublist.refl _)) ⟨(by repeat constructor), (by repeat constructor), trivial⟩
   ·have hb3' := hb3; try simp at hb3'
    obtain rfl : k = y.1.length := by omega
    rw [hyl, List.take_length, ← hsn] at hps
    refine hc_exit (then_exit (then_exit (inb_hit (inb_n (then_n (hc_region (r_move rfl rfl ?_)))))))
    refine r_add _ rfl rfl rfl rfl (by unfold I64; omega) ?_
    refine r_assign rfl rfl (hl_nil ?_)
    exact again _ (i + 1, ps, (na, nc), og) ⟨by show f ≤ i + 1; omega, by show i + 1 ≤ n; omega, hG, hps⟩ (by show n + 1 - (i + 1) < n + 1 - i; omega) ⟨rfl, rfl, rfl, rfl, trivial⟩ (List.Sublist.refl _) ⟨(by repeat constructor), trivial⟩
  ·have hb2' := hb2; try simp at hb2'
   have hi2 : n < i + (m + 1) := by omega
   refine hc_exit (then_exit (then_exit (inb_hit (then_n (hc_seq (hc_region (r_move rfl rfl (r_assign rfl rfl (hl_nil (then_n (hc_ret ?_)))))))))))
   refine hq_grown0 hG ?_
   refine hq_rows2F (A := na) (ps := ps) (by repeat constructor) (by repeat constructor) ?_
   exact ret1 (ps, (na, nc)) rfl rfl rfl (by show lsts ps = _; rw [subK_end hif hi hi2]; exact hps) (List.nil_sublist _) ⟨m0, trivial⟩

theorem kit_Subsets_meets (n many : Nat) (hn16 : n ≤ 16) (hm20 : many ≤ 20) : Meets Tryz.prog F.kit_Subsets [int (n : Int), int (many : Int)] { inv := fun x : OutS => lsts x.1 = combos many (upI 0 n), val := fun x => .slice x.2.1 x.1.length x.2.2, LO := fun x => [Rows2 x.2.1 x.1] } := by
 refine meets_intro F.kit_Subsets_f rfl (Nat.le_of_ble_eq_true rfl) fun w0 => ?_
 refine hc_seq (hc_region (r_assign rfl rfl (hl_nil (then_n (hc_seq (hc_region (r_move rfl rfl (r_move rfl rfl ?_))))))))
 refine hl_call F.kit_subsets_cb rfl rfl (kit_subsets_meets n hn16 many 0 (by omega) hm20) (hpR := []) (List.Perm.refl _) trivial fun y hy => ?_
 refine r_assign rfl rfl (hl_nil (then_n (hc_ret ?_)))
 exact ret1 y rfl rfl rfl hy (List.nil_sublist _) ⟨m0, trivial⟩

end Go.Proofs.YtlpgheniajdkfaaGreat
