/- Circles: what is true of them; the statement TradeCircles. -/
import Derived.Test.YtlpgheniajdkfaaGreatPnp
namespace Go.Proofs.YtlpgheniajdkfaaGreat
open Go Go.W
set_option linter.unusedVariables false
set_option linter.unusedSimpArgs false
set_option maxRecDepth 20000
attribute [local irreducible] HL HC HQ HB Row Rows2 Blk Facts

section
variable {H : List PH} {i : Int} {m : Nat}
theorem orb_comp (a : Nat) : ∀ t, orb H (orb H i a) t = orb H i (a + t)
  | 0 => rfl
  | t + 1 => by rw [orb_succ, orb_comp a t, ← Nat.add_assoc, orb_succ]
theorem orb_per (hc : Cyc H i m) (t : Nat) : orb H i (m + t) = orb H i t := by
  have h1 := orb_comp (H := H) (i := i) m t
  rw [hc.2.1] at h1
  exact h1.symm
theorem cyc_move (hc : Cyc H i m) {a : Nat} (ha : a < m) : Cyc H (orb H i a) m :=
  ⟨hc.1, by rw [orb_comp, Nat.add_comm, orb_per hc], fun t h1 h2 e => by
    rw [orb_comp] at e
    by_cases h3 : a + t < m
    · exact cyc_inj hc (show a < a + t by omega) h3 e.symm
    · rw [show a + t = m + (a + t - m) by omega, orb_per hc] at e
      exact cyc_inj hc (show a + t - m < a by omega) ha e⟩
theorem orb_in (hc : Cyc H i m) (t : Nat) : orb H i t ∈ pthN H i m := by
  induction t using Nat.strongRecOn with
  | ind t ih =>
    by_cases h : t < m
    · exact pthN_mem.2 ⟨t, h, rfl⟩
    · rw [show t = m + (t - m) by omega, orb_per hc]
      exact ih (t - m) (by have := hc.1; omega)
theorem mem_move (hc : Cyc H i m) {a : Nat} (ha : a < m) {y : Int} : y ∈ pthN H (orb H i a) m ↔ y ∈ pthN H i m := by
  constructor
  · intro h
    obtain ⟨t, _, e⟩ := pthN_mem.1 h
    rw [orb_comp] at e
    rw [← e]
    exact orb_in hc _
  · intro h
    obtain ⟨b, hb, e⟩ := pthN_mem.1 h
    have h1 := orb_in (cyc_move hc ha) (m - a + b)
    rw [orb_comp, show a + (m - a + b) = m + b by omega, orb_per hc, e] at h1
    exact h1
theorem cyc_uniq {m' : Nat} (h1 : Cyc H i m) (h2 : Cyc H i m') : m = m' := by
  rcases Nat.lt_trichotomy m m' with h | h | h
  · exact absurd h1.2.1 (h2.2.2 m h1.1 h)
  · exact h
  · exact absurd h2.2.1 (h1.2.2 m' h2.1 h)
theorem cyc_same (hc : Cyc H i m) {x : Int} (hx : x ∈ pthN H i m) : Cyc H x m ∧ ∀ y, y ∈ pthN H x m ↔ y ∈ pthN H i m := by
  obtain ⟨a, ha, rfl⟩ := pthN_mem.1 hx
  exact ⟨cyc_move hc ha, fun y => mem_move hc ha⟩
theorem per_cyc {r : Nat} (h : perE H i = some r) : Cyc H i (r + 1) := by
  have h1 := find_range.1 h
  refine ⟨by omega, of_decide_eq_true h1.2.1, fun j h2 h3 => ?_⟩
  have h4 := h1.2.2 (j - 1) (by omega)
  rw [show j - 1 + 1 = j by omega] at h4
  exact of_decide_eq_false h4
theorem cirI_is {l : List Int} (h : cirI H i = some l) : ∃ m, Cyc H i m ∧ minB i (pthN H i m) = true ∧ l = cirL H i m := by
  unfold cirI at h
  split at h
  · rename_i r hr
    split at h
    · rename_i hm
      cases h
      exact ⟨r + 1, per_cyc hr, hm, rfl⟩
    · cases h
  · cases h
theorem cirL_len (hS : SeeP H) (hi : 0 ≤ i ∧ i < (H.length : Int)) (hc : Cyc H i m) : (cirL H i m).length = m := by
  have h1 := ((List.perm_ext_iff_of_nodup (pth_nodup hc) (cirL_asc.imp fun {a b} h => Int.ne_of_lt h)).2 fun x => (cirL_mem hS hi hc).symm).length_eq
  rw [pthN_len] at h1
  exact h1.symm
theorem cirK_is {k : Nat} {l : List Int} (h : l ∈ cirK H k) : ∃ j m, j < k ∧ Cyc H (j : Int) m ∧ minB (j : Int) (pthN H (j : Int) m) = true ∧ l = cirL H (j : Int) m := by
  unfold cirK at h
  obtain ⟨j, hj, e⟩ := List.mem_filterMap.1 h
  obtain ⟨m, h1⟩ := cirI_is e
  exact ⟨j, m, List.mem_range.1 hj, h1⟩
theorem cirK_pair (hS : SeeP H) : ∀ k, k ≤ H.length → (cirK H k).Pairwise fun l l' => l.getD 0 default < l'.getD 0 default ∧ ∀ x ∈ l, x ∉ l'
  | 0, _ => List.Pairwise.nil
  | k + 1, hk => by
    rw [cirK_succ, List.pairwise_append]
    refine ⟨cirK_pair hS k (by omega), by cases cirI H (k : Int) <;> simp, fun l hl l' hl' => ?_⟩
    rw [Option.mem_toList] at hl'
    obtain ⟨m', hc', hm', rfl⟩ := cirI_is hl'
    obtain ⟨j, m, hj, hc, hm, rfl⟩ := cirK_is hl
    have hi : 0 ≤ (j : Int) ∧ (j : Int) < (H.length : Int) := by omega
    have hi' : 0 ≤ (k : Int) ∧ (k : Int) < (H.length : Int) := by omega
    refine ⟨by rw [(head_of hS hi hc).2 hm, (head_of hS hi' hc').2 hm']; omega, fun x hx hx' => ?_⟩
    have h1 := cyc_same hc ((cirL_mem hS hi hc).1 hx)
    have h2 := cyc_same hc' ((cirL_mem hS hi' hc').1 hx')
    have e := cyc_uniq h1.1 h2.1
    subst e
    have h3 : (j : Int) ∈ pthN H (k : Int) m := (h2.2 _).1 ((h1.2 _).2 (i_in hc))
    unfold minB at hm'
    have h4 := of_decide_eq_true (List.all_eq_true.1 hm' _ h3)
    omega
theorem min_ex : ∀ (l : List Int), 0 < l.length → ∃ z ∈ l, ∀ x ∈ l, z ≤ x
  | [], h => by simp at h
  | [a], _ => ⟨a, by simp, fun x hx => by rw [List.mem_singleton] at hx; omega⟩
  | a :: b :: l, _ => by
    obtain ⟨z, hz, hm⟩ := min_ex (b :: l) (by simp)
    by_cases h : a ≤ z
    · exact ⟨a, by simp, fun x hx => by
        rcases List.mem_cons.1 hx with e | e
        · omega
        · have := hm x e; omega⟩
    · exact ⟨z, List.mem_cons_of_mem _ hz, fun x hx => by
        rcases List.mem_cons.1 hx with e | e
        · omega
        · exact hm x e⟩
theorem cir_ex (hS : SeeP H) (hi : 0 ≤ i ∧ i < (H.length : Int)) (hc : Cyc H i m) : ∃ l ∈ cirK H H.length, i ∈ l := by
  obtain ⟨z, hz, hm⟩ := min_ex (pthN H i m) (by rw [pthN_len]; exact hc.1)
  have h1 := cyc_same hc hz
  have hzi : 0 ≤ z ∧ z < (H.length : Int) := by
    obtain ⟨a, ha, rfl⟩ := pthN_mem.1 hz
    exact ⟨cyc_pos hi.1 hc a ha, (orb_bd hS hi a).2⟩
  have h2 : minB z (pthN H z m) = true := by
    unfold minB
    rw [List.all_eq_true]
    exact fun x hx => decide_eq_true (hm x ((h1.2 x).1 hx))
  have h3 := cirI_at hS hzi h1.1
  rw [if_pos h2] at h3
  refine ⟨cirL H z m, ?_, (cirL_mem hS hzi h1.1).2 ((h1.2 i).2 (i_in hc))⟩
  unfold cirK
  refine List.mem_filterMap.2 ⟨z.toNat, List.mem_range.2 (by omega), ?_⟩
  rw [Int.toNat_of_nonneg hzi.1]
  exact h3
/-- The circles as they lie. -/
structure CirOK (H : List PH) (ps : List (Sl Int)) : Prop where
  pr : ∀ q q', q < q' → q' < ps.length → (ps.getD q default).l.getD 0 default < (ps.getD q' default).l.getD 0 default ∧ ∀ x ∈ (ps.getD q default).l, x ∉ (ps.getD q' default).l
  is : ∀ q, q < ps.length → ∃ j m, j < H.length ∧ Cyc H (j : Int) m ∧ (ps.getD q default).l = cirL H (j : Int) m
  ex : ∀ (i : Int) m, 0 ≤ i ∧ i < (H.length : Int) → Cyc H i m → ∃ q, q < ps.length ∧ i ∈ (ps.getD q default).l
  tot : ∀ q, q ≤ ps.length → (((lsts ps).take q).map List.length).sum ≤ H.length
theorem lst_at {ps : List (Sl Int)} {q : Nat} (h : q < (lsts ps).length) : (lsts ps)[q] = (ps.getD q default).l := by
  have h1 : q < ps.length := by rw [lsts, List.length_map] at h; exact h
  unfold lsts
  rw [List.getElem_map, getD_at h1]
theorem cir_ok (hS : SeeP H) {ps : List (Sl Int)} (h : lsts ps = cirK H H.length) : CirOK H ps := by
  have hl : (lsts ps).length = ps.length := by rw [lsts, List.length_map]
  have hp := cirK_pair hS H.length (Nat.le_refl _)
  rw [← h, List.pairwise_iff_getElem] at hp
  refine ⟨fun q q' h1 h2 => ?_, fun q hq => ?_, fun i m hi hc => ?_, fun q hq => ?_⟩
  · have h3 := hp q q' (by omega) (by omega) h1
    rw [lst_at, lst_at] at h3
    exact h3
  · have h3 : (ps.getD q default).l ∈ cirK H H.length := by rw [← h, ← lst_at (by omega)]; exact List.getElem_mem _
    obtain ⟨j, m, hj, hc, _, e⟩ := cirK_is h3
    exact ⟨j, m, hj, hc, e⟩
  · obtain ⟨l, h1, h2⟩ := cir_ex hS hi hc
    rw [← h] at h1
    obtain ⟨q, hq, e⟩ := List.getElem_of_mem h1
    rw [lst_at hq] at e
    exact ⟨q, by omega, by rw [e]; exact h2⟩
  · have hsub : ∀ l ∈ (lsts ps).take q, ∃ j m, j < H.length ∧ Cyc H (j : Int) m ∧ l = cirL H (j : Int) m := fun l hl2 => by
      have h3 := List.mem_of_mem_take hl2
      rw [h] at h3
      obtain ⟨j, m, hj, hc, _, e⟩ := cirK_is h3
      exact ⟨j, m, hj, hc, e⟩
    have hin : ∀ x ∈ ((lsts ps).take q).flatten, 0 ≤ x ∧ x < (H.length : Int) := fun x hx => by
      obtain ⟨l, h1, h2⟩ := List.mem_flatten.1 hx
      obtain ⟨j, m, hj, hc, rfl⟩ := hsub l h1
      unfold cirL cirF at h2
      obtain ⟨k, hk, rfl⟩ := List.mem_map.1 h2
      have := List.mem_range.1 (List.mem_filter.1 hk).1
      omega
    have hnd : ((lsts ps).take q).flatten.Nodup := by
      rw [List.Nodup, List.pairwise_flatten]
      refine ⟨fun l hl2 => ?_, ?_⟩
      · obtain ⟨j, m, hj, hc, rfl⟩ := hsub l hl2
        exact cirL_asc.imp fun {a b} h => Int.ne_of_lt h
      · refine List.Pairwise.imp (R := fun l l' => l.getD 0 default < l'.getD 0 default ∧ ∀ x ∈ l, x ∉ l') (fun {l l'} h1 x hx y hy e => by subst e; exact h1.2 x hx hy) ?_
        refine List.Pairwise.sublist (List.take_sublist _ _) ?_
        rw [h]
        exact cirK_pair hS H.length (Nat.le_refl _)
    have h4 := nodup_le (n := H.length) (l := ((lsts ps).take q).flatten.map Int.toNat) (by
      rw [List.Nodup, List.pairwise_map]
      refine hnd.imp_of_mem fun {a b} h1 h2 h3 e => h3 ?_
      have := hin a h1
      have := hin b h2
      omega) (fun y hy => by
      obtain ⟨x, hx, rfl⟩ := List.mem_map.1 hy
      have := hin x hx
      omega)
    rw [List.length_map, List.length_flatten] at h4
    exact h4
theorem cir_at (hS : SeeP H) {ps : List (Sl Int)} (h : CirOK H ps) {q : Nat} (hq : q < ps.length) {x : Int} (hx : x ∈ (ps.getD q default).l) : ∃ m, Cyc H x m ∧ (ps.getD q default).l.length = m ∧ ∀ y, y ∈ (ps.getD q default).l ↔ y ∈ pthN H x m := by
  obtain ⟨j, m, hj, hc, e⟩ := h.is q hq
  have hi : 0 ≤ (j : Int) ∧ (j : Int) < (H.length : Int) := by omega
  rw [e] at hx ⊢
  have h1 := cyc_same hc ((cirL_mem hS hi hc).1 hx)
  exact ⟨m, h1.1, cirL_len hS hi hc, fun y => (cirL_mem hS hi hc).trans (h1.2 y).symm⟩
theorem cir_asc {ps : List (Sl Int)} (h : CirOK H ps) {q : Nat} (hq : q < ps.length) {k : Nat} (hk : k + 1 < (ps.getD q default).l.length) : (ps.getD q default).l.getD k default < (ps.getD q default).l.getD (k + 1) default := by
  obtain ⟨j, m, hj, hc, e⟩ := h.is q hq
  rw [getD_at hk, getD_at (show k < (ps.getD q default).l.length by omega)]
  have h1 : (ps.getD q default).l.Pairwise (· < ·) := by rw [e]; exact cirL_asc
  exact (List.pairwise_iff_getElem.1 h1) k (k + 1) (by omega) hk (by omega)
theorem cir_two (hS : SeeP H) (hne : ∀ k, k < H.length → ¬ (H.getD k default).2.2.1 = (k : Int)) {ps : List (Sl Int)} (h : CirOK H ps) {q : Nat} (hq : q < ps.length) : 2 ≤ (ps.getD q default).l.length := by
  obtain ⟨j, m, hj, hc, e⟩ := h.is q hq
  rw [e, cirL_len hS (by omega) hc]
  have h1 := hc.1
  by_cases h2 : m = 1
  · subst h2
    have h3 := hc.2.1
    rw [show (1 : Nat) = 0 + 1 from rfl, orb_succ, orb_zero] at h3
    unfold seeZ at h3
    rw [if_neg (by omega), Int.toNat_natCast] at h3
    exact absurd h3 (hne j hj)
  · omega
theorem tot_succ {ps : List (Sl Int)} {q : Nat} (hq : q < ps.length) : (((lsts ps).take (q + 1)).map List.length).sum = (((lsts ps).take q).map List.length).sum + (ps.getD q default).l.length := by
  have hl : q < (lsts ps).length := by rw [lsts, List.length_map]; exact hq
  rw [List.take_succ_eq_append_getElem hl, List.map_append, List.sum_append, lst_at hl]
  simp
theorem cir_long {ps : List (Sl Int)} (h : CirOK H ps) {q : Nat} (hq : q < ps.length) : (ps.getD q default).l.length ≤ H.length := by
  obtain ⟨j, m, hj, hc, e⟩ := h.is q hq
  rw [e]
  exact cirF_len _
end

theorem law04_first_meets {A : Option Addr} {c : Nat} (l : List Int) (hl : 0 < l.length) : Meets Tryz.prog F.law04_first [.slice A l.length c] { LI := [Row A (rows l)], val := fun _ : Unit => int (l.getD 0 default) } := by
 refine meets_intro F.law04_first_f rfl (Nat.le_of_ble_eq_true rfl) fun w0 => ?_
 refine hc_seq (hc_region (r_assign rfl rfl (hl_nil (then_n (hc_seq (hc_seq (hc_region (r_move rfl rfl ?_))))))))
 refine r_len_sl rfl T.u_ints rfl ?_
 refine r_eql rfl rfl rfl (hl_nil (then_n ?_))
 refine c_dec rfl (fun hb1 => ?_) (fun hb1 => ?_)
 ·exact absurd hb1 (by omega)
 ·have hb1' := hb1; try simp at hb1'
  refine hc_skip (then_n (hc_seq (hc_region (r_move rfl rfl ?_))))
  refine r_elem (α := Int) l 0 rfl T.u_ints T.sz_int rfl rfl rfl (by repeat constructor) rfl hl (by decide) ?_
  refine r_load (v := int (l.getD 0 default)) rfl T.cell_int rfl (cell_row (by repeat constructor) (rows_get0 hl rfl)) ?_
  refine r_assign rfl rfl (hl_nil (then_n (hc_ret ?_)))
  exact ret1 () rfl rfl rfl trivial (List.nil_sublist _) trivial

end Go.Proofs.YtlpgheniajdkfaaGreat
