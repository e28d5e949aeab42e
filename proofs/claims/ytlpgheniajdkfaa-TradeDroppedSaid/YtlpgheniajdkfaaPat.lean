/- Repeats taken out of sorted words. -/
import Derived.Test.YtlpgheniajdkfaaPas
namespace Go.Proofs.Ytlpgheniajdkfaa
open Go Go.W
set_option linter.unusedVariables false
set_option linter.unusedSimpArgs false
set_option maxRecDepth 20000
attribute [local irreducible] HL HC HQ HB Row Rows2 Blk Facts

def ascTo (l : List Str) (m : Nat) : Prop := ∀ p q, p < q → q < m → wat l p < wat l q
theorem wlt_of {a b : Str} (h : wle a b) (hne : ¬ a = b) : a < b := by
  rcases Classical.em (a < b) with h1 | h1
  · exact h1
  · exact absurd (slt_tri h1 h) hne
theorem ascTo.next {l0 : List Str} {k : Nat} (h : ascTo l0 k) (h0 : 1 ≤ k) (hk : k < l0.length) (hs : srtTo l0 l0.length) (hne : ¬ wat l0 k = wat l0 (k - 1)) : ascTo l0 (k + 1) := by
  intro p q h1 h2
  by_cases hq : q = k
  · subst hq
    have h3 : wat l0 (q - 1) < wat l0 q := wlt_of (hs _ _ (by omega) hk) (fun e => hne e.symm)
    by_cases hp : p = q - 1
    · subst hp; exact h3
    · exact List.lt_trans (h p (q - 1) (by omega) (by omega)) h3
  · exact h p q h1 (by omega)
structure CptOK (l0 : List Str) (b0 k j : Nat) (l : List Str) : Prop where
  len : l.length = l0.length
  j1 : 1 ≤ j
  jn : b0 + j ≤ l0.length
  k1 : 1 ≤ k
  kj : k < b0 + j
  asc : ascTo l k
  rest : ∀ q, b0 + j ≤ q + 1 → wat l q = wat l0 q
  mem : ∀ s, (∃ p, p < k ∧ wat l p = s) ↔ (∃ p, p < b0 + j ∧ wat l0 p = s)
  last : wat l (k - 1) = wat l0 (b0 + j - 1)
theorem CptOK.start {l0 : List Str} {k : Nat} (h : ascTo l0 k) (h0 : 1 ≤ k) (hk : k < l0.length) (he : wat l0 k = wat l0 (k - 1)) : CptOK l0 k k 1 l0 := by
  refine ⟨rfl, by omega, by omega, h0, by omega, h, fun _ _ => rfl, fun s => ⟨?_, ?_⟩, by rw [Nat.add_sub_cancel]; exact he.symm⟩
  · rintro ⟨p, h1, h2⟩; exact ⟨p, by omega, h2⟩
  · rintro ⟨p, h1, h2⟩
    by_cases hp : p = k
    · subst hp; exact ⟨p - 1, by omega, by rw [← he]; exact h2⟩
    · exact ⟨p, by omega, h2⟩
theorem CptOK.eq {l0 l : List Str} {b0 k j : Nat} (h : CptOK l0 b0 k j l) (hj : b0 + j < l0.length) (he : wat l (b0 + j) = wat l (b0 + j - 1)) : CptOK l0 b0 k (j + 1) l := by
  have hj1 := h.j1
  have h1 := h.rest (b0 + j) (by omega)
  have h2 := h.rest (b0 + j - 1) (by omega)
  have h3 : wat l0 (b0 + j) = wat l0 (b0 + j - 1) := by rw [← h1, ← h2]; exact he
  have hkj := h.kj
  refine ⟨h.len, by omega, by omega, h.k1, by omega, h.asc, fun q hq => h.rest q (by omega), fun s => ?_, ?_⟩
  · rw [h.mem s]
    constructor
    · rintro ⟨p, h4, h5⟩; exact ⟨p, by omega, h5⟩
    · rintro ⟨p, h4, h5⟩
      by_cases hp : p = b0 + j
      · subst hp; exact ⟨b0 + j - 1, by omega, by rw [← h3]; exact h5⟩
      · exact ⟨p, by omega, h5⟩
  · rw [h.last, ← h3, show b0 + (j + 1) - 1 = b0 + j by omega]
theorem CptOK.ne {l0 l : List Str} {b0 k j : Nat} (h : CptOK l0 b0 k j l) (hs : srtTo l0 l0.length) (hj : b0 + j < l0.length) (hne : ¬ wat l (b0 + j) = wat l (b0 + j - 1)) : CptOK l0 b0 (k + 1) (j + 1) (l.set k (wat l (b0 + j))) := by
  have hj1 := h.j1
  have h1 := h.rest (b0 + j) (by omega)
  have h2 := h.rest (b0 + j - 1) (by omega)
  have hkj := h.kj
  have hk1 := h.k1
  have hkl : k < l.length := by rw [h.len]; omega
  have hat : ∀ p, wat (l.set k (wat l (b0 + j))) p = if k = p then wat l (b0 + j) else wat l p := fun p => wat_set hkl
  have hlt : wat l (k - 1) < wat l (b0 + j) := by
    rw [h.last, h1]
    refine wlt_of (hs _ _ (by omega) hj) (fun e => hne ?_)
    rw [h1, h2]; exact e.symm
  refine ⟨by rw [List.length_set]; exact h.len, by omega, by omega, by omega, by omega, fun p q h3 h4 => ?_, fun q hq => ?_, fun s => ?_, ?_⟩
  · rw [hat, hat, if_neg (by omega)]
    by_cases hq : k = q
    · rw [if_pos hq]
      by_cases hp : p = k - 1
      · subst hp; exact hlt
      · exact List.lt_trans (h.asc p (k - 1) (by omega) (by omega)) hlt
    · rw [if_neg hq]; exact h.asc p q h3 (by omega)
  · rw [hat, if_neg (by omega)]; exact h.rest q (by omega)
  · constructor
    · rintro ⟨p, h3, h4⟩
      rw [hat] at h4
      by_cases hp : k = p
      · rw [if_pos hp] at h4
        exact ⟨b0 + j, by omega, by rw [← h1]; exact h4⟩
      · rw [if_neg hp] at h4
        obtain ⟨q, h5, h6⟩ := (h.mem s).1 ⟨p, by omega, h4⟩
        exact ⟨q, by omega, h6⟩
    · rintro ⟨p, h3, h4⟩
      by_cases hp : p = b0 + j
      · subst hp
        exact ⟨k, by omega, by rw [hat, if_pos rfl, h1]; exact h4⟩
      · obtain ⟨q, h5, h6⟩ := (h.mem s).2 ⟨p, by omega, h4⟩
        exact ⟨q, by omega, by rw [hat, if_neg (by omega)]; exact h6⟩
  · rw [hat, if_pos (by omega), h1, show b0 + (j + 1) - 1 = b0 + j by omega]
theorem mem_wat {l : List Str} {s : Str} : s ∈ l ↔ ∃ p, p < l.length ∧ wat l p = s := by
  constructor
  · intro h
    obtain ⟨i, hi, rfl⟩ := List.getElem_of_mem h
    exact ⟨i, hi, getD_at hi⟩
  · rintro ⟨p, hp, rfl⟩
    unfold wat
    exact getD_mem hp
theorem asc_pair {l : List Str} (h : ascTo l l.length) : l.Pairwise (· < ·) := by
  rw [List.pairwise_iff_getElem]
  intro i j hi hj hij
  have := h i j hij hj
  unfold wat at this
  rw [getD_at hi, getD_at hj] at this
  exact this
abbrev DedW (l0 r : List Str) : Prop := r.Pairwise (· < ·) ∧ ∀ s, s ∈ r ↔ s ∈ l0
theorem wat_take {l : List Str} {k p : Nat} (hp : p < k) (hk : k ≤ l.length) : wat (l.take k) p = wat l p := by
  unfold wat
  rw [List.getD_eq_getElem?_getD, List.getD_eq_getElem?_getD, List.getElem?_take, if_pos hp]
theorem CptOK.done {l0 l : List Str} {b0 k j : Nat} (h : CptOK l0 b0 k j l) (hj : l0.length ≤ b0 + j) : DedW l0 (l.take k) := by
  have h1 := h.jn
  have h2 := h.kj
  have hlen : (l.take k).length = k := by rw [List.length_take, h.len]; omega
  have hkl : k ≤ l.length := by rw [h.len]; omega
  refine ⟨asc_pair fun p q h3 h4 => ?_, fun s => ?_⟩
  · rw [hlen] at h4
    rw [wat_take (by omega) hkl, wat_take h4 hkl]
    exact h.asc p q h3 h4
  · rw [mem_wat, mem_wat, hlen]
    constructor
    · rintro ⟨p, h3, h4⟩
      rw [wat_take h3 hkl] at h4
      obtain ⟨q, h5, h6⟩ := (h.mem s).1 ⟨p, h3, h4⟩
      exact ⟨q, by omega, h6⟩
    · rintro ⟨p, h3, h4⟩
      obtain ⟨q, h5, h6⟩ := (h.mem s).2 ⟨p, by omega, h4⟩
      exact ⟨q, h5, by rw [wat_take h5 hkl]; exact h6⟩
theorem cutA_at {g cap k : Nat} (h : k < cap) : cutA (some ⟨g, 0, none⟩) cap k 1 = some ⟨g, k, none⟩ := by
  unfold cutA
  rw [if_neg (by omega)]
  simp [Addr.add]
  intro h2
  exact h2.symm
theorem zv_string (w : World) : (zeroValue T.string).run Try.prog w = .ok (.string ⟨#[]⟩) w := by kernel_rfl
theorem take_le1 {cur cur' : Array Value} {l : List Str} {k : Nat} (hk : k ≤ l.length) (h : cur.toList.take (l.length * 1) = rows l) (h1 : cur'.toList.take k = cur.toList.take k) : cur'.toList.take ((l.take k).length * 1) = rows (l.take k) := by
  have h2 : (rows l).take (k * 1) = rows (l.take k) := rows_take l k
  rw [List.length_take, Nat.min_eq_left hk, ← h2, ← h, List.take_take, Nat.mul_one, Nat.mul_one, Nat.min_eq_left hk, h1]

set_option maxHeartbeats 1000000 in
theorem slices_Compact_strs_meets {A : Option Addr} {cap : Nat} (l0 : List Str) (og : Hp) (hG : GrowS A cap l0 og) (hs : srtTo l0 l0.length) (hn : l0.length ≤ 1000000) :
    Meets Try.prog F.slices_Compact_strs [.slice A l0.length cap] { hpI := og, inv := fun x : List Str × Hp => (DedW l0 x.1 ∧ x.1.length ≤ l0.length) ∧ GrowS A cap x.1 x.2, val := fun x => .slice A x.1.length cap, hpO := fun x => x.2 } := by
 refine meets_intro F.slices_Compact_strs_f rfl (Nat.le_of_ble_eq_true rfl) fun w0 => ?_
 refine hc_seq ?_
 refine hc_region ?_
 refine r_assign rfl rfl ?_
 refine hl_nil ?_
 refine then_n ?_
 refine hc_seq ?_
 refine hc_seq ?_
 refine hc_region ?_
 refine r_move rfl rfl ?_
 refine r_len_sl rfl T.u_strs rfl ?_
 refine r_lss rfl rfl rfl ?_
 refine hl_nil ?_
 refine then_n ?_
 first | refine c_dec rfl (fun hb1 => ?_) (fun hb1 => ?_) | refine hc_cond rfl (fun hb1 => ?_) (fun hb1 => ?_)
 ·have hb1' := hb1; try simp at hb1'
  refine hc_seq ?_
  refine hc_region ?_
  refine r_move rfl rfl ?_
  refine r_assign rfl rfl ?_
  refine hl_nil ?_
  refine then_n ?_
  refine hc_ret ?_
  refine then_ret ?_
  exact ret1 (l0, og) rfl rfl rfl ⟨⟨⟨asc_pair fun p q h1 h2 => by have h3 : q < l0.length := h2; omega, fun _ => .rfl⟩, Nat.le_refl _⟩, hG⟩ (by first | (rw [List.append_nil]; exact List.Sublist.refl _) | exact List.Sublist.refl _) trivial
 ·have hb1' := hb1; try simp at hb1'
  obtain ⟨gd, cur, e1, e2, hnc, hcm, hcs, hct, _⟩ := hG.open_ (by omega)
  subst e1
  subst e2
  refine hc_skip ?_
  refine then_n ?_
  refine hc_seq ?_
  refine hc_seq ?_
  refine hc_region ?_
  refine r_assign rfl rfl ?_
  refine hl_nil ?_
  refine then_n ?_
  refine hc_block ?_
  refine hc_loop (β := Nat) ⟨fun k => 1 ≤ k ∧ k ≤ l0.length ∧ ascTo l0 k, fun k => [(0, .slice (some ⟨gd, 0, none⟩) l0.length cap), (3, int k)], fun _ => [(gd, Obj.cells cur T.string (0, 0))], fun _ => []⟩ (fun k => l0.length - k) 1 ⟨Nat.le_refl _, by omega, fun p q h1 h2 => by omega⟩ ⟨rfl, rfl, trivial⟩ (List.Sublist.refl _) trivial fun k hk => ?_
  obtain ⟨hk0, hk, ha⟩ := hk
  refine hc_seq ?_
  refine hc_seq ?_
  refine hc_region ?_
  refine r_move rfl rfl ?_
  refine r_move rfl rfl ?_
  refine r_len_sl rfl T.u_strs rfl ?_
  refine r_lss rfl rfl rfl ?_
  refine hl_nil ?_
  refine then_n ?_
  first | refine c_dec rfl (fun hb2 => ?_) (fun hb2 => ?_) | refine hc_cond rfl (fun hb2 => ?_) (fun hb2 => ?_)
  ·have hb2' := hb2; try simp at hb2'
   have hk2 : k < l0.length := by omega
   refine hc_skip ?_
   refine then_n ?_
   refine hc_seq ?_
   refine hc_block ?_
   refine hc_seq ?_
   refine hc_draw 9 mixed (by decide) (by decide) rfl rfl ?_
   apply hb_ex _ rfl rfl rfl
   ·intro w1
    refine r_move rfl rfl ?_
    refine hl_nil ?_
    exact qe_done rfl
   apply hb_ex _ rfl rfl rfl
   ·intro w1
    refine r_move rfl rfl ?_
    refine hl_nil ?_
    exact qe_done rfl
   apply hb_ex _ rfl rfl rfl
   ·intro w1
    refine r_indexAddr_own (k) (k) rfl T.u_strs T.sz_string rfl rfl rfl (by omega) (by omega) ?_
    refine hl_nil ?_
    exact qe_done rfl
   apply hb_ex _ rfl rfl rfl
   ·intro w1
    refine r_load (v := str (wat l0 (k))) rfl T.cell_string rfl (cell_blk (by repeat constructor) (own_el rfl hct (by omega) rfl rfl)) ?_
    refine hl_nil ?_
    exact qe_done rfl
   apply hb_ex _ rfl rfl rfl
   ·intro w1
    refine r_move rfl rfl ?_
    refine hl_nil ?_
    exact qe_done rfl
   apply hb_ex _ rfl rfl rfl
   ·intro w1
    refine r_move rfl rfl ?_
    refine hl_nil ?_
    exact qe_done rfl
   apply hb_ex _ rfl rfl rfl
   ·intro w1
    refine r_sub ((k - 1 : Nat) : Int) rfl rfl rfl (by omega) (by unfold I64; omega) ?_
    refine hl_nil ?_
    exact qe_done rfl
   apply hb_ex _ rfl rfl rfl
   ·intro w1
    refine r_indexAddr_own (k - 1) (k - 1) rfl T.u_strs T.sz_string rfl rfl rfl (by omega) (by omega) ?_
    refine hl_nil ?_
    exact qe_done rfl
   apply hb_ex _ rfl rfl rfl
   ·intro w1
    refine r_load (v := str (wat l0 (k - 1))) rfl T.cell_string rfl (cell_blk (by repeat constructor) (own_el rfl hct (by omega) rfl rfl)) ?_
    refine hl_nil ?_
    exact qe_done rfl
   refine hb_nil ⟨rfl, ?_⟩
   refine r_seql rfl rfl rfl ?_
   refine hl_nil ?_
   refine then_n ?_
   first | refine c_dec rfl (fun hb3 => ?_) (fun hb3 => ?_) | refine hc_cond rfl (fun hb3 => ?_) (fun hb3 => ?_)
   ·have hb3' := hb3; try simp at hb3'
    refine hc_seq ?_
    refine hc_region ?_
    refine r_move rfl rfl ?_
    refine r_move rfl rfl ?_
    refine r_slice_lo k rfl T.u_strs T.sz_string rfl rfl rfl (by omega) ?_
    rw [cutA_at (by omega)]
    refine r_assign rfl rfl ?_
    refine hl_nil ?_
    refine then_n ?_
    refine hc_seq ?_
    refine hc_seq ?_
    refine hc_region ?_
    refine r_assign rfl rfl ?_
    refine hl_nil ?_
    refine then_n ?_
    refine hc_block ?_
    refine hc_loop (β := Nat × Nat × List Str × Array Value) ⟨fun x => CptOK l0 k x.1 x.2.1 x.2.2.1 ∧ x.2.2.2.size = cap * 1 ∧ x.2.2.2.toList.take (x.2.2.1.length * 1) = rows x.2.2.1, fun x => [(0, .slice (some ⟨gd, 0, none⟩) l0.length cap), (3, int x.1), (4, .slice (some ⟨gd, k, none⟩) (l0.length - k) (cap - k)), (5, int x.2.1)], fun x => [(gd, Obj.cells x.2.2.2 T.string (0, 0))], fun _ => []⟩ (fun x => l0.length - x.2.1) (k, 1, l0, cur) ⟨.start ha hk0 hk2 hb3, hcs, hct⟩ ⟨rfl, rfl, rfl, rfl, trivial⟩ (List.Sublist.refl _) trivial fun x hx => ?_
    clear hcs hct hG
    obtain ⟨m, j, l, cur⟩ := x
    obtain ⟨hC, hcs, hct⟩ := hx
    simp only at hC hcs hct
    have hj1 := hC.j1
    have hjn := hC.jn
    have hkj := hC.kj
    have hm1 := hC.k1
    have hll := hC.len
    refine hc_seq ?_
    refine hc_seq ?_
    refine hc_region ?_
    refine r_move rfl rfl ?_
    refine r_move rfl rfl ?_
    refine r_len_sl rfl T.u_strs rfl ?_
    refine r_lss rfl rfl rfl ?_
    refine hl_nil ?_
    refine then_n ?_
    first | refine c_dec rfl (fun hb4 => ?_) (fun hb4 => ?_) | refine hc_cond rfl (fun hb4 => ?_) (fun hb4 => ?_)
    ·have hb4' := hb4; try simp at hb4'
     have hj2 : k + j < l0.length := by omega
     refine hc_skip ?_
     refine then_n ?_
     refine hc_seq ?_
     refine hc_block ?_
     refine hc_seq ?_
     refine hc_draw 9 mixed (by decide) (by decide) rfl rfl ?_
     apply hb_ex _ rfl rfl rfl
     ·intro w1
      refine r_move rfl rfl ?_
      refine hl_nil ?_
      exact qe_done rfl
     apply hb_ex _ rfl rfl rfl
     ·intro w1
      refine r_move rfl rfl ?_
      refine hl_nil ?_
      exact qe_done rfl
     apply hb_ex _ rfl rfl rfl
     ·intro w1
      refine r_indexAddr_own (j) (k + j) rfl T.u_strs T.sz_string rfl rfl rfl (by omega) (by omega) ?_
      refine hl_nil ?_
      exact qe_done rfl
     apply hb_ex _ rfl rfl rfl
     ·intro w1
      refine r_load (v := str (wat l (k + j))) rfl T.cell_string rfl (cell_blk (by repeat constructor) (own_el rfl hct (by omega) rfl rfl)) ?_
      refine hl_nil ?_
      exact qe_done rfl
     apply hb_ex _ rfl rfl rfl
     ·intro w1
      refine r_move rfl rfl ?_
      refine hl_nil ?_
      exact qe_done rfl
     apply hb_ex _ rfl rfl rfl
     ·intro w1
      refine r_move rfl rfl ?_
      refine hl_nil ?_
      exact qe_done rfl
     apply hb_ex _ rfl rfl rfl
     ·intro w1
      refine r_sub ((j - 1 : Nat) : Int) rfl rfl rfl (by first | omega | (simp only; omega)) (by unfold I64; omega) ?_
      refine hl_nil ?_
      exact qe_done rfl
     apply hb_ex _ rfl rfl rfl
     ·intro w1
      refine r_indexAddr_own (j - 1) (k + j - 1) rfl T.u_strs T.sz_string rfl rfl rfl (by omega) (by omega) ?_
      refine hl_nil ?_
      exact qe_done rfl
     apply hb_ex _ rfl rfl rfl
     ·intro w1
      refine r_load (v := str (wat l (k + j - 1))) rfl T.cell_string rfl (cell_blk (by repeat constructor) (own_el rfl hct (by omega) rfl rfl)) ?_
      refine hl_nil ?_
      exact qe_done rfl
     refine hb_nil ⟨rfl, ?_⟩
     refine r_sneq rfl rfl rfl ?_
     refine hl_nil ?_
     refine then_n ?_
     first | refine c_dec rfl (fun hb5 => ?_) (fun hb5 => ?_) | refine hc_cond rfl (fun hb5 => ?_) (fun hb5 => ?_)
     ·have hb5' := hb5; try simp at hb5'
      refine hc_seq ?_
      refine hc_region ?_
      refine r_move rfl rfl ?_
      refine r_move rfl rfl ?_
      refine r_move rfl rfl ?_
      refine r_move rfl rfl ?_
      refine r_indexAddr_own (j) (k + j) rfl T.u_strs T.sz_string rfl rfl rfl (by omega) (by omega) ?_
      refine r_load (v := str (wat l (k + j))) rfl T.cell_string rfl (cell_own (by repeat constructor) (own_el rfl hct (by omega) rfl rfl)) ?_
      refine r_indexAddr_own (m) (m) rfl T.u_strs T.sz_string rfl rfl rfl (by omega) (by omega) ?_
      refine r_store rfl rfl (.refl _) T.sz_string (own_el rfl hct (show m < l.length by omega) rfl rfl) (by rfl) ?_
      have hct1 := take_set1 (α := Str) (k := m) (a := wat l (k + j)) rfl rfl hct
      refine hl_nil ?_
      refine then_n ?_
      refine hc_region ?_
      refine r_move rfl rfl ?_
      refine r_add _ rfl rfl rfl rfl (by unfold I64; omega) ?_
      refine r_assign rfl rfl ?_
      refine hl_nil ?_
      refine inb_n ?_
      refine then_n ?_
      refine hc_region ?_
      refine r_move rfl rfl ?_
      refine r_add _ rfl rfl rfl rfl (by unfold I64; omega) ?_
      refine r_assign rfl rfl ?_
      refine hl_nil ?_
      exact again _ (m + 1, j + 1, l.set m (wat l (k + j)), cur.setIfInBounds m (str (wat l (k + j)))) ⟨hC.ne hs hj2 hb5, by show (Array.setIfInBounds _ _ _).size = _; rw [Array.size_setIfInBounds]; exact hcs, hct1⟩ (by show l0.length - (j + 1) < l0.length - j; omega) ⟨rfl, rfl, rfl, rfl, trivial⟩ (List.Sublist.refl _) trivial
     ·have hb5' := hb5; try simp at hb5'
      refine hc_skip ?_
      refine inb_n ?_
      refine then_n ?_
      refine hc_region ?_
      refine r_move rfl rfl ?_
      refine r_add _ rfl rfl rfl rfl (by unfold I64; omega) ?_
      refine r_assign rfl rfl ?_
      refine hl_nil ?_
      exact again _ (m, j + 1, l, cur) ⟨hC.eq hj2 (Classical.not_not.1 hb5), hcs, hct⟩ (by show l0.length - (j + 1) < l0.length - j; omega) ⟨rfl, rfl, rfl, rfl, trivial⟩ (List.Sublist.refl _) trivial
    ·have hb4' := hb4; try simp at hb4'
     have hj2 : k + j = l0.length := by omega
     refine hc_exit ?_
     refine then_exit ?_
     refine then_exit ?_
     refine inb_hit ?_
     refine then_n ?_
     refine hc_seq ?_
     refine hc_region ?_
     refine r_move rfl rfl ?_
     refine r_move rfl rfl ?_
     refine r_slice_lo m rfl T.u_strs T.sz_string rfl rfl rfl (by omega) ?_
     rw [cutA_at (by omega)]
     refine r_clear T.u_strs zv_string rfl rfl rfl (by show m + (l0.length - m) ≤ cur.size; omega) (.refl _) fun cur2 hc2 ht2 => ?_
     refine hl_nil ?_
     refine then_n ?_
     refine hc_seq ?_
     refine hc_region ?_
     refine r_move rfl rfl ?_
     refine r_move rfl rfl ?_
     refine r_slice_hi m rfl T.u_strs T.sz_string rfl rfl rfl (by omega) ?_
     refine r_assign rfl rfl ?_
     refine hl_nil ?_
     refine then_n ?_
     refine hc_ret ?_
     refine inb_ret ?_
     refine then_ret ?_
     refine then_ret ?_
     refine inb_ret ?_
     refine then_ret ?_
     have hlt : (l.take m).length = m := by rw [List.length_take]; omega
     exact ret1 (l.take m, [(gd, Obj.cells cur2 T.string (0, 0))]) rfl (by show some (Value.slice (some ⟨gd, 0, none⟩) m cap) = some (Value.slice (some ⟨gd, 0, none⟩) (l.take m).length cap); rw [hlt]) rfl ⟨⟨hC.done (by omega), by show (l.take m).length ≤ l0.length; omega⟩, grow_of1 rfl (by show (l.take m).length ≤ cap; omega) hcm (by rw [hc2]; exact hcs) (take_le1 (by omega) hct (ht2 m (Nat.le_refl _)))⟩ (List.Sublist.refl _) trivial
   ·have hb3' := hb3; try simp at hb3'
    refine hc_skip ?_
    refine inb_n ?_
    refine then_n ?_
    refine hc_region ?_
    refine r_move rfl rfl ?_
    refine r_add _ rfl rfl rfl rfl (by unfold I64; omega) ?_
    refine r_assign rfl rfl ?_
    refine hl_nil ?_
    exact again _ (k + 1) ⟨by omega, by omega, ha.next hk0 hk2 hs hb3⟩ (by show l0.length - (k + 1) < l0.length - k; omega) ⟨rfl, rfl, trivial⟩ (List.Sublist.refl _) trivial
  ·have hb2' := hb2; try simp at hb2'
   have hk2 : k = l0.length := by omega
   subst hk2
   refine hc_exit ?_
   refine then_exit ?_
   refine then_exit ?_
   refine inb_hit ?_
   refine then_n ?_
   refine hc_seq ?_
   refine hc_region ?_
   refine r_move rfl rfl ?_
   refine r_assign rfl rfl ?_
   refine hl_nil ?_
   refine then_n ?_
   refine hc_ret ?_
   exact ret1 (l0, [(gd, Obj.cells cur T.string (0, 0))]) rfl rfl rfl ⟨⟨⟨asc_pair ha, fun _ => .rfl⟩, Nat.le_refl _⟩, hG⟩ (List.Sublist.refl _) trivial

end Go.Proofs.Ytlpgheniajdkfaa
