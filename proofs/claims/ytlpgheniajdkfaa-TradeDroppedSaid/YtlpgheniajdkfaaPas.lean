/- Words sorted: twelve or fewer by insertion. -/
import Derived.Test.YtlpgheniajdkfaaPar
import Derived.Test.YtlpgheniajdkfaaWq
namespace Go.Proofs.Ytlpgheniajdkfaa
open Go Go.W
set_option linter.unusedVariables false
set_option linter.unusedSimpArgs false
set_option maxRecDepth 20000
attribute [local irreducible] HL HC HQ HB Row Rows2 Blk Facts

theorem own_el {α : Type} [El α] (h1 : El.sz α = 1) {cur : Array Value} {l : List α} {i q : Nat} {v : Value} (h : cur.toList.take (l.length * 1) = rows l) (hi : i < l.length) (hq : q = i) (hv : El.cells (l.getD i default) = [v]) : cur[q]? = some v := by
  subst hq
  have h2 := rows_get0 hi (v := v) (by rw [hv]; rfl)
  rw [h1] at h2
  rw [← h, List.getElem?_take, if_pos (by omega), Nat.mul_one] at h2
  rw [← Array.getElem?_toList]
  exact h2
theorem take_set1 {α : Type} [El α] (h1 : El.sz α = 1) {cur : Array Value} {l : List α} {k : Nat} {v : Value} {a : α} (hv : El.cells a = [v]) (h : cur.toList.take (l.length * 1) = rows l) : (cur.setIfInBounds k v).toList.take ((l.set k a).length * 1) = rows (l.set k a) := by
  rw [Array.toList_setIfInBounds, List.length_set, List.take_set, h, rows_set1 h1 v a hv]
theorem grow_of1 {α : Type} [El α] (h1 : El.sz α = 1) {e : TypeId} {g cap : Nat} {cur : Array Value} {l : List α} (h3 : l.length ≤ cap) (h4 : cap ≤ maxLen) (h5 : cur.size = cap * 1) (h6 : cur.toList.take (l.length * 1) = rows l) : Grow e 1 (some ⟨g, 0, none⟩) l.length cap (rows l) [(g, Obj.cells cur e (0, 0))] :=
  ⟨by rw [rows_len, h1], .inr ⟨g, cur, rfl, rfl, h3, h4, h5, h6⟩⟩
abbrev wat (l : List Str) (i : Nat) : Str := l.getD i default
abbrev wle (a b : Str) : Prop := ¬ b < a
theorem wle_trans {a b c : Str} (h1 : wle a b) (h2 : wle b c) : wle a c := fun h => by
  rcases Classical.em (b < a) with h3 | h3
  · exact h1 h3
  · rcases Classical.em (a < b) with h4 | h4
    · exact h2 (List.lt_trans h h4)
    · rw [slt_tri h4 h3] at h; exact h2 h
theorem wle_of_lt {a b : Str} (h : a < b) : wle a b := fun h2 => slt_irr a (List.lt_trans h h2)
def srtTo (l : List Str) (m : Nat) : Prop := ∀ p q, p < q → q < m → wle (wat l p) (wat l q)
/-- Sorted but for the word at j, which is not greater than those after it. -/
structure InsOK (l : List Str) (i j : Nat) : Prop where
  o : ∀ p q, p < q → q ≤ i → ¬ p = j → ¬ q = j → wle (wat l p) (wat l q)
  a : ∀ q, j < q → q ≤ i → wle (wat l j) (wat l q)
theorem wat_set {l : List Str} {i j : Nat} {v : Str} (hi : i < l.length) : wat (l.set i v) j = if i = j then v else wat l j := by
  unfold wat
  rw [List.getD_eq_getElem?_getD, List.getD_eq_getElem?_getD, List.getElem?_set]
  split
  · rfl
  · rfl
def swp (l : List Str) (j : Nat) : List Str := (l.set (j + 1) (wat l j)).set j (wat l (j + 1))
theorem swp_len (l : List Str) (j : Nat) : (swp l j).length = l.length := by simp [swp]
theorem swp_perm {l : List Str} {j : Nat} (hj : j + 1 < l.length) : (swp l j).Perm l := by
  unfold swp wat
  rw [getD_at hj, getD_at (show j < l.length by omega)]
  exact List.set_set_perm hj (by omega)
theorem swp_at {l : List Str} {j k : Nat} (hj : j + 1 < l.length) : wat (swp l j) k = if k = j then wat l (j + 1) else if k = j + 1 then wat l j else wat l k := by
  unfold swp
  rw [wat_set (by simp; omega), wat_set (by omega)]
  by_cases h1 : k = j
  · rw [if_pos h1.symm, if_pos h1]
  · rw [if_neg (fun e => h1 e.symm), if_neg h1]
    by_cases h2 : k = j + 1
    · rw [if_pos h2.symm, if_pos h2]
    · rw [if_neg (fun e => h2 e.symm), if_neg h2]
theorem InsOK.start {l : List Str} {i : Nat} (h : srtTo l i) : InsOK l i i := ⟨fun p q h1 h2 h3 h4 => h p q h1 (by omega), fun q h1 h2 => by omega⟩
theorem InsOK.swap {l : List Str} {i j : Nat} (h : InsOK l i (j + 1)) (hi : i < l.length) (hj : j + 1 ≤ i) (hlt : wat l (j + 1) < wat l j) : InsOK (swp l j) i j := by
  have hj2 : j + 1 < l.length := by omega
  refine ⟨fun p q h1 h2 h3 h4 => ?_, fun q h1 h2 => ?_⟩
  · rw [swp_at hj2, swp_at hj2, if_neg h3, if_neg h4]
    by_cases hp : p = j + 1
    · rw [if_pos hp, if_neg (by omega)]
      exact h.o j q (by omega) h2 (by omega) (by omega)
    · rw [if_neg hp]
      by_cases hq : q = j + 1
      · rw [if_pos hq]
        exact h.o p j (by omega) (by omega) (by omega) (by omega)
      · rw [if_neg hq]
        exact h.o p q h1 h2 hp hq
  · rw [swp_at hj2, swp_at hj2, if_pos rfl, if_neg (by omega)]
    by_cases hq : q = j + 1
    · rw [if_pos hq]; exact wle_of_lt hlt
    · rw [if_neg hq]; exact h.a q (by omega) h2
theorem InsOK.done {l : List Str} {i j : Nat} (h : InsOK l i j) (hj : j ≤ i) (he : ∀ k, j = k + 1 → ¬ wat l j < wat l k) : srtTo l (i + 1) := by
  intro p q h1 h2
  by_cases hp : p = j
  · subst hp; exact h.a q h1 (by omega)
  · by_cases hq : q = j
    · subst hq
      obtain ⟨k, rfl⟩ : ∃ k, q = k + 1 := ⟨q - 1, by omega⟩
      have h3 : wle (wat l k) (wat l (k + 1)) := he k rfl
      by_cases hpk : p = k
      · subst hpk; exact h3
      · exact wle_trans (h.o p k (by omega) (by omega) hp (by omega)) h3
    · exact h.o p q h1 (by omega) hp hq
abbrev SrtW (ws l : List Str) : Prop := l.Perm ws ∧ srtTo l l.length
abbrev GrowS (A : Option Addr) (cap : Nat) (l : List Str) (og : Hp) : Prop := Grow T.string 1 A l.length cap (rows l) og
abbrev cmpF : Value := .func (.func F.strings_Compare) #[] #[]

set_option maxHeartbeats 1000000 in
theorem slices_insertionSortCmpFunc_string_meets {A : Option Addr} {cap : Nat} (ws : List Str) (og : Hp) (hG : GrowS A cap ws og) (hn : ws.length ≤ 1000000) :
    Meets Try.prog F.slices_insertionSortCmpFunc_string [.slice A ws.length cap, int (0 : Nat), int ws.length, cmpF] { hpI := og, inv := fun x : List Str × Hp => SrtW ws x.1 ∧ GrowS A cap x.1 x.2, val := fun _ => .tuple #[], hpO := fun x => x.2 } := by
 refine meets_intro F.slices_insertionSortCmpFunc_string_f rfl (Nat.le_of_ble_eq_true rfl) fun w0 => ?_
 refine hc_seq ?_
 refine hc_region ?_
 refine r_move rfl rfl ?_
 refine r_add ((1 : Nat) : Int) rfl rfl rfl (by rfl) (by unfold I64; omega) ?_
 refine r_assign rfl rfl ?_
 refine hl_nil ?_
 refine then_n ?_
 refine hc_block ?_
 refine hc_loop (β := Nat × List Str × Hp) ⟨fun x => 1 ≤ x.1 ∧ x.2.1.Perm ws ∧ srtTo x.2.1 x.1 ∧ GrowS A cap x.2.1 x.2.2, fun x => [(0, .slice A ws.length cap), (1, int (0 : Nat)), (2, int ws.length), (3, cmpF), (8, int x.1)], fun x => x.2.2, fun _ => []⟩ (fun x => ws.length - x.1) (1, ws, og) ⟨Nat.le_refl _, .refl _, fun p q h1 h2 => by omega, hG⟩ ⟨rfl, rfl, rfl, rfl, rfl, trivial⟩ (by first | (rw [List.append_nil]; exact List.Sublist.refl _) | exact List.Sublist.refl _) trivial fun x hx => ?_
 clear hG
 obtain ⟨i, l, og⟩ := x
 obtain ⟨hi0, hP, hS, hG⟩ := hx
 simp only at hi0 hP hS hG
 have hll : l.length = ws.length := hP.length_eq
 refine hc_seq ?_
 refine hc_seq ?_
 refine hc_region ?_
 refine r_move rfl rfl ?_
 refine r_move rfl rfl ?_
 refine r_lss rfl rfl rfl ?_
 refine hl_nil ?_
 refine then_n ?_
 first | refine c_dec rfl (fun hb1 => ?_) (fun hb1 => ?_) | refine hc_cond rfl (fun hb1 => ?_) (fun hb1 => ?_)
 ·have hb1' := hb1; try simp at hb1'
  have hi : i < ws.length := by omega
  obtain ⟨gd, cur, e1, e2, hnc, hcm, hcs, hct, _⟩ := hG.open_ (by omega)
  subst e1
  subst e2
  rw [hll] at hnc
  refine hc_skip ?_
  refine then_n ?_
  refine hc_seq ?_
  refine hc_block ?_
  refine hc_seq ?_
  refine hc_region ?_
  refine r_move rfl rfl ?_
  refine r_assign rfl rfl ?_
  refine hl_nil ?_
  refine then_n ?_
  refine hc_block ?_
  refine hc_loop (β := Nat × List Str × Array Value) ⟨fun x => x.1 ≤ i ∧ x.2.1.Perm ws ∧ InsOK x.2.1 i x.1 ∧ x.2.2.size = cap * 1 ∧ x.2.2.toList.take (x.2.1.length * 1) = rows x.2.1, fun x => [(0, .slice (some ⟨gd, 0, none⟩) ws.length cap), (1, int (0 : Nat)), (2, int ws.length), (3, cmpF), (8, int i), (9, int x.1)], fun x => [(gd, Obj.cells x.2.2 T.string (0, 0))], fun _ => []⟩ (fun x => x.1) (i, l, cur) ⟨Nat.le_refl _, hP, .start hS, hcs, hct⟩ ⟨rfl, rfl, rfl, rfl, rfl, rfl, trivial⟩ (List.Sublist.refl _) trivial fun x hx => ?_
  clear hG hS hcs hct hP hll
  obtain ⟨j, l, cur⟩ := x
  obtain ⟨hj, hP, hS, hcs, hct⟩ := hx
  simp only at hj hP hS hcs hct
  have hll : l.length = ws.length := hP.length_eq
  refine hc_seq ?_
  refine hc_seq ?_
  refine hc_draw 14 mixed (by decide) (by decide) rfl rfl ?_
  apply hb_ex _ rfl rfl rfl
  ·intro w1
   refine r_move rfl rfl ?_
   refine hl_nil ?_
   exact qe_done rfl
  apply hb_ex _ rfl rfl rfl
  ·intro w1
   refine r_move rfl rfl ?_
   refine hl_nil ?_
   exact qe_done rfl
  apply hb_ex _ rfl rfl rfl
  ·intro w1
   refine r_gtr rfl rfl rfl ?_
   refine hl_nil ?_
   exact qe_done rfl
  apply hb_ex _ rfl rfl rfl
  ·intro w1
   refine r_move rfl rfl ?_
   refine hl_nil ?_
   exact qe_done rfl
  refine hb_split (t := 21) (want := true) rfl ?_ ?_
  ·intro hg1; have hg1' := hg1; try simp at hg1'
   obtain ⟨k, rfl⟩ : ∃ k, j = k + 1 := ⟨j - 1, by simp at hg1; omega⟩
   apply hb_ex _ rfl rfl rfl
   ·intro w1
    refine g_yes rfl rfl hg1 ?_
    refine r_move rfl rfl ?_
    refine hl_nil ?_
    exact qe_done rfl
   apply hb_ex _ rfl rfl rfl
   ·intro w1
    refine g_yes rfl rfl hg1 ?_
    refine r_move rfl rfl ?_
    refine hl_nil ?_
    exact qe_done rfl
   apply hb_ex _ rfl rfl rfl
   ·intro w1
    refine g_yes rfl rfl hg1 ?_
    refine r_move rfl rfl ?_
    refine hl_nil ?_
    exact qe_done rfl
   apply hb_ex _ rfl rfl rfl
   ·intro w1
    refine g_yes rfl rfl hg1 ?_
    refine r_indexAddr_own (k + 1) (k + 1) rfl T.u_strs T.sz_string rfl rfl rfl (by omega) (by omega) ?_
    refine hl_nil ?_
    exact qe_done rfl
   apply hb_ex _ rfl rfl rfl
   ·intro w1
    refine g_yes rfl rfl hg1 ?_
    refine r_load (v := str (wat l (k + 1))) rfl T.cell_string rfl (cell_blk (by repeat constructor) (own_el rfl hct (by omega) rfl rfl)) ?_
    refine hl_nil ?_
    exact qe_done rfl
   apply hb_ex _ rfl rfl rfl
   ·intro w1
    refine g_yes rfl rfl hg1 ?_
    refine r_move rfl rfl ?_
    refine hl_nil ?_
    exact qe_done rfl
   apply hb_ex _ rfl rfl rfl
   ·intro w1
    refine g_yes rfl rfl hg1 ?_
    refine r_move rfl rfl ?_
    refine hl_nil ?_
    exact qe_done rfl
   apply hb_ex _ rfl rfl rfl
   ·intro w1
    refine g_yes rfl rfl hg1 ?_
    refine r_sub (k : Int) rfl rfl rfl (by omega) (by unfold I64; omega) ?_
    refine hl_nil ?_
    exact qe_done rfl
   apply hb_ex _ rfl rfl rfl
   ·intro w1
    refine g_yes rfl rfl hg1 ?_
    refine r_indexAddr_own (k) (k) rfl T.u_strs T.sz_string rfl rfl rfl (by omega) (by omega) ?_
    refine hl_nil ?_
    exact qe_done rfl
   apply hb_ex _ rfl rfl rfl
   ·intro w1
    refine g_yes rfl rfl hg1 ?_
    refine r_load (v := str (wat l k)) rfl T.cell_string rfl (cell_blk (by repeat constructor) (own_el rfl hct (by omega) rfl rfl)) ?_
    refine hl_nil ?_
    exact qe_done rfl
   refine hb_nil ⟨rfl, ?_⟩
   refine g_yes rfl rfl hg1 ?_
   refine hl_callv (vs := [str (wat l (k + 1)), str (wat l k)]) (cap := []) F.strings_Compare_cb rfl rfl rfl (strings_Compare_meets (wat l (k + 1)) (wat l k)) (List.Perm.refl _) trivial fun _ _ => ?_
   refine g_yes rfl rfl hg1 ?_
   refine r_lss rfl rfl rfl ?_
   refine p_t rfl rfl (bt1 hg1) rfl ?_
   refine hl_nil ?_
   refine then_n ?_
   first | refine c_dec rfl (fun hb2 => ?_) (fun hb2 => ?_) | refine hc_cond rfl (fun hb2 => ?_) (fun hb2 => ?_)
   ·have hb2' := hb2; try simp at hb2'
    refine hc_skip ?_
    refine then_n ?_
    refine hc_seq ?_
    refine hc_block ?_
    refine hc_drawW ([(gd, Obj.cells cur T.string (0, 0))]) ([]) (List.Perm.refl _) 16 [15, 1000013, 1000009] mixed (by decide) (by decide) (by decide) rfl rfl rfl ?_
    apply hb_ex _ rfl rfl rfl
    ·intro w1
     refine r_move rfl rfl ?_
     refine hl_nil ?_
     exact qe_done rfl
    apply hb_ex _ rfl rfl rfl
    ·intro w1
     refine r_move rfl rfl ?_
     refine hl_nil ?_
     exact qe_done rfl
    apply hb_ex _ rfl rfl rfl
    ·intro w1
     refine r_move rfl rfl ?_
     refine hl_nil ?_
     exact qe_done rfl
    apply hb_ex _ rfl rfl rfl
    ·intro w1
     refine r_move rfl rfl ?_
     refine hl_nil ?_
     exact qe_done rfl
    apply hb_ex _ rfl rfl rfl
    ·intro w1
     refine r_sub (k : Int) rfl rfl rfl (by omega) (by unfold I64; omega) ?_
     refine hl_nil ?_
     exact qe_done rfl
    apply hb_ex _ rfl rfl rfl
    ·intro w1
     refine r_move rfl rfl ?_
     refine hl_nil ?_
     exact qe_done rfl
    apply hb_ex _ rfl rfl rfl
    ·intro w1
     refine r_move rfl rfl ?_
     refine hl_nil ?_
     exact qe_done rfl
    apply hb_ex _ rfl rfl rfl
    ·intro w1
     refine r_sub (k : Int) rfl rfl rfl (by omega) (by unfold I64; omega) ?_
     refine hl_nil ?_
     exact qe_done rfl
    apply hb_ex _ rfl rfl rfl
    ·intro w1
     refine r_indexAddr_own (k) (k) rfl T.u_strs T.sz_string rfl rfl rfl (by omega) (by omega) ?_
     refine hl_nil ?_
     exact qe_done rfl
    refine hb_rd (str (wat l k)) rfl rfl rfl ?_ ?_
    ·intro w1
     refine r_load (v := str (wat l k)) rfl T.cell_string rfl (cell_blk (by repeat constructor) (own_el rfl hct (by omega) rfl rfl)) ?_
     refine hl_nil ?_
     exact qe_done rfl
    apply hb_ex _ rfl rfl rfl
    ·intro w1
     refine r_move rfl rfl ?_
     refine hl_nil ?_
     exact qe_done rfl
    apply hb_ex _ rfl rfl rfl
    ·intro w1
     refine r_move rfl rfl ?_
     refine hl_nil ?_
     exact qe_done rfl
    apply hb_ex _ rfl rfl rfl
    ·intro w1
     refine r_indexAddr_own (k + 1) (k + 1) rfl T.u_strs T.sz_string rfl rfl rfl (by omega) (by omega) ?_
     refine hl_nil ?_
     exact qe_done rfl
    refine hb_rd (str (wat l (k + 1))) rfl rfl rfl ?_ ?_
    ·intro w1
     refine r_load (v := str (wat l (k + 1))) rfl T.cell_string rfl (cell_blk (by repeat constructor) (own_el rfl hct (by omega) rfl rfl)) ?_
     refine hl_nil ?_
     exact qe_done rfl
    apply hb_ex _ rfl rfl rfl
    ·intro w1
     refine r_indexAddr_own (k + 1) (k + 1) rfl T.u_strs T.sz_string rfl rfl rfl (by omega) (by omega) ?_
     refine hl_nil ?_
     exact qe_done rfl
    refine hb_st ⟨Unit, fun _ => True, fun _ => undef, fun _ => [], fun _ => [(gd, Obj.cells (cur.setIfInBounds (k + 1) (str (wat l k))) T.string (0, 0))]⟩ rfl rfl ?_ ?_
    ·intro _ _; intro w1
     refine r_store rfl rfl (.refl _) T.sz_string (own_el rfl hct (show k + 1 < l.length by omega) rfl rfl) (by rfl) ?_
     refine hl_nil ?_
     exact qw_done () trivial (fun h => by cases h) (.refl _) trivial
    refine hb_nil ⟨rfl, ?_⟩
    intro _ _ _ _ _ _
    have hct1 := take_set1 (α := Str) (k := k + 1) (a := wat l k) rfl rfl hct
    refine r_indexAddr_own (k) (k) rfl T.u_strs T.sz_string rfl rfl rfl (by omega) (by omega) ?_
    refine r_store rfl rfl (.refl _) T.sz_string (own_el rfl hct1 (show k < _ by simp; omega) rfl rfl) (by rfl) ?_
    have hct2 := take_set1 (α := Str) (k := k) (a := wat l (k + 1)) rfl rfl hct1
    refine hl_nil ?_
    refine inb_n ?_
    refine then_n ?_
    refine hc_region ?_
    refine r_move rfl rfl ?_
    refine r_sub (k : Int) rfl rfl rfl (by omega) (by unfold I64; omega) ?_
    refine r_assign rfl rfl ?_
    refine hl_nil ?_
    exact again _ (k, swp l k, (cur.setIfInBounds (k + 1) (str (wat l k))).setIfInBounds k (str (wat l (k + 1)))) ⟨by show k ≤ i; omega, (swp_perm (by omega)).trans hP, hS.swap (by omega) hj ((cmpW_lt _ _).1 (by simpa using hb2)), by show (Array.setIfInBounds _ _ _).size = _; rw [Array.size_setIfInBounds, Array.size_setIfInBounds]; exact hcs, hct2⟩ (by show k < k + 1; omega) ⟨rfl, rfl, rfl, rfl, rfl, rfl, trivial⟩ (List.Sublist.refl _) trivial
   ·have hb2' := hb2; try simp at hb2'
    refine hc_exit ?_
    refine then_exit ?_
    refine then_exit ?_
    refine inb_hit ?_
    refine inb_n ?_
    refine then_n ?_
    refine hc_region ?_
    refine r_move rfl rfl ?_
    refine r_add _ rfl rfl rfl rfl (by unfold I64; omega) ?_
    refine r_assign rfl rfl ?_
    refine hl_nil ?_
    exact again _ (i + 1, l, [(gd, Obj.cells cur T.string (0, 0))]) ⟨by show 1 ≤ i + 1; omega, hP, hS.done hj (fun q hq hlt => by obtain rfl : k = q := (by omega); exact hb2 (by simpa using (cmpW_lt _ _).2 hlt)), grow_of1 rfl (by show l.length ≤ cap; omega) hcm hcs hct⟩ (by show ws.length - (i + 1) < ws.length - i; omega) ⟨rfl, rfl, rfl, rfl, rfl, trivial⟩ (List.Sublist.refl _) trivial
  ·intro hg1; have hg1' := hg1; try simp at hg1'
   have hj0 : j = 0 := by simp at hg1; omega
   subst hj0
   apply hb_ex _ rfl rfl rfl
   ·intro w1
    refine g_no rfl rfl rfl rfl rfl hg1 ?_
    refine hl_nil ?_
    exact qe_done rfl
   apply hb_ex _ rfl rfl rfl
   ·intro w1
    refine g_no rfl rfl rfl rfl rfl hg1 ?_
    refine hl_nil ?_
    exact qe_done rfl
   apply hb_ex _ rfl rfl rfl
   ·intro w1
    refine g_no rfl rfl rfl rfl rfl hg1 ?_
    refine hl_nil ?_
    exact qe_done rfl
   apply hb_ex _ rfl rfl rfl
   ·intro w1
    refine g_no rfl rfl rfl rfl rfl hg1 ?_
    refine hl_nil ?_
    exact qe_done rfl
   apply hb_ex _ rfl rfl rfl
   ·intro w1
    refine g_no rfl rfl rfl rfl rfl hg1 ?_
    refine hl_nil ?_
    exact qe_done rfl
   apply hb_ex _ rfl rfl rfl
   ·intro w1
    refine g_no rfl rfl rfl rfl rfl hg1 ?_
    refine hl_nil ?_
    exact qe_done rfl
   apply hb_ex _ rfl rfl rfl
   ·intro w1
    refine g_no rfl rfl rfl rfl rfl hg1 ?_
    refine hl_nil ?_
    exact qe_done rfl
   apply hb_ex _ rfl rfl rfl
   ·intro w1
    refine g_no rfl rfl rfl rfl rfl hg1 ?_
    refine hl_nil ?_
    exact qe_done rfl
   apply hb_ex _ rfl rfl rfl
   ·intro w1
    refine g_no rfl rfl rfl rfl rfl hg1 ?_
    refine hl_nil ?_
    exact qe_done rfl
   apply hb_ex _ rfl rfl rfl
   ·intro w1
    refine g_no rfl rfl rfl rfl rfl hg1 ?_
    refine hl_nil ?_
    exact qe_done rfl
   refine hb_nil ⟨rfl, ?_⟩
   refine g_no rfl rfl rfl rfl rfl hg1 ?_
   refine g_no rfl rfl rfl rfl rfl hg1 ?_
   refine p_f rfl rfl (bf2 hg1) rfl ?_
   refine hl_nil ?_
   refine then_n ?_
   refine c_f rfl rfl ?_
   refine hc_exit ?_
   refine then_exit ?_
   refine then_exit ?_
   refine inb_hit ?_
   refine inb_n ?_
   refine then_n ?_
   refine hc_region ?_
   refine r_move rfl rfl ?_
   refine r_add _ rfl rfl rfl rfl (by unfold I64; omega) ?_
   refine r_assign rfl rfl ?_
   refine hl_nil ?_
   exact again _ (i + 1, l, [(gd, Obj.cells cur T.string (0, 0))]) ⟨by show 1 ≤ i + 1; omega, hP, hS.done hj (fun q hq => by omega), grow_of1 rfl (by show l.length ≤ cap; omega) hcm hcs hct⟩ (by show ws.length - (i + 1) < ws.length - i; omega) ⟨rfl, rfl, rfl, rfl, rfl, trivial⟩ (List.Sublist.refl _) trivial
 ·have hb1' := hb1; try simp at hb1'
  refine hc_exit ?_
  refine then_exit ?_
  refine then_exit ?_
  refine inb_hit ?_
  exact ret0n (l, og) rfl rfl rfl ⟨⟨hP, fun p q h1 h2 => hS p q h1 (by have h3 : q < l.length := h2; omega)⟩, hG⟩ (List.Sublist.refl _) trivial

theorem i64_u8 (u : UInt8) : IntKind.i64.wrap (u.toNat : Int) = u.toNat := IntWalk.i64_in _ (by have := u.toNat_lt; omega)
theorem i64_b (u : UInt8) : I64 ((0 : Int) + (u.toNat : Int)) := by have := u.toNat_lt; unfold I64; omega

theorem math_bits_Len64_meets (n : Nat) (hn : n ≤ 12) : Meets Try.prog F.math_bits_Len64 [.int .u64 (n : Int)] { inv := fun _ : Int => True, val := fun z => int z } := by
 refine meets_intro F.math_bits_Len64_f rfl (Nat.le_of_ble_eq_true rfl) fun w0 => ?_
 refine hc_seq ?_
 refine hc_region ?_
 refine r_assign rfl rfl ?_
 refine hl_nil ?_
 refine then_n ?_
 refine hc_seq ?_
 refine hc_seq ?_
 refine hc_region ?_
 refine r_move rfl rfl ?_
 refine r_geq rfl rfl rfl ?_
 refine hl_nil ?_
 refine then_n ?_
 first | refine c_dec rfl (fun hb1 => ?_) (fun hb1 => ?_) | refine hc_cond rfl (fun hb1 => ?_) (fun hb1 => ?_)
 ·exact absurd hb1 (by omega)
 ·have hb1' := hb1; try simp at hb1'
  refine hc_skip ?_
  refine then_n ?_
  refine hc_seq ?_
  refine hc_seq ?_
  refine hc_region ?_
  refine r_move rfl rfl ?_
  refine r_geq rfl rfl rfl ?_
  refine hl_nil ?_
  refine then_n ?_
  first | refine c_dec rfl (fun hb2 => ?_) (fun hb2 => ?_) | refine hc_cond rfl (fun hb2 => ?_) (fun hb2 => ?_)
  ·exact absurd hb2 (by omega)
  ·have hb2' := hb2; try simp at hb2'
   refine hc_skip ?_
   refine then_n ?_
   refine hc_seq ?_
   refine hc_seq ?_
   refine hc_region ?_
   refine r_move rfl rfl ?_
   refine r_geq rfl rfl rfl ?_
   refine hl_nil ?_
   refine then_n ?_
   first | refine c_dec rfl (fun hb3 => ?_) (fun hb3 => ?_) | refine hc_cond rfl (fun hb3 => ?_) (fun hb3 => ?_)
   ·exact absurd hb3 (by omega)
   ·have hb3' := hb3; try simp at hb3'
    refine hc_skip ?_
    refine then_n ?_
    refine hc_seq ?_
    refine hc_region ?_
    refine r_move rfl rfl ?_
    refine r_move rfl rfl ?_
    refine r_conv (n : Int) rfl T.u_u64 T.u_u8 rfl (wrap8 (by omega)) ?_
    refine r_index_str n rfl T.u_string rfl rfl rfl (List.getElem?_eq_getElem (show n < 256 by omega)) ?_
    refine r_conv _ rfl T.u_u8 T.u_int rfl (i64_u8 _) ?_
    refine r_add _ rfl rfl rfl rfl (i64_b _) ?_
    refine r_assign rfl rfl ?_
    refine hl_nil ?_
    refine then_n ?_
    refine hc_ret ?_
    exact ret1 _ rfl rfl rfl trivial (List.nil_sublist _) trivial

theorem math_bits_Len_meets (n : Nat) (hn : n ≤ 12) : Meets Try.prog F.math_bits_Len [.int .u64 (n : Int)] { inv := fun _ : Int => True, val := fun z => int z } := by
 refine meets_intro F.math_bits_Len_f rfl (Nat.le_of_ble_eq_true rfl) fun w0 => ?_
 refine hc_seq ?_
 refine hc_region ?_
 refine r_assign rfl rfl ?_
 refine hl_nil ?_
 refine then_n ?_
 refine hc_seq ?_
 refine c_f rfl rfl ?_
 refine hc_skip ?_
 refine then_n ?_
 refine hc_seq ?_
 refine hc_region ?_
 refine r_move rfl rfl ?_
 refine hl_call F.math_bits_Len64_cb rfl rfl (math_bits_Len64_meets n hn) (.refl _) trivial fun z _ => ?_
 refine r_assign rfl rfl ?_
 refine hl_nil ?_
 refine then_n ?_
 refine hc_ret ?_
 exact ret1 z rfl rfl rfl trivial (List.nil_sublist _) trivial

theorem slices_pdqsortCmpFunc_string_meets {A : Option Addr} {cap : Nat} (ws : List Str) (og : Hp) (z : Int) (hG : GrowS A cap ws og) (hn : ws.length ≤ 12) : Meets Try.prog F.slices_pdqsortCmpFunc_string [.slice A ws.length cap, int (0 : Nat), int ws.length, int z, cmpF] { hpI := og, inv := fun x : List Str × Hp => SrtW ws x.1 ∧ GrowS A cap x.1 x.2, val := fun _ => .tuple #[], hpO := fun x => x.2 } := by
 refine meets_intro F.slices_pdqsortCmpFunc_string_f rfl (Nat.le_of_ble_eq_true rfl) fun w0 => ?_
 refine hc_seq ?_
 refine hc_region ?_
 refine r_assign rfl rfl ?_
 refine hl_nil ?_
 refine then_n ?_
 refine hc_seq ?_
 refine hc_region ?_
 refine r_assign rfl rfl ?_
 refine hl_nil ?_
 refine then_n ?_
 refine hc_block ?_
 refine hc_loop (β := Unit) ⟨fun _ => True, fun _ => [(0, .slice A ws.length cap), (1, int (0 : Nat)), (2, int ws.length), (3, int z), (4, cmpF)], fun _ => og, fun _ => []⟩ (fun _ => 0) () trivial ⟨rfl, rfl, rfl, rfl, rfl, trivial⟩ (List.Sublist.refl _) trivial fun _ _ => ?_
 refine hc_block ?_
 refine hc_seq ?_
 refine hc_region ?_
 refine r_move rfl rfl ?_
 refine r_move rfl rfl ?_
 refine r_sub _ rfl rfl rfl rfl (by unfold I64; omega) ?_
 refine r_assign rfl rfl ?_
 refine hl_nil ?_
 refine then_n ?_
 refine hc_seq ?_
 refine hc_seq ?_
 refine hc_region ?_
 refine r_move rfl rfl ?_
 refine r_leq rfl rfl rfl ?_
 refine hl_nil ?_
 refine then_n ?_
 first | refine c_dec rfl (fun hb1 => ?_) (fun hb1 => ?_) | refine hc_cond rfl (fun hb1 => ?_) (fun hb1 => ?_)
 ·have hb1' := hb1; try simp at hb1'
  refine hc_seq ?_
  refine hc_region ?_
  refine r_move rfl rfl ?_
  refine r_move rfl rfl ?_
  refine r_move rfl rfl ?_
  refine r_move rfl rfl ?_
  refine hl_call (hpR := []) F.slices_insertionSortCmpFunc_string_cb rfl rfl (slices_insertionSortCmpFunc_string_meets ws og hG (by omega)) (by first | (rw [List.append_nil]; done) | (rw [List.append_nil]; exact List.Perm.refl _) | exact List.Perm.refl _) trivial fun x hx => ?_
  refine hl_nil ?_
  refine then_n ?_
  refine hc_ret ?_
  refine then_ret ?_
  refine inb_ret ?_
  refine then_ret ?_
  refine inb_ret ?_
  exact ret0 x rfl rfl rfl hx (List.sublist_append_left _ _) trivial
 ·exact absurd (by omega) hb1

theorem slices_SortFunc_strs_meets {A : Option Addr} {cap : Nat} (ws : List Str) (og : Hp) (hG : GrowS A cap ws og) (hn : ws.length ≤ 12) : Meets Try.prog F.slices_SortFunc_strs [.slice A ws.length cap, cmpF] { hpI := og, inv := fun x : List Str × Hp => SrtW ws x.1 ∧ GrowS A cap x.1 x.2, val := fun _ => .tuple #[], hpO := fun x => x.2 } := by
 refine meets_intro F.slices_SortFunc_strs_f rfl (Nat.le_of_ble_eq_true rfl) fun w0 => ?_
 refine hc_seq ?_
 refine hc_region ?_
 refine r_move rfl rfl ?_
 refine r_len_sl rfl T.u_strs rfl ?_
 refine r_assign rfl rfl ?_
 refine hl_nil ?_
 refine then_n ?_
 refine hc_region ?_
 refine r_move rfl rfl ?_
 refine r_move rfl rfl ?_
 refine r_move rfl rfl ?_
 refine r_conv (ws.length : Int) rfl T.u_int T.u_uint rfl (IntWalk.u64_in _ (by omega)) ?_
 refine hl_call F.math_bits_Len_cb rfl rfl (math_bits_Len_meets ws.length hn) (.refl _) trivial fun z _ => ?_
 refine r_move rfl rfl ?_
 refine hl_call (hpR := []) F.slices_pdqsortCmpFunc_string_cb rfl rfl (slices_pdqsortCmpFunc_string_meets ws og z hG hn) (by first | (rw [List.append_nil]; done) | (rw [List.append_nil]; exact List.Perm.refl _) | exact List.Perm.refl _) trivial fun x hx => ?_
 refine hl_nil ?_
 exact ret0n x rfl rfl rfl hx (List.sublist_append_left _ _) trivial

end Go.Proofs.Ytlpgheniajdkfaa
