/- Walks of Common, within, price. -/
import Derived.Test.YtpbbgbjidhffoaaPo
namespace Go.Proofs.Ytpbbgbjidhffoaa
open Go Go.W
set_option linter.unusedVariables false
set_option linter.unusedSimpArgs false
set_option maxRecDepth 20000
attribute [local irreducible] HL HC HQ HB Row Rows2 Blk Facts

/-- One step of the table of common lines. -/
def stepC (b : List Str) (x : Str) (st : List Int × Int) (k : Nat) : List Int × Int :=
  (st.1.set (k + 1) (if x = b.getD k default then st.2 + 1 else if st.1.getD k default > st.1.getD (k + 1) default then st.1.getD k default else st.1.getD (k + 1) default), st.1.getD (k + 1) default)
def rowC (b : List Str) (cur : List Int) (x : Str) : List Int := ((List.range b.length).foldl (stepC b x) (cur, 0)).1
def zeroC (b : List Str) : List Int := List.replicate (b.length + 1) 0
def commonI (a b : List Str) : Int := (a.foldl (rowC b) (zeroC b)).getD b.length default
structure BdC (m i k : Nat) (st : List Int × Int) : Prop where
  len : st.1.length = m + 1
  c0 : 0 ≤ st.2
  c1 : st.2 ≤ i
  lo : ∀ j : Nat, 0 ≤ st.1.getD j default
  hi : ∀ j : Nat, j ≤ k → st.1.getD j default ≤ (i : Int) + 1
  hi2 : ∀ j : Nat, k < j → st.1.getD j default ≤ i
theorem getD_set' {l : List Int} {k j : Nat} {v : Int} (hk : k < l.length) : (l.set k v).getD j default = if k = j then v else l.getD j default := by
  rw [List.getD_eq_getElem?_getD, List.getD_eq_getElem?_getD, List.getElem?_set]
  split
  · rfl
  · rfl
theorem BdC.step {m i k : Nat} {st : List Int × Int} (h : BdC m i k st) (b : List Str) (x : Str) (hk : k < m) : BdC m i (k + 1) (stepC b x st k) := by
  have hl : k + 1 < st.1.length := by rw [h.len]; omega
  have h1 := h.lo k
  have h2 := h.hi k (Nat.le_refl _)
  have h3 := h.lo (k + 1)
  have h4 := h.hi2 (k + 1) (by omega)
  have h5 := h.c0
  have h6 := h.c1
  refine ⟨by simp [stepC, h.len], h3, h4, fun j => ?_, fun j hj => ?_, fun j hj => ?_⟩
  · show 0 ≤ (st.1.set (k + 1) _).getD j default
    rw [getD_set' hl]
    split
    · split
      · omega
      · split <;> omega
    · exact h.lo j
  · show (st.1.set (k + 1) _).getD j default ≤ _
    rw [getD_set' hl]
    split
    · split
      · omega
      · split <;> omega
    · exact h.hi j (by omega)
  · show (st.1.set (k + 1) _).getD j default ≤ _
    rw [getD_set' hl, if_neg (by omega)]
    exact h.hi2 j (by omega)
def arrB (g : Nat) (l : List Int) : Nat × Obj := (g, .cells (rows l).toArray T.int (0, 0))
theorem arr_set {g k : Nat} {l : List Int} {v : Int} : ((g, Obj.cells ((rows l).toArray.setIfInBounds k (int v)) T.int (0, 0)) : Nat × Obj) = arrB g (l.set k v) := by
  unfold arrB
  rw [rows_arr (α := Int) rfl l k (int v) v rfl]


set_option maxHeartbeats 400000 in
theorem kit_Common_meets {A B : Option Addr} {ca cb : Nat} (a b : List Str) (ha : a.length ≤ 1000000) (hb : b.length ≤ 1000000) : Meets Try.prog F.kit_Common [.slice A a.length ca, .slice B b.length cb] { LI := [Row A (rows a), Row B (rows b)], val := fun _ : Unit => int (commonI a b) } := by
 refine meets_intro F.kit_Common_f rfl (Nat.le_of_ble_eq_true rfl) fun w0 => ?_
 refine hc_seq ?_
 refine hc_region ?_
 refine r_assign rfl rfl ?_
 refine hl_nil ?_
 refine then_n ?_
 refine hc_seq ?_
 refine hc_region ?_
 refine r_move rfl rfl ?_
 refine r_len_sl rfl T.u_strs rfl ?_
 refine r_add _ rfl rfl rfl rfl (by unfold I64; omega) ?_
 refine r_make1 (n := b.length + 1) rfl T.u_ints T.zi_ints rfl rfl rfl rfl (by omega) (by omega) fun gA => ?_
 rw [← rows_replicate (α := Int) _ 0 _ rfl]
 refine r_assign rfl rfl ?_
 refine hl_nil ?_
 refine then_n ?_
 refine hc_seq ?_
 refine hc_seq ?_
 refine hc_region ?_
 refine r_assign rfl rfl ?_
 refine hl_nil ?_
 refine then_n ?_
 refine hc_block ?_
 refine hc_loop (β := Nat × List Int) ⟨fun ⟨i, cur⟩ => i ≤ a.length ∧ (a.take i).foldl (rowC b) (zeroC b) = cur ∧ cur.length = b.length + 1 ∧ ∀ j : Nat, 0 ≤ cur.getD j default ∧ cur.getD j default ≤ i, fun ⟨i, cur⟩ => [(0, .slice A a.length ca), (1, .slice B b.length cb), (5, .slice (some ⟨gA, 0, none⟩) (b.length + 1) (b.length + 1)), (6, int i)], fun ⟨i, cur⟩ => [arrB gA cur], fun _ => [Row A (rows a), Row B (rows b)]⟩ (fun x => a.length - x.1) (0, zeroC b)
   ⟨Nat.zero_le _, rfl, by simp [zeroC], fun j => by rw [zeroC, List.getD_eq_getElem?_getD, List.getElem?_replicate]; split <;> exact ⟨Int.le_refl _, Int.le_refl _⟩⟩ ⟨rfl, rfl, rfl, rfl, trivial⟩ (.refl _) ⟨m0, m1, trivial⟩ fun x hx => ?_
 obtain ⟨i, cur⟩ := x
 obtain ⟨hi, hcur, hlen, hbd0⟩ := hx
 refine hc_seq ?_
 refine hc_seq ?_
 refine hc_region ?_
 refine r_move rfl rfl ?_
 refine r_move rfl rfl ?_
 refine r_len_sl rfl T.u_strs rfl ?_
 refine r_lss rfl rfl rfl ?_
 refine hl_nil ?_
 refine then_n ?_
 first | refine c_dec rfl (fun hb1 => ?_) (fun hb1 => ?_) | refine hc_cond rfl (fun hb1 => ?_) (fun hb1 => ?_)
 ·have hb1' := hb1; try simp at hb1'
  have hi2 : i < a.length := by omega
  refine hc_skip ?_
  refine then_n ?_
  refine hc_seq ?_
  refine hc_block ?_
  refine hc_seq ?_
  refine hc_region ?_
  refine r_assign rfl rfl ?_
  refine hl_nil ?_
  refine then_n ?_
  refine hc_seq ?_
  refine hc_region ?_
  refine r_assign rfl rfl ?_
  refine hl_nil ?_
  refine then_n ?_
  refine hc_block ?_
  refine hc_loop (β := Nat × List Int × Int) ⟨fun ⟨k, cur2, co⟩ => k ≤ b.length ∧ (List.range k).foldl (stepC b (a.getD i default)) (cur, 0) = (cur2, co) ∧ BdC b.length i k (cur2, co), fun ⟨k, cur2, co⟩ => [(0, .slice A a.length ca), (1, .slice B b.length cb), (5, .slice (some ⟨gA, 0, none⟩) (b.length + 1) (b.length + 1)), (6, int i), (7, int co), (8, int k)], fun ⟨k, cur2, co⟩ => [arrB gA cur2], fun _ => [Row A (rows a), Row B (rows b)]⟩ (fun x => b.length - x.1) (0, cur, 0)
    ⟨Nat.zero_le _, rfl, ⟨hlen, Int.le_refl _, by simp only; omega, fun j => (hbd0 j).1, fun j hj => by have := (hbd0 j).2; simp only; omega, fun j hj => (hbd0 j).2⟩⟩ ⟨rfl, rfl, rfl, rfl, rfl, rfl, trivial⟩ (.refl _) ⟨m0, m1, trivial⟩ fun x hx => ?_
  obtain ⟨k, cur2, co⟩ := x
  obtain ⟨hk, hfold, hbd⟩ := hx
  have hco0 := hbd.c0
  have hco1 := hbd.c1
  have hl2 := hbd.len
  simp only at hco0 hco1 hl2
  refine hc_seq ?_
  refine hc_seq ?_
  refine hc_region ?_
  refine r_move rfl rfl ?_
  refine r_move rfl rfl ?_
  refine r_len_sl rfl T.u_strs rfl ?_
  refine r_lss rfl rfl rfl ?_
  refine hl_nil ?_
  refine then_n ?_
  first | refine c_dec rfl (fun hb2 => ?_) (fun hb2 => ?_) | refine hc_cond rfl (fun hb2 => ?_) (fun hb2 => ?_)
  ·have hb2' := hb2; try simp at hb2'
   have hk2 : k < b.length := by omega
   have hstep := hbd.step b (a.getD i default) hk2
   have hfold2 : (List.range (k + 1)).foldl (stepC b (a.getD i default)) (cur, 0) = stepC b (a.getD i default) (cur2, co) k := by rw [List.range_succ, List.foldl_append, hfold]; rfl
   refine hc_skip ?_
   refine then_n ?_
   refine hc_seq ?_
   refine hc_block ?_
   refine hc_seq ?_
   refine hc_region ?_
   refine r_move rfl rfl ?_
   refine r_move rfl rfl ?_
   refine r_add _ rfl rfl rfl rfl (by unfold I64; omega) ?_
   refine r_indexAddr_own (k + 1) (k + 1) rfl T.u_ints T.sz_int rfl rfl rfl (by omega) (by omega) ?_
   refine r_load rfl T.cell_int rfl (cell_own m0 (rows_at rfl (l := cur2) (k := k + 1) (by rw [hbd.len]; omega) rfl)) ?_
   refine r_assign rfl rfl ?_
   refine hl_nil ?_
   refine then_n ?_
   refine hc_seq ?_
   refine hc_seq ?_
   refine hc_draw 8 mixed (by decide) (by decide) rfl rfl ?_
   apply hb_ex _ rfl rfl rfl
   ·intro w1
    refine r_move rfl rfl ?_
    refine hl_nil ?_
    exact qe_done rfl
   apply hb_ex _ rfl rfl rfl
   ·intro w1
    refine r_move rfl rfl ?_
    refine hl_nil ?_
    exact qe_done rfl
   apply hb_ex _ rfl rfl rfl
   ·intro w1
    refine r_elem (α := Str) _ _ rfl T.u_strs T.sz_string rfl rfl rfl (by repeat constructor) rfl (by omega) (by decide) ?_
    refine hl_nil ?_
    exact qe_done rfl
   apply hb_ex _ rfl rfl rfl
   ·intro w1
    refine r_load rfl T.cell_string rfl (cell_row (by repeat constructor) (rows_get0 (by omega) rfl)) ?_
    refine hl_nil ?_
    exact qe_done rfl
   apply hb_ex _ rfl rfl rfl
   ·intro w1
    refine r_move rfl rfl ?_
    refine hl_nil ?_
    exact qe_done rfl
   apply hb_ex _ rfl rfl rfl
   ·intro w1
    refine r_move rfl rfl ?_
    refine hl_nil ?_
    exact qe_done rfl
   apply hb_ex _ rfl rfl rfl
   ·intro w1
    refine r_elem (α := Str) _ _ rfl T.u_strs T.sz_string rfl rfl rfl (by repeat constructor) rfl (by omega) (by decide) ?_
    refine hl_nil ?_
    exact qe_done rfl
   apply hb_ex _ rfl rfl rfl
   ·intro w1
    refine r_load rfl T.cell_string rfl (cell_row (by repeat constructor) (rows_get0 (by omega) rfl)) ?_
    refine hl_nil ?_
    exact qe_done rfl
   refine hb_nil ⟨rfl, ?_⟩
   refine r_seql rfl rfl rfl ?_
   refine hl_nil ?_
   refine then_n ?_
   first | refine c_dec rfl (fun hb3 => ?_) (fun hb3 => ?_) | refine hc_cond rfl (fun hb3 => ?_) (fun hb3 => ?_)
   ·have hb3' := hb3; try simp at hb3'
    have e : stepC b (a.getD i default) (cur2, co) k = (cur2.set (k + 1) (co + 1), cur2.getD (k + 1) default) := by rw [stepC, if_pos hb3]
    refine hc_region ?_
    refine r_move rfl rfl ?_
    refine r_move rfl rfl ?_
    refine r_add _ rfl rfl rfl rfl (by unfold I64; omega) ?_
    refine r_move rfl rfl ?_
    refine r_add _ rfl rfl rfl rfl (by unfold I64; omega) ?_
    refine r_indexAddr_own (k + 1) (k + 1) rfl T.u_ints T.sz_int rfl rfl rfl (by omega) (by omega) ?_
    refine r_store rfl rfl (.refl _) T.sz_int (rows_at rfl (l := cur2) (k := k + 1) (by rw [hl2]; omega) rfl) (by rfl) ?_
    refine hl_nil ?_
    refine then_n ?_
    rw [arr_set]
    rw [e] at hfold2 hstep
    refine hc_region ?_
    refine r_move rfl rfl ?_
    refine r_assign rfl rfl ?_
    refine hl_nil ?_
    refine inb_n ?_
    refine then_n ?_
    refine hc_region ?_
    refine r_move rfl rfl ?_
    refine r_add _ rfl rfl rfl rfl (by unfold I64; omega) ?_
    refine r_assign rfl rfl ?_
    refine hl_nil ?_
    exact again _ (k + 1, _, _) ⟨by omega, hfold2, hstep⟩ (by show b.length - (k + 1) < b.length - k; omega) ⟨rfl, rfl, rfl, rfl, rfl, rfl, trivial⟩ (.refl _) ⟨m0, m1, trivial⟩
   ·have hb3' := hb3; try simp at hb3'
    have e : stepC b (a.getD i default) (cur2, co) k = (cur2.set (k + 1) (if cur2.getD k default > cur2.getD (k + 1) default then cur2.getD k default else cur2.getD (k + 1) default), cur2.getD (k + 1) default) := by rw [stepC, if_neg hb3]
    refine hc_region ?_
    refine r_move rfl rfl ?_
    refine r_move rfl rfl ?_
    refine r_add _ rfl rfl rfl rfl (by unfold I64; omega) ?_
    refine r_move rfl rfl ?_
    refine r_move rfl rfl ?_
    refine r_move rfl rfl ?_
    refine r_indexAddr_own (k) (k) rfl T.u_ints T.sz_int rfl rfl rfl (by omega) (by omega) ?_
    refine r_load rfl T.cell_int rfl (cell_own m0 (rows_at rfl (l := cur2) (k := k) (by rw [hbd.len]; omega) rfl)) ?_
    refine r_max _ rfl rfl rfl rfl ?_
    refine r_indexAddr_own (k + 1) (k + 1) rfl T.u_ints T.sz_int rfl rfl rfl (by omega) (by omega) ?_
    refine r_store rfl rfl (.refl _) T.sz_int (rows_at rfl (l := cur2) (k := k + 1) (by rw [hl2]; omega) rfl) (by rfl) ?_
    refine hl_nil ?_
    refine then_n ?_
    rw [arr_set]
    rw [e] at hfold2 hstep
    refine hc_region ?_
    refine r_move rfl rfl ?_
    refine r_assign rfl rfl ?_
    refine hl_nil ?_
    refine inb_n ?_
    refine then_n ?_
    refine hc_region ?_
    refine r_move rfl rfl ?_
    refine r_add _ rfl rfl rfl rfl (by unfold I64; omega) ?_
    refine r_assign rfl rfl ?_
    refine hl_nil ?_
    exact again _ (k + 1, _, _) ⟨by omega, hfold2, hstep⟩ (by show b.length - (k + 1) < b.length - k; omega) ⟨rfl, rfl, rfl, rfl, rfl, rfl, trivial⟩ (.refl _) ⟨m0, m1, trivial⟩
  ·have hb2' := hb2; try simp at hb2'
   have hk2 : k = b.length := by omega
   subst hk2
   refine hc_exit ?_
   refine then_exit ?_
   refine then_exit ?_
   refine inb_hit ?_
   refine inb_n ?_
   refine then_n ?_
   refine hc_region ?_
   refine r_move rfl rfl ?_
   refine r_add _ rfl rfl rfl rfl (by unfold I64; omega) ?_
   refine r_assign rfl rfl ?_
   refine hl_nil ?_
   have hrow : (a.take (i + 1)).foldl (rowC b) (zeroC b) = cur2 := by rw [take_succ_getD a i hi2, List.foldl_append, hcur]; show rowC b cur _ = _; rw [rowC, hfold]
   exact again _ (i + 1, cur2) ⟨by omega, hrow, hl2, fun j => ⟨hbd.lo j, by by_cases hj : j ≤ b.length; exact hbd.hi j hj; have := hbd.hi2 j (by omega); simp only at this ⊢; omega⟩⟩ (by show a.length - (i + 1) < a.length - i; omega) ⟨rfl, rfl, rfl, rfl, trivial⟩ (.refl _) ⟨m0, m1, trivial⟩
 ·have hb1' := hb1; try simp at hb1'
  have hi2 : i = a.length := by omega
  subst hi2
  rw [List.take_length] at hcur
  refine hc_exit ?_
  refine then_exit ?_
  refine then_exit ?_
  refine inb_hit ?_
  refine then_n ?_
  refine hc_seq ?_
  refine hc_region ?_
  refine r_move rfl rfl ?_
  refine r_move rfl rfl ?_
  refine r_len_sl rfl T.u_strs rfl ?_
  refine r_indexAddr_own b.length b.length rfl T.u_ints T.sz_int rfl rfl rfl (by omega) (by omega) ?_
  refine r_load rfl T.cell_int rfl (cell_own m0 (rows_at rfl (l := cur) (k := b.length) (by rw [hlen]; omega) rfl)) ?_
  refine r_assign rfl rfl ?_
  refine hl_nil ?_
  refine then_n ?_
  refine hc_ret ?_
  have e : commonI a b = cur.getD b.length default := by rw [commonI, hcur]
  rw [e]
  exact ret1 () rfl rfl rfl trivial (List.nil_sublist _) trivial

end Go.Proofs.Ytpbbgbjidhffoaa
