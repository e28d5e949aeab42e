/- Walks of what marks make of a page: the document's; Apply and Cost. -/
import Derived.Test.YtpbbgbjidhffoaaPd
namespace Go.Proofs.Ytpbbgbjidhffoaa
open Go Go.W
set_option linter.unusedVariables false
set_option linter.unusedSimpArgs false
set_option maxRecDepth 20000
attribute [local irreducible] HL HC HQ HB Row Rows2 Blk Facts

def inR (i : Nat) (st : List Str × Str × Bool) (m : Mk) : List Str × Str × Bool :=
  if ¬ m.2.1 = (i : Int) then st else if m.1 = 1 then (st.1 ++ [m.2.2], st.2) else if m.1 = 2 then (st.1, m.2.2, st.2.2) else (st.1, st.2.1, false)
def lineR (p : List Str) (i : Nat) : Str := if i < p.length then p.getD i default else []
def outR (p : List Str) (l : List Mk) (out : List Str) (i : Nat) : List Str :=
  if (l.foldl (inR i) (out, lineR p i, decide (i < p.length))).2.2 = true then (l.foldl (inR i) (out, lineR p i, decide (i < p.length))).1 ++ [(l.foldl (inR i) (out, lineR p i, decide (i < p.length))).2.1]
  else (l.foldl (inR i) (out, lineR p i, decide (i < p.length))).1
def madeR (p : List Str) (l : List Mk) : List Str := (List.range (p.length + 1)).foldl (outR p l) []


theorem ref07_Made_meets {A B : Option Addr} {ca cb : Nat} (p : List Str) (l : List Mk) (hp6 : p.length ≤ 6) (hl : l.length ≤ 12) :
    Meets Try.prog F.ref07_Made [.slice A p.length ca, .slice B l.length cb] { outSl (madeR p l) with LI := [Row A (rows p), Row B (rows l)] } := by
 refine meets_intro F.ref07_Made_f rfl (Nat.le_of_ble_eq_true rfl) fun w0 => ?_
 refine hc_seq ?_
 refine hc_region ?_
 refine r_assign rfl rfl ?_
 refine hl_nil ?_
 refine then_n ?_
 refine hc_seq ?_
 refine hc_region ?_
 refine r_assign rfl rfl ?_
 refine hl_nil ?_
 refine then_n ?_
 refine hc_seq ?_
 refine hc_seq ?_
 refine hc_region ?_
 refine r_assign rfl rfl ?_
 refine hl_nil ?_
 refine then_n ?_
 refine hc_block ?_
 refine hc_loop (β := Nat × List Str × OutC × Hp) ⟨fun ⟨i, out, o, og⟩ => i ≤ p.length + 1 ∧ (List.range i).foldl (outR p l) [] = out ∧ GrowS o out og ∧ out.length ≤ 13 * i,
   fun ⟨i, out, o, og⟩ => [(0, .slice A p.length ca), (1, .slice B l.length cb), (5, .slice o.1 out.length o.2), (6, int i)], fun ⟨i, out, o, og⟩ => og, fun _ => [Row A (rows p), Row B (rows l)]⟩
   (fun x => p.length + 1 - x.1) (0, [], (none, 0), []) ⟨Nat.zero_le _, rfl, Grow.nil _ _, Nat.le_refl _⟩ ⟨rfl, rfl, rfl, rfl, trivial⟩ (.refl _) ⟨m0, m1, trivial⟩ fun x hx => ?_
 obtain ⟨i, out0, o0, og0⟩ := x
 obtain ⟨hi, hst0, hG0, hlen0⟩ := hx
 refine hc_seq ?_
 refine hc_seq ?_
 refine hc_region ?_
 refine r_move rfl rfl ?_
 refine r_move rfl rfl ?_
 refine r_len_sl rfl T.u_strs rfl ?_
 refine r_leq rfl rfl rfl ?_
 refine hl_nil ?_
 refine then_n ?_
 first | refine c_dec rfl (fun hb1 => ?_) (fun hb1 => ?_) | refine hc_cond rfl (fun hb1 => ?_) (fun hb1 => ?_)
 ·have hb1' := hb1; try simp at hb1'
  have hi2 : i ≤ p.length := by omega
  refine hc_skip ?_
  refine then_n ?_
  refine hc_seq ?_
  refine hc_block ?_
  refine hc_seq ?_
  refine hc_region ?_
  refine r_move rfl rfl ?_
  refine r_move rfl rfl ?_
  refine r_len_sl rfl T.u_strs rfl ?_
  refine r_lss rfl rfl rfl ?_
  refine r_assign rfl rfl ?_
  refine r_assign rfl rfl ?_
  refine hl_nil ?_
  refine then_n ?_
  refine hc_cut ⟨fun _ : Unit => True, fun _ => [(0, .slice A p.length ca), (1, .slice B l.length cb), (5, .slice o0.1 out0.length o0.2), (6, int i), (7, .bool (decide (i < p.length))), (8, str (lineR p i))], fun _ => og0, fun _ => [Row A (rows p), Row B (rows l)]⟩ ?_ ?_
  ·skip
   refine hc_seq ?_
   refine hc_region ?_
   refine r_move rfl rfl ?_
   refine hl_nil ?_
   refine then_n ?_
   first | refine c_dec rfl (fun hb2 => ?_) (fun hb2 => ?_) | refine hc_cond rfl (fun hb2 => ?_) (fun hb2 => ?_)
   ·have hb2' := hb2; try simp at hb2'
    have hi3 : i < p.length := by simpa using hb2'
    refine hc_region ?_
    refine r_move rfl rfl ?_
    refine r_move rfl rfl ?_
    refine r_elem (α := Str) _ _ rfl T.u_strs T.sz_string rfl rfl rfl (by repeat constructor) rfl (by omega) (by decide) ?_
    refine r_load rfl T.cell_string rfl (cell_row (by repeat constructor) (rows_get0 (by omega) rfl)) ?_
    refine r_assign rfl rfl ?_
    refine hl_nil ?_
    exact cut_n _ () trivial ⟨rfl, rfl, rfl, rfl, congrArg (fun b => some (Value.bool b)) (by simp), congrArg (fun b => some (str b)) (by simp only [lineR]; first | rw [if_pos (by omega)] | rw [if_neg (by omega)]), trivial⟩ (.refl _) ⟨m0, m1, trivial⟩
   ·have hb2' := hb2; try simp at hb2'
    have hi3 : ¬ i < p.length := by simpa using hb2'
    refine hc_skip ?_
    exact cut_n _ () trivial ⟨rfl, rfl, rfl, rfl, congrArg (fun b => some (Value.bool b)) (by simp), congrArg (fun b => some (str b)) (by simp only [lineR]; first | rw [if_pos (by omega)] | rw [if_neg (by omega)]), trivial⟩ (.refl _) ⟨m0, m1, trivial⟩
  ·refine fun _ _ => ?_
   refine hc_seq ?_
   refine hc_seq ?_
   refine hc_region ?_
   refine r_assign rfl rfl ?_
   refine hl_nil ?_
   refine then_n ?_
   refine hc_block ?_
   refine hc_loop (β := Nat × (List Str × Str × Bool) × OutC × Hp) ⟨fun ⟨k, st, o, og⟩ => k ≤ l.length ∧ (l.take k).foldl (inR i) (out0, lineR p i, decide (i < p.length)) = st ∧ GrowS o st.1 og ∧ st.1.length ≤ 13 * i + k,
     fun ⟨k, st, o, og⟩ => [(0, .slice A p.length ca), (1, .slice B l.length cb), (5, .slice o.1 st.1.length o.2), (6, int i), (7, .bool st.2.2), (8, str st.2.1), (9, int k)], fun ⟨k, st, o, og⟩ => og, fun _ => [Row A (rows p), Row B (rows l)]⟩
     (fun x => l.length - x.1) (0, (out0, lineR p i, decide (i < p.length)), o0, og0) ⟨Nat.zero_le _, rfl, hG0, by simpa using hlen0⟩ ⟨rfl, rfl, rfl, rfl, rfl, rfl, rfl, trivial⟩ (.refl _) ⟨m0, m1, trivial⟩ fun x hx => ?_
   obtain ⟨k, ⟨out, t, b⟩, o, og⟩ := x
   obtain ⟨hk, hst, hG, hlen⟩ := hx
   simp only at hG hlen
   refine hc_seq ?_
   refine hc_seq ?_
   refine hc_region ?_
   refine r_move rfl rfl ?_
   refine r_move rfl rfl ?_
   refine r_len_sl rfl T.u_L_api_Mark rfl ?_
   refine r_lss rfl rfl rfl ?_
   refine hl_nil ?_
   refine then_n ?_
   first | refine c_dec rfl (fun hb3 => ?_) (fun hb3 => ?_) | refine hc_cond rfl (fun hb3 => ?_) (fun hb3 => ?_)
   ·have hb3' := hb3; try simp at hb3'
    have hk2 : k < l.length := by omega
    refine hc_skip ?_
    refine then_n ?_
    refine hc_seq ?_
    refine hc_block ?_
    refine hc_block ?_
    refine hc_seq ?_
    have hst2 : (l.take (k + 1)).foldl (inR i) (out0, lineR p i, decide (i < p.length)) = inR i (out, t, b) (l.getD k default) := by rw [take_succ_getD l k hk2, List.foldl_append, hst]; rfl
    generalize hm : l.getD k default = m at *
    refine hc_region ?_
    refine r_move rfl rfl ?_
    refine r_move rfl rfl ?_
    refine r_elem (α := Mk) _ _ rfl T.u_L_api_Mark T.sz_api_Mark rfl rfl rfl (by repeat constructor) rfl (by omega) (by decide) ?_
    first | refine r_fieldAddr ⟨_, 1, none⟩ rfl rfl T.fa_api_Mark_1 rfl ?_ | refine r_fieldAddr _ rfl rfl T.fa_api_Mark_1 rfl ?_
    refine r_load rfl T.cell_int rfl (cell_row_f m1 (rows_get hk2 (by rw [hm]; rfl))) ?_
    refine r_move rfl rfl ?_
    refine r_neq rfl rfl rfl ?_
    refine r_assign rfl rfl ?_
    refine hl_nil ?_
    refine then_n ?_
    first | refine c_dec rfl (fun hb4 => ?_) (fun hb4 => ?_) | refine hc_cond rfl (fun hb4 => ?_) (fun hb4 => ?_)
    ·have hb4' := hb4; try simp at hb4'
     refine hc_skip ?_
     refine inb_n ?_
     refine inb_n ?_
     refine then_n ?_
     refine hc_region ?_
     refine r_move rfl rfl ?_
     refine r_add _ rfl rfl rfl rfl (by unfold I64; omega) ?_
     refine r_assign rfl rfl ?_
     refine hl_nil ?_
     refine again _ (k + 1, (out, t, b), o, og) ?_ ?_ ?_ ?_ ?_
     · exact ⟨by omega, by rw [hst2]; rw [inR, if_pos hb4], hG, by simp only; omega⟩
     · show l.length - (k + 1) < l.length - k
       omega
     · exact ⟨rfl, rfl, rfl, rfl, rfl, rfl, rfl, trivial⟩
     · exact .refl _
     · exact ⟨m0, m1, trivial⟩
    ·have hb4' := hb4; try simp at hb4'
     refine hc_seq ?_
     refine hc_region ?_
     refine r_move rfl rfl ?_
     refine r_move rfl rfl ?_
     refine r_elem (α := Mk) _ _ rfl T.u_L_api_Mark T.sz_api_Mark rfl rfl rfl (by repeat constructor) rfl (by omega) (by decide) ?_
     first | refine r_fieldAddr ⟨_, 0, none⟩ rfl rfl T.fa_api_Mark_0 rfl ?_ | refine r_fieldAddr _ rfl rfl T.fa_api_Mark_0 rfl ?_
     refine r_load rfl T.cell_int rfl (cell_row m1 (rows_get0 hk2 (by rw [hm]; rfl))) ?_
     refine r_eql rfl rfl rfl ?_
     refine r_assign rfl rfl ?_
     refine hl_nil ?_
     refine then_n ?_
     first | refine c_dec rfl (fun hb5 => ?_) (fun hb5 => ?_) | refine hc_cond rfl (fun hb5 => ?_) (fun hb5 => ?_)
     ·have hb5' := hb5; try simp at hb5'
      refine hc_region ?_
      refine r_move rfl rfl ?_
      refine r_move rfl rfl ?_
      refine r_move rfl rfl ?_
      refine r_elem (α := Mk) _ _ rfl T.u_L_api_Mark T.sz_api_Mark rfl rfl rfl (by repeat constructor) rfl (by omega) (by decide) ?_
      first | refine r_fieldAddr ⟨_, 2, none⟩ rfl rfl T.fa_api_Mark_2 rfl ?_ | refine r_fieldAddr _ rfl rfl T.fa_api_Mark_2 rfl ?_
      refine r_load rfl T.cell_string rfl (cell_row_f m1 (rows_get hk2 (by rw [hm]; rfl))) ?_
      refine r_buildSlice _ rfl rfl (fun _ => T.bs_strs_1 ..) fun gS => ?_
      refine r_append (out ++ [m.2.2]).length (rows (out ++ [m.2.2])) T.el_strs rfl rfl rfl hG (List.perm_append_comm (l₁ := [_])) (Src.own (cs := #[str m.2.2]) (m := 1) (List.mem_append_right _ m0) rfl rfl) (by simp) (rows_append out [m.2.2]).symm (by unfold maxLen; simp; omega) (by simp; omega) fun A' c' og' hG' => ?_
      refine r_assign rfl rfl ?_
      refine hl_nil ?_
      refine inb_n ?_
      refine inb_n ?_
      refine then_n ?_
      refine hc_region ?_
      refine r_move rfl rfl ?_
      refine r_add _ rfl rfl rfl rfl (by unfold I64; omega) ?_
      refine r_assign rfl rfl ?_
      refine hl_nil ?_
      refine again _ (k + 1, (out ++ [m.2.2], t, b), (A', c'), og') ?_ ?_ ?_ ?_ ?_
      · exact ⟨by omega, by rw [hst2]; rw [inR, if_neg hb4, if_pos hb5], hG', by simp; omega⟩
      · show l.length - (k + 1) < l.length - k
        omega
      · exact ⟨rfl, rfl, rfl, rfl, rfl, rfl, rfl, trivial⟩
      · exact List.sublist_append_left _ _
      · exact ⟨m0, m1, trivial⟩
     ·have hb5' := hb5; try simp at hb5'
      refine hc_seq ?_
      refine hc_region ?_
      refine r_move rfl rfl ?_
      refine r_move rfl rfl ?_
      refine r_elem (α := Mk) _ _ rfl T.u_L_api_Mark T.sz_api_Mark rfl rfl rfl (by repeat constructor) rfl (by omega) (by decide) ?_
      first | refine r_fieldAddr ⟨_, 0, none⟩ rfl rfl T.fa_api_Mark_0 rfl ?_ | refine r_fieldAddr _ rfl rfl T.fa_api_Mark_0 rfl ?_
      refine r_load rfl T.cell_int rfl (cell_row m1 (rows_get0 hk2 (by rw [hm]; rfl))) ?_
      refine r_eql rfl rfl rfl ?_
      refine r_assign rfl rfl ?_
      refine hl_nil ?_
      refine then_n ?_
      first | refine c_dec rfl (fun hb6 => ?_) (fun hb6 => ?_) | refine hc_cond rfl (fun hb6 => ?_) (fun hb6 => ?_)
      ·have hb6' := hb6; try simp at hb6'
       refine hc_region ?_
       refine r_move rfl rfl ?_
       refine r_move rfl rfl ?_
       refine r_elem (α := Mk) _ _ rfl T.u_L_api_Mark T.sz_api_Mark rfl rfl rfl (by repeat constructor) rfl (by omega) (by decide) ?_
       first | refine r_fieldAddr ⟨_, 2, none⟩ rfl rfl T.fa_api_Mark_2 rfl ?_ | refine r_fieldAddr _ rfl rfl T.fa_api_Mark_2 rfl ?_
       refine r_load rfl T.cell_string rfl (cell_row_f m1 (rows_get hk2 (by rw [hm]; rfl))) ?_
       refine r_assign rfl rfl ?_
       refine hl_nil ?_
       refine inb_n ?_
       refine inb_n ?_
       refine then_n ?_
       refine hc_region ?_
       refine r_move rfl rfl ?_
       refine r_add _ rfl rfl rfl rfl (by unfold I64; omega) ?_
       refine r_assign rfl rfl ?_
       refine hl_nil ?_
       refine again _ (k + 1, (out, m.2.2, b), o, og) ?_ ?_ ?_ ?_ ?_
       · exact ⟨by omega, by rw [hst2]; rw [inR, if_neg hb4, if_neg hb5, if_pos hb6], hG, by simp only; omega⟩
       · show l.length - (k + 1) < l.length - k
         omega
       · exact ⟨rfl, rfl, rfl, rfl, rfl, rfl, rfl, trivial⟩
       · exact .refl _
       · exact ⟨m0, m1, trivial⟩
      ·have hb6' := hb6; try simp at hb6'
       refine hc_region ?_
       refine r_assign rfl rfl ?_
       refine hl_nil ?_
       refine inb_n ?_
       refine inb_n ?_
       refine then_n ?_
       refine hc_region ?_
       refine r_move rfl rfl ?_
       refine r_add _ rfl rfl rfl rfl (by unfold I64; omega) ?_
       refine r_assign rfl rfl ?_
       refine hl_nil ?_
       refine again _ (k + 1, (out, t, false), o, og) ?_ ?_ ?_ ?_ ?_
       · exact ⟨by omega, by rw [hst2]; rw [inR, if_neg hb4, if_neg hb5, if_neg hb6], hG, by simp only; omega⟩
       · show l.length - (k + 1) < l.length - k
         omega
       · exact ⟨rfl, rfl, rfl, rfl, rfl, rfl, rfl, trivial⟩
       · exact .refl _
       · exact ⟨m0, m1, trivial⟩
   ·have hb3' := hb3; try simp at hb3'
    have hk2 : k = l.length := by omega
    subst hk2
    rw [List.take_length] at hst
    have hO : (List.range (i + 1)).foldl (outR p l) [] = if b = true then out ++ [t] else out := by rw [List.range_succ, List.foldl_append, hst0]; show outR p l out0 i = _; unfold outR; rw [hst]
    refine hc_exit ?_
    refine then_exit ?_
    refine then_exit ?_
    refine inb_hit ?_
    refine then_n ?_
    refine hc_seq ?_
    refine hc_region ?_
    refine r_move rfl rfl ?_
    refine hl_nil ?_
    refine then_n ?_
    first | refine c_dec rfl (fun hb7 => ?_) (fun hb7 => ?_) | refine hc_cond rfl (fun hb7 => ?_) (fun hb7 => ?_)
    ·have hb7' := hb7; try simp at hb7'
     refine hc_region ?_
     refine r_move rfl rfl ?_
     refine r_move rfl rfl ?_
     refine r_buildSlice _ rfl rfl (fun _ => T.bs_strs_1 ..) fun gS => ?_
     refine r_append (out ++ [t]).length (rows (out ++ [t])) T.el_strs rfl rfl rfl hG (List.perm_append_comm (l₁ := [_])) (Src.own (cs := #[str t]) (m := 1) (List.mem_append_right _ m0) rfl rfl) (by simp) (rows_append out [t]).symm (by unfold maxLen; simp; omega) (by simp; omega) fun A' c' og' hG' => ?_
     refine r_assign rfl rfl ?_
     refine hl_nil ?_
     refine inb_n ?_
     refine then_n ?_
     refine hc_region ?_
     refine r_move rfl rfl ?_
     refine r_add _ rfl rfl rfl rfl (by unfold I64; omega) ?_
     refine r_assign rfl rfl ?_
     refine hl_nil ?_
     rw [if_pos hb7] at hO
     refine again _ (i + 1, out ++ [t], (A', c'), og') ⟨by omega, hO, hG', by simp; omega⟩ (by show p.length + 1 - (i + 1) < p.length + 1 - i; omega) ⟨rfl, rfl, rfl, rfl, trivial⟩ (List.sublist_append_left _ _) ⟨m0, m1, trivial⟩
    ·have hb7' := hb7; try simp at hb7'
     refine hc_skip ?_
     refine inb_n ?_
     refine then_n ?_
     refine hc_region ?_
     refine r_move rfl rfl ?_
     refine r_add _ rfl rfl rfl rfl (by unfold I64; omega) ?_
     refine r_assign rfl rfl ?_
     refine hl_nil ?_
     rw [if_neg (by rw [hb7']; decide)] at hO
     refine again _ (i + 1, out, o, og) ⟨by omega, hO, hG, by omega⟩ (by show p.length + 1 - (i + 1) < p.length + 1 - i; omega) ⟨rfl, rfl, rfl, rfl, trivial⟩ (.refl _) ⟨m0, m1, trivial⟩
 ·have hb1' := hb1; try simp at hb1'
  have hi2 : i = p.length + 1 := by omega
  refine hc_exit ?_
  refine then_exit ?_
  refine then_exit ?_
  refine inb_hit ?_
  refine then_n ?_
  refine hc_seq ?_
  refine hc_region ?_
  refine r_move rfl rfl ?_
  refine r_assign rfl rfl ?_
  refine hl_nil ?_
  refine then_n ?_
  refine hc_ret ?_
  subst hi2
  have e : madeR p l = out0 := hst0
  rw [e]
  refine hq_grown0 hG0 ?_
  exact ret1 o0 rfl rfl rfl hG0.le (.refl _) ⟨m0, trivial⟩

def applyP (p : List Str) (l : List Mk) : List Str × Int := if ¬ checkErr p l = 0 then ([], checkErr p l) else if 6 < (madeP p l).length then ([], 6) else (madeP p l, 0)
def applyR (p : List Str) (l : List Mk) : List Str × Int := if ¬ checkErr p l = 0 then ([], checkErr p l) else if 6 < (madeR p l).length then ([], 6) else (madeR p l, 0)
/-- A slice and an error. -/
def outErr {α : Type} [El α] (r : List α × Int) : Con OutC := { inv := fun x => r.1.length ≤ x.2, val := fun x => .tuple #[.slice x.1 r.1.length x.2, int r.2], LO := fun x => [Row x.1 (rows r.1)] }
theorem checkErr_zero {p : List Str} {l : List Mk} (h : checkErr p l = 0) : p.length ≤ 6 ∧ l.length ≤ 12 ∧ MV p.length l := by
  unfold checkErr at h
  split at h
  · rename_i h1
    refine ⟨?_, marks_valid h⟩
    unfold pageErr at h1
    split at h1 <;> omega
  · rename_i h1; exact absurd h h1
def costM (l : List Mk) : Nat := (l.filter fun m => decide (¬ m.1 = 3)).length
theorem costM_take {l : List Mk} {k : Nat} (h : k < l.length) : costM (l.take (k + 1)) = costM (l.take k) + (if (l.getD k default).1 = 3 then 0 else 1) := by
  rw [take_succ_getD l k h]
  unfold costM
  rw [List.filter_append, List.length_append]
  congr 1
  by_cases h3 : (l.getD k default).1 = 3
  · rw [if_pos h3, List.filter_cons_of_neg (by simpa using h3)]; rfl
  · rw [if_neg h3, List.filter_cons_of_pos (by simpa using h3)]; rfl
theorem costM_le (l : List Mk) : costM l ≤ l.length := List.length_filter_le _ _
def costR (p : List Str) (l : List Mk) : Int × Int := if ¬ checkErr p l = 0 then (0, checkErr p l) else (costM l, 0)

theorem proof_Apply_meets {A B : Option Addr} {ca cb : Nat} (p : List Str) (l : List Mk) (hc : p.length ≤ ca) :
    Meets Try.prog F.proof_Apply [.slice A p.length ca, .slice B l.length cb] { outErr (applyP p l) with LI := [Row A (rows p), Row B (rows l)] } := by
 refine meets_intro F.proof_Apply_f rfl (Nat.le_of_ble_eq_true rfl) fun w0 => ?_
 refine hc_seq ?_
 refine hc_region ?_
 refine r_assign rfl rfl ?_
 refine r_assign rfl rfl ?_
 refine hl_nil ?_
 refine then_n ?_
 refine hc_seq ?_
 refine hc_seq ?_
 refine hc_region ?_
 refine r_move rfl rfl ?_
 refine r_move rfl rfl ?_
 refine hl_call F.proof_checked_cb rfl rfl (proof_checked_meets p l) (.refl _) ⟨m0, m1, trivial⟩ fun _ _ => ?_
 refine r_assign rfl rfl ?_
 refine hl_nil ?_
 refine then_n ?_
 refine hc_seq ?_
 refine hc_region ?_
 refine r_move rfl rfl ?_
 refine r_neq rfl rfl rfl ?_
 refine hl_nil ?_
 refine then_n ?_
 first | refine c_dec rfl (fun hb1 => ?_) (fun hb1 => ?_) | refine hc_cond rfl (fun hb1 => ?_) (fun hb1 => ?_)
 ·have hb1' := hb1; try simp at hb1'
  have e : applyP p l = ([], checkErr p l) := by rw [applyP, if_pos hb1]
  rw [e]
  refine hc_seq ?_
  refine hc_region ?_
  refine r_move rfl rfl ?_
  refine r_assign rfl rfl ?_
  refine r_assign rfl rfl ?_
  refine hl_nil ?_
  refine then_n ?_
  refine hc_ret ?_
  refine then_ret ?_
  refine hq_nil0 ?_
  exact ret2 (none, 0) rfl rfl rfl rfl rfl (Nat.le_refl _) (.refl _) ⟨m0, trivial⟩
 ·have hb1' := hb1; try simp at hb1'
  have h0 : checkErr p l = 0 := by omega
  obtain ⟨hp6, hl, hV⟩ := checkErr_zero h0
  refine hc_skip ?_
  refine then_n ?_
  refine hc_seq ?_
  refine hc_region ?_
  refine r_move rfl rfl ?_
  refine r_move rfl rfl ?_
  refine hl_call F.proof_made_cb rfl rfl (proof_made_meets p l hp6 hl hV hc) (.refl _) ⟨m0, m1, trivial⟩ fun x hx => ?_
  refine r_assign rfl rfl ?_
  refine hl_nil ?_
  refine then_n ?_
  refine hc_seq ?_
  refine hc_seq ?_
  refine hc_region ?_
  refine r_move rfl rfl ?_
  refine r_len_sl rfl T.u_strs rfl ?_
  refine r_gtr rfl rfl rfl ?_
  refine hl_nil ?_
  refine then_n ?_
  first | refine c_dec rfl (fun hb2 => ?_) (fun hb2 => ?_) | refine hc_cond rfl (fun hb2 => ?_) (fun hb2 => ?_)
  ·have hb2' := hb2; try simp at hb2'
   have e : applyP p l = ([], 6) := by rw [applyP, if_neg hb1, if_pos (by omega)]
   rw [e]
   refine hc_seq ?_
   refine hc_region ?_
   refine r_assign rfl rfl ?_
   refine r_assign rfl rfl ?_
   refine hl_nil ?_
   refine then_n ?_
   refine hc_ret ?_
   refine then_ret ?_
   refine hq_nil0 ?_
   exact ret2 (none, 0) rfl rfl rfl rfl rfl (Nat.le_refl _) (.refl _) ⟨m0, trivial⟩
  ·have hb2' := hb2; try simp at hb2'
   have e : applyP p l = (madeP p l, 0) := by rw [applyP, if_neg hb1, if_neg (by omega)]
   rw [e]
   refine hc_skip ?_
   refine then_n ?_
   refine hc_seq ?_
   refine hc_region ?_
   refine r_move rfl rfl ?_
   refine r_assign rfl rfl ?_
   refine r_assign rfl rfl ?_
   refine hl_nil ?_
   refine then_n ?_
   refine hc_ret ?_
   exact ret2 x rfl rfl rfl rfl rfl hx (.refl _) ⟨m0, trivial⟩

theorem ref07_Apply_meets {A B : Option Addr} {ca cb : Nat} (p : List Str) (l : List Mk) :
    Meets Try.prog F.ref07_Apply [.slice A p.length ca, .slice B l.length cb] { outErr (applyR p l) with LI := [Row A (rows p), Row B (rows l)] } := by
 refine meets_intro F.ref07_Apply_f rfl (Nat.le_of_ble_eq_true rfl) fun w0 => ?_
 refine hc_seq ?_
 refine hc_region ?_
 refine r_assign rfl rfl ?_
 refine r_assign rfl rfl ?_
 refine hl_nil ?_
 refine then_n ?_
 refine hc_seq ?_
 refine hc_seq ?_
 refine hc_region ?_
 refine r_move rfl rfl ?_
 refine r_move rfl rfl ?_
 refine hl_call F.ref07_check_cb rfl rfl (ref07_check_meets p l) (.refl _) ⟨m0, m1, trivial⟩ fun _ _ => ?_
 refine r_assign rfl rfl ?_
 refine hl_nil ?_
 refine then_n ?_
 refine hc_seq ?_
 refine hc_region ?_
 refine r_move rfl rfl ?_
 refine r_neq rfl rfl rfl ?_
 refine hl_nil ?_
 refine then_n ?_
 first | refine c_dec rfl (fun hb1 => ?_) (fun hb1 => ?_) | refine hc_cond rfl (fun hb1 => ?_) (fun hb1 => ?_)
 ·have hb1' := hb1; try simp at hb1'
  have e : applyR p l = ([], checkErr p l) := by rw [applyR, if_pos hb1]
  rw [e]
  refine hc_seq ?_
  refine hc_region ?_
  refine r_move rfl rfl ?_
  refine r_assign rfl rfl ?_
  refine r_assign rfl rfl ?_
  refine hl_nil ?_
  refine then_n ?_
  refine hc_ret ?_
  refine then_ret ?_
  refine hq_nil0 ?_
  exact ret2 (none, 0) rfl rfl rfl rfl rfl (Nat.le_refl _) (.refl _) ⟨m0, trivial⟩
 ·have hb1' := hb1; try simp at hb1'
  have h0 : checkErr p l = 0 := by omega
  obtain ⟨hp6, hl, hV⟩ := checkErr_zero h0
  refine hc_skip ?_
  refine then_n ?_
  refine hc_seq ?_
  refine hc_region ?_
  refine r_move rfl rfl ?_
  refine r_move rfl rfl ?_
  refine hl_call F.ref07_Made_cb rfl rfl (ref07_Made_meets p l hp6 hl) (.refl _) ⟨m0, m1, trivial⟩ fun x hx => ?_
  refine r_assign rfl rfl ?_
  refine hl_nil ?_
  refine then_n ?_
  refine hc_seq ?_
  refine hc_seq ?_
  refine hc_region ?_
  refine r_move rfl rfl ?_
  refine r_len_sl rfl T.u_strs rfl ?_
  refine r_gtr rfl rfl rfl ?_
  refine hl_nil ?_
  refine then_n ?_
  first | refine c_dec rfl (fun hb2 => ?_) (fun hb2 => ?_) | refine hc_cond rfl (fun hb2 => ?_) (fun hb2 => ?_)
  ·have hb2' := hb2; try simp at hb2'
   have e : applyR p l = ([], 6) := by rw [applyR, if_neg hb1, if_pos (by omega)]
   rw [e]
   refine hc_seq ?_
   refine hc_region ?_
   refine r_assign rfl rfl ?_
   refine r_assign rfl rfl ?_
   refine hl_nil ?_
   refine then_n ?_
   refine hc_ret ?_
   refine then_ret ?_
   refine hq_nil0 ?_
   exact ret2 (none, 0) rfl rfl rfl rfl rfl (Nat.le_refl _) (.refl _) ⟨m0, trivial⟩
  ·have hb2' := hb2; try simp at hb2'
   have e : applyR p l = (madeR p l, 0) := by rw [applyR, if_neg hb1, if_neg (by omega)]
   rw [e]
   refine hc_skip ?_
   refine then_n ?_
   refine hc_seq ?_
   refine hc_region ?_
   refine r_move rfl rfl ?_
   refine r_assign rfl rfl ?_
   refine r_assign rfl rfl ?_
   refine hl_nil ?_
   refine then_n ?_
   refine hc_ret ?_
   exact ret2 x rfl rfl rfl rfl rfl hx (.refl _) ⟨m0, trivial⟩

theorem ref07_cost_meets {B : Option Addr} {cb : Nat} (l : List Mk) (hl : l.length ≤ 1000000) : Meets Try.prog F.ref07_cost [.slice B l.length cb] { LI := [Row B (rows l)], val := fun _ : Unit => int (costM l) } := by
 refine meets_intro F.ref07_cost_f rfl (Nat.le_of_ble_eq_true rfl) fun w0 => ?_
 refine hc_seq ?_
 refine hc_region ?_
 refine r_assign rfl rfl ?_
 refine hl_nil ?_
 refine then_n ?_
 refine hc_seq ?_
 refine hc_region ?_
 refine r_assign rfl rfl ?_
 refine hl_nil ?_
 refine then_n ?_
 refine hc_seq ?_
 refine hc_seq ?_
 refine hc_region ?_
 refine r_assign rfl rfl ?_
 refine hl_nil ?_
 refine then_n ?_
 refine hc_block ?_
 refine hc_loop (β := Nat) ⟨fun k => k ≤ l.length, fun k => [(0, .slice B l.length cb), (3, int (costM (l.take k))), (4, int k)], fun _ => [], fun _ => [Row B (rows l)]⟩ (fun k => l.length - k) 0 (Nat.zero_le _) ⟨rfl, rfl, rfl, trivial⟩ (.refl _) ⟨m0, trivial⟩ fun k hk => ?_
 simp only at hk
 refine hc_seq ?_
 refine hc_seq ?_
 refine hc_region ?_
 refine r_move rfl rfl ?_
 refine r_move rfl rfl ?_
 refine r_len_sl rfl T.u_L_api_Mark rfl ?_
 refine r_lss rfl rfl rfl ?_
 refine hl_nil ?_
 refine then_n ?_
 first | refine c_dec rfl (fun hb1 => ?_) (fun hb1 => ?_) | refine hc_cond rfl (fun hb1 => ?_) (fun hb1 => ?_)
 ·have hb1' := hb1; try simp at hb1'
  have hk2 : k < l.length := by omega
  have hct := costM_take hk2
  have hcl := costM_le (l.take k)
  rw [List.length_take] at hcl
  refine hc_skip ?_
  refine then_n ?_
  refine hc_seq ?_
  refine hc_block ?_
  refine hc_seq ?_
  refine hc_region ?_
  refine r_move rfl rfl ?_
  refine r_move rfl rfl ?_
  refine r_elem (α := Mk) _ _ rfl T.u_L_api_Mark T.sz_api_Mark rfl rfl rfl (by repeat constructor) rfl (by omega) (by decide) ?_
  first | refine r_fieldAddr ⟨_, 0, none⟩ rfl rfl T.fa_api_Mark_0 rfl ?_ | refine r_fieldAddr _ rfl rfl T.fa_api_Mark_0 rfl ?_
  refine r_load rfl T.cell_int rfl (cell_row (by repeat constructor) (rows_get0 (by omega) rfl)) ?_
  refine r_neq rfl rfl rfl ?_
  refine hl_nil ?_
  refine then_n ?_
  first | refine c_dec rfl (fun hb2 => ?_) (fun hb2 => ?_) | refine hc_cond rfl (fun hb2 => ?_) (fun hb2 => ?_)
  ·have hb2' := hb2; try simp at hb2'
   rw [if_neg hb2] at hct
   refine hc_region ?_
   refine r_move rfl rfl ?_
   refine r_add _ rfl rfl rfl rfl (by unfold I64; omega) ?_
   refine r_assign rfl rfl ?_
   refine hl_nil ?_
   refine inb_n ?_
   refine then_n ?_
   refine hc_region ?_
   refine r_move rfl rfl ?_
   refine r_add _ rfl rfl rfl rfl (by unfold I64; omega) ?_
   refine r_assign rfl rfl ?_
   refine hl_nil ?_
   refine again _ (k + 1) (by show k + 1 ≤ l.length; omega) (by show l.length - (k + 1) < l.length - k; omega) ⟨rfl, ?_, rfl, trivial⟩ (.refl _) ⟨m0, trivial⟩
   show some (int ((costM (l.take k) : Int) + 1)) = some (int ((costM (l.take (k + 1)) : Nat) : Int))
   rw [hct]; rfl
  ·have hb2' := hb2; try simp at hb2'
   rw [if_pos (Classical.not_not.1 hb2)] at hct
   refine hc_skip ?_
   refine inb_n ?_
   refine then_n ?_
   refine hc_region ?_
   refine r_move rfl rfl ?_
   refine r_add _ rfl rfl rfl rfl (by unfold I64; omega) ?_
   refine r_assign rfl rfl ?_
   refine hl_nil ?_
   refine again _ (k + 1) (by show k + 1 ≤ l.length; omega) (by show l.length - (k + 1) < l.length - k; omega) ⟨rfl, ?_, rfl, trivial⟩ (.refl _) ⟨m0, trivial⟩
   show some (int (costM (l.take k) : Int)) = some (int ((costM (l.take (k + 1)) : Nat) : Int))
   rw [hct]; rfl
 ·have hb1' := hb1; try simp at hb1'
  have hk2 : k = l.length := by omega
  subst hk2
  refine hc_exit ?_
  refine then_exit ?_
  refine then_exit ?_
  refine inb_hit ?_
  refine then_n ?_
  refine hc_seq ?_
  refine hc_region ?_
  refine r_move rfl rfl ?_
  refine r_assign rfl rfl ?_
  refine hl_nil ?_
  refine then_n ?_
  refine hc_ret ?_
  exact ret1 () rfl (congrArg (fun s => some (int (costM s : Nat))) List.take_length) rfl trivial (.refl _) trivial

theorem ref07_Cost_meets {A B : Option Addr} {ca cb : Nat} (p : List Str) (l : List Mk) :
    Meets Try.prog F.ref07_Cost [.slice A p.length ca, .slice B l.length cb] { LI := [Row A (rows p), Row B (rows l)], val := fun _ : Unit => .tuple #[int (costR p l).1, int (costR p l).2] } := by
 refine meets_intro F.ref07_Cost_f rfl (Nat.le_of_ble_eq_true rfl) fun w0 => ?_
 refine hc_seq ?_
 refine hc_region ?_
 refine r_assign rfl rfl ?_
 refine r_assign rfl rfl ?_
 refine hl_nil ?_
 refine then_n ?_
 refine hc_seq ?_
 refine hc_seq ?_
 refine hc_region ?_
 refine r_move rfl rfl ?_
 refine r_move rfl rfl ?_
 refine hl_call F.ref07_check_cb rfl rfl (ref07_check_meets p l) (.refl _) ⟨m0, m1, trivial⟩ fun _ _ => ?_
 refine r_assign rfl rfl ?_
 refine hl_nil ?_
 refine then_n ?_
 refine hc_seq ?_
 refine hc_region ?_
 refine r_move rfl rfl ?_
 refine r_neq rfl rfl rfl ?_
 refine hl_nil ?_
 refine then_n ?_
 first | refine c_dec rfl (fun hb1 => ?_) (fun hb1 => ?_) | refine hc_cond rfl (fun hb1 => ?_) (fun hb1 => ?_)
 ·have hb1' := hb1; try simp at hb1'
  have e : costR p l = (0, checkErr p l) := by rw [costR, if_pos hb1]
  rw [e]
  refine hc_seq ?_
  refine hc_region ?_
  refine r_move rfl rfl ?_
  refine r_assign rfl rfl ?_
  refine r_assign rfl rfl ?_
  refine hl_nil ?_
  refine then_n ?_
  refine hc_ret ?_
  refine then_ret ?_
  exact ret2 () rfl rfl rfl rfl rfl trivial (.refl _) trivial
 ·have hb1' := hb1; try simp at hb1'
  have h0 : checkErr p l = 0 := by omega
  obtain ⟨hp6, hl, hV⟩ := checkErr_zero h0
  have e : costR p l = ((costM l : Int), 0) := by rw [costR, if_neg hb1]
  rw [e]
  refine hc_skip ?_
  refine then_n ?_
  refine hc_seq ?_
  refine hc_region ?_
  refine r_move rfl rfl ?_
  refine hl_call F.ref07_cost_cb rfl rfl (ref07_cost_meets l (by omega)) (.refl _) ⟨m1, trivial⟩ fun _ _ => ?_
  refine r_assign rfl rfl ?_
  refine r_assign rfl rfl ?_
  refine hl_nil ?_
  refine then_n ?_
  refine hc_ret ?_
  exact ret2 () rfl rfl rfl rfl rfl trivial (.refl _) trivial

theorem proof_Cost_meets {A B : Option Addr} {ca cb : Nat} (p : List Str) (l : List Mk) :
    Meets Try.prog F.proof_Cost [.slice A p.length ca, .slice B l.length cb] { LI := [Row A (rows p), Row B (rows l)], val := fun _ : Unit => .tuple #[int (costR p l).1, int (costR p l).2] } := by
 refine meets_intro F.proof_Cost_f rfl (Nat.le_of_ble_eq_true rfl) fun w0 => ?_
 refine hc_seq ?_
 refine hc_region ?_
 refine r_assign rfl rfl ?_
 refine r_assign rfl rfl ?_
 refine hl_nil ?_
 refine then_n ?_
 refine hc_seq ?_
 refine hc_seq ?_
 refine hc_region ?_
 refine r_move rfl rfl ?_
 refine r_move rfl rfl ?_
 refine hl_call F.proof_checked_cb rfl rfl (proof_checked_meets p l) (.refl _) ⟨m0, m1, trivial⟩ fun _ _ => ?_
 refine r_assign rfl rfl ?_
 refine hl_nil ?_
 refine then_n ?_
 refine hc_seq ?_
 refine hc_region ?_
 refine r_move rfl rfl ?_
 refine r_neq rfl rfl rfl ?_
 refine hl_nil ?_
 refine then_n ?_
 first | refine c_dec rfl (fun hb1 => ?_) (fun hb1 => ?_) | refine hc_cond rfl (fun hb1 => ?_) (fun hb1 => ?_)
 ·have hb1' := hb1; try simp at hb1'
  have e : costR p l = (0, checkErr p l) := by rw [costR, if_pos hb1]
  rw [e]
  refine hc_seq ?_
  refine hc_region ?_
  refine r_move rfl rfl ?_
  refine r_assign rfl rfl ?_
  refine r_assign rfl rfl ?_
  refine hl_nil ?_
  refine then_n ?_
  refine hc_ret ?_
  refine then_ret ?_
  exact ret2 () rfl rfl rfl rfl rfl trivial (.refl _) trivial
 ·have hb1' := hb1; try simp at hb1'
  have h0 : checkErr p l = 0 := by omega
  obtain ⟨hp6, hl, hV⟩ := checkErr_zero h0
  have e : costR p l = ((costM l : Int), 0) := by rw [costR, if_neg hb1]
  rw [e]
  refine hc_skip ?_
  refine then_n ?_
  refine hc_seq ?_
  refine hc_region ?_
  refine r_assign rfl rfl ?_
  refine hl_nil ?_
  refine then_n ?_
  refine hc_seq ?_
  refine hc_seq ?_
  refine hc_region ?_
  refine r_move rfl rfl ?_
  refine r_len_sl rfl T.u_L_api_Mark rfl ?_
  refine r_move rfl rfl ?_
  refine hl_nil ?_
  refine then_n ?_
  refine hc_block ?_
  refine hc_loop (β := Nat) ⟨fun k => k ≤ l.length, fun k => [(7, int (costM (l.take k))), (16, .slice B l.length cb), (17, int l.length), (18, int k)], fun _ => [], fun _ => [Row B (rows l)]⟩ (fun k => l.length - k) 0 (Nat.zero_le _) ⟨rfl, rfl, rfl, rfl, trivial⟩ (List.nil_sublist _) ⟨m1, trivial⟩ fun k hk => ?_
  simp only at hk
  refine hc_seq ?_
  refine hc_region ?_
  refine r_lss rfl rfl rfl ?_
  refine hl_nil ?_
  refine then_n ?_
  refine hc_seq ?_
  first | refine c_dec rfl (fun hb2 => ?_) (fun hb2 => ?_) | refine hc_cond rfl (fun hb2 => ?_) (fun hb2 => ?_)
  ·have hb2' := hb2; try simp at hb2'
   have hk2 : k < l.length := by omega
   have hct := costM_take hk2
   have hcl := costM_le (l.take k)
   rw [List.length_take] at hcl
   refine hc_skip ?_
   refine then_n ?_
   refine hc_seq ?_
   refine hc_block ?_
   refine hc_seq ?_
   refine hc_region ?_
   refine r_elem (α := Mk) _ _ rfl T.u_L_api_Mark T.sz_api_Mark rfl rfl rfl (by repeat constructor) rfl (by omega) (by decide) ?_
   refine r_loadS rfl T.row_api_Mark T.sz_api_Mark rfl rfl (cells_row (by repeat constructor) (rows_all (by omega))) ?_
   refine r_alloc rfl (fun _ => T.al_api_Mark _) fun gA => ?_
   refine r_storeS rfl rfl (by first | exact .refl _ | exact perm2 _ _ _ | exact perm3 _ _ _ _ | exact perm4 _ _ _ _ _) T.sz_api_Mark (by rfl) (by rfl) ?_
   refine hl_nil ?_
   refine then_n ?_
   refine hc_seq ?_
   refine hc_region ?_
   first | refine r_fieldAddr ⟨_, 0, none⟩ rfl rfl T.fa_api_Mark_0 rfl ?_ | refine r_fieldAddr _ rfl rfl T.fa_api_Mark_0 rfl ?_
   first | refine r_load rfl T.cell_int rfl (cell_own (by repeat constructor) rfl) ?_ | refine r_load rfl T.cell_int rfl (cell_blk (by repeat constructor) rfl) ?_ | refine r_load rfl T.cell_int rfl (cell_row (by repeat constructor) (rows_get0 (by omega) rfl)) ?_ | refine r_load rfl T.cell_int rfl (cell_row_f (by repeat constructor) (rows_get (by omega) rfl)) ?_
   refine r_neq rfl rfl rfl ?_
   refine hl_nil ?_
   refine then_n ?_
   first | refine c_dec rfl (fun hb3 => ?_) (fun hb3 => ?_) | refine hc_cond rfl (fun hb3 => ?_) (fun hb3 => ?_)
   ·have hb3' := hb3; try simp at hb3'
    rw [if_neg hb3] at hct
    refine hc_region ?_
    refine r_move rfl rfl ?_
    refine r_add _ rfl rfl rfl rfl (by unfold I64; omega) ?_
    refine r_assign rfl rfl ?_
    refine hl_nil ?_
    refine inb_n ?_
    refine then_n ?_
    refine hc_region ?_
    refine r_add _ rfl rfl rfl rfl (by unfold I64; omega) ?_
    refine r_move rfl rfl ?_
    refine hl_nil ?_
    refine again _ (k + 1) (by show k + 1 ≤ l.length; omega) (by show l.length - (k + 1) < l.length - k; omega) ⟨?_, rfl, rfl, rfl, trivial⟩ (List.nil_sublist _) ⟨m0, trivial⟩
    show some (int ((costM (l.take k) : Int) + 1)) = some (int ((costM (l.take (k + 1)) : Nat) : Int))
    rw [hct]; rfl
   ·have hb3' := hb3; try simp at hb3'
    rw [if_pos (Classical.not_not.1 hb3)] at hct
    refine hc_skip ?_
    refine inb_n ?_
    refine then_n ?_
    refine hc_region ?_
    refine r_add _ rfl rfl rfl rfl (by unfold I64; omega) ?_
    refine r_move rfl rfl ?_
    refine hl_nil ?_
    refine again _ (k + 1) (by show k + 1 ≤ l.length; omega) (by show l.length - (k + 1) < l.length - k; omega) ⟨?_, rfl, rfl, rfl, trivial⟩ (List.nil_sublist _) ⟨m0, trivial⟩
    show some (int (costM (l.take k) : Int)) = some (int ((costM (l.take (k + 1)) : Nat) : Int))
    rw [hct]; rfl
  ·have hb2' := hb2; try simp at hb2'
   have hk2 : k = l.length := by omega
   subst hk2
   refine hc_exit ?_
   refine then_exit ?_
   refine then_exit ?_
   refine inb_hit ?_
   refine then_n ?_
   refine hc_seq ?_
   refine hc_region ?_
   refine r_move rfl rfl ?_
   refine r_assign rfl rfl ?_
   refine r_assign rfl rfl ?_
   refine hl_nil ?_
   refine then_n ?_
   refine hc_ret ?_
   exact ret2 () rfl (congrArg (fun s => some (int (costM s : Nat))) List.take_length) rfl rfl rfl trivial (.refl _) trivial

end Go.Proofs.Ytpbbgbjidhffoaa
