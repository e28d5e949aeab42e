/- The walk of Back; laws of years. -/
import Derived.Test.YtpbbgbjidhffoaaPu
import Derived.Test.YtpbbgbjidhffoaaPqc
import Derived.Test.YtpbbgbjidhffoaaWn
namespace Go.Proofs.Ytpbbgbjidhffoaa
open Go Go.W
set_option linter.unusedVariables false
set_option linter.unusedSimpArgs false
set_option maxRecDepth 20000
attribute [local irreducible] HL HC HQ HB Row Rows2 Blk Facts

structure OriginOK (ps : List (Sl Str)) (s : Str) (n : Nat) (o : Int) : Prop where
  lo : -1 ≤ o
  hi : o < n
  mem : 0 ≤ o → s ∈ (ps.getD o.toNat default).l
  no : ∀ j : Nat, o < j → j < n → s ∉ (ps.getD j default).l
theorem origin_ok (ps : List (Sl Str)) (s : Str) : ∀ n, OriginOK ps s n (originN ps s n)
  | 0 => ⟨by simp [originN], by simp [originN], by simp [originN], by intro j _ h; omega⟩
  | n + 1 => by
    have ih := origin_ok ps s n
    rw [originN]
    by_cases h : s ∈ (ps.getD n default).l
    · rw [if_pos h]
      exact ⟨by omega, by omega, fun _ => by rw [Int.toNat_natCast]; exact h, by intro j h1 h2; omega⟩
    · rw [if_neg h]
      have h1 := ih.hi
      refine ⟨ih.lo, by omega, ih.mem, fun j h2 h3 => ?_⟩
      by_cases hj : j = n
      · rw [hj]; exact h
      · exact ih.no j h2 (by omega)
/-- The line at an index is back from an older year. -/
def qB (ps : List (Sl Str)) (p : List Str) (i : Nat) : Bool := decide (0 ≤ originN ps (p.getD i default) ps.length) && decide (originN ps (p.getD i default) ps.length < (ps.length : Int) - 1)
def backL (ps : List (Sl Str)) (p : List Str) (k : Nat) : List Int := ((List.range k).filter (qB ps p)).map fun i : Nat => (i : Int)
theorem back_succ (ps : List (Sl Str)) (p : List Str) (k : Nat) : backL ps p (k + 1) = backL ps p k ++ (if qB ps p k = true then [(k : Int)] else []) := by
  unfold backL
  rw [List.range_succ, List.filter_append, List.map_append]
  congr 1
  by_cases h : qB ps p k = true
  · rw [if_pos h, List.filter_cons_of_pos h]; rfl
  · rw [if_neg h, List.filter_cons_of_neg h]; rfl
theorem back_le (ps : List (Sl Str)) (p : List Str) (k : Nat) : (backL ps p k).length ≤ k := by
  unfold backL
  rw [List.length_map]
  exact Nat.le_trans (List.length_filter_le _ _) (by simp)
theorem back_part (ps : List (Sl Str)) (p : List Str) (k : Nat) : ∀ d, ∃ r, backL ps p (k + d) = backL ps p k ++ r
  | 0 => ⟨[], by simp⟩
  | d + 1 => by
    obtain ⟨r, hr⟩ := back_part ps p k d
    refine ⟨r ++ (if qB ps p (k + d) = true then [((k + d : Nat) : Int)] else []), ?_⟩
    rw [← Nat.add_assoc, back_succ, hr, List.append_assoc]
theorem back_at {ps : List (Sl Str)} {p : List Str} {i n : Nat} (hi : i < n) (h : qB ps p i = true) : (backL ps p i).length < (backL ps p n).length ∧ (backL ps p n).getD (backL ps p i).length default = (i : Int) := by
  obtain ⟨r, hr⟩ := back_part ps p (i + 1) (n - (i + 1))
  rw [show i + 1 + (n - (i + 1)) = n by omega, back_succ, if_pos h] at hr
  rw [hr]
  refine ⟨by simp, ?_⟩
  rw [List.getD_eq_getElem?_getD, List.append_assoc, List.getElem?_append_right (Nat.le_refl _)]
  simp
def backE (ps : List (Sl Str)) (p : List Str) : List Int × Int := if ¬ askedErr (years ps) p = 0 then ([], askedErr (years ps) p) else (backL ps p p.length, 0)


theorem proof_Back_meets {A B : Option Addr} {ca cb : Nat} (ps : List (Sl Str)) (p : List Str) : Meets Try.prog F.proof_Back [.slice A ps.length ca, .slice B p.length cb] { outE (backE ps p) with LI := [Rows2 A ps, Row B (rows p)] } := by
 refine meets_intro F.proof_Back_f rfl (Nat.le_of_ble_eq_true rfl) fun w0 => ?_
 refine hc_seq ?_
 refine hc_region ?_
 refine r_assign rfl rfl ?_
 refine r_assign rfl rfl ?_
 refine hl_nil ?_
 refine then_n ?_
 refine hc_seq ?_
 refine hc_seq ?_
 refine hc_region ?_
 refine r_move rfl rfl ?_
 refine r_move rfl rfl ?_
 refine hl_call F.proof_asked_cb rfl rfl (proof_asked_meets ps p) (.refl _) ⟨m0, m1, trivial⟩ fun _ _ => ?_
 refine r_assign rfl rfl ?_
 refine hl_nil ?_
 refine then_n ?_
 refine hc_seq ?_
 refine hc_region ?_
 refine r_move rfl rfl ?_
 refine r_neq rfl rfl rfl ?_
 refine hl_nil ?_
 refine then_n ?_
 first | refine c_dec rfl (fun hb1 => ?_) (fun hb1 => ?_) | refine hc_cond rfl (fun hb1 => ?_) (fun hb1 => ?_)
 ·have hb1' := hb1; try simp at hb1'
  have e : backE ps p = ([], askedErr (years ps) p) := by rw [backE, if_pos hb1]
  rw [e]
  refine hc_seq ?_
  refine hc_region ?_
  refine r_move rfl rfl ?_
  refine r_assign rfl rfl ?_
  refine r_assign rfl rfl ?_
  refine hl_nil ?_
  refine then_n ?_
  refine hc_ret ?_
  refine then_ret ?_
  refine hq_nil0 ?_
  exact ret2 (none, 0) rfl rfl rfl rfl rfl trivial (List.nil_sublist _) ⟨m0, trivial⟩
 ·have hb1' := hb1; try simp at hb1'
  have e : backE ps p = (backL ps p p.length, 0) := by rw [backE, if_neg hb1]
  rw [e]
  obtain ⟨h1, h2⟩ := askedErr_zero (Classical.not_not.1 hb1)
  obtain ⟨h3, h4⟩ := yearsErr_zero h1
  have h5 := pageErr_zero h2
  refine hc_skip ?_
  refine then_n ?_
  refine hc_seq ?_
  refine hc_region ?_
  refine r_assign rfl rfl ?_
  refine hl_nil ?_
  refine then_n ?_
  refine hc_seq ?_
  refine hc_seq ?_
  refine hc_region ?_
  refine r_move rfl rfl ?_
  refine r_len_sl rfl T.u_strs rfl ?_
  refine r_move rfl rfl ?_
  refine hl_nil ?_
  refine then_n ?_
  refine hc_block ?_
  refine hc_loop (β := Nat × OutC × Hp) ⟨fun ⟨k, o, og⟩ => k ≤ p.length ∧ Grow T.int 1 o.1 (backL ps p k).length o.2 (rows (backL ps p k)) og, fun ⟨k, o, og⟩ => [(0, .slice A ps.length ca), (7, .slice o.1 (backL ps p k).length o.2), (17, .slice B p.length cb), (18, int p.length), (19, int k)], fun ⟨k, o, og⟩ => og, fun _ => [Rows2 A ps, Row B (rows p)]⟩ (fun x => p.length - x.1) (0, (none, 0), []) ⟨Nat.zero_le _, Grow.nil _ _⟩ ⟨rfl, rfl, rfl, rfl, rfl, trivial⟩ (.refl _) ⟨m0, m1, trivial⟩ fun x hx => ?_
  obtain ⟨k, o, og⟩ := x
  obtain ⟨hk, hG⟩ := hx
  refine hc_seq ?_
  refine hc_region ?_
  refine r_lss rfl rfl rfl ?_
  refine hl_nil ?_
  refine then_n ?_
  refine hc_seq ?_
  first | refine c_dec rfl (fun hb2 => ?_) (fun hb2 => ?_) | refine hc_cond rfl (fun hb2 => ?_) (fun hb2 => ?_)
  ·have hb2' := hb2; try simp at hb2'
   have hk2 : k < p.length := by omega
   have hbl := back_le ps p k
   have hbs := back_succ ps p k
   have ho := origin_ok ps (p.getD k default) ps.length
   have ho1 := ho.lo
   have ho2 := ho.hi
   refine hc_skip ?_
   refine then_n ?_
   refine hc_seq ?_
   refine hc_block ?_
   refine hc_seq ?_
   refine hc_region ?_
   refine r_move rfl rfl ?_
   refine r_elem (α := Str) _ _ rfl T.u_strs T.sz_string rfl rfl rfl (by repeat constructor) rfl (by omega) (by decide) ?_
   refine r_load rfl T.cell_string rfl (cell_row (by repeat constructor) (rows_get0 (by omega) rfl)) ?_
   refine r_assign rfl rfl ?_
   refine r_assign rfl rfl ?_
   refine hl_nil ?_
   refine then_n ?_
   refine hc_seq ?_
   refine hc_region ?_
   refine r_move rfl rfl ?_
   refine r_move rfl rfl ?_
   refine hl_call F.proof_origin_cb rfl rfl (proof_origin_meets ps (p.getD k default) (by omega) (fun q hq => by have := h4 q hq; omega)) (List.Perm.refl _) ⟨m0, trivial⟩ fun _ _ => ?_
   refine r_assign rfl rfl ?_
   refine hl_nil ?_
   refine then_n ?_
   refine hc_seq ?_
   refine hc_region ?_
   refine r_move rfl rfl ?_
   refine r_geq rfl rfl rfl ?_
   refine r_move rfl rfl ?_
   refine g_split rfl rfl ?_ ?_
   ·intro hg1; have hg1' := hg1; try simp at hg1'
    have hq1 : 0 ≤ originN ps (p.getD k default) ps.length := of_decide_eq_true (bt1 hg1)
    refine g_yes rfl rfl hg1 ?_
    refine r_move rfl rfl ?_
    refine g_yes rfl rfl hg1 ?_
    refine r_move rfl rfl ?_
    refine g_yes rfl rfl hg1 ?_
    refine r_len_sl rfl T.u_pages rfl ?_
    refine g_yes rfl rfl hg1 ?_
    refine r_sub _ rfl rfl rfl rfl (by unfold I64; omega) ?_
    refine g_yes rfl rfl hg1 ?_
    refine r_lss rfl rfl rfl ?_
    refine p_t rfl rfl (bt1 hg1) rfl ?_
    refine hl_nil ?_
    refine then_n ?_
    first | refine c_dec rfl (fun hb3 => ?_) (fun hb3 => ?_) | refine hc_cond rfl (fun hb3 => ?_) (fun hb3 => ?_)
    ·have hb3' := hb3; try simp at hb3'
     have hqt : qB ps p k = true := by unfold qB; rw [decide_eq_true hq1, decide_eq_true hb3]; rfl
     rw [if_pos hqt] at hbs
     refine hc_region ?_
     refine r_move rfl rfl ?_
     refine r_move rfl rfl ?_
     refine r_buildSlice _ rfl rfl (fun _ => T.bs_ints_1 ..) fun gS => ?_
     refine r_append ((backL ps p k).length + 1) (rows (backL ps p (k + 1))) T.el_ints rfl rfl rfl hG (List.perm_append_comm (l₁ := [_])) (Src.own (cs := #[int k]) (m := 1) (List.mem_append_right _ m0) rfl rfl) rfl (by rw [hbs, rows_append]; rfl) (by unfold maxLen; omega) (by omega) fun A' c' og' hG' => ?_
     refine r_assign rfl rfl ?_
     refine hl_nil ?_
     refine inb_n ?_
     refine then_n ?_
     refine hc_region ?_
     refine r_add _ rfl rfl rfl rfl (by unfold I64; omega) ?_
     refine r_move rfl rfl ?_
     refine hl_nil ?_
     have hl2 : (backL ps p (k + 1)).length = (backL ps p k).length + 1 := by rw [hbs, len_snoc]
     exact again _ (k + 1, (A', c'), og') ⟨by omega, by rw [hl2]; exact hG'⟩ (by show p.length - (k + 1) < p.length - k; omega) ⟨rfl, by rw [hl2]; rfl, rfl, rfl, rfl, trivial⟩ (List.sublist_append_left _ _) ⟨m0, m1, trivial⟩
    ·have hb3' := hb3; try simp at hb3'
     have hqf : ¬ qB ps p k = true := fun h => by unfold qB at h; rw [decide_eq_true hq1, decide_eq_false hb3] at h; cases h
     rw [if_neg hqf, List.append_nil] at hbs
     refine hc_skip ?_
     refine inb_n ?_
     refine then_n ?_
     refine hc_region ?_
     refine r_add _ rfl rfl rfl rfl (by unfold I64; omega) ?_
     refine r_move rfl rfl ?_
     refine hl_nil ?_
     exact again _ (k + 1, o, og) ⟨by omega, by rw [hbs]; exact hG⟩ (by show p.length - (k + 1) < p.length - k; omega) ⟨rfl, by rw [hbs]; rfl, rfl, rfl, rfl, trivial⟩ (.refl _) ⟨m0, m1, trivial⟩
   ·intro hg1; have hg1' := hg1; try simp at hg1'
    have hq1 : ¬ 0 ≤ originN ps (p.getD k default) ps.length := of_decide_eq_false (bf2 hg1)
    have hqf : ¬ qB ps p k = true := fun h => by unfold qB at h; rw [decide_eq_false hq1] at h; cases h
    rw [if_neg hqf, List.append_nil] at hbs
    refine g_no rfl rfl rfl rfl rfl hg1 ?_
    refine g_no rfl rfl rfl rfl rfl hg1 ?_
    refine g_no rfl rfl rfl rfl rfl hg1 ?_
    refine g_no rfl rfl rfl rfl rfl hg1 ?_
    refine g_no rfl rfl rfl rfl rfl hg1 ?_
    refine p_f rfl rfl (bf2 hg1) rfl ?_
    refine hl_nil ?_
    refine then_n ?_
    refine c_f rfl rfl ?_
    refine hc_skip ?_
    refine inb_n ?_
    refine then_n ?_
    refine hc_region ?_
    refine r_add _ rfl rfl rfl rfl (by unfold I64; omega) ?_
    refine r_move rfl rfl ?_
    refine hl_nil ?_
    exact again _ (k + 1, o, og) ⟨by omega, by rw [hbs]; exact hG⟩ (by show p.length - (k + 1) < p.length - k; omega) ⟨rfl, by rw [hbs]; rfl, rfl, rfl, rfl, trivial⟩ (.refl _) ⟨m0, m1, trivial⟩
  ·have hb2' := hb2; try simp at hb2'
   have hk2 : k = p.length := by omega
   subst hk2
   refine hc_exit ?_
   refine then_exit ?_
   refine then_exit ?_
   refine inb_hit ?_
   refine then_n ?_
   refine hc_seq ?_
   refine hc_region ?_
   refine r_move rfl rfl ?_
   refine r_assign rfl rfl ?_
   refine r_assign rfl rfl ?_
   refine hl_nil ?_
   refine then_n ?_
   refine hc_ret ?_
   refine hq_grown0 hG ?_
   exact ret2 o rfl rfl rfl rfl rfl trivial (.refl _) ⟨m0, trivial⟩

/-- Years as the kit makes them are valid. -/
theorem years_ok {ps : List (Sl Str)} (h : PagesOK ps) (h4 : ps.length ≤ 4) : yearsErr (years ps) = 0 := by
  rw [yearsErr_of, if_neg (by omega)]
  exact firstErr_all fun p hp => page_ok (h p hp).1 (h p hp).2.1


end Go.Proofs.Ytpbbgbjidhffoaa
