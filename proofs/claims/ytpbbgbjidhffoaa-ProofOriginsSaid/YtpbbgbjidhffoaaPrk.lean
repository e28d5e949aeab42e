/- Walks of Back and of the statement ProofOrigins. -/
import Derived.Test.YtpbbgbjidhffoaaPrb
import Derived.Test.YtpbbgbjidhffoaaPqc
import Derived.Test.YtpbbgbjidhffoaaWn
namespace Go.Proofs.Ytpbbgbjidhffoaa
open Go Go.W
set_option linter.unusedVariables false
set_option linter.unusedSimpArgs false
set_option maxRecDepth 20000
attribute [local irreducible] HL HC HQ HB Row Rows2 Blk Facts

structure OriginOK (ps : List (Sl Str)) (s : Str) (n : Nat) (o : Int) : Prop where
  lo : -1 ≤ o
  hi : o < n
  mem : 0 ≤ o → s ∈ (ps.getD o.toNat default).l
  no : ∀ j : Nat, o < j → j < n → s ∉ (ps.getD j default).l
theorem origin_ok (ps : List (Sl Str)) (s : Str) : ∀ n, OriginOK ps s n (originN ps s n)
  | 0 => ⟨by simp [originN], by simp [originN], by simp [originN], by intro j _ h; omega⟩
  | n + 1 => by
    have ih := origin_ok ps s n
    rw [originN]
    by_cases h : s ∈ (ps.getD n default).l
    · rw [if_pos h]
      exact ⟨by omega, by omega, fun _ => by rw [Int.toNat_natCast]; exact h, by intro j h1 h2; omega⟩
    · rw [if_neg h]
      have h1 := ih.hi
      refine ⟨ih.lo, by omega, ih.mem, fun j h2 h3 => ?_⟩
      by_cases hj : j = n
      · rw [hj]; exact h
      · exact ih.no j h2 (by omega)
/-- The line at an index is back from an older year. -/
def qB (ps : List (Sl Str)) (p : List Str) (i : Nat) : Bool := decide (0 ≤ originN ps (p.getD i default) ps.length) && decide (originN ps (p.getD i default) ps.length < (ps.length : Int) - 1)
def backL (ps : List (Sl Str)) (p : List Str) (k : Nat) : List Int := ((List.range k).filter (qB ps p)).map fun i : Nat => (i : Int)
theorem back_succ (ps : List (Sl Str)) (p : List Str) (k : Nat) : backL ps p (k + 1) = backL ps p k ++ (if qB ps p k = true then [(k : Int)] else []) := by
  unfold backL
  rw [List.range_succ, List.filter_append, List.map_append]
  congr 1
  by_cases h : qB ps p k = true
  · rw [if_pos h, List.filter_cons_of_pos h]; rfl
  · rw [if_neg h, List.filter_cons_of_neg h]; rfl
theorem back_le (ps : List (Sl Str)) (p : List Str) (k : Nat) : (backL ps p k).length ≤ k := by
  unfold backL
  rw [List.length_map]
  exact Nat.le_trans (List.length_filter_le _ _) (by simp)
theorem back_part (ps : List (Sl Str)) (p : List Str) (k : Nat) : ∀ d, ∃ r, backL ps p (k + d) = backL ps p k ++ r
  | 0 => ⟨[], by simp⟩
  | d + 1 => by
    obtain ⟨r, hr⟩ := back_part ps p k d
    refine ⟨r ++ (if qB ps p (k + d) = true then [((k + d : Nat) : Int)] else []), ?_⟩
    rw [← Nat.add_assoc, back_succ, hr, List.append_assoc]
theorem back_at {ps : List (Sl Str)} {p : List Str} {i n : Nat} (hi : i < n) (h : qB ps p i = true) : (backL ps p i).length < (backL ps p n).length ∧ (backL ps p n).getD (backL ps p i).length default = (i : Int) := by
  obtain ⟨r, hr⟩ := back_part ps p (i + 1) (n - (i + 1))
  rw [show i + 1 + (n - (i + 1)) = n by omega, back_succ, if_pos h] at hr
  rw [hr]
  refine ⟨by simp, ?_⟩
  rw [List.getD_eq_getElem?_getD, List.append_assoc, List.getElem?_append_right (Nat.le_refl _)]
  simp
def backE (ps : List (Sl Str)) (p : List Str) : List Int × Int := if ¬ askedErr (years ps) p = 0 then ([], askedErr (years ps) p) else (backL ps p p.length, 0)


theorem proof_Back_meets {A B : Option Addr} {ca cb : Nat} (ps : List (Sl Str)) (p : List Str) : Meets Try.prog F.proof_Back [.slice A ps.length ca, .slice B p.length cb] { outE (backE ps p) with LI := [Rows2 A ps, Row B (rows p)] } := by
  refine meets_intro F.proof_Back_f rfl (Nat.le_of_ble_eq_true rfl) fun w0 => ?_
  refine hc_seq ?_
  refine hc_region ?_
  refine r_assign rfl rfl ?_
  refine r_assign rfl rfl ?_
  refine hl_nil ?_
  refine then_n ?_
  refine hc_seq ?_
  refine hc_seq ?_
  refine hc_region ?_
  refine r_move rfl rfl ?_
  refine r_move rfl rfl ?_
  refine hl_call F.proof_asked_cb rfl rfl (proof_asked_meets ps p) (.refl _) ⟨m0, m1, trivial⟩ fun _ _ => ?_
  refine r_assign rfl rfl ?_
  refine hl_nil ?_
  refine then_n ?_
  refine hc_seq ?_
  refine hc_region ?_
  refine r_move rfl rfl ?_
  refine r_neq rfl rfl rfl ?_
  refine hl_nil ?_
  refine then_n ?_
  first | refine c_dec rfl (fun hb1 => ?_) (fun hb1 => ?_) | refine hc_cond rfl (fun hb1 => ?_) (fun hb1 => ?_)
  · have hb1' := hb1; try simp at hb1'
    have e : backE ps p = ([], askedErr (years ps) p) := by rw [backE, if_pos hb1]
    rw [e]
    refine hc_seq ?_
    refine hc_region ?_
    refine r_move rfl rfl ?_
    refine r_assign rfl rfl ?_
    refine r_assign rfl rfl ?_
    refine hl_nil ?_
    refine then_n ?_
    refine hc_ret ?_
    refine then_ret ?_
    refine hq_nil0 ?_
    exact ret2 (none, 0) rfl rfl rfl rfl rfl trivial (List.nil_sublist _) ⟨m0, trivial⟩
  · have hb1' := hb1; try simp at hb1'
    have e : backE ps p = (backL ps p p.length, 0) := by rw [backE, if_neg hb1]
    rw [e]
    obtain ⟨h1, h2⟩ := askedErr_zero (Classical.not_not.1 hb1)
    obtain ⟨h3, h4⟩ := yearsErr_zero h1
    have h5 := pageErr_zero h2
    refine hc_skip ?_
    refine then_n ?_
    refine hc_seq ?_
    refine hc_region ?_
    refine r_assign rfl rfl ?_
    refine hl_nil ?_
    refine then_n ?_
    refine hc_seq ?_
    refine hc_seq ?_
    refine hc_region ?_
    refine r_move rfl rfl ?_
    refine r_len_sl rfl T.u_strs rfl ?_
    refine r_move rfl rfl ?_
    refine hl_nil ?_
    refine then_n ?_
    refine hc_block ?_
    refine hc_loop (β := Nat × OutC × Hp) ⟨fun ⟨k, o, og⟩ => k ≤ p.length ∧ Grow T.int 1 o.1 (backL ps p k).length o.2 (rows (backL ps p k)) og, fun ⟨k, o, og⟩ => [(0, .slice A ps.length ca), (7, .slice o.1 (backL ps p k).length o.2), (17, .slice B p.length cb), (18, int p.length), (19, int k)], fun ⟨k, o, og⟩ => og, fun _ => [Rows2 A ps, Row B (rows p)]⟩ (fun x => p.length - x.1) (0, (none, 0), []) ⟨Nat.zero_le _, Grow.nil _ _⟩ ⟨rfl, rfl, rfl, rfl, rfl, trivial⟩ (.refl _) ⟨m0, m1, trivial⟩ fun x hx => ?_
    obtain ⟨k, o, og⟩ := x
    obtain ⟨hk, hG⟩ := hx
    refine hc_seq ?_
    refine hc_region ?_
    refine r_lss rfl rfl rfl ?_
    refine hl_nil ?_
    refine then_n ?_
    refine hc_seq ?_
    first | refine c_dec rfl (fun hb2 => ?_) (fun hb2 => ?_) | refine hc_cond rfl (fun hb2 => ?_) (fun hb2 => ?_)
    · have hb2' := hb2; try simp at hb2'
      have hk2 : k < p.length := by omega
      have hbl := back_le ps p k
      have hbs := back_succ ps p k
      have ho := origin_ok ps (p.getD k default) ps.length
      have ho1 := ho.lo
      have ho2 := ho.hi
      refine hc_skip ?_
      refine then_n ?_
      refine hc_seq ?_
      refine hc_block ?_
      refine hc_seq ?_
      refine hc_region ?_
      refine r_move rfl rfl ?_
      refine r_elem (α := Str) _ _ rfl T.u_strs T.sz_string rfl rfl rfl (by repeat constructor) rfl (by omega) (by decide) ?_
      refine r_load rfl T.cell_string rfl (cell_row (by repeat constructor) (rows_get0 (by omega) rfl)) ?_
      refine r_assign rfl rfl ?_
      refine r_assign rfl rfl ?_
      refine hl_nil ?_
      refine then_n ?_
      refine hc_seq ?_
      refine hc_region ?_
      refine r_move rfl rfl ?_
      refine r_move rfl rfl ?_
      refine hl_call F.proof_origin_cb rfl rfl (proof_origin_meets ps (p.getD k default) (by omega) (fun q hq => by have := h4 q hq; omega)) (List.Perm.refl _) ⟨m0, trivial⟩ fun _ _ => ?_
      refine r_assign rfl rfl ?_
      refine hl_nil ?_
      refine then_n ?_
      refine hc_seq ?_
      refine hc_region ?_
      refine r_move rfl rfl ?_
      refine r_geq rfl rfl rfl ?_
      refine r_move rfl rfl ?_
      refine g_split rfl rfl ?_ ?_
      · intro hg1; have hg1' := hg1; try simp at hg1'
        have hq1 : 0 ≤ originN ps (p.getD k default) ps.length := of_decide_eq_true (bt1 hg1)
        refine g_yes rfl rfl (by first | rfl | assumption | exact gy (by assumption) | exact gy2 (by assumption)) ?_
        refine r_move rfl rfl ?_
        refine g_yes rfl rfl (by first | rfl | assumption | exact gy (by assumption) | exact gy2 (by assumption)) ?_
        refine r_move rfl rfl ?_
        refine g_yes rfl rfl (by first | rfl | assumption | exact gy (by assumption) | exact gy2 (by assumption)) ?_
        refine r_len_sl rfl T.u_pages rfl ?_
        refine g_yes rfl rfl (by first | rfl | assumption | exact gy (by assumption) | exact gy2 (by assumption)) ?_
        refine r_sub _ rfl rfl rfl rfl (by unfold I64; omega) ?_
        refine g_yes rfl rfl (by first | rfl | assumption | exact gy (by assumption) | exact gy2 (by assumption)) ?_
        refine r_lss rfl rfl rfl ?_
        refine p_t rfl rfl (by first | rfl | assumption | exact bt1 (by assumption) | exact bt2 (by assumption)) rfl ?_
        refine hl_nil ?_
        refine then_n ?_
        first | refine c_dec rfl (fun hb3 => ?_) (fun hb3 => ?_) | refine hc_cond rfl (fun hb3 => ?_) (fun hb3 => ?_)
        · have hb3' := hb3; try simp at hb3'
          have hqt : qB ps p k = true := by unfold qB; rw [decide_eq_true hq1, decide_eq_true hb3]; rfl
          rw [if_pos hqt] at hbs
          refine hc_region ?_
          refine r_move rfl rfl ?_
          refine r_move rfl rfl ?_
          refine r_buildSlice _ rfl rfl (fun _ => T.bs_ints_1 ..) fun gS => ?_
          refine r_append ((backL ps p k).length + 1) (rows (backL ps p (k + 1))) T.el_ints rfl rfl rfl hG (List.perm_append_comm (l₁ := [_])) (Src.own (cs := #[int k]) (m := 1) (List.mem_append_right _ m0) rfl rfl) rfl (by rw [hbs, rows_append]; rfl) (by unfold maxLen; omega) (by omega) fun A' c' og' hG' => ?_
          refine r_assign rfl rfl ?_
          refine hl_nil ?_
          refine inb_n ?_
          refine then_n ?_
          refine hc_region ?_
          refine r_add _ rfl rfl rfl rfl (by unfold I64; omega) ?_
          refine r_move rfl rfl ?_
          refine hl_nil ?_
          have hl2 : (backL ps p (k + 1)).length = (backL ps p k).length + 1 := by rw [hbs, len_snoc]
          exact again _ (k + 1, (A', c'), og') ⟨by omega, by rw [hl2]; exact hG'⟩ (by show p.length - (k + 1) < p.length - k; omega) ⟨rfl, by rw [hl2]; rfl, rfl, rfl, rfl, trivial⟩ (List.sublist_append_left _ _) ⟨m0, m1, trivial⟩
        · have hb3' := hb3; try simp at hb3'
          have hqf : ¬ qB ps p k = true := fun h => by unfold qB at h; rw [decide_eq_true hq1, decide_eq_false hb3] at h; cases h
          rw [if_neg hqf, List.append_nil] at hbs
          refine hc_skip ?_
          refine inb_n ?_
          refine then_n ?_
          refine hc_region ?_
          refine r_add _ rfl rfl rfl rfl (by unfold I64; omega) ?_
          refine r_move rfl rfl ?_
          refine hl_nil ?_
          exact again _ (k + 1, o, og) ⟨by omega, by rw [hbs]; exact hG⟩ (by show p.length - (k + 1) < p.length - k; omega) ⟨rfl, by rw [hbs]; rfl, rfl, rfl, rfl, trivial⟩ (.refl _) ⟨m0, m1, trivial⟩
      · intro hg1; have hg1' := hg1; try simp at hg1'
        have hq1 : ¬ 0 ≤ originN ps (p.getD k default) ps.length := of_decide_eq_false (bf2 hg1)
        have hqf : ¬ qB ps p k = true := fun h => by unfold qB at h; rw [decide_eq_false hq1] at h; cases h
        rw [if_neg hqf, List.append_nil] at hbs
        refine g_no rfl rfl rfl rfl rfl (by first | rfl | assumption | exact gn (by assumption) | exact gn2 (by assumption)) ?_
        refine g_no rfl rfl rfl rfl rfl (by first | rfl | assumption | exact gn (by assumption) | exact gn2 (by assumption)) ?_
        refine g_no rfl rfl rfl rfl rfl (by first | rfl | assumption | exact gn (by assumption) | exact gn2 (by assumption)) ?_
        refine g_no rfl rfl rfl rfl rfl (by first | rfl | assumption | exact gn (by assumption) | exact gn2 (by assumption)) ?_
        refine g_no rfl rfl rfl rfl rfl (by first | rfl | assumption | exact gn (by assumption) | exact gn2 (by assumption)) ?_
        refine p_f rfl rfl (by first | rfl | assumption | exact bf1 (by assumption) | exact bf2 (by assumption)) rfl ?_
        refine hl_nil ?_
        refine then_n ?_
        refine c_f rfl (by first | rfl | assumption | exact bf1 (by assumption) | exact bf2 (by assumption)) ?_
        refine hc_skip ?_
        refine inb_n ?_
        refine then_n ?_
        refine hc_region ?_
        refine r_add _ rfl rfl rfl rfl (by unfold I64; omega) ?_
        refine r_move rfl rfl ?_
        refine hl_nil ?_
        exact again _ (k + 1, o, og) ⟨by omega, by rw [hbs]; exact hG⟩ (by show p.length - (k + 1) < p.length - k; omega) ⟨rfl, by rw [hbs]; rfl, rfl, rfl, rfl, trivial⟩ (.refl _) ⟨m0, m1, trivial⟩
    · have hb2' := hb2; try simp at hb2'
      have hk2 : k = p.length := by omega
      subst hk2
      refine hc_exit ?_
      refine then_exit ?_
      refine then_exit ?_
      refine inb_hit ?_
      refine then_n ?_
      refine hc_seq ?_
      refine hc_region ?_
      refine r_move rfl rfl ?_
      refine r_assign rfl rfl ?_
      refine r_assign rfl rfl ?_
      refine hl_nil ?_
      refine then_n ?_
      refine hc_ret ?_
      refine hq_grown0 hG ?_
      exact ret2 o rfl rfl rfl rfl rfl trivial (.refl _) ⟨m0, trivial⟩

/-- Years as the kit makes them are valid. -/
theorem years_ok {ps : List (Sl Str)} (h : PagesOK ps) (h4 : ps.length ≤ 4) : yearsErr (years ps) = 0 := by
  rw [yearsErr_of, if_neg (by omega)]
  exact firstErr_all fun p hp => page_ok (h p hp).1 (h p hp).2.1


set_option maxHeartbeats 2000000 in
theorem law07_ProofOrigins_meets {N : Option Addr} {cn : Nat} (nums : List Int) (hn : nums.length ≤ 9223372036854775807) :
    Meets Try.prog F.law07_ProofOrigins [.slice N nums.length cn] { LI := [Row N (rows nums)], val := fun _ : Unit => .bool true } := by
  refine meets_intro F.law07_ProofOrigins_f rfl (Nat.le_of_ble_eq_true rfl) fun w0 => ?_
  refine hc_seq ?_
  refine hc_region ?_
  refine r_assign rfl rfl ?_
  refine hl_nil ?_
  refine then_n ?_
  refine hc_seq ?_
  refine hc_region ?_
  refine r_move rfl rfl ?_
  refine hl_call F.kit_NewDice_cb rfl rfl (kit_NewDice_meets nums) (List.Perm.refl _) ⟨m0, trivial⟩ fun gd _ => ?_
  refine r_assign rfl rfl ?_
  refine hl_nil ?_
  refine then_n ?_
  refine hc_seq ?_
  refine hc_region ?_
  refine r_move rfl rfl ?_
  refine hl_call F.kit_YearsOf_cb rfl rfl (kit_YearsOf_meets 4 hn (dok0 nums) (by omega)) (.refl _) ⟨(by repeat constructor), trivial⟩ fun r hr => ?_
  obtain ⟨s1, ps, oy⟩ := r
  obtain ⟨hs1, hpsn, hpso, hpsc⟩ := hr
  simp only at hpsn hpsc hpso
  have hjps : (s1, ps, oy).snd.fst.length = ps.length := rfl
  refine r_move rfl rfl ?_
  refine hl_call F.kit_PageOf_cb rfl rfl (kit_PageOf_meets 6 hn hs1 (by omega)) (.refl _) ⟨(by repeat constructor), trivial⟩ fun r hr => ?_
  obtain ⟨s2, x, ox⟩ := r
  obtain ⟨hs2, hxn, hxo, hxc⟩ := hr
  simp only at hxn hxc hxo
  have hjx : (s2, x, ox).snd.fst.length = x.length := rfl
  refine r_assign rfl rfl ?_
  refine r_assign rfl rfl ?_
  refine hl_nil ?_
  refine then_n ?_
  refine hc_seq ?_
  have hye := years_ok hpso hpsn
  have hpx := page_ok hxo (by omega)
  have hask : askedErr (years ps) x = 0 := by rw [askedErr, if_pos hye]; exact hpx
  have hoe : originE ps x = (x.map fun s => originN ps s ps.length, 0) := by rw [originE, if_neg (not_not_intro hask)]
  have hbe : backE ps x = (backL ps x x.length, 0) := by rw [backE, if_neg (not_not_intro hask)]
  have hbl := back_le ps x x.length
  have hOl : (x.map fun s => originN ps s ps.length).length = x.length := List.length_map ..
  have hO : ∀ i, i < x.length → OriginOK ps (x.getD i default) ps.length ((x.map fun s => originN ps s ps.length).getD i default) := fun i hi => by
    have e : (x.map fun s => originN ps s ps.length).getD i default = originN ps (x.getD i default) ps.length := by rw [getD_at (by omega), getD_at hi]; simp
    rw [e]
    exact origin_ok ..
  have hQ : ∀ i, i < x.length → qB ps x i = (decide (0 ≤ (x.map fun s => originN ps s ps.length).getD i default) && decide ((x.map fun s => originN ps s ps.length).getD i default < (ps.length : Int) - 1)) := fun i hi => by
    have e : (x.map fun s => originN ps s ps.length).getD i default = originN ps (x.getD i default) ps.length := by rw [getD_at (by omega), getD_at hi]; simp
    rw [e]
    rfl
  generalize (x.map fun s => originN ps s ps.length) = O at *
  refine hc_region ?_
  refine r_move rfl rfl ?_
  refine r_move rfl rfl ?_
  have hd1 := proof_Origin_meets (A := oy.1) (ca := oy.2) (B := ox.1) (cb := ox.2) ps x
  rw [hoe] at hd1
  refine hl_call F.proof_Origin_cb rfl rfl (hd1) (List.Perm.refl _) ⟨(by repeat constructor), (by repeat constructor), trivial⟩ fun oz _ => ?_
  refine r_move rfl rfl ?_
  refine r_extract rfl rfl rfl ?_
  refine r_extract rfl rfl rfl ?_
  refine r_assign rfl rfl ?_
  refine r_assign rfl rfl ?_
  refine hl_nil ?_
  refine then_n ?_
  refine hc_seq ?_
  refine hc_region ?_
  refine r_move rfl rfl ?_
  refine r_move rfl rfl ?_
  have hd2 := proof_Back_meets (A := oy.1) (ca := oy.2) (B := ox.1) (cb := ox.2) ps x
  rw [hbe] at hd2
  refine hl_call F.proof_Back_cb rfl rfl (hd2) (List.Perm.refl _) ⟨(by repeat constructor), (by repeat constructor), trivial⟩ fun ob _ => ?_
  refine r_move rfl rfl ?_
  refine r_extract rfl rfl rfl ?_
  refine r_extract rfl rfl rfl ?_
  refine r_assign rfl rfl ?_
  refine r_assign rfl rfl ?_
  refine hl_nil ?_
  refine then_n ?_
  refine hc_seq ?_
  refine hc_seq ?_
  refine hc_region ?_
  refine r_move rfl rfl ?_
  refine r_neq rfl rfl rfl ?_
  refine r_move rfl rfl ?_
  refine g_split rfl rfl ?_ ?_
  · intro hg1; have hg1' := hg1; try simp at hg1'
    refine g_yes rfl rfl (by first | rfl | assumption | exact gy (by assumption) | exact gy2 (by assumption)) ?_
    refine r_move rfl rfl ?_
    refine g_yes rfl rfl (by first | rfl | assumption | exact gy (by assumption) | exact gy2 (by assumption)) ?_
    refine r_neq rfl rfl rfl ?_
    refine p_f rfl rfl (by first | rfl | assumption | exact bf1 (by assumption) | exact bf2 (by assumption)) rfl ?_
    refine r_move rfl rfl ?_
    refine g_split rfl rfl ?_ ?_
    · intro hg2; have hg2' := hg2; try simp at hg2'
      refine g_yes rfl rfl (by first | rfl | assumption | exact gy (by assumption) | exact gy2 (by assumption)) ?_
      refine r_move rfl rfl ?_
      refine g_yes rfl rfl (by first | rfl | assumption | exact gy (by assumption) | exact gy2 (by assumption)) ?_
      refine r_len_sl rfl T.u_ints rfl ?_
      refine g_yes rfl rfl (by first | rfl | assumption | exact gy (by assumption) | exact gy2 (by assumption)) ?_
      refine r_move rfl rfl ?_
      refine g_yes rfl rfl (by first | rfl | assumption | exact gy (by assumption) | exact gy2 (by assumption)) ?_
      refine r_len_sl rfl T.u_strs rfl ?_
      refine g_yes rfl rfl (by first | rfl | assumption | exact gy (by assumption) | exact gy2 (by assumption)) ?_
      refine r_neq rfl rfl rfl ?_
      refine p_f rfl rfl (by first | rfl | assumption | exact bf1 (by assumption) | exact bf2 (by assumption)) rfl ?_
      refine r_move rfl rfl ?_
      refine g_split rfl rfl ?_ ?_
      · intro hg3; have hg3' := hg3; try simp at hg3'
        refine g_yes rfl rfl (by first | rfl | assumption | exact gy (by assumption) | exact gy2 (by assumption)) ?_
        refine r_move rfl rfl ?_
        refine g_yes rfl rfl (by first | rfl | assumption | exact gy (by assumption) | exact gy2 (by assumption)) ?_
        refine r_len_sl rfl T.u_ints rfl ?_
        refine g_yes rfl rfl (by first | rfl | assumption | exact gy (by assumption) | exact gy2 (by assumption)) ?_
        refine r_move rfl rfl ?_
        refine g_yes rfl rfl (by first | rfl | assumption | exact gy (by assumption) | exact gy2 (by assumption)) ?_
        refine r_len_sl rfl T.u_strs rfl ?_
        refine g_yes rfl rfl (by first | rfl | assumption | exact gy (by assumption) | exact gy2 (by assumption)) ?_
        refine r_gtr rfl rfl rfl ?_
        refine p_f rfl rfl (by first | rfl | assumption | exact bf1 (by assumption) | exact bf2 (by assumption)) rfl ?_
        refine hl_nil ?_
        refine then_n ?_
        first | refine c_dec rfl (fun hb1 => ?_) (fun hb1 => ?_) | refine hc_cond rfl (fun hb1 => ?_) (fun hb1 => ?_)
        · have hj : (backL ps x x.length, (0 : Int)).fst.length = (backL ps x x.length).length := rfl
          omega
        · have hb1' := hb1; try simp at hb1'
          refine hc_skip ?_
          refine then_n ?_
          refine hc_seq ?_
          refine hc_outer (A := oy.1) (ps := ps) (by repeat constructor) ?_
          refine hc_region ?_
          refine r_assign rfl rfl ?_
          refine hl_nil ?_
          refine then_n ?_
          refine hc_seq ?_
          refine hc_seq ?_
          refine hc_region ?_
          refine r_assign rfl rfl ?_
          refine hl_nil ?_
          refine then_n ?_
          refine hc_block ?_
          refine hc_loop (β := Nat) ⟨fun i => i ≤ x.length, fun i => [(4, .slice oy.1 ps.length oy.2), (5, .slice ox.1 x.length ox.2), (6, .slice oz.1 O.length oz.2), (8, .slice ob.1 (backL ps x x.length).length ob.2), (10, int (backL ps x i).length), (11, int i)], fun _ => [], fun _ => [Row oy.1 (rows ps), Row ox.1 (rows x), Row oz.1 (rows O), Row ob.1 (rows (backL ps x x.length)), Rows2 oy.1 ps]⟩ (fun i => x.length - i) 0 (Nat.zero_le _) ⟨rfl, rfl, rfl, rfl, rfl, rfl, trivial⟩ (List.nil_sublist _) ⟨(by repeat constructor), (by repeat constructor), (by repeat constructor), (by repeat constructor), (by repeat constructor), trivial⟩ fun i hi => ?_
          simp only at hi
          have hbi := back_le ps x i
          refine hc_seq ?_
          refine hc_seq ?_
          refine hc_region ?_
          refine r_move rfl rfl ?_
          refine r_move rfl rfl ?_
          refine r_len_sl rfl T.u_ints rfl ?_
          refine r_lss rfl rfl rfl ?_
          refine hl_nil ?_
          refine then_n ?_
          first | refine c_dec rfl (fun hb2 => ?_) (fun hb2 => ?_) | refine hc_cond rfl (fun hb2 => ?_) (fun hb2 => ?_)
          · have hb2' := hb2; try simp at hb2'
            have hi2 : i < x.length := by omega
            have hOi := hO i hi2
            have ho1 := hOi.lo
            have ho2 := hOi.hi
            have hqi := hQ i hi2
            have hbs := back_succ ps x i
            refine hc_skip ?_
            refine then_n ?_
            refine hc_seq ?_
            refine hc_block ?_
            refine hc_cut ⟨fun _ : Unit => True, fun _ => [(4, .slice oy.1 ps.length oy.2), (5, .slice ox.1 x.length ox.2), (6, .slice oz.1 O.length oz.2), (8, .slice ob.1 (backL ps x x.length).length ob.2), (10, int (backL ps x i).length), (11, int i)], fun _ => [], fun _ => [Row oy.1 (rows ps), Row ox.1 (rows x), Row oz.1 (rows O), Row ob.1 (rows (backL ps x x.length)), Rows2 oy.1 ps]⟩ ?_ ?_
            · skip
              refine hc_seq ?_
              refine hc_draw 32 mixed (by decide) (by decide) rfl rfl ?_
              apply hb_ex _ rfl rfl rfl
              · intro w1
                refine r_move rfl rfl ?_
                refine hl_nil ?_
                exact qe_done rfl
              apply hb_ex _ rfl rfl rfl
              · intro w1
                refine r_move rfl rfl ?_
                refine hl_nil ?_
                exact qe_done rfl
              apply hb_ex _ rfl rfl rfl
              · intro w1
                refine r_elem (α := Int) O i rfl T.u_ints T.sz_int rfl rfl rfl (by repeat constructor) rfl (by omega) (by decide) ?_
                refine hl_nil ?_
                exact qe_done rfl
              apply hb_ex _ rfl rfl rfl
              · intro w1
                refine r_load rfl T.cell_int rfl (cell_row (by repeat constructor) (rows_get0 (by omega) rfl)) ?_
                refine hl_nil ?_
                exact qe_done rfl
              apply hb_ex _ rfl rfl rfl
              · intro w1
                refine r_lss rfl rfl rfl ?_
                refine hl_nil ?_
                exact qe_done rfl
              apply hb_ex _ rfl rfl rfl
              · intro w1
                refine r_move rfl rfl ?_
                refine hl_nil ?_
                exact qe_done rfl
              refine hb_split (t := 62) (want := false) rfl ?_ ?_
              · intro hg4; have hg4' := hg4; try simp at hg4'
                apply hb_ex _ rfl rfl rfl
                · intro w1
                  refine g_yes rfl rfl (by first | rfl | assumption | exact gy (by assumption) | exact gy2 (by assumption)) ?_
                  refine r_move rfl rfl ?_
                  refine hl_nil ?_
                  exact qe_done rfl
                apply hb_ex _ rfl rfl rfl
                · intro w1
                  refine g_yes rfl rfl (by first | rfl | assumption | exact gy (by assumption) | exact gy2 (by assumption)) ?_
                  refine r_move rfl rfl ?_
                  refine hl_nil ?_
                  exact qe_done rfl
                apply hb_ex _ rfl rfl rfl
                · intro w1
                  refine g_yes rfl rfl (by first | rfl | assumption | exact gy (by assumption) | exact gy2 (by assumption)) ?_
                  refine r_elem (α := Int) O i rfl T.u_ints T.sz_int rfl rfl rfl (by repeat constructor) rfl (by omega) (by decide) ?_
                  refine hl_nil ?_
                  exact qe_done rfl
                apply hb_ex _ rfl rfl rfl
                · intro w1
                  refine g_yes rfl rfl (by first | rfl | assumption | exact gy (by assumption) | exact gy2 (by assumption)) ?_
                  refine r_load rfl T.cell_int rfl (cell_row (by repeat constructor) (rows_get0 (by omega) rfl)) ?_
                  refine hl_nil ?_
                  exact qe_done rfl
                apply hb_ex _ rfl rfl rfl
                · intro w1
                  refine g_yes rfl rfl (by first | rfl | assumption | exact gy (by assumption) | exact gy2 (by assumption)) ?_
                  refine r_move rfl rfl ?_
                  refine hl_nil ?_
                  exact qe_done rfl
                apply hb_ex _ rfl rfl rfl
                · intro w1
                  refine g_yes rfl rfl (by first | rfl | assumption | exact gy (by assumption) | exact gy2 (by assumption)) ?_
                  refine r_len_sl rfl T.u_pages rfl ?_
                  refine hl_nil ?_
                  exact qe_done rfl
                apply hb_ex _ rfl rfl rfl
                · intro w1
                  refine g_yes rfl rfl (by first | rfl | assumption | exact gy (by assumption) | exact gy2 (by assumption)) ?_
                  refine r_geq rfl rfl rfl ?_
                  refine hl_nil ?_
                  exact qe_done rfl
                apply hb_ex _ rfl rfl rfl
                · intro w1
                  refine p_f rfl rfl (by first | rfl | assumption | exact bf1 (by assumption) | exact bf2 (by assumption)) rfl ?_
                  refine hl_nil ?_
                  exact qe_done rfl
                apply hb_ex _ rfl rfl rfl
                · intro w1
                  refine r_move rfl rfl ?_
                  refine hl_nil ?_
                  exact qe_done rfl
                refine hb_split (t := 71) (want := false) rfl ?_ ?_
                · intro hg5; have hg5' := hg5; try simp at hg5'
                  apply hb_ex _ rfl rfl rfl
                  · intro w1
                    refine g_yes rfl rfl (by first | rfl | assumption | exact gy (by assumption) | exact gy2 (by assumption)) ?_
                    refine r_move rfl rfl ?_
                    refine hl_nil ?_
                    exact qe_done rfl
                  apply hb_ex _ rfl rfl rfl
                  · intro w1
                    refine g_yes rfl rfl (by first | rfl | assumption | exact gy (by assumption) | exact gy2 (by assumption)) ?_
                    refine r_move rfl rfl ?_
                    refine hl_nil ?_
                    exact qe_done rfl
                  apply hb_ex _ rfl rfl rfl
                  · intro w1
                    refine g_yes rfl rfl (by first | rfl | assumption | exact gy (by assumption) | exact gy2 (by assumption)) ?_
                    refine r_elem (α := Int) O i rfl T.u_ints T.sz_int rfl rfl rfl (by repeat constructor) rfl (by omega) (by decide) ?_
                    refine hl_nil ?_
                    exact qe_done rfl
                  apply hb_ex _ rfl rfl rfl
                  · intro w1
                    refine g_yes rfl rfl (by first | rfl | assumption | exact gy (by assumption) | exact gy2 (by assumption)) ?_
                    refine r_load rfl T.cell_int rfl (cell_row (by repeat constructor) (rows_get0 (by omega) rfl)) ?_
                    refine hl_nil ?_
                    exact qe_done rfl
                  apply hb_ex _ rfl rfl rfl
                  · intro w1
                    refine g_yes rfl rfl (by first | rfl | assumption | exact gy (by assumption) | exact gy2 (by assumption)) ?_
                    refine r_geq rfl rfl rfl ?_
                    refine hl_nil ?_
                    exact qe_done rfl
                  apply hb_ex _ rfl rfl rfl
                  · intro w1
                    refine g_yes rfl rfl (by first | rfl | assumption | exact gy (by assumption) | exact gy2 (by assumption)) ?_
                    refine r_move rfl rfl ?_
                    refine hl_nil ?_
                    exact qe_done rfl
                  refine hb_split (t := 77) (want := true) rfl ?_ ?_
                  · intro hg6; have hg6' := hg6; try simp at hg6'
                    have hp1 : 0 ≤ (O.getD i default) := of_decide_eq_true (bt1 hg6)
                    have hmem : ps.getD (O.getD i default).toNat default ∈ ps := getD_mem (by omega)
                    have hon := hOi.mem hp1
                    have hml := (hpso _ hmem).2.1
                    apply hb_ex _ rfl rfl rfl
                    · intro w1
                      refine g_yes rfl rfl (by first | rfl | assumption | exact gy (by assumption) | exact gy2 (by assumption)) ?_
                      refine r_move rfl rfl ?_
                      refine hl_nil ?_
                      exact qe_done rfl
                    apply hb_ex _ rfl rfl rfl
                    · intro w1
                      refine g_yes rfl rfl (by first | rfl | assumption | exact gy (by assumption) | exact gy2 (by assumption)) ?_
                      refine r_move rfl rfl ?_
                      refine hl_nil ?_
                      exact qe_done rfl
                    apply hb_ex _ rfl rfl rfl
                    · intro w1
                      refine g_yes rfl rfl (by first | rfl | assumption | exact gy (by assumption) | exact gy2 (by assumption)) ?_
                      refine r_move rfl rfl ?_
                      refine hl_nil ?_
                      exact qe_done rfl
                    apply hb_ex _ rfl rfl rfl
                    · intro w1
                      refine g_yes rfl rfl (by first | rfl | assumption | exact gy (by assumption) | exact gy2 (by assumption)) ?_
                      refine r_elem (α := Int) O i rfl T.u_ints T.sz_int rfl rfl rfl (by repeat constructor) rfl (by omega) (by decide) ?_
                      refine hl_nil ?_
                      exact qe_done rfl
                    apply hb_ex _ rfl rfl rfl
                    · intro w1
                      refine g_yes rfl rfl (by first | rfl | assumption | exact gy (by assumption) | exact gy2 (by assumption)) ?_
                      refine r_load rfl T.cell_int rfl (cell_row (by repeat constructor) (rows_get0 (by omega) rfl)) ?_
                      refine hl_nil ?_
                      exact qe_done rfl
                    apply hb_ex _ rfl rfl rfl
                    · intro w1
                      refine g_yes rfl rfl (by first | rfl | assumption | exact gy (by assumption) | exact gy2 (by assumption)) ?_
                      refine r_elem (α := Sl Str) ps (O.getD i default).toNat rfl T.u_pages T.sz_strs rfl rfl (by omega) (by repeat constructor) rfl (by omega) (by decide) ?_
                      refine hl_nil ?_
                      exact qe_done rfl
                    apply hb_ex _ rfl rfl rfl
                    · intro w1
                      refine g_yes rfl rfl (by first | rfl | assumption | exact gy (by assumption) | exact gy2 (by assumption)) ?_
                      refine r_load rfl T.cell_strs rfl (cell_row (by repeat constructor) (rows_get0 (by omega) rfl)) ?_
                      refine hl_nil ?_
                      exact qe_done rfl
                    apply hb_ex _ rfl rfl rfl
                    · intro w1
                      refine g_yes rfl rfl (by first | rfl | assumption | exact gy (by assumption) | exact gy2 (by assumption)) ?_
                      refine r_move rfl rfl ?_
                      refine hl_nil ?_
                      exact qe_done rfl
                    apply hb_ex _ rfl rfl rfl
                    · intro w1
                      refine g_yes rfl rfl (by first | rfl | assumption | exact gy (by assumption) | exact gy2 (by assumption)) ?_
                      refine r_move rfl rfl ?_
                      refine hl_nil ?_
                      exact qe_done rfl
                    apply hb_ex _ rfl rfl rfl
                    · intro w1
                      refine g_yes rfl rfl (by first | rfl | assumption | exact gy (by assumption) | exact gy2 (by assumption)) ?_
                      refine r_elem (α := Str) _ _ rfl T.u_strs T.sz_string rfl rfl rfl (by repeat constructor) rfl (by omega) (by decide) ?_
                      refine hl_nil ?_
                      exact qe_done rfl
                    apply hb_ex _ rfl rfl rfl
                    · intro w1
                      refine g_yes rfl rfl (by first | rfl | assumption | exact gy (by assumption) | exact gy2 (by assumption)) ?_
                      refine r_load rfl T.cell_string rfl (cell_row (by repeat constructor) (rows_get0 (by omega) rfl)) ?_
                      refine hl_nil ?_
                      exact qe_done rfl
                    refine hb_nil ⟨rfl, ?_⟩
                    refine g_yes rfl rfl (by first | rfl | assumption | exact gy (by assumption) | exact gy2 (by assumption)) ?_
                    refine hl_inner (ps := ps) (p := ps.getD (O.getD i default).toNat default) (by repeat constructor) hmem ?_
                    refine hl_call F.law07_on_cb rfl rfl (law07_on_meets (ps.getD (O.getD i default).toNat default).l (x.getD i default) (by omega)) (List.Perm.refl _) ⟨(by repeat constructor), trivial⟩ fun _ _ => ?_
                    refine g_yes rfl rfl (by first | rfl | assumption | exact gy (by assumption) | exact gy2 (by assumption)) ?_
                    refine r_not rfl rfl ?_
                    refine g_yes rfl rfl (by first | rfl | assumption | exact gy (by assumption) | exact gy2 (by assumption)) ?_
                    refine p_t rfl rfl (by first | rfl | assumption | exact bt1 (by assumption) | exact bt2 (by assumption)) rfl ?_
                    refine p_f rfl rfl (by first | rfl | assumption | exact bf1 (by assumption) | exact bf2 (by assumption)) rfl ?_
                    refine hl_nil ?_
                    refine then_n ?_
                    first | refine c_dec rfl (fun hb3 => ?_) (fun hb3 => ?_) | refine hc_cond rfl (fun hb3 => ?_) (fun hb3 => ?_)
                    · rw [decide_eq_true hon] at hb3
                      cases hb3
                    · have hb3' := hb3; try simp at hb3'
                      refine hc_skip ?_
                      exact cut_n _ () trivial ⟨rfl, rfl, rfl, rfl, rfl, rfl, trivial⟩ (List.nil_sublist _) ⟨(by repeat constructor), (by repeat constructor), (by repeat constructor), (by repeat constructor), (by repeat constructor), trivial⟩
                  · intro hg6; have hg6' := hg6; try simp at hg6'
                    apply hb_ex _ rfl rfl rfl
                    · intro w1
                      refine g_no rfl rfl rfl rfl rfl (by first | rfl | assumption | exact gn (by assumption) | exact gn2 (by assumption)) ?_
                      refine hl_nil ?_
                      exact qe_done rfl
                    apply hb_ex _ rfl rfl rfl
                    · intro w1
                      refine g_no rfl rfl rfl rfl rfl (by first | rfl | assumption | exact gn (by assumption) | exact gn2 (by assumption)) ?_
                      refine hl_nil ?_
                      exact qe_done rfl
                    apply hb_ex _ rfl rfl rfl
                    · intro w1
                      refine g_no rfl rfl rfl rfl rfl (by first | rfl | assumption | exact gn (by assumption) | exact gn2 (by assumption)) ?_
                      refine hl_nil ?_
                      exact qe_done rfl
                    apply hb_ex _ rfl rfl rfl
                    · intro w1
                      refine g_no rfl rfl rfl rfl rfl (by first | rfl | assumption | exact gn (by assumption) | exact gn2 (by assumption)) ?_
                      refine hl_nil ?_
                      exact qe_done rfl
                    apply hb_ex _ rfl rfl rfl
                    · intro w1
                      refine g_no rfl rfl rfl rfl rfl (by first | rfl | assumption | exact gn (by assumption) | exact gn2 (by assumption)) ?_
                      refine hl_nil ?_
                      exact qe_done rfl
                    apply hb_ex _ rfl rfl rfl
                    · intro w1
                      refine g_no rfl rfl rfl rfl rfl (by first | rfl | assumption | exact gn (by assumption) | exact gn2 (by assumption)) ?_
                      refine hl_nil ?_
                      exact qe_done rfl
                    apply hb_ex _ rfl rfl rfl
                    · intro w1
                      refine g_no rfl rfl rfl rfl rfl (by first | rfl | assumption | exact gn (by assumption) | exact gn2 (by assumption)) ?_
                      refine hl_nil ?_
                      exact qe_done rfl
                    apply hb_ex _ rfl rfl rfl
                    · intro w1
                      refine g_no rfl rfl rfl rfl rfl (by first | rfl | assumption | exact gn (by assumption) | exact gn2 (by assumption)) ?_
                      refine hl_nil ?_
                      exact qe_done rfl
                    apply hb_ex _ rfl rfl rfl
                    · intro w1
                      refine g_no rfl rfl rfl rfl rfl (by first | rfl | assumption | exact gn (by assumption) | exact gn2 (by assumption)) ?_
                      refine hl_nil ?_
                      exact qe_done rfl
                    apply hb_ex _ rfl rfl rfl
                    · intro w1
                      refine g_no rfl rfl rfl rfl rfl (by first | rfl | assumption | exact gn (by assumption) | exact gn2 (by assumption)) ?_
                      refine hl_nil ?_
                      exact qe_done rfl
                    apply hb_ex _ rfl rfl rfl
                    · intro w1
                      refine g_no rfl rfl rfl rfl rfl (by first | rfl | assumption | exact gn (by assumption) | exact gn2 (by assumption)) ?_
                      refine hl_nil ?_
                      exact qe_done rfl
                    refine hb_nil ⟨rfl, ?_⟩
                    refine g_no rfl rfl rfl rfl rfl (by first | rfl | assumption | exact gn (by assumption) | exact gn2 (by assumption)) ?_
                    refine g_no rfl rfl rfl rfl rfl (by first | rfl | assumption | exact gn (by assumption) | exact gn2 (by assumption)) ?_
                    refine g_yes rfl rfl (by first | rfl | assumption | exact gy (by assumption) | exact gy2 (by assumption)) ?_
                    refine p_f rfl rfl (by first | rfl | assumption | exact bf1 (by assumption) | exact bf2 (by assumption)) rfl ?_
                    refine p_f rfl rfl (by first | rfl | assumption | exact bf1 (by assumption) | exact bf2 (by assumption)) rfl ?_
                    refine hl_nil ?_
                    refine then_n ?_
                    refine c_f rfl (by first | rfl | assumption | exact bf1 (by assumption) | exact bf2 (by assumption)) ?_
                    refine hc_skip ?_
                    exact cut_n _ () trivial ⟨rfl, rfl, rfl, rfl, rfl, rfl, trivial⟩ (List.nil_sublist _) ⟨(by repeat constructor), (by repeat constructor), (by repeat constructor), (by repeat constructor), (by repeat constructor), trivial⟩
                · intro hg5; have hg5' := hg5; try simp at hg5'
                  all_goals (have h := of_decide_eq_true (bt2 hg5); omega)
              · intro hg4; have hg4' := hg4; try simp at hg4'
                all_goals (have h := of_decide_eq_true (bt2 hg4); omega)
            · intro _ _
              refine hc_seq ?_
              refine hc_seq ?_
              refine hc_region ?_
              refine r_move rfl rfl ?_
              refine r_move rfl rfl ?_
              refine r_elem (α := Int) O i rfl T.u_ints T.sz_int rfl rfl rfl (by repeat constructor) rfl (by omega) (by decide) ?_
              refine r_load rfl T.cell_int rfl (cell_row (by repeat constructor) (rows_get0 (by omega) rfl)) ?_
              refine r_add _ rfl rfl rfl rfl (by unfold I64; omega) ?_
              refine r_assign rfl rfl ?_
              refine hl_nil ?_
              refine then_n ?_
              refine hc_block ?_
              refine hc_loop (β := Nat) ⟨fun k => (O.getD i default) < k ∧ k ≤ ps.length, fun k => [(4, .slice oy.1 ps.length oy.2), (5, .slice ox.1 x.length ox.2), (6, .slice oz.1 O.length oz.2), (8, .slice ob.1 (backL ps x x.length).length ob.2), (10, int (backL ps x i).length), (11, int i), (12, int k)], fun _ => [], fun _ => [Row oy.1 (rows ps), Row ox.1 (rows x), Row oz.1 (rows O), Row ob.1 (rows (backL ps x x.length)), Rows2 oy.1 ps]⟩ (fun k => ps.length - k) ((O.getD i default) + 1).toNat ⟨by omega, by omega⟩ ⟨rfl, rfl, rfl, rfl, rfl, rfl, congrArg (fun n => some (int n)) (by omega), trivial⟩ (.refl _) ⟨(by repeat constructor), (by repeat constructor), (by repeat constructor), (by repeat constructor), (by repeat constructor), trivial⟩ fun k hk => ?_
              obtain ⟨hk1, hk⟩ := hk
              refine hc_seq ?_
              refine hc_seq ?_
              refine hc_region ?_
              refine r_move rfl rfl ?_
              refine r_move rfl rfl ?_
              refine r_len_sl rfl T.u_pages rfl ?_
              refine r_lss rfl rfl rfl ?_
              refine hl_nil ?_
              refine then_n ?_
              first | refine c_dec rfl (fun hb4 => ?_) (fun hb4 => ?_) | refine hc_cond rfl (fun hb4 => ?_) (fun hb4 => ?_)
              · have hb4' := hb4; try simp at hb4'
                have hk2 : k < ps.length := by omega
                have hmem : ps.getD k default ∈ ps := getD_mem hk2
                have hnon := hOi.no k hk1 hk2
                have hml := (hpso _ hmem).2.1
                refine hc_skip ?_
                refine then_n ?_
                refine hc_seq ?_
                refine hc_block ?_
                refine hc_seq ?_
                refine hc_draw 8 mixed (by decide) (by decide) rfl rfl ?_
                apply hb_ex _ rfl rfl rfl
                · intro w1
                  refine r_move rfl rfl ?_
                  refine hl_nil ?_
                  exact qe_done rfl
                apply hb_ex _ rfl rfl rfl
                · intro w1
                  refine r_move rfl rfl ?_
                  refine hl_nil ?_
                  exact qe_done rfl
                apply hb_ex _ rfl rfl rfl
                · intro w1
                  refine r_elem (α := Sl Str) ps k rfl T.u_pages T.sz_strs rfl rfl rfl (by repeat constructor) rfl (by omega) (by decide) ?_
                  refine hl_nil ?_
                  exact qe_done rfl
                apply hb_ex _ rfl rfl rfl
                · intro w1
                  refine r_load rfl T.cell_strs rfl (cell_row (by repeat constructor) (rows_get0 (by omega) rfl)) ?_
                  refine hl_nil ?_
                  exact qe_done rfl
                apply hb_ex _ rfl rfl rfl
                · intro w1
                  refine r_move rfl rfl ?_
                  refine hl_nil ?_
                  exact qe_done rfl
                apply hb_ex _ rfl rfl rfl
                · intro w1
                  refine r_move rfl rfl ?_
                  refine hl_nil ?_
                  exact qe_done rfl
                apply hb_ex _ rfl rfl rfl
                · intro w1
                  refine r_elem (α := Str) _ _ rfl T.u_strs T.sz_string rfl rfl rfl (by repeat constructor) rfl (by omega) (by decide) ?_
                  refine hl_nil ?_
                  exact qe_done rfl
                apply hb_ex _ rfl rfl rfl
                · intro w1
                  refine r_load rfl T.cell_string rfl (cell_row (by repeat constructor) (rows_get0 (by omega) rfl)) ?_
                  refine hl_nil ?_
                  exact qe_done rfl
                refine hb_nil ⟨rfl, ?_⟩
                refine hl_inner (ps := ps) (p := ps.getD k default) (by repeat constructor) hmem ?_
                refine hl_call F.law07_on_cb rfl rfl (law07_on_meets (ps.getD k default).l (x.getD i default) (by omega)) (List.Perm.refl _) ⟨(by repeat constructor), trivial⟩ fun _ _ => ?_
                refine hl_nil ?_
                refine then_n ?_
                first | refine c_dec rfl (fun hb5 => ?_) (fun hb5 => ?_) | refine hc_cond rfl (fun hb5 => ?_) (fun hb5 => ?_)
                · exact absurd hb5 hnon
                · have hb5' := hb5; try simp at hb5'
                  refine hc_skip ?_
                  refine inb_n ?_
                  refine then_n ?_
                  refine hc_region ?_
                  refine r_move rfl rfl ?_
                  refine r_add _ rfl rfl rfl rfl (by unfold I64; omega) ?_
                  refine r_assign rfl rfl ?_
                  refine hl_nil ?_
                  exact again _ (k + 1) ⟨by omega, by omega⟩ (by show ps.length - (k + 1) < ps.length - k; omega) ⟨rfl, rfl, rfl, rfl, rfl, rfl, rfl, trivial⟩ (.refl _) ⟨(by repeat constructor), (by repeat constructor), (by repeat constructor), (by repeat constructor), (by repeat constructor), trivial⟩
              · have hb4' := hb4; try simp at hb4'
                refine hc_exit ?_
                refine then_exit ?_
                refine then_exit ?_
                refine inb_hit ?_
                refine then_n ?_
                refine hc_seq ?_
                refine hc_region ?_
                refine r_move rfl rfl ?_
                refine r_move rfl rfl ?_
                refine r_elem (α := Int) O i rfl T.u_ints T.sz_int rfl rfl rfl (by repeat constructor) rfl (by omega) (by decide) ?_
                refine r_load rfl T.cell_int rfl (cell_row (by repeat constructor) (rows_get0 (by omega) rfl)) ?_
                refine r_geq rfl rfl rfl ?_
                refine r_move rfl rfl ?_
                refine g_split rfl rfl ?_ ?_
                · intro hg7; have hg7' := hg7; try simp at hg7'
                  have hp1 : 0 ≤ (O.getD i default) := of_decide_eq_true (bt1 hg7)
                  refine g_yes rfl rfl (by first | rfl | assumption | exact gy (by assumption) | exact gy2 (by assumption)) ?_
                  refine r_move rfl rfl ?_
                  refine g_yes rfl rfl (by first | rfl | assumption | exact gy (by assumption) | exact gy2 (by assumption)) ?_
                  refine r_move rfl rfl ?_
                  refine g_yes rfl rfl (by first | rfl | assumption | exact gy (by assumption) | exact gy2 (by assumption)) ?_
                  refine r_elem (α := Int) O i rfl T.u_ints T.sz_int rfl rfl rfl (by repeat constructor) rfl (by omega) (by decide) ?_
                  refine g_yes rfl rfl (by first | rfl | assumption | exact gy (by assumption) | exact gy2 (by assumption)) ?_
                  refine r_load rfl T.cell_int rfl (cell_row (by repeat constructor) (rows_get0 (by omega) rfl)) ?_
                  refine g_yes rfl rfl (by first | rfl | assumption | exact gy (by assumption) | exact gy2 (by assumption)) ?_
                  refine r_move rfl rfl ?_
                  refine g_yes rfl rfl (by first | rfl | assumption | exact gy (by assumption) | exact gy2 (by assumption)) ?_
                  refine r_len_sl rfl T.u_pages rfl ?_
                  refine g_yes rfl rfl (by first | rfl | assumption | exact gy (by assumption) | exact gy2 (by assumption)) ?_
                  refine r_sub _ rfl rfl rfl rfl (by unfold I64; omega) ?_
                  refine g_yes rfl rfl (by first | rfl | assumption | exact gy (by assumption) | exact gy2 (by assumption)) ?_
                  refine r_lss rfl rfl rfl ?_
                  refine p_t rfl rfl (by first | rfl | assumption | exact bt1 (by assumption) | exact bt2 (by assumption)) rfl ?_
                  refine hl_nil ?_
                  refine then_n ?_
                  first | refine c_dec rfl (fun hb6 => ?_) (fun hb6 => ?_) | refine hc_cond rfl (fun hb6 => ?_) (fun hb6 => ?_)
                  · have hb6' := hb6; try simp at hb6'
                    have hqt : qB ps x i = true := by rw [hqi, decide_eq_true hp1, decide_eq_true hb6]; rfl
                    rw [if_pos hqt] at hbs
                    obtain ⟨hat1, hat2⟩ := back_at hi2 hqt
                    refine hc_seq ?_
                    refine hc_seq ?_
                    refine hc_region ?_
                    refine r_move rfl rfl ?_
                    refine r_move rfl rfl ?_
                    refine r_len_sl rfl T.u_ints rfl ?_
                    refine r_geq rfl rfl rfl ?_
                    refine r_move rfl rfl ?_
                    refine g_split rfl rfl ?_ ?_
                    · intro hg8; have hg8' := hg8; try simp at hg8'
                      refine g_yes rfl rfl (by first | rfl | assumption | exact gy (by assumption) | exact gy2 (by assumption)) ?_
                      refine r_move rfl rfl ?_
                      refine g_yes rfl rfl (by first | rfl | assumption | exact gy (by assumption) | exact gy2 (by assumption)) ?_
                      refine r_move rfl rfl ?_
                      refine g_yes rfl rfl (by first | rfl | assumption | exact gy (by assumption) | exact gy2 (by assumption)) ?_
                      refine r_elem (α := Int) (backL ps x x.length) (backL ps x i).length rfl T.u_ints T.sz_int rfl rfl rfl (by repeat constructor) rfl hat1 (by decide) ?_
                      refine g_yes rfl rfl (by first | rfl | assumption | exact gy (by assumption) | exact gy2 (by assumption)) ?_
                      refine r_load rfl T.cell_int rfl (cell_row (by repeat constructor) (rows_get0 (by omega) rfl)) ?_
                      refine g_yes rfl rfl (by first | rfl | assumption | exact gy (by assumption) | exact gy2 (by assumption)) ?_
                      refine r_move rfl rfl ?_
                      refine g_yes rfl rfl (by first | rfl | assumption | exact gy (by assumption) | exact gy2 (by assumption)) ?_
                      refine r_neq rfl rfl rfl ?_
                      refine p_f rfl rfl (by first | rfl | assumption | exact bf1 (by assumption) | exact bf2 (by assumption)) rfl ?_
                      refine hl_nil ?_
                      refine then_n ?_
                      first | refine c_dec rfl (fun hb7 => ?_) (fun hb7 => ?_) | refine hc_cond rfl (fun hb7 => ?_) (fun hb7 => ?_)
                      · exact absurd hat2 hb7
                      · have hb7' := hb7; try simp at hb7'
                        refine hc_skip ?_
                        refine then_n ?_
                        refine hc_region ?_
                        refine r_move rfl rfl ?_
                        refine r_add _ rfl rfl rfl rfl (by unfold I64; omega) ?_
                        refine r_assign rfl rfl ?_
                        refine hl_nil ?_
                        refine inb_n ?_
                        refine then_n ?_
                        refine hc_region ?_
                        refine r_move rfl rfl ?_
                        refine r_add _ rfl rfl rfl rfl (by unfold I64; omega) ?_
                        refine r_assign rfl rfl ?_
                        refine hl_nil ?_
                        exact again _ (i + 1) (by show i + 1 ≤ x.length; omega) (by show x.length - (i + 1) < x.length - i; omega) ⟨rfl, rfl, rfl, rfl, congrArg (fun n => some (int n)) (by rw [hbs, len_snoc]; rfl), rfl, trivial⟩ (.refl _) ⟨(by repeat constructor), (by repeat constructor), (by repeat constructor), (by repeat constructor), (by repeat constructor), trivial⟩
                    · intro hg8; have hg8' := hg8; try simp at hg8'
                      all_goals (have h := of_decide_eq_true (bt2 hg8); omega)
                  · have hb6' := hb6; try simp at hb6'
                    have hqf : ¬ qB ps x i = true := fun h => by rw [hqi, decide_eq_true hp1, decide_eq_false hb6] at h; cases h
                    rw [if_neg hqf, List.append_nil] at hbs
                    refine hc_skip ?_
                    refine inb_n ?_
                    refine then_n ?_
                    refine hc_region ?_
                    refine r_move rfl rfl ?_
                    refine r_add _ rfl rfl rfl rfl (by unfold I64; omega) ?_
                    refine r_assign rfl rfl ?_
                    refine hl_nil ?_
                    exact again _ (i + 1) (by show i + 1 ≤ x.length; omega) (by show x.length - (i + 1) < x.length - i; omega) ⟨rfl, rfl, rfl, rfl, congrArg (fun n => some (int n)) (by rw [hbs]), rfl, trivial⟩ (.refl _) ⟨(by repeat constructor), (by repeat constructor), (by repeat constructor), (by repeat constructor), (by repeat constructor), trivial⟩
                · intro hg7; have hg7' := hg7; try simp at hg7'
                  have hp1 : ¬ 0 ≤ (O.getD i default) := of_decide_eq_false (bf2 hg7)
                  have hqf : ¬ qB ps x i = true := fun h => by rw [hqi, decide_eq_false hp1] at h; cases h
                  rw [if_neg hqf, List.append_nil] at hbs
                  refine g_no rfl rfl rfl rfl rfl (by first | rfl | assumption | exact gn (by assumption) | exact gn2 (by assumption)) ?_
                  refine g_no rfl rfl rfl rfl rfl (by first | rfl | assumption | exact gn (by assumption) | exact gn2 (by assumption)) ?_
                  refine g_no rfl rfl rfl rfl rfl (by first | rfl | assumption | exact gn (by assumption) | exact gn2 (by assumption)) ?_
                  refine g_no rfl rfl rfl rfl rfl (by first | rfl | assumption | exact gn (by assumption) | exact gn2 (by assumption)) ?_
                  refine g_no rfl rfl rfl rfl rfl (by first | rfl | assumption | exact gn (by assumption) | exact gn2 (by assumption)) ?_
                  refine g_no rfl rfl rfl rfl rfl (by first | rfl | assumption | exact gn (by assumption) | exact gn2 (by assumption)) ?_
                  refine g_no rfl rfl rfl rfl rfl (by first | rfl | assumption | exact gn (by assumption) | exact gn2 (by assumption)) ?_
                  refine g_no rfl rfl rfl rfl rfl (by first | rfl | assumption | exact gn (by assumption) | exact gn2 (by assumption)) ?_
                  refine p_f rfl rfl (by first | rfl | assumption | exact bf1 (by assumption) | exact bf2 (by assumption)) rfl ?_
                  refine hl_nil ?_
                  refine then_n ?_
                  refine c_f rfl (by first | rfl | assumption | exact bf1 (by assumption) | exact bf2 (by assumption)) ?_
                  refine hc_skip ?_
                  refine inb_n ?_
                  refine then_n ?_
                  refine hc_region ?_
                  refine r_move rfl rfl ?_
                  refine r_add _ rfl rfl rfl rfl (by unfold I64; omega) ?_
                  refine r_assign rfl rfl ?_
                  refine hl_nil ?_
                  exact again _ (i + 1) (by show i + 1 ≤ x.length; omega) (by show x.length - (i + 1) < x.length - i; omega) ⟨rfl, rfl, rfl, rfl, congrArg (fun n => some (int n)) (by rw [hbs]), rfl, trivial⟩ (.refl _) ⟨(by repeat constructor), (by repeat constructor), (by repeat constructor), (by repeat constructor), (by repeat constructor), trivial⟩
          · have hb2' := hb2; try simp at hb2'
            have hi2 : i = x.length := by omega
            subst hi2
            refine hc_exit ?_
            refine then_exit ?_
            refine then_exit ?_
            refine inb_hit ?_
            refine then_n ?_
            refine hc_seq ?_
            refine hc_region ?_
            refine r_move rfl rfl ?_
            refine r_move rfl rfl ?_
            refine r_len_sl rfl T.u_ints rfl ?_
            refine r_eql rfl rfl rfl ?_
            refine r_move rfl rfl ?_
            refine g_split rfl rfl ?_ ?_
            · intro hg9; have hg9' := hg9; try simp at hg9'
              refine g_yes rfl rfl (by first | rfl | assumption | exact gy (by assumption) | exact gy2 (by assumption)) ?_
              refine hl_call F.law07_correcting_cb rfl rfl (law07_correcting_meets) (List.Perm.refl _) trivial fun _ _ => ?_
              refine p_t rfl rfl (by first | rfl | assumption | exact bt1 (by assumption) | exact bt2 (by assumption)) rfl ?_
              refine r_assign rfl rfl ?_
              refine hl_nil ?_
              refine then_n ?_
              refine hc_ret ?_
              exact ret1 () rfl rfl rfl trivial (List.nil_sublist _) trivial
            · intro hg9; have hg9' := hg9; try simp at hg9'
      · intro hg3; have hg3' := hg3; try simp at hg3'
        all_goals (have h := of_decide_eq_true (bt2 hg3); omega)
    · intro hg2; have hg2' := hg2; try simp at hg2'
  · intro hg1; have hg1' := hg1; try simp at hg1'

end Go.Proofs.Ytpbbgbjidhffoaa
