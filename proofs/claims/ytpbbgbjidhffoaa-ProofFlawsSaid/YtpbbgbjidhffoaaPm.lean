/- Walks of the chapter's examples. -/
import Derived.Test.YtpbbgbjidhffoaaPl
namespace Go.Proofs.Ytpbbgbjidhffoaa
open Go Go.W
set_option linter.unusedVariables false
set_option linter.unusedSimpArgs false
set_option maxRecDepth 20000
attribute [local irreducible] HL HC HQ HB Row Rows2 Blk Facts

abbrev sAnna : Str := [97, 110, 110, 97]
abbrev sBea : Str := [98, 101, 97]
abbrev sBen : Str := [98, 101, 110]
abbrev sCid : Str := [99, 105, 100]
abbrev sCyd : Str := [99, 121, 100]
abbrev sAbe : Str := [97, 98, 101]
abbrev sDan : Str := [100, 97, 110]
abbrev folkL : List Str := [sAnna, sBen, sCyd]
abbrev slipL : List Mk := [(1, 1, sBea), (2, 2, sCid)]
abbrev newL : List Str := [sAnna, sBea, sBen, sCid]
/-- The same, with so many steps at most: for examples. -/
def diffN (old page : List Str) : Nat → Nat → Nat → Lst
  | 0, _, _ => (0, [])
  | d + 1, i, j => leastOf ((if i = old.length ∧ j = page.length then [(0, [])] else []) ++
    (if j < page.length then [behindP (diffN old page d i (j + 1)) (1, (i : Int), page.getD j default)] else []) ++
    (if i < old.length then [behindP (diffN old page d (i + 1) j) (3, (i : Int), [])] else []) ++
    (if i < old.length ∧ j < page.length then behindP (diffN old page d (i + 1) (j + 1)) (2, (i : Int), page.getD j default) :: (if old.getD i default = page.getD j default then [diffN old page d (i + 1) (j + 1)] else []) else []))
theorem diffN_eq (old page : List Str) : ∀ (d i j : Nat), (old.length - i) + (page.length - j) < d → diffN old page d i j = diffP old page i j := by
  intro d
  induction d with
  | zero => intro i j h; omega
  | succ d ih =>
    intro i j h
    unfold diffN diffP
    congr 1
    congr 1
    · congr 1
      · congr 1
        by_cases hj : j < page.length
        · rw [if_pos hj, dif_pos hj, ih i (j + 1) (by omega)]
        · rw [if_neg hj, dif_neg hj]
      · by_cases hi : i < old.length
        · rw [if_pos hi, dif_pos hi, ih (i + 1) j (by omega)]
        · rw [if_neg hi, dif_neg hi]
    · by_cases hi : i < old.length ∧ j < page.length
      · rw [if_pos hi, dif_pos hi, ih (i + 1) (j + 1) (by omega)]
      · rw [if_neg hi, dif_neg hi]
theorem ex_apply : applyP folkL slipL = (newL, 0) := by decide +kernel
theorem ex_diff : diffE folkL newL (diffP folkL newL 0 0).2 = (slipL, 0) := by rw [← diffN_eq folkL newL 10 0 0 (by decide)]; decide +kernel
theorem ex_steps : stepsP folkL [(1, 0, sAbe), (3, 1, []), (3, 2, [])] 3 = ([1, 0, 2], 0) := by decide +kernel
theorem ex_origin (a b : Option Addr) : originE [⟨a, 2, [sAnna, sBen]⟩, ⟨b, 2, [sAnna, sCyd]⟩] [sAnna, sBen, sDan] = ([1, 0, -1], 0) := by rfl
theorem ex_look (a b : Option Addr) : lookP [⟨a, 2, [sAnna, sBen]⟩, ⟨b, 2, [sAnna, sCyd]⟩] [(1, 2, sDan)] [sAnna, sCyd, sBen, sDan] = ((2, 2), 0) := by
  have e1 : yearsErr (years [⟨a, 2, [sAnna, sBen]⟩, ⟨b, 2, [sAnna, sCyd]⟩]) = 0 := by show yearsErr [[sAnna, sBen], [sAnna, sCyd]] = 0; decide +kernel
  have e2 : (lastP [⟨a, 2, [sAnna, sBen]⟩, ⟨b, 2, [sAnna, sCyd]⟩]).l = [sAnna, sCyd] := rfl
  have e3 : applyP [sAnna, sCyd] [(1, 2, sDan)] = ([sAnna, sCyd, sDan], 0) := by decide +kernel
  have e4 : pageErr [sAnna, sCyd, sBen, sDan] = 0 := by decide +kernel
  have e5 : (diffP [sAnna, sCyd, sDan] [sAnna, sCyd, sBen, sDan] 0 0).2 = [(1, 2, sBen)] := by rw [← diffN_eq _ _ 10 0 0 (by decide)]; decide +kernel
  unfold lookP
  rw [e1, e2, e3, e4, e5]
  rfl


theorem law07_folk_meets : Meets Try.prog F.law07_folk [] (outSl folkL) := by
 refine meets_intro F.law07_folk_f rfl (Nat.le_of_ble_eq_true rfl) fun w0 => ?_
 refine hc_seq ?_
 refine hc_region ?_
 refine r_assign rfl rfl ?_
 refine hl_nil ?_
 refine then_n ?_
 refine hc_seq ?_
 refine hc_region ?_
 refine r_buildSlice _ rfl rfl (fun _ => T.bs_strs_3 ..) fun gS => ?_
 refine r_assign rfl rfl ?_
 refine hl_nil ?_
 refine then_n ?_
 refine hc_ret ?_
 refine hq_letgo (rows folkL) (List.prefix_refl _) ?_
 exact ret1 (some ⟨gS, 0, none⟩, 3) rfl rfl rfl (Nat.le_refl _) (.refl _) ⟨m0, trivial⟩

theorem law07_in_meets (n : Int) (s : Str) : Meets Try.prog F.law07_in [int n, str s] { val := fun _ : Unit => .agg #[int 1, int n, str s] } := by
 refine meets_intro F.law07_in_f rfl (Nat.le_of_ble_eq_true rfl) fun w0 => ?_
 refine hc_seq ?_
 refine hc_region ?_
 refine r_alloc rfl (fun _ => T.al_api_Mark _) fun gA => ?_
 refine hl_nil ?_
 refine then_n ?_
 refine hc_seq ?_
 refine hc_region ?_
 refine r_move rfl rfl ?_
 refine r_move rfl rfl ?_
 refine r_build _ rfl rfl (fun _ => T.bd_api_Mark_0_1_2 ..) ?_
 refine r_storeS rfl rfl (by first | exact .refl _ | exact perm2 _ _ _ | exact perm3 _ _ _ _ | exact perm4 _ _ _ _ _) T.sz_api_Mark (by rfl) (by rfl) ?_
 refine hl_nil ?_
 refine then_n ?_
 refine hc_ret ?_
 exact ret_row () rfl rfl T.row_api_Mark T.sz_api_Mark rfl m0 rfl rfl trivial (List.nil_sublist _) trivial

theorem law07_set_meets (n : Int) (s : Str) : Meets Try.prog F.law07_set [int n, str s] { val := fun _ : Unit => .agg #[int 2, int n, str s] } := by
 refine meets_intro F.law07_set_f rfl (Nat.le_of_ble_eq_true rfl) fun w0 => ?_
 refine hc_seq ?_
 refine hc_region ?_
 refine r_alloc rfl (fun _ => T.al_api_Mark _) fun gA => ?_
 refine hl_nil ?_
 refine then_n ?_
 refine hc_seq ?_
 refine hc_region ?_
 refine r_move rfl rfl ?_
 refine r_move rfl rfl ?_
 refine r_build _ rfl rfl (fun _ => T.bd_api_Mark_0_1_2 ..) ?_
 refine r_storeS rfl rfl (by first | exact .refl _ | exact perm2 _ _ _ | exact perm3 _ _ _ _ | exact perm4 _ _ _ _ _) T.sz_api_Mark (by rfl) (by rfl) ?_
 refine hl_nil ?_
 refine then_n ?_
 refine hc_ret ?_
 exact ret_row () rfl rfl T.row_api_Mark T.sz_api_Mark rfl m0 rfl rfl trivial (List.nil_sublist _) trivial

theorem law07_out_meets (n : Int) : Meets Try.prog F.law07_out [int n] { val := fun _ : Unit => .agg #[int 3, int n, str []] } := by
 refine meets_intro F.law07_out_f rfl (Nat.le_of_ble_eq_true rfl) fun w0 => ?_
 refine hc_seq ?_
 refine hc_region ?_
 refine r_alloc rfl (fun _ => T.al_api_Mark _) fun gA => ?_
 refine hl_nil ?_
 refine then_n ?_
 refine hc_seq ?_
 refine hc_region ?_
 refine r_move rfl rfl ?_
 refine r_build _ rfl rfl (fun _ => T.bd_api_Mark_0_1 ..) ?_
 refine r_storeS rfl rfl (by first | exact .refl _ | exact perm2 _ _ _ | exact perm3 _ _ _ _ | exact perm4 _ _ _ _ _) T.sz_api_Mark (by rfl) (by rfl) ?_
 refine hl_nil ?_
 refine then_n ?_
 refine hc_ret ?_
 exact ret_row () rfl rfl T.row_api_Mark T.sz_api_Mark rfl m0 rfl rfl trivial (List.nil_sublist _) trivial

theorem law07_slip_meets : Meets Try.prog F.law07_slip [] (outSl slipL) := by
 refine meets_intro F.law07_slip_f rfl (Nat.le_of_ble_eq_true rfl) fun w0 => ?_
 refine hc_seq ?_
 refine hc_region ?_
 refine r_assign rfl rfl ?_
 refine hl_nil ?_
 refine then_n ?_
 refine hc_seq ?_
 refine hc_region ?_
 refine hl_call F.law07_in_cb rfl rfl (law07_in_meets 1 sBea) (List.Perm.refl _) trivial fun _ _ => ?_
 refine hl_call F.law07_set_cb rfl rfl (law07_set_meets 2 sCid) (List.Perm.refl _) trivial fun _ _ => ?_
 refine r_buildSlice _ rfl rfl (fun _ => T.bs_L_api_Mark_2 ..) fun gS => ?_
 refine r_assign rfl rfl ?_
 refine hl_nil ?_
 refine then_n ?_
 refine hc_ret ?_
 refine hq_letgo (rows slipL) (List.prefix_refl _) ?_
 exact ret1 (some ⟨gS, 0, none⟩, 2) rfl rfl rfl (Nat.le_refl _) (.refl _) ⟨m0, trivial⟩

/-- The years of the examples: two pages somewhere. -/
def agesP (x : OutC × Option Addr × Option Addr) : List (Sl Str) := [⟨x.2.1, 2, [sAnna, sBen]⟩, ⟨x.2.2, 2, [sAnna, sCyd]⟩]

theorem law07_ages_meets : Meets Try.prog F.law07_ages [] { inv := fun x : OutC × Option Addr × Option Addr => 2 ≤ x.1.2, val := fun x => .slice x.1.1 2 x.1.2, LO := fun x => [Rows2 x.1.1 (agesP x)] } := by
 refine meets_intro F.law07_ages_f rfl (Nat.le_of_ble_eq_true rfl) fun w0 => ?_
 refine hc_seq ?_
 refine hc_region ?_
 refine r_assign rfl rfl ?_
 refine hl_nil ?_
 refine then_n ?_
 refine hc_seq ?_
 refine hc_region ?_
 refine r_buildSlice _ rfl rfl (fun _ => T.bs_strs_2 ..) fun ga => ?_
 refine r_buildSlice _ rfl rfl (fun _ => T.bs_strs_2 ..) fun gb => ?_
 refine r_buildSlice _ rfl rfl (fun _ => T.bs_pages_2 ..) fun gS => ?_
 refine r_assign rfl rfl ?_
 refine hl_nil ?_
 refine then_n ?_
 refine hc_ret ?_
 refine hq_letgo (rows [(⟨some ⟨ga, 0, none⟩, 2, [sAnna, sBen]⟩ : Sl Str), ⟨some ⟨gb, 0, none⟩, 2, [sAnna, sCyd]⟩]) (List.prefix_refl _) ?_
 refine hq_letgo (rows [sAnna, sCyd]) (List.prefix_refl _) ?_
 refine hq_letgo (rows [sAnna, sBen]) (List.prefix_refl _) ?_
 refine hq_rows2 (A := some ⟨gS, 0, none⟩) (ps := [(⟨some ⟨ga, 0, none⟩, 2, [sAnna, sBen]⟩ : Sl Str), ⟨some ⟨gb, 0, none⟩, 2, [sAnna, sCyd]⟩]) m2 (by intro p hp; simp at hp; rcases hp with rfl | rfl; exact m0; exact m1) ?_
 exact ret1 ((some ⟨gS, 0, none⟩, 2), some ⟨ga, 0, none⟩, some ⟨gb, 0, none⟩) rfl rfl rfl (Nat.le_refl _) (.refl _) ⟨m0, trivial⟩

abbrev orderM : List Mk := [(1, 0, sAbe), (3, 1, []), (3, 2, [])]
theorem ex_apply_meets {A B : Option Addr} {ca cb : Nat} (hc : 3 ≤ ca) : Meets Try.prog F.proof_Apply [.slice A 3 ca, .slice B 2 cb] { outErr (newL, (0 : Int)) with LI := [Row A (rows folkL), Row B (rows slipL)] } := by
  have h := proof_Apply_meets (A := A) (B := B) (ca := ca) (cb := cb) folkL slipL hc
  rw [ex_apply] at h; exact h
theorem ex_diff_meets {A B : Option Addr} {ca cb : Nat} : Meets Try.prog F.proof_Diff [.slice A 3 ca, .slice B 4 cb] { outE (slipL, (0 : Int)) with LI := [Row A (rows folkL), Row B (rows newL)] } := by
  have h := proof_Diff_meets (A := A) (B := B) (ca := ca) (cb := cb) folkL newL
  rw [ex_diff] at h; exact h
theorem ex_steps_meets {A B : Option Addr} {ca cb : Nat} : Meets Try.prog F.proof_Steps [.slice A 3 ca, .slice B 3 cb, int 3] { outE (([1, 0, 2] : List Int), (0 : Int)) with LI := [Row A (rows folkL), Row B (rows orderM)] } := by
  have h := proof_Steps_meets (A := A) (B := B) (ca := ca) (cb := cb) folkL orderM 3
  rw [ex_steps] at h; exact h
theorem ex_origin_meets {B : Option Addr} {cb : Nat} (y : OutC × Option Addr × Option Addr) : Meets Try.prog F.proof_Origin [.slice y.1.1 2 y.1.2, .slice B 3 cb] { outErr (([1, 0, -1] : List Int), (0 : Int)) with LI := [Rows2 y.1.1 (agesP y), Row B (rows [sAnna, sBen, sDan])] } := by
  have h := proof_Origin_meets (A := y.1.1) (B := B) (ca := y.1.2) (cb := cb) (agesP y) [sAnna, sBen, sDan]
  rw [agesP, ex_origin] at h; exact h
theorem ex_look_meets {B C : Option Addr} {cb cc : Nat} (y : OutC × Option Addr × Option Addr) (hy : 2 ≤ y.1.2) : Meets Try.prog F.proof_Look [.slice y.1.1 2 y.1.2, .slice B 1 cb, .slice C 4 cc] { LI := [Rows2 y.1.1 (agesP y), Row B (rows [((1, 2, sDan) : Mk)]), Row C (rows [sAnna, sCyd, sBen, sDan])], val := fun _ : Unit => .tuple #[.agg #[int 2, int 2], int 0] } := by
  have h := proof_Look_meets (A := y.1.1) (B := B) (C := C) (ca := y.1.2) (cb := cb) (cc := cc) (agesP y) [(1, 2, sDan)] [sAnna, sCyd, sBen, sDan] hy (by intro q hq; simp [agesP] at hq; rcases hq with rfl | rfl <;> simp)
  rw [agesP, ex_look] at h; exact h

set_option maxHeartbeats 1000000 in
theorem law07_correcting_meets : Meets Try.prog F.law07_correcting [] { val := fun _ : Unit => .bool true } := by
 refine meets_intro F.law07_correcting_f rfl (Nat.le_of_ble_eq_true rfl) fun w0 => ?_
 refine hc_seq ?_
 refine hc_region ?_
 refine r_assign rfl rfl ?_
 refine hl_nil ?_
 refine then_n ?_
 refine hc_seq ?_
 refine hc_region ?_
 refine hl_call F.law07_folk_cb rfl rfl (law07_folk_meets) (List.Perm.refl _) trivial fun x1 hx1 => ?_
 refine hl_call F.law07_slip_cb rfl rfl (law07_slip_meets) (List.Perm.refl _) trivial fun x2 hx2 => ?_
 refine hl_call F.proof_Apply_cb rfl rfl (ex_apply_meets hx1) (List.Perm.refl _) ⟨m1, m0, trivial⟩ fun x3 hx3 => ?_
 refine r_move rfl rfl ?_
 refine r_extract rfl rfl rfl ?_
 refine r_extract rfl rfl rfl ?_
 refine r_assign rfl rfl ?_
 refine r_assign rfl rfl ?_
 refine hl_nil ?_
 refine then_n ?_
 refine hc_seq ?_
 refine hc_region ?_
 refine hl_call F.law07_folk_cb rfl rfl (law07_folk_meets) (List.Perm.refl _) trivial fun x4 hx4 => ?_
 refine r_buildSlice _ rfl rfl (fun _ => T.bs_strs_4 ..) fun gS => ?_
 refine hl_letgo (rows newL) (List.prefix_refl _) ?_
 refine hl_call F.proof_Diff_cb rfl rfl (ex_diff_meets) (List.Perm.refl _) ⟨m1, m0, trivial⟩ fun x5 _ => ?_
 refine r_move rfl rfl ?_
 refine r_extract rfl rfl rfl ?_
 refine r_extract rfl rfl rfl ?_
 refine r_assign rfl rfl ?_
 refine r_assign rfl rfl ?_
 refine hl_nil ?_
 refine then_n ?_
 refine hc_seq ?_
 refine hc_region ?_
 refine hl_call F.law07_folk_cb rfl rfl (law07_folk_meets) (List.Perm.refl _) trivial fun x6 hx6 => ?_
 refine hl_call F.law07_in_cb rfl rfl (law07_in_meets 0 sAbe) (List.Perm.refl _) trivial fun _ _ => ?_
 refine hl_call F.law07_out_cb rfl rfl (law07_out_meets 1) (List.Perm.refl _) trivial fun _ _ => ?_
 refine hl_call F.law07_out_cb rfl rfl (law07_out_meets 2) (List.Perm.refl _) trivial fun _ _ => ?_
 refine r_buildSlice _ rfl rfl (fun _ => T.bs_L_api_Mark_3 ..) fun gS => ?_
 refine hl_letgo (rows orderM) (List.prefix_refl _) ?_
 refine hl_call F.proof_Steps_cb rfl rfl (ex_steps_meets) (List.Perm.refl _) ⟨m1, m0, trivial⟩ fun x7 _ => ?_
 refine r_move rfl rfl ?_
 refine r_extract rfl rfl rfl ?_
 refine r_extract rfl rfl rfl ?_
 refine r_assign rfl rfl ?_
 refine r_assign rfl rfl ?_
 refine hl_nil ?_
 refine then_n ?_
 refine hc_seq ?_
 refine hc_region ?_
 refine hl_call F.law07_ages_cb rfl rfl (law07_ages_meets) (List.Perm.refl _) trivial fun y1 hy1 => ?_
 refine r_buildSlice _ rfl rfl (fun _ => T.bs_strs_3 ..) fun gS => ?_
 refine hl_letgo (rows [sAnna, sBen, sDan]) (List.prefix_refl _) ?_
 refine hl_call F.proof_Origin_cb rfl rfl (ex_origin_meets y1) (List.Perm.refl _) ⟨m1, m0, trivial⟩ fun x8 _ => ?_
 refine r_move rfl rfl ?_
 refine r_extract rfl rfl rfl ?_
 refine r_extract rfl rfl rfl ?_
 refine r_assign rfl rfl ?_
 refine r_assign rfl rfl ?_
 refine hl_nil ?_
 refine then_n ?_
 refine hc_seq ?_
 refine hc_region ?_
 refine hl_call F.law07_ages_cb rfl rfl (law07_ages_meets) (List.Perm.refl _) trivial fun y2 hy2 => ?_
 refine hl_call F.law07_in_cb rfl rfl (law07_in_meets 2 sDan) (List.Perm.refl _) trivial fun _ _ => ?_
 refine r_buildSlice _ rfl rfl (fun _ => T.bs_L_api_Mark_1 ..) fun gS => ?_
 refine hl_letgo (rows [((1, 2, sDan) : Mk)]) (List.prefix_refl _) ?_
 refine r_buildSlice _ rfl rfl (fun _ => T.bs_strs_4 ..) fun gS => ?_
 refine hl_letgo (rows [sAnna, sCyd, sBen, sDan]) (List.prefix_refl _) ?_
 refine hl_call F.proof_Look_cb rfl rfl (ex_look_meets y2 hy2) (List.Perm.refl _) ⟨m2, m1, m0, trivial⟩ fun _ _ => ?_
 refine r_move rfl rfl ?_
 refine r_extract rfl rfl rfl ?_
 refine r_extract rfl rfl rfl ?_
 refine r_alloc rfl (fun _ => T.al_api_Flaw _) fun gA => ?_
 refine r_storeS rfl rfl (by first | exact .refl _ | exact perm2 _ _ _ | exact perm3 _ _ _ _ | exact perm4 _ _ _ _ _) T.sz_api_Flaw (by rfl) (by rfl) ?_
 refine r_assign rfl rfl ?_
 refine hl_nil ?_
 refine then_n ?_
 refine hc_seq ?_
 refine hc_region ?_
 refine r_move rfl rfl ?_
 refine r_eql rfl rfl rfl ?_
 refine r_move rfl rfl ?_
 refine g_split rfl rfl ?_ ?_
 ·intro hg1; have hg1' := hg1; try simp at hg1'
  refine g_yes rfl rfl hg1 ?_
  refine r_move rfl rfl ?_
  refine g_yes rfl rfl hg1 ?_
  refine r_eql rfl rfl rfl ?_
  refine p_t rfl rfl (bt1 hg1) rfl ?_
  refine r_move rfl rfl ?_
  refine g_split rfl rfl ?_ ?_
  ·intro hg2; have hg2' := hg2; try simp at hg2'
   refine g_yes rfl rfl hg2 ?_
   refine r_move rfl rfl ?_
   refine g_yes rfl rfl hg2 ?_
   refine r_eql rfl rfl rfl ?_
   refine p_t rfl rfl (bt1 hg2) rfl ?_
   refine r_move rfl rfl ?_
   refine g_split rfl rfl ?_ ?_
   ·intro hg3; have hg3' := hg3; try simp at hg3'
    refine g_yes rfl rfl hg3 ?_
    refine r_move rfl rfl ?_
    refine g_yes rfl rfl hg3 ?_
    refine r_eql rfl rfl rfl ?_
    refine p_t rfl rfl (bt1 hg3) rfl ?_
    refine r_move rfl rfl ?_
    refine g_split rfl rfl ?_ ?_
    ·intro hg4; have hg4' := hg4; try simp at hg4'
     refine g_yes rfl rfl hg4 ?_
     refine r_move rfl rfl ?_
     refine g_yes rfl rfl hg4 ?_
     refine r_eql rfl rfl rfl ?_
     refine p_t rfl rfl (bt1 hg4) rfl ?_
     refine r_move rfl rfl ?_
     refine g_split rfl rfl ?_ ?_
     ·intro hg5; have hg5' := hg5; try simp at hg5'
      refine g_yes rfl rfl hg5 ?_
      first | refine r_loadA rfl T.row_api_Flaw T.sz_api_Flaw rfl (by repeat constructor) (by rfl) ?_ | refine r_loadB rfl T.row_api_Flaw T.sz_api_Flaw rfl (by repeat constructor) (by rfl) ?_ | refine r_loadS rfl T.row_api_Flaw T.sz_api_Flaw rfl rfl (cells_row (by repeat constructor) (rows_all (by omega))) ?_
      refine g_yes rfl rfl hg5 ?_
      refine r_build _ rfl rfl (fun _ => T.bd_api_Flaw_0_1 ..) ?_
      refine g_yes rfl rfl hg5 ?_
      refine r_bin _ rfl rfl rfl (fun _ => T.eqg_api_Flaw ..) (fun _ => T.eql_api_Flaw ..) ?_
      refine p_t rfl rfl (bt1 hg5) rfl ?_
      refine r_move rfl rfl ?_
      refine g_split rfl rfl ?_ ?_
      ·intro hg6; have hg6' := hg6; try simp at hg6'
       refine g_yes rfl rfl hg6 ?_
       refine r_move rfl rfl ?_
       refine g_yes rfl rfl hg6 ?_
       refine r_buildSlice _ rfl rfl (fun _ => T.bs_strs_4 ..) fun gS => ?_
       refine g_yes rfl rfl hg6 ?_
       refine hl_letgo (rows newL) (List.prefix_refl _) ?_
       refine hl_call F.kit_EqStrings_cb rfl rfl (kit_EqStrings_meets newL newL (by decide)) (List.Perm.refl _) ⟨(by repeat constructor), (by repeat constructor), trivial⟩ fun _ _ => ?_
       refine p_t rfl rfl (bt1 hg6) rfl ?_
       refine r_move rfl rfl ?_
       refine g_split rfl rfl ?_ ?_
       ·intro hg7; have hg7' := hg7; try simp at hg7'
        refine g_yes rfl rfl hg7 ?_
        refine r_move rfl rfl ?_
        refine g_yes rfl rfl hg7 ?_
        refine hl_call F.law07_slip_cb rfl rfl (law07_slip_meets) (List.Perm.refl _) trivial fun x9 _ => ?_
        refine g_yes rfl rfl hg7 ?_
        refine hl_call F.kit_EqMarks_cb rfl rfl (kit_EqMarks_meets slipL slipL (by decide)) (List.Perm.refl _) ⟨(by repeat constructor), (by repeat constructor), trivial⟩ fun _ _ => ?_
        refine p_t rfl rfl (bt1 hg7) rfl ?_
        refine r_move rfl rfl ?_
        refine g_split rfl rfl ?_ ?_
        ·intro hg8; have hg8' := hg8; try simp at hg8'
         refine g_yes rfl rfl hg8 ?_
         refine r_move rfl rfl ?_
         refine g_yes rfl rfl hg8 ?_
         refine r_buildSlice _ rfl rfl (fun _ => T.bs_ints_3 ..) fun gS => ?_
         refine g_yes rfl rfl hg8 ?_
         refine hl_letgo (rows ([1, 0, 2] : List Int)) (List.prefix_refl _) ?_
         refine hl_call F.kit_EqInts_cb rfl rfl (kit_EqInts_meets [1, 0, 2] [1, 0, 2] (by decide)) (List.Perm.refl _) ⟨(by repeat constructor), (by repeat constructor), trivial⟩ fun _ _ => ?_
         refine p_t rfl rfl (bt1 hg8) rfl ?_
         refine r_move rfl rfl ?_
         refine g_split rfl rfl ?_ ?_
         ·intro hg9; have hg9' := hg9; try simp at hg9'
          refine g_yes rfl rfl hg9 ?_
          refine r_move rfl rfl ?_
          refine g_yes rfl rfl hg9 ?_
          refine r_buildSlice _ rfl rfl (fun _ => T.bs_ints_3 ..) fun gS => ?_
          refine g_yes rfl rfl hg9 ?_
          refine hl_letgo (rows ([1, 0, -1] : List Int)) (List.prefix_refl _) ?_
          refine hl_call F.kit_EqInts_cb rfl rfl (kit_EqInts_meets [1, 0, -1] [1, 0, -1] (by decide)) (List.Perm.refl _) ⟨(by repeat constructor), (by repeat constructor), trivial⟩ fun _ _ => ?_
          refine p_t rfl rfl (bt1 hg9) rfl ?_
          refine r_assign rfl rfl ?_
          refine hl_nil ?_
          refine then_n ?_
          refine hc_ret ?_
          exact ret1 () rfl rfl rfl trivial (List.nil_sublist _) trivial
         ·intro hg9; have hg9' := hg9; try simp at hg9'
        ·intro hg8; have hg8' := hg8; try simp at hg8'
       ·intro hg7; have hg7' := hg7; try simp at hg7'
      ·intro hg6; have hg6' := hg6; try simp at hg6'
     ·intro hg5; have hg5' := hg5; try simp at hg5'
    ·intro hg4; have hg4' := hg4; try simp at hg4'
   ·intro hg3; have hg3' := hg3; try simp at hg3'
  ·intro hg2; have hg2' := hg2; try simp at hg2'
 ·intro hg1; have hg1' := hg1; try simp at hg1'

end Go.Proofs.Ytpbbgbjidhffoaa
