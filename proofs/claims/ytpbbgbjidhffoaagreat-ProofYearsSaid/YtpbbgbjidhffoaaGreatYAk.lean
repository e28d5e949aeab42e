/- Texts of this claim, one behind another. -/
import Derived.Sort.Walk0
import Derived.Test.YtpbbgbjidhffoaaGreatYAj
import Derived.Test.YtpbbgbjidhffoaaGreatYAh
import Derived.Test.YtpbbgbjidhffoaaGreatYAi
set_option linter.unusedVariables false
set_option linter.unusedSimpArgs false
section
namespace Go.Proofs.YtpbbgbjidhffoaaGreat
open Go Go.W
set_option maxRecDepth 20000
attribute [local irreducible] HL HC HQ HB Row Rows2 Blk Facts
abbrev sAnna : Str := [97, 110, 110, 97]
abbrev sBea : Str := [98, 101, 97]
abbrev sBen : Str := [98, 101, 110]
abbrev sCid : Str := [99, 105, 100]
abbrev sCyd : Str := [99, 121, 100]
abbrev sAbe : Str := [97, 98, 101]
abbrev sDan : Str := [100, 97, 110]
abbrev folkL : List Str := [sAnna, sBen, sCyd]
abbrev slipL : List Mk := [(1, 1, sBea), (2, 2, sCid)]
abbrev newL : List Str := [sAnna, sBea, sBen, sCid]
def diffN (old page : List Str) : Nat → Nat → Nat → Lst
  | 0, _, _ => (0, [])
  | d + 1, i, j => leastOf ((if i = old.length ∧ j = page.length then [(0, [])] else []) ++
    (if j < page.length then [behindP (diffN old page d i (j + 1)) (1, (i : Int), page.getD j default)] else []) ++
    (if i < old.length then [behindP (diffN old page d (i + 1) j) (3, (i : Int), [])] else []) ++
    (if i < old.length ∧ j < page.length then behindP (diffN old page d (i + 1) (j + 1)) (2, (i : Int), page.getD j default) :: (if old.getD i default = page.getD j default then [diffN old page d (i + 1) (j + 1)] else []) else []))
theorem diffN_eq (old page : List Str) : ∀ (d i j : Nat), (old.length - i) + (page.length - j) < d → diffN old page d i j = diffP old page i j := by
  intro d
  induction d with
  | zero => intro i j h; omega
  | succ d ih =>
    intro i j h; unfold diffN diffP
    congr 1
    congr 1
    · congr 1
      · congr 1
        by_cases hj : j < page.length
        · rw [if_pos hj, dif_pos hj, ih i (j + 1) (by omega)]
        · rw [if_neg hj, dif_neg hj]
      · by_cases hi : i < old.length
        · rw [if_pos hi, dif_pos hi, ih (i + 1) j (by omega)]
        · rw [if_neg hi, dif_neg hi]
    · by_cases hi : i < old.length ∧ j < page.length
      · rw [if_pos hi, dif_pos hi, ih (i + 1) (j + 1) (by omega)]
      · rw [if_neg hi, dif_neg hi]
theorem ex_apply : applyP folkL slipL = (newL, 0) := by decide +kernel
theorem ex_diff : diffE folkL newL (diffP folkL newL 0 0).2 = (slipL, 0) := by rw [← diffN_eq folkL newL 10 0 0 (by decide)]; decide +kernel
theorem ex_steps : stepsP folkL [(1, 0, sAbe), (3, 1, []), (3, 2, [])] 3 = ([1, 0, 2], 0) := by decide +kernel
theorem ex_origin (a b : Option Addr) : originE [⟨a, 2, [sAnna, sBen]⟩, ⟨b, 2, [sAnna, sCyd]⟩] [sAnna, sBen, sDan] = ([1, 0, -1], 0) := by rfl
theorem ex_look (a b : Option Addr) : lookP [⟨a, 2, [sAnna, sBen]⟩, ⟨b, 2, [sAnna, sCyd]⟩] [(1, 2, sDan)] [sAnna, sCyd, sBen, sDan] = ((2, 2), 0) := by
  have e1 : yearsErr (years [⟨a, 2, [sAnna, sBen]⟩, ⟨b, 2, [sAnna, sCyd]⟩]) = 0 := by show yearsErr [[sAnna, sBen], [sAnna, sCyd]] = 0; decide +kernel
  have e2 : (lastP [⟨a, 2, [sAnna, sBen]⟩, ⟨b, 2, [sAnna, sCyd]⟩]).l = [sAnna, sCyd] := rfl; have e3 : applyP [sAnna, sCyd] [(1, 2, sDan)] = ([sAnna, sCyd, sDan], 0) := by decide +kernel
  have e4 : pageErr [sAnna, sCyd, sBen, sDan] = 0 := by decide +kernel
  have e5 : (diffP [sAnna, sCyd, sDan] [sAnna, sCyd, sBen, sDan] 0 0).2 = [(1, 2, sBen)] := by rw [← diffN_eq _ _ 10 0 0 (by decide)]; decide +kernel
  unfold lookP; rw [e1, e2, e3, e4, e5]
  rfl
theorem law07_folk_meets : Meets Tryz.prog F.law07_folk [] (outSl folkL) := by
 refine meets_intro F.law07_folk_f rfl (Nat.le_of_ble_eq_true rfl) fun w0 => ?_; refine hc_seq (hc_region (r_assign rfl rfl (hl_nil (then_n (hc_seq (hc_region ?_)))))); refine r_buildSlice _ rfl rfl (fun _ => T.bs_strs_3 ..) fun gS => ?_; refine r_assign rfl rfl (hl_nil (then_n (hc_ret ?_))); refine hq_letgo (rows folkL) (List.prefix_refl _) ?_; exact ret1 (some ⟨gS, 0, none⟩, 3) rfl rfl rfl (Nat.le_refl _) (.refl _) ⟨m0, trivial⟩
theorem law07_in_meets (n : Int) (s : Str) : Meets Tryz.prog F.law07_in [int n, str s] { val := fun _ : Unit => .agg #[int 1, int n, str s] } := by
 refine meets_intro F.law07_in_f rfl (Nat.le_of_ble_eq_true rfl) fun w0 => ?_; refine hc_seq (hc_region ?_); refine r_alloc rfl (fun _ => T.al_api_Mark _) fun gA => ?_; refine hl_nil (then_n (hc_seq (hc_region (r_move rfl rfl (r_move rfl rfl ?_))))); refine r_build _ rfl rfl (fun _ => T.bd_api_Mark_0_1_2 ..) ?_; refine r_storeS rfl rfl (by first | exact .refl _ | exact perm2 _ _ _ | exact perm3 _ _ _ _ | exact perm4 _ _ _ _ _) T.sz_api_Mark (by rfl) (by rfl) ?_; refine hl_nil (then_n (hc_ret ?_)); exact ret_row () rfl rfl T.row_api_Mark T.sz_api_Mark rfl m0 rfl rfl trivial (List.nil_sublist _) trivial
theorem law07_set_meets (n : Int) (s : Str) : Meets Tryz.prog F.law07_set [int n, str s] { val := fun _ : Unit => .agg #[int 2, int n, str s] } := by
 refine meets_intro F.law07_set_f rfl (Nat.le_of_ble_eq_true rfl) fun w0 => ?_; refine hc_seq (hc_region ?_); refine r_alloc rfl (fun _ => T.al_api_Mark _) fun gA => ?_; refine hl_nil (then_n (hc_seq (hc_region (r_move rfl rfl (r_move rfl rfl ?_))))); refine r_build _ rfl rfl (fun _ => T.bd_api_Mark_0_1_2 ..) ?_; refine r_storeS rfl rfl (by first | exact .refl _ | exact perm2 _ _ _ | exact perm3 _ _ _ _ | exact perm4 _ _ _ _ _) T.sz_api_Mark (by rfl) (by rfl) ?_; refine hl_nil (then_n (hc_ret ?_)); exact ret_row () rfl rfl T.row_api_Mark T.sz_api_Mark rfl m0 rfl rfl trivial (List.nil_sublist _) trivial
theorem law07_out_meets (n : Int) : Meets Tryz.prog F.law07_out [int n] { val := fun _ : Unit => .agg #[int 3, int n, str []] } := by
 refine meets_intro F.law07_out_f rfl (Nat.le_of_ble_eq_true rfl) fun w0 => ?_; refine hc_seq (hc_region ?_); refine r_alloc rfl (fun _ => T.al_api_Mark _) fun gA => ?_; refine hl_nil (then_n (hc_seq (hc_region (r_move rfl rfl ?_)))); refine r_build _ rfl rfl (fun _ => T.bd_api_Mark_0_1 ..) ?_; refine r_storeS rfl rfl (by first | exact .refl _ | exact perm2 _ _ _ | exact perm3 _ _ _ _ | exact perm4 _ _ _ _ _) T.sz_api_Mark (by rfl) (by rfl) ?_; refine hl_nil (then_n (hc_ret ?_)); exact ret_row () rfl rfl T.row_api_Mark T.sz_api_Mark rfl m0 rfl rfl trivial (List.nil_sublist _) trivial
theorem law07_slip_meets : Meets Tryz.prog F.law07_slip [] (outSl slipL) := by
 refine meets_intro F.law07_slip_f rfl (Nat.le_of_ble_eq_true rfl) fun w0 => ?_; refine hc_seq (hc_region (r_assign rfl rfl (hl_nil (then_n (hc_seq (hc_region ?_)))))); refine hl_call F.law07_in_cb rfl rfl (law07_in_meets 1 sBea) (List.Perm.refl _) trivial fun _ _ => ?_; refine hl_call F.law07_set_cb rfl rfl (law07_set_meets 2 sCid) (List.Perm.refl _) trivial fun _ _ => ?_; refine r_buildSlice _ rfl rfl (fun _ => T.bs_L_api_Mark_2 ..) fun gS => ?_; refine r_assign rfl rfl (hl_nil (then_n (hc_ret ?_))); refine hq_letgo (rows slipL) (List.prefix_refl _) ?_; exact ret1 (some ⟨gS, 0, none⟩, 2) rfl rfl rfl (Nat.le_refl _) (.refl _) ⟨m0, trivial⟩
def agesP (x : OutC × Option Addr × Option Addr) : List (Sl Str) := [⟨x.2.1, 2, [sAnna, sBen]⟩, ⟨x.2.2, 2, [sAnna, sCyd]⟩]
theorem law07_ages_meets : Meets Tryz.prog F.law07_ages [] { inv := fun x : OutC × Option Addr × Option Addr => 2 ≤ x.1.2, val := fun x => .slice x.1.1 2 x.1.2, LO := fun x => [Rows2 x.1.1 (agesP x)] } := by
 refine meets_intro F.law07_ages_f rfl (Nat.le_of_ble_eq_true rfl) fun w0 => ?_; refine hc_seq (hc_region (r_assign rfl rfl (hl_nil (then_n (hc_seq (hc_region ?_)))))); refine r_buildSlice _ rfl rfl (fun _ => T.bs_strs_2 ..) fun ga => ?_; refine r_buildSlice _ rfl rfl (fun _ => T.bs_strs_2 ..) fun gb => ?_; refine r_buildSlice _ rfl rfl (fun _ => T.bs_pages_2 ..) fun gS => ?_; refine r_assign rfl rfl (hl_nil (then_n (hc_ret ?_))); refine hq_letgo (rows [(⟨some ⟨ga, 0, none⟩, 2, [sAnna, sBen]⟩ : Sl Str), ⟨some ⟨gb, 0, none⟩, 2, [sAnna, sCyd]⟩]) (List.prefix_refl _) ?_; refine hq_letgo (rows [sAnna, sCyd]) (List.prefix_refl _) ?_; refine hq_letgo (rows [sAnna, sBen]) (List.prefix_refl _) ?_; refine hq_rows2 (A := some ⟨gS, 0, none⟩) (ps := [(⟨some ⟨ga, 0, none⟩, 2, [sAnna, sBen]⟩ : Sl Str), ⟨some ⟨gb, 0, none⟩, 2, [sAnna, sCyd]⟩]) m2 (by intro p hp; simp at hp; rcases hp with rfl | rfl; exact m0; exact m1) ?_; exact ret1 ((some ⟨gS, 0, none⟩, 2), some ⟨ga, 0, none⟩, some ⟨gb, 0, none⟩) rfl rfl rfl (Nat.le_refl _) (.refl _) ⟨m0, trivial⟩
abbrev orderM : List Mk := [(1, 0, sAbe), (3, 1, []), (3, 2, [])]
theorem ex_apply_meets {A B : Option Addr} {ca cb : Nat} (hc : 3 ≤ ca) : Meets Tryz.prog F.proof_Apply [.slice A 3 ca, .slice B 2 cb] { outErr (newL, (0 : Int)) with LI := [Row A (rows folkL), Row B (rows slipL)] } := by
  have h := proof_Apply_meets (A := A) (B := B) (ca := ca) (cb := cb) folkL slipL hc; rw [ex_apply] at h; exact h
theorem ex_diff_meets {A B : Option Addr} {ca cb : Nat} : Meets Tryz.prog F.proof_Diff [.slice A 3 ca, .slice B 4 cb] { outE (slipL, (0 : Int)) with LI := [Row A (rows folkL), Row B (rows newL)] } := by
  have h := proof_Diff_meets (A := A) (B := B) (ca := ca) (cb := cb) folkL newL; rw [ex_diff] at h; exact h
theorem ex_steps_meets {A B : Option Addr} {ca cb : Nat} : Meets Tryz.prog F.proof_Steps [.slice A 3 ca, .slice B 3 cb, int 3] { outE (([1, 0, 2] : List Int), (0 : Int)) with LI := [Row A (rows folkL), Row B (rows orderM)] } := by
  have h := proof_Steps_meets (A := A) (B := B) (ca := ca) (cb := cb) folkL orderM 3; rw [ex_steps] at h; exact h
theorem ex_origin_meets {B : Option Addr} {cb : Nat} (y : OutC × Option Addr × Option Addr) : Meets Tryz.prog F.proof_Origin [.slice y.1.1 2 y.1.2, .slice B 3 cb] { outErr (([1, 0, -1] : List Int), (0 : Int)) with LI := [Rows2 y.1.1 (agesP y), Row B (rows [sAnna, sBen, sDan])] } := by
  have h := proof_Origin_meets (A := y.1.1) (B := B) (ca := y.1.2) (cb := cb) (agesP y) [sAnna, sBen, sDan]; rw [agesP, ex_origin] at h; exact h
theorem ex_look_meets {B C : Option Addr} {cb cc : Nat} (y : OutC × Option Addr × Option Addr) (hy : 2 ≤ y.1.2) : Meets Tryz.prog F.proof_Look [.slice y.1.1 2 y.1.2, .slice B 1 cb, .slice C 4 cc] { LI := [Rows2 y.1.1 (agesP y), Row B (rows [((1, 2, sDan) : Mk)]), Row C (rows [sAnna, sCyd, sBen, sDan])], val := fun _ : Unit => .tuple #[.agg #[int 2, int 2], int 0] } := by
  have h := proof_Look_meets (A := y.1.1) (B := B) (C := C) (ca := y.1.2) (cb := cb) (cc := cc) (agesP y) [(1, 2, sDan)] [sAnna, sCyd, sBen, sDan] hy (by intro q hq; simp [agesP] at hq; rcases hq with rfl | rfl <;> simp); rw [agesP, ex_look] at h; exact h
set_option maxHeartbeats 1000000 in
theorem law07_correcting_meets : Meets Tryz.prog F.law07_correcting [] { val := fun _ : Unit => .bool true } := by
 refine meets_intro F.law07_correcting_f rfl (Nat.le_of_ble_eq_true rfl) fun w0 => ?_; refine hc_seq (hc_region (r_assign rfl rfl (hl_nil (then_n (hc_seq (hc_region ?_)))))); refine hl_call F.law07_folk_cb rfl rfl (law07_folk_meets) (List.Perm.refl _) trivial fun x1 hx1 => ?_; refine hl_call F.law07_slip_cb rfl rfl (law07_slip_meets) (List.Perm.refl _) trivial fun x2 hx2 => ?_; refine hl_call F.proof_Apply_cb rfl rfl (ex_apply_meets hx1) (List.Perm.refl _) ⟨m1, m0, trivial⟩ fun x3 hx3 => ?_; refine r_move rfl rfl (r_extract rfl rfl rfl (r_extract rfl rfl rfl (r_assign rfl rfl (r_assign rfl rfl (hl_nil (then_n (hc_seq (hc_region ?_)))))))); refine hl_call F.law07_folk_cb rfl rfl (law07_folk_meets) (List.Perm.refl _) trivial fun x4 hx4 => ?_; refine r_buildSlice _ rfl rfl (fun _ => T.bs_strs_4 ..) fun gS => ?_; refine hl_letgo (rows newL) (List.prefix_refl _) ?_; refine hl_call F.proof_Diff_cb rfl rfl (ex_diff_meets) (List.Perm.refl _) ⟨m1, m0, trivial⟩ fun x5 _ => ?_; refine r_move rfl rfl (r_extract rfl rfl rfl (r_extract rfl rfl rfl (r_assign rfl rfl (r_assign rfl rfl (hl_nil (then_n (hc_seq (hc_region ?_)))))))); refine hl_call F.law07_folk_cb rfl rfl (law07_folk_meets) (List.Perm.refl _) trivial fun x6 hx6 => ?_; refine hl_call F.law07_in_cb rfl rfl (law07_in_meets 0 sAbe) (List.Perm.refl _) trivial fun _ _ => ?_; refine hl_call F.law07_out_cb rfl rfl (law07_out_meets 1) (List.Perm.refl _) trivial fun _ _ => ?_; refine hl_call F.law07_out_cb rfl rfl (law07_out_meets 2) (List.Perm.refl _) trivial fun _ _ => ?_; refine r_buildSlice _ rfl rfl (fun _ => T.bs_L_api_Mark_3 ..) fun gS => ?_; refine hl_letgo (rows orderM) (List.prefix_refl _) ?_; refine hl_call F.proof_Steps_cb rfl rfl (ex_steps_meets) (List.Perm.refl _) ⟨m1, m0, trivial⟩ fun x7 _ => ?_; refine r_move rfl rfl (r_extract rfl rfl rfl (r_extract rfl rfl rfl (r_assign rfl rfl (r_assign rfl rfl (hl_nil (then_n (hc_seq (hc_region ?_)))))))); refine hl_call F.law07_ages_cb rfl rfl (law07_ages_meets) (List.Perm.refl _) trivial fun y1 hy1 => ?_; refine r_buildSlice _ rfl rfl (fun _ => T.bs_strs_3 ..) fun gS => ?_; refine hl_letgo (rows [sAnna, sBen, sDan]) (List.prefix_refl _) ?_; refine hl_call F.proof_Origin_cb rfl rfl (ex_origin_meets y1) (List.Perm.refl _) ⟨m1, m0, trivial⟩ fun x8 _ => ?_; refine r_move rfl rfl (r_extract rfl rfl rfl (r_extract rfl rfl rfl (r_assign rfl rfl (r_assign rfl rfl (hl_nil (then_n (hc_seq (hc_region ?_)))))))); refine hl_call F.law07_ages_cb rfl rfl (law07_ages_meets) (List.Perm.refl _) trivial fun y2 hy2 => ?_; refine hl_call F.law07_in_cb rfl rfl (law07_in_meets 2 sDan) (List.Perm.refl _) trivial fun _ _ => ?_; refine r_buildSlice _ rfl rfl (fun _ => T.bs_L_api_Mark_1 ..) fun gS => ?_; refine hl_letgo (rows [((1, 2, sDan) : Mk)]) (List.prefix_refl _) ?_; refine r_buildSlice _ rfl rfl (fun _ => T.bs_strs_4 ..) fun gS => ?_; refine hl_letgo (rows [sAnna, sCyd, sBen, sDan]) (List.prefix_refl _) ?_; refine hl_call F.proof_Look_cb rfl rfl (ex_look_meets y2 hy2) (List.Perm.refl _) ⟨m2, m1, m0, trivial⟩ fun _ _ => ?_; refine r_move rfl rfl (r_extract rfl rfl rfl (r_extract rfl rfl rfl ?_)); refine r_alloc rfl (fun _ => T.al_api_Flaw _) fun gA => ?_; refine r_storeS rfl rfl (by first | exact .refl _ | exact perm2 _ _ _ | exact perm3 _ _ _ _ | exact perm4 _ _ _ _ _) T.sz_api_Flaw (by rfl) (by rfl) ?_; refine r_assign rfl rfl (hl_nil (then_n (hc_seq (hc_region (r_move rfl rfl (r_eql rfl rfl rfl (r_move rfl rfl ?_))))))); refine g_split rfl rfl ?_ ?_
 ·intro hg1; have hg1' := hg1; try simp at hg1'
  refine g_yes rfl rfl hg1 (r_move rfl rfl (g_yes rfl rfl hg1 (r_eql rfl rfl rfl ?_))); refine p_t rfl rfl (bt1 hg1) rfl ?_; refine r_move rfl rfl ?_; refine g_split rfl rfl ?_ ?_
  ·intro hg2; have hg2' := hg2; try simp at hg2'
   refine g_yes rfl rfl hg2 (r_move rfl rfl (g_yes rfl rfl hg2 (r_eql rfl rfl rfl ?_))); refine p_t rfl rfl (bt1 hg2) rfl ?_; refine r_move rfl rfl ?_; refine g_split rfl rfl ?_ ?_
   ·intro hg3; have hg3' := hg3; try simp at hg3'
    refine g_yes rfl rfl hg3 (r_move rfl rfl (g_yes rfl rfl hg3 (r_eql rfl rfl rfl ?_))); refine p_t rfl rfl (bt1 hg3) rfl ?_; refine r_move rfl rfl ?_; refine g_split rfl rfl ?_ ?_
    ·intro hg4; have hg4' := hg4; try simp at hg4'
     refine g_yes rfl rfl hg4 (r_move rfl rfl (g_yes rfl rfl hg4 (r_eql rfl rfl rfl ?_))); refine p_t rfl rfl (bt1 hg4) rfl ?_; refine r_move rfl rfl ?_; refine g_split rfl rfl ?_ ?_
     ·intro hg5; have hg5' := hg5; try simp at hg5'
      refine g_yes rfl rfl hg5 ?_
      first | refine r_loadA rfl T.row_api_Flaw T.sz_api_Flaw rfl mB (by rfl) ?_ | refine r_loadB rfl T.row_api_Flaw T.sz_api_Flaw rfl mB (by rfl) ?_ | refine r_loadS rfl T.row_api_Flaw T.sz_api_Flaw rfl rfl (cells_row mB (rows_all (by omega))) ?_
      refine g_yes rfl rfl hg5 ?_; refine r_build _ rfl rfl (fun _ => T.bd_api_Flaw_0_1 ..) ?_; refine g_yes rfl rfl hg5 ?_; refine r_bin _ rfl rfl rfl (fun _ => T.eqg_api_Flaw ..) (fun _ => T.eql_api_Flaw ..) ?_; refine p_t rfl rfl (bt1 hg5) rfl ?_; refine r_move rfl rfl ?_; refine g_split rfl rfl ?_ ?_
      ·intro hg6; have hg6' := hg6; try simp at hg6'
       refine g_yes rfl rfl hg6 (r_move rfl rfl (g_yes rfl rfl hg6 ?_)); refine r_buildSlice _ rfl rfl (fun _ => T.bs_strs_4 ..) fun gS => ?_; refine g_yes rfl rfl hg6 ?_; refine hl_letgo (rows newL) (List.prefix_refl _) ?_; refine hl_call F.kit_EqStrings_cb rfl rfl (kit_EqStrings_meets newL newL (by decide)) (List.Perm.refl _) ⟨mB, mB, trivial⟩ fun _ _ => ?_; refine p_t rfl rfl (bt1 hg6) rfl ?_; refine r_move rfl rfl ?_; refine g_split rfl rfl ?_ ?_
       ·intro hg7; have hg7' := hg7; try simp at hg7'
        refine g_yes rfl rfl hg7 (r_move rfl rfl (g_yes rfl rfl hg7 ?_)); refine hl_call F.law07_slip_cb rfl rfl (law07_slip_meets) (List.Perm.refl _) trivial fun x9 _ => ?_; refine g_yes rfl rfl hg7 ?_; refine hl_call F.kit_EqMarks_cb rfl rfl (kit_EqMarks_meets slipL slipL (by decide)) (List.Perm.refl _) ⟨mB, mB, trivial⟩ fun _ _ => ?_; refine p_t rfl rfl (bt1 hg7) rfl ?_; refine r_move rfl rfl ?_; refine g_split rfl rfl ?_ ?_
        ·intro hg8; have hg8' := hg8; try simp at hg8'
         refine g_yes rfl rfl hg8 (r_move rfl rfl (g_yes rfl rfl hg8 ?_)); refine r_buildSlice _ rfl rfl (fun _ => T.bs_ints_3 ..) fun gS => ?_; refine g_yes rfl rfl hg8 ?_; refine hl_letgo (rows ([1, 0, 2] : List Int)) (List.prefix_refl _) ?_; refine hl_call F.kit_EqInts_cb rfl rfl (kit_EqInts_meets [1, 0, 2] [1, 0, 2] (by decide)) (List.Perm.refl _) ⟨mB, mB, trivial⟩ fun _ _ => ?_; refine p_t rfl rfl (bt1 hg8) rfl ?_; refine r_move rfl rfl ?_; refine g_split rfl rfl ?_ ?_
         ·intro hg9; have hg9' := hg9; try simp at hg9'
          refine g_yes rfl rfl hg9 (r_move rfl rfl (g_yes rfl rfl hg9 ?_)); refine r_buildSlice _ rfl rfl (fun _ => T.bs_ints_3 ..) fun gS => ?_; refine g_yes rfl rfl hg9 ?_; refine hl_letgo (rows ([1, 0, -1] : List Int)) (List.prefix_refl _) ?_; refine hl_call F.kit_EqInts_cb rfl rfl (kit_EqInts_meets [1, 0, -1] [1, 0, -1] (by decide)) (List.Perm.refl _) ⟨mB, mB, trivial⟩ fun _ _ => ?_; refine p_t rfl rfl (bt1 hg9) rfl ?_; refine r_assign rfl rfl (hl_nil (then_n (hc_ret ?_))); exact ret1 () rfl rfl rfl trivial (List.nil_sublist _) trivial
         ·intro hg9; have hg9' := hg9; try simp at hg9'
        ·intro hg8; have hg8' := hg8; try simp at hg8'
       ·intro hg7; have hg7' := hg7; try simp at hg7'
      ·intro hg6; have hg6' := hg6; try simp at hg6'
     ·intro hg5; have hg5' := hg5; try simp at hg5'
    ·intro hg4; have hg4' := hg4; try simp at hg4'
   ·intro hg3; have hg3' := hg3; try simp at hg3'
  ·intro hg2; have hg2' := hg2; try simp at hg2'
 ·intro hg1; have hg1' := hg1; try simp at hg1'
end Go.Proofs.YtpbbgbjidhffoaaGreat
end
section
namespace Go.Proofs.YtpbbgbjidhffoaaGreat
open Go Go.W
set_option maxRecDepth 20000
attribute [local irreducible] HL HC HQ HB Row Rows2 Blk Facts
def okNext (b m : Mk) : Prop := b.2.1 < m.2.1 ∨ (b.2.1 = m.2.1 ∧ b.1 = 1)
def textOK (m : Mk) : Prop := (m.1 = 3 ∧ m.2.2 = []) ∨ (¬ m.1 = 3 ∧ m.2.2 ∈ lineWords)
structure MarksOK (n : Nat) (l : List Mk) : Prop where
  ch : ∀ k, k + 1 < l.length → okNext (l.getD k default) (l.getD (k + 1) default)
  v : MV n l
  t : ∀ m ∈ l, textOK m
theorem MarksOK.nil (n : Nat) : MarksOK n [] := ⟨fun k h => by simp at h, fun m h => by simp at h, fun m h => by simp at h⟩
def LastI (i : Nat) (l : List Mk) : Prop := ∀ b ∈ l, b.2.1 < (i : Int) ∨ (b.2.1 = (i : Int) ∧ b.1 = 1)
def LastB (i : Nat) (l : List Mk) : Prop := ∀ b ∈ l, b.2.1 < (i : Int)
theorem LastB.i {i : Nat} {l : List Mk} (h : LastB i l) : LastI i l := fun b hb => .inl (h b hb)
theorem LastI.b {i : Nat} {l : List Mk} (h : LastI i l) : LastB (i + 1) l := fun b hb => by rcases h b hb with h | h <;> omega
theorem LastI.snoc {i : Nat} {l : List Mk} (h : LastI i l) (t : Str) : LastI i (l ++ [(1, (i : Int), t)]) := fun b hb => by
  rcases List.mem_append.1 hb with hb | hb
  · exact h b hb
  · simp at hb; subst hb; exact .inr ⟨rfl, rfl⟩
theorem LastI.any {i : Nat} {l : List Mk} (h : LastI i l) (k : Int) (t : Str) : LastB (i + 1) (l ++ [(k, (i : Int), t)]) := fun b hb => by
  rcases List.mem_append.1 hb with hb | hb
  · exact h.b b hb
  · simp at hb; subst hb; simp only; omega
theorem MarksOK.snoc {n i : Nat} {l : List Mk} {k : Int} {t : Str} (h : MarksOK n l) (hl : LastI i l) (hk : 1 ≤ k ∧ k ≤ 3) (hi : i ≤ n) (hi2 : k = 1 ∨ i < n) (ht : textOK (k, (i : Int), t)) : MarksOK n (l ++ [(k, (i : Int), t)]) := by
  refine ⟨fun j hj => ?_, fun m hm => ?_, fun m hm => ?_⟩
  · rw [List.length_append, List.length_cons, List.length_nil] at hj
    by_cases hj2 : j + 1 < l.length
    · have := h.ch j hj2
      rw [getD_at (by omega), getD_at hj2] at this; rw [getD_at (by simp; omega), getD_at (by simp; omega), List.getElem_append_left (by omega), List.getElem_append_left hj2]; exact this
    · have hje : j + 1 = l.length := by omega
      rw [getD_at (by simp; omega), getD_at (by simp; omega), List.getElem_append_left (by omega), List.getElem_append_right (by omega)]; have := hl l[j] (List.getElem_mem _); simp only [hje, Nat.sub_self, List.getElem_cons_zero]; exact this
  · rcases List.mem_append.1 hm with hm | hm
    · exact h.v m hm
    · simp at hm; subst hm; simp only; omega
  · rcases List.mem_append.1 hm with hm | hm
    · exact h.t m hm
    · simp at hm; subst hm; exact ht
abbrev GrowM (o : OutC) (l : List Mk) (og : Hp) : Prop := Grow T.api_Mark 3 o.1 l.length o.2 (rows l) og
theorem kit_NewDice_meets {A : Option Addr} {c : Nat} (nums : List Int) : Meets Tryz.prog F.kit_NewDice [.slice A nums.length c] { LI := [Row A (rows nums)], val := fun g : Nat => .pointer (some ⟨g, 0, none⟩), hpO := fun g => [dice g A c nums (0, 11400714819323198485)] } := by
 refine meets_intro F.kit_NewDice_f rfl (Nat.le_of_ble_eq_true rfl) fun w0 => ?_; refine hc_seq (hc_region (r_assign rfl rfl (hl_nil (then_n (hc_seq (hc_region (r_move rfl rfl ?_))))))); refine r_build _ rfl rfl (fun _ => T.bd_wayzgoosekit_Dice_0_2 ..) ?_; refine r_box rfl rfl fun gB => ?_; refine r_assign rfl rfl (hl_nil (then_n (hc_ret ?_))); exact ret1 gB rfl rfl rfl trivial (.refl _) trivial
abbrev GrowS2 (o : OutC) (ps : List (Sl Str)) (og : Hp) : Prop := Grow T.strs 1 o.1 ps.length o.2 (rows ps) og
def inner (ps : List (Sl Str)) : Fact := Facts (ps.map fun p => Row p.a (rows p.l))
theorem inner_snoc {L : List Fact} {ps : List (Sl Str)} {p : Sl Str} (h : inner ps ∈ L) (h2 : Row p.a (rows p.l) ∈ L) : ∀ F ∈ (ps ++ [p]).map (fun p => Row p.a (rows p.l)), F ∈ L ∨ ∃ Gs, Facts Gs ∈ L ∧ F ∈ Gs := by
  intro F hF; rw [List.map_append] at hF
  rcases List.mem_append.1 hF with hF | hF
  · exact .inr ⟨_, h, hF⟩
  · simp at hF; subst hF; exact .inl h2
def PagesOK (ps : List (Sl Str)) : Prop := ∀ p ∈ ps, PageOK p.l ∧ p.l.length ≤ 6 ∧ p.l.length ≤ p.c
theorem PagesOK.snoc {ps : List (Sl Str)} {p : Sl Str} (h : PagesOK ps) (hp : PageOK p.l ∧ p.l.length ≤ 6 ∧ p.l.length ≤ p.c) : PagesOK (ps ++ [p]) := fun q hq => by
  rcases List.mem_append.1 hq with hq | hq
  · exact h q hq
  · simp at hq; subst hq; exact hp
theorem kit_DupStrings_own {A : Option Addr} {c : Nat} (l : List Str) (hl : l.length ≤ 1000000) : Meets Tryz.prog F.kit_DupStrings [.slice A l.length c] { LI := [Row A (rows l)], inv := fun x : OutC × Hp => GrowS x.1 l x.2, val := fun x => .slice x.1.1 l.length x.1.2, hpO := fun x => x.2 } := by
 refine meets_intro F.kit_DupStrings_f rfl (Nat.le_of_ble_eq_true rfl) fun w0 => ?_; refine hc_seq (hc_region (r_assign rfl rfl (hl_nil (then_n (hc_seq (hc_region ?_)))))); refine r_buildSlice _ rfl rfl (fun _ => T.bs_strs_0 ..) fun gS => ?_; refine r_move rfl rfl ?_; refine r_append l.length (rows l) T.el_strs rfl rfl rfl (Grow.new (cs := #[]) (n := 0) rfl (Nat.zero_le _)) (.refl _) (Src.row m0 (rows_len l) (rows_one l) (by decide)) (by omega) rfl (by unfold maxLen; omega) (by omega) fun A' c' og' hG => ?_; refine r_assign rfl rfl (hl_nil (then_n (hc_ret ?_))); exact ret1 ((A', c'), og') rfl rfl rfl hG (List.sublist_append_left _ _) trivial
theorem PageOK.set {l : List Str} {k : Nat} {t : Str} (h : PageOK l) (ht : t ∈ lineWords) : PageOK (l.set k t) := fun s hs => by
  rcases List.mem_or_eq_of_mem_set hs with h1 | h1
  · exact h s h1
  · exact h1 ▸ ht
theorem PageOK.drop {l : List Str} {k : Nat} (h : PageOK l) : PageOK (l.drop k) := fun s hs => h s (List.mem_of_mem_drop hs)
theorem PageOK.snoc {l : List Str} {t : Str} (h : PageOK l) (ht : t ∈ lineWords) : PageOK (l ++ [t]) := fun s hs => by
  rcases List.mem_append.1 hs with h1 | h1
  · exact h s h1
  · simp at h1; subst h1; exact ht
set_option maxHeartbeats 1000000 in
theorem kit_YearsOf_meets {g : Nat} {A : Option Addr} {c : Nat} {nums : List Int} {s : Int × Int} (most : Nat) (hn : nums.length ≤ 9223372036854775807) (hs : DOK nums s) (hI : most ≤ 100) :
    Meets Tryz.prog F.kit_YearsOf [.pointer (some ⟨g, 0, none⟩), int most] (diceCon g A c nums s (fun x : List (Sl Str) × OutC => x.1.length ≤ most ∧ PagesOK x.1 ∧ x.1.length ≤ x.2.2) (fun x => .slice x.2.1 x.1.length x.2.2) (fun x => [Rows2 x.2.1 x.1])) := by
 refine meets_intro F.kit_YearsOf_f rfl (Nat.le_of_ble_eq_true rfl) fun w0 => ?_; refine hc_seq (hc_region (r_assign rfl rfl (hl_nil (then_n (hc_seq (hc_region (r_assign rfl rfl (hl_nil (then_n (hc_seq (hc_region ?_))))))))))); refine r_move rfl rfl ?_; refine hl_call F.kit_PageOf_cb rfl rfl (kit_PageOf_meets 4 hn hs (by omega)) (.refl _) ⟨m0, trivial⟩ fun x hx => ?_; obtain ⟨s1, pg, po⟩ := x; obtain ⟨hs1, hp4, hP, hpc⟩ := hx; simp only at hp4 hP hpc; refine r_assign rfl rfl (hl_nil (then_n (hc_seq (hc_seq (hc_region (r_move rfl rfl (r_move rfl rfl ?_))))))); refine hl_call F.kit_Dice_To_cb rfl rfl (kit_Dice_To_meets most hn hs1 (by omega)) (.refl _) ⟨mB, trivial⟩ fun x hx => ?_; obtain ⟨s2, z⟩ := x; obtain ⟨hs2, hz⟩ := hx; simp only [ToInv] at hz; obtain ⟨zn, rfl⟩ := Int.eq_ofNat_of_zero_le hz.1
 have hzl : zn ≤ most := by
   by_cases h1 : 1 ≤ (most : Int)
   · have := hz.2.1 h1; omega
   · have := hz.2.2 (by omega); omega
 refine hl_facts (Fs := ([] : List (Sl Str)).map fun p => Row p.a (rows p.l)) (by intro F hF; simp at hF) ?_; refine r_assign rfl rfl (hl_nil (then_n (hc_block ?_)))
 refine hc_loop (β := List (Sl Str) × OutC × Hp × List Str × OutC × (Int × Int) × Nat) ⟨fun ⟨ps, o, og, pg, po, s, i⟩ => GrowS2 o ps og ∧ ps.length + i ≤ most ∧ PagesOK ps ∧ PageOK pg ∧ pg.length ≤ 6 ∧ pg.length ≤ po.2 ∧ DOK nums s, fun ⟨ps, o, og, pg, po, s, i⟩ => [(0, .pointer (some ⟨g, 0, none⟩)), (5, .slice o.1 ps.length o.2), (6, .slice po.1 pg.length po.2), (7, int i)], fun ⟨ps, o, og, pg, po, s, i⟩ => og ++ [dice g A c nums s], fun ⟨ps, o, og, pg, po, s, i⟩ => [Row A (rows nums), Row po.1 (rows pg), inner ps]⟩
   (fun x => x.2.2.2.2.2.2) ([], (none, 0), [], pg, po, s2, zn) ⟨Grow.nil _ _, by simpa using hzl, by intro p hp; simp at hp, hP, by omega, hpc, hs2⟩ ⟨rfl, rfl, rfl, rfl, trivial⟩ (.refl _) ⟨mB, mB, mB, trivial⟩ fun x hx => ?_
 clear hP hpc hs hs1 hs2 hp4; obtain ⟨ps, o, og, pg, po, s, i⟩ := x; obtain ⟨hG, hlen0, hPs, hP, hp6, hpc, hs⟩ := hx; refine hc_seq (hc_seq (hc_region (r_move rfl rfl (r_gtr rfl rfl rfl (hl_nil (then_n ?_))))))
 first | refine c_dec rfl (fun hb1 => ?_) (fun hb1 => ?_) | refine hc_cond rfl (fun hb1 => ?_) (fun hb1 => ?_)
 ·have hb1' := hb1; try simp at hb1'
  have hi : 0 < i := by omega
  have hlen : ps.length + i ≤ most + 1 := by omega
  refine hc_skip (then_n ?_); refine hc_cut (⟨fun ⟨ps, o, og, pg, po, s⟩ => GrowS2 o ps og ∧ ps.length + i ≤ most + 1 ∧ PagesOK ps ∧ PageOK pg ∧ pg.length ≤ 6 ∧ pg.length ≤ po.2 ∧ DOK nums s, fun ⟨ps, o, og, pg, po, s⟩ => [(0, .pointer (some ⟨g, 0, none⟩)), (5, .slice o.1 ps.length o.2), (6, .slice po.1 pg.length po.2), (7, int i)], fun ⟨ps, o, og, pg, po, s⟩ => og ++ [dice g A c nums s], fun ⟨ps, o, og, pg, po, s⟩ => [Row A (rows nums), Row po.1 (rows pg), inner ps]⟩ : Sta (List (Sl Str) × OutC × Hp × List Str × OutC × (Int × Int))) ?_ ?_
  ·skip
   refine hc_block ?_; refine hc_cut (⟨fun ⟨ps, o, og, pg, po, s⟩ => GrowS2 o ps og ∧ ps.length + i ≤ most + 1 ∧ PagesOK ps ∧ PageOK pg ∧ pg.length ≤ 6 ∧ pg.length ≤ po.2 ∧ DOK nums s, fun ⟨ps, o, og, pg, po, s⟩ => [(0, .pointer (some ⟨g, 0, none⟩)), (5, .slice o.1 ps.length o.2), (6, .slice po.1 pg.length po.2), (7, int i)], fun ⟨ps, o, og, pg, po, s⟩ => og ++ [dice g A c nums s], fun ⟨ps, o, og, pg, po, s⟩ => [Row A (rows nums), Row po.1 (rows pg), inner ps]⟩ : Sta (List (Sl Str) × OutC × Hp × List Str × OutC × (Int × Int))) ?_ ?_
   ·skip
    refine hc_region (r_move rfl rfl (r_move rfl rfl ?_)); refine hl_call F.kit_DupStrings_cb rfl rfl (kit_DupStrings_meets pg (by omega)) (.refl _) ⟨m1, trivial⟩ fun x hx => ?_; have hx : pg.length ≤ x.2 := hx; refine r_buildSlice _ rfl rfl (fun _ => T.bs_pages_1 ..) fun gS => ?_; refine r_append (ps.length + 1) (rows (ps ++ [(⟨x.1, x.2, pg⟩ : Sl Str)])) T.el_pages rfl rfl rfl hG (pm7 _ _ _) (Src.own (cs := #[.slice x.1 pg.length x.2]) (m := 1) (List.mem_append_right _ m0) rfl rfl) rfl (rows_append ps [(⟨x.1, x.2, pg⟩ : Sl Str)]).symm (by unfold maxLen; omega) (by omega) fun A' c' og' hG' => ?_; refine r_assign rfl rfl ?_; refine hl_facts (inner_snoc (ps := ps) (p := (⟨x.1, x.2, pg⟩ : Sl Str)) mB mB) ?_; refine hl_nil ?_; exact cut_c _ (ps ++ [(⟨x.1, x.2, pg⟩ : Sl Str)], (A', c'), og', pg, po, s) ⟨by unfold GrowS2; rw [len_snoc]; exact hG', by rw [len_snoc]; omega, hPs.snoc ⟨hP, hp6, hx⟩, hP, hp6, hpc, hs⟩ ⟨rfl, by rw [len_snoc]; rfl, rfl, rfl, trivial⟩ (fun p => by show List.countP p (og' ++ [dice g A c nums s]) ≤ List.countP p (og' ++ [(gS, _), dice g A c nums s]); simp only [List.countP_append, List.countP_cons, List.countP_nil]; omega) ⟨mB, mB, mB, trivial⟩
   ·intro x hx; clear hG hlen hPs hP hp6 hpc hs; obtain ⟨ps, o, og, pg, po, s⟩ := x; obtain ⟨hG, hlen, hPs, hP, hp6, hpc, hs⟩ := hx; refine hc_cut (⟨fun ⟨ps, o, og, pg, po, s⟩ => GrowS2 o ps og ∧ ps.length + i ≤ most + 1 ∧ PagesOK ps ∧ PageOK pg ∧ pg.length ≤ 6 ∧ pg.length ≤ po.2 ∧ DOK nums s, fun ⟨ps, o, og, pg, po, s⟩ => [(0, .pointer (some ⟨g, 0, none⟩)), (5, .slice o.1 ps.length o.2), (6, .slice po.1 pg.length po.2), (7, int i)], fun ⟨ps, o, og, pg, po, s⟩ => og ++ [dice g A c nums s], fun ⟨ps, o, og, pg, po, s⟩ => [Row A (rows nums), Row po.1 (rows pg), inner ps]⟩ : Sta (List (Sl Str) × OutC × Hp × List Str × OutC × (Int × Int))) ?_ ?_
    ·skip
     refine hc_seq (hc_region (r_move rfl rfl ?_)); refine hl_call F.kit_Dice_Once_cb rfl rfl (kit_Dice_Once_meets (4) hn hs (by omega)) (List.perm_append_comm) ⟨mB, trivial⟩ fun x hx => ?_; obtain ⟨s1, z⟩ := x; obtain ⟨hs1, _⟩ := hx; refine hl_nil (then_n ?_)
     first | refine c_dec rfl (fun hb2 => ?_) (fun hb2 => ?_) | refine hc_cond rfl (fun hb2 => ?_) (fun hb2 => ?_)
     ·have hb2' := hb2; try simp at hb2'
      refine hc_region (r_move rfl rfl ?_); refine hl_call F.kit_PageOf_cb rfl rfl (kit_PageOf_meets 4 hn hs1 (by omega)) (.refl _) ⟨mB, trivial⟩ fun x hx => ?_; obtain ⟨s2, pg2, po2⟩ := x; obtain ⟨hs2, hp4, hP2, hpc2⟩ := hx; simp only at hp4 hP2 hpc2; refine r_assign rfl rfl (hl_nil ?_); exact cut_c _ (ps, o, og, pg2, po2, s2) ⟨hG, hlen, hPs, hP2, by omega, hpc2, hs2⟩ ⟨rfl, rfl, rfl, rfl, trivial⟩ (fun p => by show List.countP p (og ++ [dice g A c nums s2]) ≤ List.countP p ([dice g A c nums s2] ++ og); simp only [List.countP_append, List.countP_cons, List.countP_nil]; omega) ⟨mB, mB, mB, trivial⟩
     ·have hb2' := hb2; try simp at hb2'
      refine hc_skip ?_; exact cut_c _ (ps, o, og, pg, po, s1) ⟨hG, hlen, hPs, hP, hp6, hpc, hs1⟩ ⟨rfl, rfl, rfl, rfl, trivial⟩ (fun p => by show List.countP p (og ++ [dice g A c nums s1]) ≤ List.countP p ([dice g A c nums s1] ++ og); simp only [List.countP_append, List.countP_cons, List.countP_nil]; omega) ⟨mB, mB, mB, trivial⟩
    ·intro x hx; clear hG hlen hPs hP hp6 hpc hs; obtain ⟨ps, o, og, pg, po, s⟩ := x; obtain ⟨hG, hlen, hPs, hP, hp6, hpc, hs⟩ := hx; refine hc_cut (⟨fun ⟨ps, o, og, pg, po, s⟩ => GrowS2 o ps og ∧ ps.length + i ≤ most + 1 ∧ PagesOK ps ∧ PageOK pg ∧ pg.length ≤ 6 ∧ pg.length ≤ po.2 ∧ DOK nums s, fun ⟨ps, o, og, pg, po, s⟩ => [(0, .pointer (some ⟨g, 0, none⟩)), (5, .slice o.1 ps.length o.2), (6, .slice po.1 pg.length po.2), (7, int i)], fun ⟨ps, o, og, pg, po, s⟩ => og ++ [dice g A c nums s], fun ⟨ps, o, og, pg, po, s⟩ => [Row A (rows nums), Row po.1 (rows pg), inner ps]⟩ : Sta (List (Sl Str) × OutC × Hp × List Str × OutC × (Int × Int))) ?_ ?_
     ·skip
      refine hc_seq (hc_region (r_move rfl rfl ?_)); refine r_len_sl rfl T.u_strs rfl ?_; refine r_gtr rfl rfl rfl (r_move rfl rfl ?_); refine g_split rfl rfl ?_ ?_
      ·intro hg1; have hg1' := hg1; try simp at hg1'
       have hpos : 0 < pg.length := by simpa using hg1
       refine g_yes rfl rfl hg1 (r_move rfl rfl (g_yes rfl rfl hg1 ?_)); refine hl_call F.kit_Dice_Once_cb rfl rfl (kit_Dice_Once_meets (2) hn hs (by omega)) (List.perm_append_comm) ⟨mB, trivial⟩ fun x hx => ?_; obtain ⟨s1, z⟩ := x; obtain ⟨hs1, _⟩ := hx; refine p_t rfl rfl (bt1 hg1) rfl ?_; refine hl_nil (then_n ?_)
       first | refine c_dec rfl (fun hb3 => ?_) (fun hb3 => ?_) | refine hc_cond rfl (fun hb3 => ?_) (fun hb3 => ?_)
       ·have hb3' := hb3; try simp at hb3'
        refine hc_seq (hc_region (r_move rfl rfl ?_)); refine hl_call F.kit_DupStrings_cb rfl rfl (kit_DupStrings_own pg (by omega)) (.refl _) ⟨mB, trivial⟩ fun x hx => ?_; obtain ⟨gp, cur, e1, e2, h3, h4, h5, h6, _⟩ := hx.open_ hpos; obtain ⟨⟨pa, pc⟩, pog⟩ := x; simp only at e1 e2 h3 h4 h5; subst e1; subst e2; refine r_assign rfl rfl (hl_nil (then_n (hc_region (r_move rfl rfl (r_move rfl rfl (r_move rfl rfl ?_)))))); refine r_len_sl rfl T.u_strs rfl ?_; refine r_sub ((pg.length - 1 : Nat) : Int) rfl rfl rfl (by omega) (by unfold I64; omega) ?_; refine hl_call F.kit_Dice_To_cb rfl rfl (kit_Dice_To_meets ((pg.length - 1 : Nat) : Int) hn hs1 (by omega)) (.swap _ _ _) ⟨mB, trivial⟩ fun x hx => ?_; obtain ⟨s2, z⟩ := x; obtain ⟨hs2, hz⟩ := hx; simp only [ToInv] at hz; obtain ⟨zn, rfl⟩ := Int.eq_ofNat_of_zero_le hz.1
        have hzl : zn < pg.length := by
          by_cases h1 : 1 ≤ ((pg.length - 1 : Nat) : Int)
          · have := hz.2.1 h1; omega
          · have := hz.2.2 (by omega); omega
        refine r_move rfl rfl ?_; refine hl_call F.kit_LineOf_cb rfl rfl (kit_LineOf_meets hn hs2) (.refl _) ⟨mB, trivial⟩ fun x hx => ?_; obtain ⟨s3, t⟩ := x; obtain ⟨hs3, ht⟩ := hx; refine r_indexAddr_own zn zn rfl T.u_strs T.sz_string rfl rfl rfl hzl (by omega) ?_; refine r_store (u := cur[zn]) rfl rfl (.swap _ _ _) T.sz_string (Array.getElem?_eq_getElem (by omega)) rfl ?_; refine hl_nil ?_; refine hq_grown (og := [_]) (Grow.set (l := pg) (k := zn) (a := t) rfl rfl h3 h4 h5 h6) ?_; exact cut_c _ (ps, o, og, pg.set zn t, (some ⟨gp, 0, none⟩, pc), s3) ⟨hG, hlen, hPs, hP.set ht, by rw [List.length_set]; exact hp6, by rw [List.length_set]; exact h3, hs3⟩ ⟨rfl, rfl, by rw [List.length_set]; rfl, rfl, trivial⟩ (fun p => by show List.countP p (og ++ [dice g A c nums s3]) ≤ List.countP p (dice g A c nums s3 :: og); simp only [List.countP_append, List.countP_cons, List.countP_nil]; omega) ⟨mB, mB, mB, trivial⟩
       ·have hb3' := hb3; try simp at hb3'
        refine hc_skip ?_; exact cut_c _ (ps, o, og, pg, po, s1) ⟨hG, hlen, hPs, hP, hp6, hpc, hs1⟩ ⟨rfl, rfl, rfl, rfl, trivial⟩ (fun p => by show List.countP p (og ++ [dice g A c nums s1]) ≤ List.countP p ([dice g A c nums s1] ++ og); simp only [List.countP_append, List.countP_cons, List.countP_nil]; omega) ⟨mB, mB, mB, trivial⟩
      ·intro hg1; have hg1' := hg1; try simp at hg1'
       refine g_no rfl rfl rfl rfl rfl hg1 (g_no rfl rfl rfl rfl rfl hg1 ?_); refine p_f rfl rfl (bf2 hg1) rfl ?_; refine hl_nil (then_n (c_f rfl rfl (hc_skip ?_))); exact cut_c _ (ps, o, og, pg, po, s) ⟨hG, hlen, hPs, hP, hp6, hpc, hs⟩ ⟨rfl, rfl, rfl, rfl, trivial⟩ (fun p => by show List.countP p (og ++ [dice g A c nums s]) ≤ List.countP p (og ++ [dice g A c nums s]); simp only [List.countP_append, List.countP_cons, List.countP_nil]; omega) ⟨mB, mB, mB, trivial⟩
     ·intro x hx; clear hG hlen hPs hP hp6 hpc hs; obtain ⟨ps, o, og, pg, po, s⟩ := x; obtain ⟨hG, hlen, hPs, hP, hp6, hpc, hs⟩ := hx; refine hc_cut (⟨fun ⟨ps, o, og, pg, po, s⟩ => GrowS2 o ps og ∧ ps.length + i ≤ most + 1 ∧ PagesOK ps ∧ PageOK pg ∧ pg.length ≤ 6 ∧ pg.length ≤ po.2 ∧ DOK nums s, fun ⟨ps, o, og, pg, po, s⟩ => [(0, .pointer (some ⟨g, 0, none⟩)), (5, .slice o.1 ps.length o.2), (6, .slice po.1 pg.length po.2), (7, int i)], fun ⟨ps, o, og, pg, po, s⟩ => og ++ [dice g A c nums s], fun ⟨ps, o, og, pg, po, s⟩ => [Row A (rows nums), Row po.1 (rows pg), inner ps]⟩ : Sta (List (Sl Str) × OutC × Hp × List Str × OutC × (Int × Int))) ?_ ?_
      ·skip
       refine hc_seq (hc_region (r_move rfl rfl ?_)); refine r_len_sl rfl T.u_strs rfl ?_; refine r_gtr rfl rfl rfl (r_move rfl rfl ?_); refine g_split rfl rfl ?_ ?_
       ·intro hg2; have hg2' := hg2; try simp at hg2'
        have hpos : 0 < pg.length := by simpa using hg2
        refine g_yes rfl rfl hg2 (r_move rfl rfl (g_yes rfl rfl hg2 ?_)); refine hl_call F.kit_Dice_Once_cb rfl rfl (kit_Dice_Once_meets (3) hn hs (by omega)) (List.perm_append_comm) ⟨mB, trivial⟩ fun x hx => ?_; obtain ⟨s1, z⟩ := x; obtain ⟨hs1, _⟩ := hx; refine p_t rfl rfl (bt1 hg2) rfl ?_; refine hl_nil (then_n ?_)
        first | refine c_dec rfl (fun hb4 => ?_) (fun hb4 => ?_) | refine hc_cond rfl (fun hb4 => ?_) (fun hb4 => ?_)
        ·have hb4' := hb4; try simp at hb4'
         refine hc_region (r_move rfl rfl ?_); refine r_slice_lo 1 rfl T.u_strs T.sz_string rfl rfl rfl (by omega) ?_; refine r_assign rfl rfl (hl_nil ?_); refine hq_cut (p := pg) (ca := po.2) 1 pg.length mB hpc ?_; rw [List.take_length]; exact cut_c _ (ps, o, og, pg.drop 1, (cutA po.1 po.2 1 1, po.2 - 1), s1) ⟨hG, hlen, hPs, hP.drop, by rw [List.length_drop]; omega, by rw [List.length_drop]; simp only; omega, hs1⟩ ⟨rfl, rfl, by rw [List.length_drop]; rfl, rfl, trivial⟩ (fun p => by show List.countP p (og ++ [dice g A c nums s1]) ≤ List.countP p ([dice g A c nums s1] ++ og); simp only [List.countP_append, List.countP_cons, List.countP_nil]; omega) ⟨mB, mB, mB, trivial⟩
        ·have hb4' := hb4; try simp at hb4'
         refine hc_skip ?_; exact cut_c _ (ps, o, og, pg, po, s1) ⟨hG, hlen, hPs, hP, hp6, hpc, hs1⟩ ⟨rfl, rfl, rfl, rfl, trivial⟩ (fun p => by show List.countP p (og ++ [dice g A c nums s1]) ≤ List.countP p ([dice g A c nums s1] ++ og); simp only [List.countP_append, List.countP_cons, List.countP_nil]; omega) ⟨mB, mB, mB, trivial⟩
       ·intro hg2; have hg2' := hg2; try simp at hg2'
        refine g_no rfl rfl rfl rfl rfl hg2 (g_no rfl rfl rfl rfl rfl hg2 ?_); refine p_f rfl rfl (bf2 hg2) rfl ?_; refine hl_nil (then_n (c_f rfl rfl (hc_skip ?_))); exact cut_c _ (ps, o, og, pg, po, s) ⟨hG, hlen, hPs, hP, hp6, hpc, hs⟩ ⟨rfl, rfl, rfl, rfl, trivial⟩ (fun p => by show List.countP p (og ++ [dice g A c nums s]) ≤ List.countP p (og ++ [dice g A c nums s]); simp only [List.countP_append, List.countP_cons, List.countP_nil]; omega) ⟨mB, mB, mB, trivial⟩
      ·intro x hx; clear hG hlen hPs hP hp6 hpc hs; obtain ⟨ps, o, og, pg, po, s⟩ := x; obtain ⟨hG, hlen, hPs, hP, hp6, hpc, hs⟩ := hx; refine hc_seq (hc_region (r_move rfl rfl ?_)); refine r_len_sl rfl T.u_strs rfl ?_; refine r_lss rfl rfl rfl (r_move rfl rfl ?_); refine g_split rfl rfl ?_ ?_
       ·intro hg3; have hg3' := hg3; try simp at hg3'
        have hlt6 : pg.length < 6 := by have h : (pg.length : Int) < 6 := (by simpa using hg3); omega
        refine g_yes rfl rfl hg3 (r_move rfl rfl (g_yes rfl rfl hg3 ?_)); refine hl_call F.kit_Dice_Once_cb rfl rfl (kit_Dice_Once_meets (3) hn hs (by omega)) (List.perm_append_comm) ⟨mB, trivial⟩ fun x hx => ?_; obtain ⟨s1, z⟩ := x; obtain ⟨hs1, _⟩ := hx; refine p_t rfl rfl (bt1 hg3) rfl ?_; refine hl_nil (then_n ?_)
        first | refine c_dec rfl (fun hb5 => ?_) (fun hb5 => ?_) | refine hc_cond rfl (fun hb5 => ?_) (fun hb5 => ?_)
        ·have hb5' := hb5; try simp at hb5'
         refine hc_region (r_move rfl rfl ?_); refine hl_call F.kit_DupStrings_cb rfl rfl (kit_DupStrings_own pg (by omega)) (.refl _) ⟨mB, trivial⟩ fun x hx => ?_; have hx : GrowS x.1 pg x.2 := hx; refine r_move rfl rfl ?_; refine hl_call F.kit_LineOf_cb rfl rfl (kit_LineOf_meets hn hs1) (perm_of fun p => by show List.countP p (x.2 ++ ([dice g A c nums s1] ++ og)) = List.countP p ([dice g A c nums s1] ++ (x.2 ++ og)); simp only [List.countP_append, List.countP_cons, List.countP_nil]; omega) ⟨mB, trivial⟩ fun y hy => ?_; obtain ⟨s2, t⟩ := y; obtain ⟨hs2, ht⟩ := hy; refine r_buildSlice _ rfl rfl (fun _ => T.bs_strs_1 ..) fun gS => ?_; refine r_append (hp' := [(gS, Obj.cells #[str t] T.string (0, 0)), dice g A c nums s2] ++ og) (pg.length + 1) (rows (pg ++ [t])) T.el_strs rfl rfl rfl hx (perm_of fun p => by show List.countP p ((gS, Obj.cells #[str t] T.string (0, 0)) :: ([dice g A c nums s2] ++ (x.2 ++ og))) = List.countP p (x.2 ++ ([(gS, Obj.cells #[str t] T.string (0, 0)), dice g A c nums s2] ++ og)); simp only [List.countP_append, List.countP_cons, List.countP_nil]; omega) (Src.own (g := gS) (cs := #[str t]) (m := 1) (List.mem_append_right _ m0) rfl rfl) rfl (rows_append pg [t]).symm (by unfold maxLen; omega) (by omega) fun A' c' og' hG' => ?_; refine r_assign rfl rfl (hl_nil (inb_n ?_)); refine hq_grown hG' ?_; exact cut_c _ (ps, o, og, pg ++ [t], (A', c'), s2) ⟨hG, hlen, hPs, hP.snoc ht, by rw [len_snoc]; omega, by rw [len_snoc]; exact hG'.le, hs2⟩ ⟨rfl, rfl, by rw [len_snoc]; rfl, rfl, trivial⟩ (fun p => by show List.countP p (og ++ [dice g A c nums s2]) ≤ List.countP p ([(gS, _), dice g A c nums s2] ++ og); simp only [List.countP_append, List.countP_cons, List.countP_nil]; omega) ⟨mB, mB, mB, trivial⟩
        ·have hb5' := hb5; try simp at hb5'
         refine hc_skip (inb_n ?_); exact cut_c _ (ps, o, og, pg, po, s1) ⟨hG, hlen, hPs, hP, hp6, hpc, hs1⟩ ⟨rfl, rfl, rfl, rfl, trivial⟩ (fun p => by show List.countP p (og ++ [dice g A c nums s1]) ≤ List.countP p ([dice g A c nums s1] ++ og); simp only [List.countP_append, List.countP_cons, List.countP_nil]; omega) ⟨mB, mB, mB, trivial⟩
       ·intro hg3; have hg3' := hg3; try simp at hg3'
        refine g_no rfl rfl rfl rfl rfl hg3 (g_no rfl rfl rfl rfl rfl hg3 ?_); refine p_f rfl rfl (bf2 hg3) rfl ?_; refine hl_nil (then_n (c_f rfl rfl (hc_skip (inb_n ?_)))); exact cut_c _ (ps, o, og, pg, po, s) ⟨hG, hlen, hPs, hP, hp6, hpc, hs⟩ ⟨rfl, rfl, rfl, rfl, trivial⟩ (fun p => by show List.countP p (og ++ [dice g A c nums s]) ≤ List.countP p (og ++ [dice g A c nums s]); simp only [List.countP_append, List.countP_cons, List.countP_nil]; omega) ⟨mB, mB, mB, trivial⟩
  ·intro x hx; clear hG hlen hPs hP hp6 hpc hs; obtain ⟨ps, o, og, pg, po, s⟩ := x; obtain ⟨hG, hlen, hPs, hP, hp6, hpc, hs⟩ := hx; refine hc_region (r_move rfl rfl ?_); refine r_sub ((i - 1 : Nat) : Int) rfl rfl rfl (by omega) (by unfold I64; omega) ?_; refine r_assign rfl rfl (hl_nil ?_); exact again _ (ps, o, og, pg, po, s, i - 1) ⟨hG, by omega, hPs, hP, hp6, hpc, hs⟩ (by show i - 1 < i; omega) ⟨rfl, rfl, rfl, rfl, trivial⟩ (.refl _) ⟨m0, m1, m2, trivial⟩
 ·have hb1' := hb1; try simp at hb1'
  refine hc_exit (then_exit (then_exit (inb_hit (then_n (hc_seq (hc_region (r_move rfl rfl (r_assign rfl rfl (hl_nil (then_n (hc_ret ?_))))))))))); refine hq_grown hG (hq_rows2F mB mB ?_); exact ret1 (s, ps, o) rfl rfl rfl ⟨hs, by simp only; omega, hPs, hG.le⟩ (.refl _) ⟨m0, trivial⟩
end Go.Proofs.YtpbbgbjidhffoaaGreat
end
section
namespace Go.Proofs.YtpbbgbjidhffoaaGreat
open Go Go.W
set_option maxRecDepth 20000
attribute [local irreducible] HL HC HQ HB Row Rows2 Blk Facts
def longP (p : List Str) : Bool := (p.any fun s => decide (30 < s.length)) || decide (20 < p.length)
def manyP (l : List Mk) : Bool := (l.any fun m => decide (30 < m.2.2.length)) || decide (20 < l.length)
def oldP (ys : List (List Str)) : Bool := (ys.any longP) || decide (20 < ys.length)
theorem longP_false {p : List Str} (h : longP p = false) : p.length ≤ 20 ∧ ∀ s ∈ p, s.length ≤ 30 := by
  simp only [longP, Bool.or_eq_false_iff, List.any_eq_false, decide_eq_false_iff_not, decide_eq_true_eq] at h; exact ⟨by omega, fun s hs => by have := h.1 s hs; omega⟩
theorem oldP_false {ys : List (List Str)} (h : oldP ys = false) : ys.length ≤ 20 ∧ ∀ p ∈ ys, p.length ≤ 20 := by
  simp only [oldP, Bool.or_eq_false_iff, decide_eq_false_iff_not, List.any_eq_false] at h; exact ⟨by omega, fun p hp => (longP_false (Bool.eq_false_iff.2 (h.1 p hp))).1⟩
theorem any_take2 {α : Type} [Inhabited α] {f : α → Bool} {l : List α} {k : Nat} (hk : k < l.length) (h : (l.take k).any f = false) (h1 : f (l.getD k default) = false) : (l.take (k + 1)).any f = false := by
  rw [take_succ_getD l k hk, List.any_append, h]; simp only [List.any_cons, List.any_nil, h1, Bool.or_false]
theorem any_at2 {α : Type} [Inhabited α] {f : α → Bool} {l : List α} {k : Nat} (hk : k < l.length) (h1 : f (l.getD k default) = true) : l.any f = true := List.any_eq_true.2 ⟨_, getD_mem hk, h1⟩
theorem law07_long_meets {A : Option Addr} {c : Nat} (l : List Str) (hl : l.length ≤ 9223372036854775807) : Meets Tryz.prog F.law07_long [.slice A l.length c] { LI := [Row A (rows l)], val := fun _ : Unit => .bool (longP l) } := by
 refine meets_intro F.law07_long_f rfl (Nat.le_of_ble_eq_true rfl) fun w0 => ?_; refine hc_seq (hc_region (r_assign rfl rfl (hl_nil (then_n (hc_seq (hc_seq (hc_region (r_assign rfl rfl (hl_nil (then_n (hc_block ?_))))))))))); refine hc_loop (β := Nat) ⟨fun k => k ≤ l.length ∧ (l.take k).any (fun s => decide (30 < s.length)) = false, fun k => [(0, .slice A l.length c), (3, int k)], fun _ => [], fun _ => [Row A (rows l)]⟩ (fun k => l.length - k) 0 ⟨Nat.zero_le _, rfl⟩ ⟨rfl, rfl, trivial⟩ (.refl _) ⟨m0, trivial⟩ fun k hk => ?_; obtain ⟨hk, ht⟩ := hk; refine hc_seq (hc_seq (hc_region (r_move rfl rfl (r_move rfl rfl ?_)))); refine r_len_sl rfl T.u_strs rfl ?_; refine r_lss rfl rfl rfl (hl_nil (then_n ?_))
 first | refine c_dec rfl (fun hb1 => ?_) (fun hb1 => ?_) | refine hc_cond rfl (fun hb1 => ?_) (fun hb1 => ?_)
 ·have hb1' := hb1; try simp at hb1'
  have hk2 : k < l.length := by omega
  refine hc_skip (then_n (hc_seq (hc_block (hc_seq (hc_region (r_move rfl rfl (r_move rfl rfl ?_))))))); refine r_elem (α := Str) _ _ rfl T.u_strs T.sz_string rfl rfl rfl mB rfl (by omega) (by decide) ?_; refine r_load rfl T.cell_string rfl (cell_row mB (rows_get0 (by omega) rfl)) ?_; refine r_len_str rfl T.u_string rfl ?_; refine r_gtr rfl rfl rfl (hl_nil (then_n ?_))
  first | refine c_dec rfl (fun hb2 => ?_) (fun hb2 => ?_) | refine hc_cond rfl (fun hb2 => ?_) (fun hb2 => ?_)
  ·have hb2' := hb2; try simp at hb2'
   have h1 := any_at2 (f := fun s => decide (30 < s.length)) hk2 (decide_eq_true (p := 30 < (l.getD k default).length) (by omega)); refine hc_seq (hc_region (r_assign rfl rfl (hl_nil (then_n (hc_ret (inb_ret (then_ret (then_ret (inb_ret (then_ret ?_)))))))))); exact ret1 () rfl (congrArg (fun b => some (Value.bool b)) (by rw [longP, h1]; rfl)) rfl trivial (List.nil_sublist _) trivial
  ·have hb2' := hb2; try simp at hb2'
   have h1 : (fun s => decide (30 < s.length)) (l.getD k default) = false := decide_eq_false (p := 30 < (l.getD k default).length) (by omega); refine hc_skip (inb_n (then_n (hc_region (r_move rfl rfl ?_)))); refine r_add _ rfl rfl rfl rfl (by unfold I64; omega) ?_; refine r_assign rfl rfl (hl_nil ?_); exact again _ (k + 1) ⟨by omega, any_take2 hk2 ht h1⟩ (by show l.length - (k + 1) < l.length - k; omega) ⟨rfl, rfl, trivial⟩ (.refl _) ⟨m0, trivial⟩
 ·have hb1' := hb1; try simp at hb1'
  have hk2 : k = l.length := by omega
  subst hk2; rw [List.take_length] at ht; refine hc_exit (then_exit (then_exit (inb_hit (then_n (hc_seq (hc_region (r_move rfl rfl ?_))))))); refine r_len_sl rfl T.u_strs rfl ?_; refine r_gtr rfl rfl rfl (r_assign rfl rfl (hl_nil (then_n (hc_ret ?_)))); exact ret1 () rfl (congrArg (fun b => some (Value.bool b)) (by rw [longP, ht, Bool.false_or]; exact decide_eq_decide.2 (by omega))) rfl trivial (List.nil_sublist _) trivial
theorem any_years {f : List Str → Bool} {ps : List (Sl Str)} {k : Nat} (hk : k < ps.length) (h : (years (ps.take k)).any f = false) (h1 : f (ps.getD k default).l = false) : (years (ps.take (k + 1))).any f = false := by
  rw [take_succ_getD ps k hk]; show (List.map _ (ps.take k ++ [_])).any f = false; rw [List.map_append, List.any_append]; have : (List.map (fun x : Sl Str => x.l) (ps.take k)).any f = false := h; rw [this]; simp only [List.map_cons, List.map_nil, List.any_cons, List.any_nil, h1, Bool.or_false]
theorem any_years_at {f : List Str → Bool} {ps : List (Sl Str)} {k : Nat} (hk : k < ps.length) (h1 : f (ps.getD k default).l = true) : (years ps).any f = true := List.any_eq_true.2 ⟨_, List.mem_map.2 ⟨_, getD_mem hk, rfl⟩, h1⟩
theorem law07_old_meets {A : Option Addr} {c : Nat} (ps : List (Sl Str)) (hl : ps.length ≤ 9223372036854775807) (hp : ∀ p ∈ ps, p.l.length ≤ 9223372036854775807) : Meets Tryz.prog F.law07_old [.slice A ps.length c] { LI := [Rows2 A ps], val := fun _ : Unit => .bool (oldP (years ps)) } := by
 refine meets_intro F.law07_old_f rfl (Nat.le_of_ble_eq_true rfl) fun w0 => ?_; refine hc_seq (hc_outer m0 (hc_region (r_assign rfl rfl (hl_nil (then_n (hc_seq (hc_seq (hc_region (r_assign rfl rfl (hl_nil (then_n ?_))))))))))); refine hc_block ?_; refine hc_loop (β := Nat) ⟨fun k => k ≤ ps.length ∧ (years (ps.take k)).any longP = false, fun k => [(0, .slice A ps.length c), (3, int k)], fun _ => [], fun _ => [Row A (rows ps), Rows2 A ps]⟩ (fun k => ps.length - k) 0 ⟨Nat.zero_le _, rfl⟩ ⟨rfl, rfl, trivial⟩ (.refl _) ⟨m0, m1, trivial⟩ fun k hk => ?_; obtain ⟨hk, ht⟩ := hk; refine hc_seq (hc_seq (hc_region (r_move rfl rfl (r_move rfl rfl ?_)))); refine r_len_sl rfl T.u_pages rfl ?_; refine r_lss rfl rfl rfl (hl_nil (then_n ?_))
 first | refine c_dec rfl (fun hb1 => ?_) (fun hb1 => ?_) | refine hc_cond rfl (fun hb1 => ?_) (fun hb1 => ?_)
 ·have hb1' := hb1; try simp at hb1'
  have hk2 : k < ps.length := by omega
  have hmem := getD_mem hk2; refine hc_skip (then_n (hc_seq (hc_block (hc_seq (hc_region (r_move rfl rfl (r_move rfl rfl ?_))))))); refine r_elem (α := (Sl Str)) _ _ rfl T.u_pages T.sz_strs rfl rfl rfl mB rfl (by omega) (by decide) ?_; refine r_load rfl T.cell_strs rfl (cell_row mB (rows_get0 (by omega) rfl)) ?_; refine hl_inner (p := ps.getD k default) m1 hmem ?_; refine hl_call F.law07_long_cb rfl rfl (law07_long_meets (ps.getD k default).l (hp _ hmem)) (List.Perm.refl _) ⟨m0, trivial⟩ fun _ _ => ?_; refine hl_nil (then_n ?_)
  first | refine c_dec rfl (fun hb2 => ?_) (fun hb2 => ?_) | refine hc_cond rfl (fun hb2 => ?_) (fun hb2 => ?_)
  ·have hb2' := hb2; try simp at hb2'
   refine hc_seq (hc_region (r_assign rfl rfl (hl_nil (then_n (hc_ret (inb_ret (then_ret (then_ret (inb_ret (then_ret ?_)))))))))); exact ret1 () rfl (congrArg (fun b => some (Value.bool b)) (by rw [oldP, any_years_at hk2 hb2]; rfl)) rfl trivial (List.nil_sublist _) trivial
  ·have hb2' := hb2; try simp at hb2'
   refine hc_skip (inb_n (then_n (hc_region (r_move rfl rfl ?_)))); refine r_add _ rfl rfl rfl rfl (by unfold I64; omega) ?_; refine r_assign rfl rfl (hl_nil ?_); exact again _ (k + 1) ⟨by omega, any_years hk2 ht hb2⟩ (by show ps.length - (k + 1) < ps.length - k; omega) ⟨rfl, rfl, trivial⟩ (.refl _) ⟨m1, m2, trivial⟩
 ·have hb1' := hb1; try simp at hb1'
  have hk2 : k = ps.length := by omega
  subst hk2; rw [List.take_length] at ht; refine hc_exit (then_exit (then_exit (inb_hit (then_n (hc_seq (hc_region (r_move rfl rfl ?_))))))); refine r_len_sl rfl T.u_pages rfl ?_; refine r_gtr rfl rfl rfl (r_assign rfl rfl (hl_nil (then_n (hc_ret ?_)))); exact ret1 () rfl (congrArg (fun b => some (Value.bool b)) (by rw [oldP, ht, Bool.false_or]; exact decide_eq_decide.2 (by rw [List.length_map]; omega))) rfl trivial (List.nil_sublist _) trivial
abbrev CapOK (ps : List (Sl Str)) : Prop := ∀ p ∈ ps, p.l.length ≤ p.c
theorem years_take_succ {ps : List (Sl Str)} {k : Nat} (hk : k < ps.length) : (years ps).take (k + 1) = (years ps).take k ++ [(ps.getD k default).l] := by
  have h1 : k < (years ps).length := by simpa using hk
  rw [List.take_succ_eq_append_getElem h1, getD_at hk]
  simp
theorem CapOK.snoc {ps : List (Sl Str)} {p : Sl Str} (h : CapOK ps) (hp : p.l.length ≤ p.c) : CapOK (ps ++ [p]) := fun q hq => by
  rcases List.mem_append.1 hq with hq | hq
  · exact h q hq
  · simp at hq; subst hq; exact hp
theorem years_len (ps : List (Sl Str)) : (years ps).length = ps.length := List.length_map ..
theorem kit_DupYears_meets {A : Option Addr} {c : Nat} (ps : List (Sl Str)) (hl : ps.length ≤ 1000000) (hp : ∀ p ∈ ps, p.l.length ≤ 1000000) : Meets Tryz.prog F.kit_DupYears [.slice A ps.length c] { LI := [Rows2 A ps], inv := fun x : List (Sl Str) × OutC => years x.1 = years ps ∧ CapOK x.1 ∧ x.1.length ≤ x.2.2, val := fun x => .slice x.2.1 x.1.length x.2.2, LO := fun x => [Rows2 x.2.1 x.1] } := by
 refine meets_intro F.kit_DupYears_f rfl (Nat.le_of_ble_eq_true rfl) fun w0 => ?_; refine hc_seq (hc_outer m0 ?_); refine hc_facts (Fs := ([] : List (Sl Str)).map fun p => Row p.a (rows p.l)) (by intro F hF; simp at hF) ?_; refine hc_region (r_assign rfl rfl (hl_nil (then_n (hc_seq (hc_region (r_assign rfl rfl (hl_nil (then_n (hc_seq (hc_seq (hc_region ?_))))))))))); refine r_assign rfl rfl (hl_nil (then_n (hc_block ?_)))
 refine hc_loop (β := List (Sl Str) × OutC × Hp) ⟨fun ⟨qs, o, og⟩ => GrowS2 o qs og ∧ qs.length ≤ ps.length ∧ years qs = (years ps).take qs.length ∧ CapOK qs, fun ⟨qs, o, og⟩ => [(0, .slice A ps.length c), (3, .slice o.1 qs.length o.2), (4, int qs.length)], fun ⟨qs, o, og⟩ => og, fun ⟨qs, o, og⟩ => [inner qs, Row A (rows ps), Rows2 A ps]⟩
   (fun x => ps.length - x.1.length) ([], (none, 0), []) ⟨Grow.nil _ _, Nat.zero_le _, rfl, by intro p hp; simp at hp⟩ ⟨rfl, rfl, rfl, trivial⟩ (.refl _) ⟨m0, m1, m2, trivial⟩ fun x hx => ?_
 obtain ⟨qs, o, og⟩ := x; obtain ⟨hG, hlen, hy, hc⟩ := hx; refine hc_seq (hc_seq (hc_region (r_move rfl rfl (r_move rfl rfl ?_)))); refine r_len_sl rfl T.u_pages rfl ?_; refine r_lss rfl rfl rfl (hl_nil (then_n ?_))
 first | refine c_dec rfl (fun hb1 => ?_) (fun hb1 => ?_) | refine hc_cond rfl (fun hb1 => ?_) (fun hb1 => ?_)
 ·have hb1' := hb1; try simp at hb1'
  have hk2 : qs.length < ps.length := by omega
  have hmem := getD_mem hk2; refine hc_skip (then_n (hc_seq (hc_block (hc_region (r_move rfl rfl (r_move rfl rfl (r_move rfl rfl ?_))))))); refine r_elem (α := Sl Str) ps qs.length rfl T.u_pages T.sz_strs rfl rfl rfl m1 rfl (by omega) (by decide) ?_; refine r_load rfl T.cell_strs rfl (cell_row mB (rows_get0 (by omega) rfl)) ?_; refine hl_inner (p := ps.getD qs.length default) m2 hmem ?_; refine hl_call F.kit_DupStrings_cb rfl rfl (kit_DupStrings_meets (ps.getD qs.length default).l (hp _ hmem)) (List.Perm.refl _) ⟨m0, trivial⟩ fun x hx => ?_; have hx : (ps.getD qs.length default).l.length ≤ x.2 := hx; refine r_buildSlice _ rfl rfl (fun _ => T.bs_pages_1 ..) fun gS => ?_; refine r_append (qs.length + 1) (rows (qs ++ [(⟨x.1, x.2, (ps.getD qs.length default).l⟩ : Sl Str)])) T.el_pages rfl rfl rfl hG (List.perm_append_comm (l₁ := [_])) (Src.own (cs := #[.slice x.1 (ps.getD qs.length default).l.length x.2]) (m := 1) (List.mem_append_right _ m0) rfl rfl) rfl (rows_append qs [(⟨x.1, x.2, (ps.getD qs.length default).l⟩ : Sl Str)]).symm (by unfold maxLen; omega) (by omega) fun A' c' og' hG' => ?_; refine r_assign rfl rfl ?_; refine hl_facts (inner_snoc (ps := qs) (p := (⟨x.1, x.2, (ps.getD qs.length default).l⟩ : Sl Str)) mB mB) ?_; refine hl_nil (inb_n (then_n (hc_region (r_move rfl rfl ?_)))); refine r_add _ rfl rfl rfl rfl (by unfold I64; omega) ?_; refine r_assign rfl rfl (hl_nil ?_); refine again _ (qs ++ [(⟨x.1, x.2, (ps.getD qs.length default).l⟩ : Sl Str)], (A', c'), og') ⟨by unfold GrowS2; rw [len_snoc]; exact hG', by rw [len_snoc]; omega, ?_, hc.snoc hx⟩ (by show ps.length - (qs ++ [_]).length < ps.length - qs.length; rw [len_snoc]; omega) ⟨rfl, by rw [len_snoc]; rfl, by rw [len_snoc]; rfl, trivial⟩ (List.sublist_append_left _ _) ⟨m0, mB, mB, trivial⟩; show years (qs ++ [_]) = _; rw [len_snoc, years_take_succ hk2, ← hy]
  simp
 ·have hb1' := hb1; try simp at hb1'
  have hk2 : qs.length = ps.length := by omega
  refine hc_exit (then_exit (then_exit (inb_hit (then_n (hc_seq (hc_region (r_move rfl rfl (r_assign rfl rfl (hl_nil (then_n (hc_ret ?_))))))))))); have hy2 : years qs = years ps := by rw [hy, hk2, ← years_len ps, List.take_length]
  refine hq_grown0 hG (hq_rows2F m0 m1 ?_); exact ret1 (qs, o) rfl rfl rfl ⟨hy2, hc, hG.le⟩ (.refl _) ⟨m0, trivial⟩
theorem years_at {ps : List (Sl Str)} {k : Nat} : (years ps).getD k [] = (ps.getD k default).l := by
  unfold years
  by_cases h : k < ps.length
  · simp [List.getD_eq_getElem?_getD, h]
  · simp [List.getD_eq_getElem?_getD, List.getElem?_eq_none (Nat.le_of_not_lt h)]; rfl
theorem kit_EqYears_meets {A B : Option Addr} {ca cb : Nat} (a b : List (Sl Str)) (ha : a.length ≤ 1000000) (hla : ∀ p ∈ a, p.l.length ≤ 1000000) :
    Meets Tryz.prog F.kit_EqYears [.slice A a.length ca, .slice B b.length cb] { LI := [Rows2 A a, Rows2 B b], val := fun _ : Unit => .bool (decide (years a = years b)) } := by
 refine meets_intro F.kit_EqYears_f rfl (Nat.le_of_ble_eq_true rfl) fun w0 => ?_; refine hc_seq (hc_region (r_assign rfl rfl (hl_nil (then_n (hc_seq (hc_seq (hc_region (r_move rfl rfl ?_)))))))); refine r_len_sl rfl T.u_pages rfl ?_; refine r_move rfl rfl ?_; refine r_len_sl rfl T.u_pages rfl ?_; refine r_neq rfl rfl rfl (hl_nil (then_n ?_))
 first | refine c_dec rfl (fun hb1 => ?_) (fun hb1 => ?_) | refine hc_cond rfl (fun hb1 => ?_) (fun hb1 => ?_)
 ·have hb1' := hb1; try simp at hb1'
  have hb1 : ¬ years a = years b := fun e => by have := congrArg List.length e; rw [years_len, years_len] at this; omega
  refine hc_seq (hc_region (r_assign rfl rfl (hl_nil (then_n (hc_ret (then_ret ?_)))))); exact ret1 () rfl (by rw [decide_eq_false hb1]; rfl) rfl trivial (.refl _) trivial
 ·have hb1' := hb1; try simp at hb1'
  have hb1 : a.length = b.length := by omega
  refine hc_outer (A := A) (ps := a) m0 ?_; refine hc_outer (A := B) (ps := b) m2 ?_; refine hc_skip (then_n (hc_seq (hc_seq (hc_region (r_assign rfl rfl (hl_nil (then_n (hc_block ?_)))))))); refine hc_loop (β := Nat) ⟨fun k => k ≤ a.length ∧ (years a).take k = (years b).take k, fun k => [(0, .slice A a.length ca), (1, .slice B b.length cb), (5, int k)], fun _ => [], fun _ => [Row B (rows b), Row A (rows a), Rows2 A a, Rows2 B b]⟩ (fun k => a.length - k) 0 ⟨Nat.zero_le _, rfl⟩ ⟨rfl, rfl, rfl, trivial⟩ (.refl _) ⟨m0, m1, m2, m3, trivial⟩ fun k hk => ?_; obtain ⟨hk, ht⟩ := hk; refine hc_seq (hc_seq (hc_region (r_move rfl rfl (r_move rfl rfl ?_)))); refine r_len_sl rfl T.u_pages rfl ?_; refine r_lss rfl rfl rfl (hl_nil (then_n ?_))
  first | refine c_dec rfl (fun hb2 => ?_) (fun hb2 => ?_) | refine hc_cond rfl (fun hb2 => ?_) (fun hb2 => ?_)
  ·have hb2' := hb2; try simp at hb2'
   have hk2 : k < a.length := by omega
   have hma := getD_mem hk2; have hmb := getD_mem (l := b) (k := k) (by omega); refine hc_skip (then_n (hc_seq (hc_block (hc_seq ?_)))); refine hc_draw 8 mixed (by decide) (by decide) rfl rfl ?_; refine hb_ex _ rfl rfl rfl (fun w1 => r_move rfl rfl (hl_nil (qe_done rfl))) ?_; refine hb_ex _ rfl rfl rfl (fun w1 => r_move rfl rfl (hl_nil (qe_done rfl))) ?_; refine hb_ex _ rfl rfl rfl (fun w1 => r_elem (α := (Sl Str)) _ _ rfl T.u_pages T.sz_strs rfl rfl rfl mB rfl (by omega) (by decide) (hl_nil (qe_done rfl))) ?_; refine hb_ex _ rfl rfl rfl (fun w1 => r_load rfl T.cell_strs rfl (cell_row mB (rows_get0 (by omega) rfl)) (hl_nil (qe_done rfl))) ?_; refine hb_ex _ rfl rfl rfl (fun w1 => r_move rfl rfl (hl_nil (qe_done rfl))) ?_; refine hb_ex _ rfl rfl rfl (fun w1 => r_move rfl rfl (hl_nil (qe_done rfl))) ?_; refine hb_ex _ rfl rfl rfl (fun w1 => r_elem (α := (Sl Str)) _ _ rfl T.u_pages T.sz_strs rfl rfl rfl mB rfl (by omega) (by decide) (hl_nil (qe_done rfl))) ?_; refine hb_ex _ rfl rfl rfl (fun w1 => r_load rfl T.cell_strs rfl (cell_row mB (rows_get0 (by omega) rfl)) (hl_nil (qe_done rfl))) ?_; refine hb_nil ⟨rfl, ?_⟩; refine hl_inner (A := A) (ps := a) (p := a.getD k default) mB hma ?_; refine hl_inner (A := B) (ps := b) (p := b.getD k default) mB hmb ?_; refine hl_call F.kit_EqStrings_cb rfl rfl (kit_EqStrings_meets (a.getD k default).l (b.getD k default).l (by have := hla _ hma; omega)) (List.Perm.refl _) ⟨m1, m0, trivial⟩ fun _ _ => ?_; refine r_not rfl rfl (hl_nil (then_n ?_))
   first | refine c_dec rfl (fun hb3 => ?_) (fun hb3 => ?_) | refine hc_cond rfl (fun hb3 => ?_) (fun hb3 => ?_)
   ·have hb3' := hb3; try simp at hb3'
    have hne : ¬ (a.getD k default).l = (b.getD k default).l := by simpa using hb3'
    have hb3 : ¬ years a = years b := fun e => hne (by rw [← years_at, ← years_at, e]); refine hc_seq (hc_region (r_assign rfl rfl (hl_nil (then_n (hc_ret (inb_ret (then_ret (then_ret (inb_ret (then_ret ?_)))))))))); exact ret1 () rfl (by rw [decide_eq_false hb3]; rfl) rfl trivial (.refl _) trivial
   ·have hb3' := hb3; try simp at hb3'
    have hq : (a.getD k default).l = (b.getD k default).l := by simpa using hb3'
    refine hc_skip (inb_n (then_n (hc_region (r_move rfl rfl ?_)))); refine r_add _ rfl rfl rfl rfl (by unfold I64; omega) ?_; refine r_assign rfl rfl (hl_nil ?_); exact again _ (k + 1) ⟨by omega, by rw [years_take_succ hk2, years_take_succ (by omega), ht, hq]⟩ (by show a.length - (k + 1) < a.length - k; omega) ⟨rfl, rfl, rfl, trivial⟩ (.refl _) ⟨mB, mB, mB, mB, trivial⟩
  ·have hb2' := hb2; try simp at hb2'
   have hk2 : k = a.length := by omega
   refine hc_exit (then_exit (then_exit (inb_hit (then_n (hc_seq (hc_region (r_assign rfl rfl (hl_nil (then_n (hc_ret ?_)))))))))); exact ret1 () rfl (by rw [decide_eq_true (eq_of_takes ht (by rw [years_len]; omega) (by rw [years_len]; omega))]; rfl) rfl trivial (.refl _) trivial
end Go.Proofs.YtpbbgbjidhffoaaGreat
end
section
namespace Go.Proofs.YtpbbgbjidhffoaaGreat
open Go Go.W
set_option maxRecDepth 20000
attribute [local irreducible] HL HC HQ HB Row Rows2 Blk Facts
def stepC (b : List Str) (x : Str) (st : List Int × Int) (k : Nat) : List Int × Int :=
  (st.1.set (k + 1) (if x = b.getD k default then st.2 + 1 else if st.1.getD k default > st.1.getD (k + 1) default then st.1.getD k default else st.1.getD (k + 1) default), st.1.getD (k + 1) default)
def rowC (b : List Str) (cur : List Int) (x : Str) : List Int := ((List.range b.length).foldl (stepC b x) (cur, 0)).1
def zeroC (b : List Str) : List Int := List.replicate (b.length + 1) 0
def commonI (a b : List Str) : Int := (a.foldl (rowC b) (zeroC b)).getD b.length default
structure BdC (m i k : Nat) (st : List Int × Int) : Prop where
  len : st.1.length = m + 1
  c0 : 0 ≤ st.2
  c1 : st.2 ≤ i
  lo : ∀ j : Nat, 0 ≤ st.1.getD j default
  hi : ∀ j : Nat, j ≤ k → st.1.getD j default ≤ (i : Int) + 1
  hi2 : ∀ j : Nat, k < j → st.1.getD j default ≤ i
theorem getD_set' {l : List Int} {k j : Nat} {v : Int} (hk : k < l.length) : (l.set k v).getD j default = if k = j then v else l.getD j default := by
  rw [List.getD_eq_getElem?_getD, List.getD_eq_getElem?_getD, List.getElem?_set]
  split
  · rfl
  · rfl
theorem BdC.step {m i k : Nat} {st : List Int × Int} (h : BdC m i k st) (b : List Str) (x : Str) (hk : k < m) : BdC m i (k + 1) (stepC b x st k) := by
  have hl : k + 1 < st.1.length := by rw [h.len]; omega
  have h1 := h.lo k; have h2 := h.hi k (Nat.le_refl _); have h3 := h.lo (k + 1); have h4 := h.hi2 (k + 1) (by omega); have h5 := h.c0; have h6 := h.c1; refine ⟨by simp [stepC, h.len], h3, h4, fun j => ?_, fun j hj => ?_, fun j hj => ?_⟩
  · show 0 ≤ (st.1.set (k + 1) _).getD j default
    rw [getD_set' hl]
    split
    · split
      · omega
      · split <;> omega
    · exact h.lo j
  · show (st.1.set (k + 1) _).getD j default ≤ _
    rw [getD_set' hl]
    split
    · split
      · omega
      · split <;> omega
    · exact h.hi j (by omega)
  · show (st.1.set (k + 1) _).getD j default ≤ _
    rw [getD_set' hl, if_neg (by omega)]; exact h.hi2 j (by omega)
def arrB (g : Nat) (l : List Int) : Nat × Obj := (g, .cells (rows l).toArray T.int (0, 0))
end Go.Proofs.YtpbbgbjidhffoaaGreat
end
section
namespace Go.Proofs.YtpbbgbjidhffoaaGreat
open Go Go.W
set_option maxRecDepth 20000
attribute [local irreducible] HL HC HQ HB Row Rows2 Blk Facts
structure Good {α : Type} (c : α → α → Int) : Prop where
  eq : ∀ a b, c a b = 0 ↔ a = b
  anti : ∀ a b, c a b < 0 ↔ 0 < c b a
  tr : ∀ a b d, c a b < 0 → c b d < 0 → c a d < 0
theorem Good.irr {α : Type} {c : α → α → Int} (h : Good c) (a : α) : ¬ c a a < 0 := by
  have := (h.eq a a).2 rfl; omega
theorem Good.tri {α : Type} {c : α → α → Int} (h : Good c) {a b : α} (h1 : ¬ c a b < 0) (h2 : ¬ c b a < 0) : a = b := by
  have h3 := h.anti b a
  have : c a b = 0 := by
    have : ¬ 0 < c a b := fun h => h2 (h3.2 h)
    omega
  exact (h.eq a b).1 this
theorem good_I : Good cmpI where
  eq a b := by unfold cmpI; split <;> (try split) <;> omega
  anti a b := by unfold cmpI; split <;> (try split) <;> (try split) <;> (try split) <;> omega
  tr a b d := by unfold cmpI; split <;> (try split) <;> (try split) <;> (try split) <;> (try split) <;> (try split) <;> omega
theorem str_lt_irr (a : Str) : ¬ a < a := List.lt_irrefl a
theorem str_tri {a b : Str} (h1 : ¬ a < b) (h2 : ¬ b < a) : a = b := List.le_antisymm (List.not_lt.1 h2) (List.not_lt.1 h1)
theorem cmpS_eq (a b : Str) : cmpS a b = if a < b then -1 else if a = b then 0 else 1 := by
  unfold cmpS; simp only [bytesLess_eq]
  by_cases h1 : a < b
  · simp [h1]
  · by_cases h2 : a = b
    · simp [h2, str_lt_irr]
    · simp [h1, h2]
theorem good_S : Good cmpS where
  eq a b := by
    rw [cmpS_eq]
    split
    · rename_i h; constructor
      · intro h; omega
      · rintro rfl; exact absurd h (str_lt_irr _)
    · split
      · rename_i h; exact ⟨fun _ => h, fun _ => rfl⟩
      · rename_i h; exact ⟨fun h => by omega, fun e => absurd e h⟩
  anti a b := by
    rw [cmpS_eq, cmpS_eq]
    by_cases h1 : a < b
    · have h2 : ¬ b < a := fun h => str_lt_irr _ (List.lt_trans h1 h)
      have h3 : ¬ b = a := by rintro rfl; exact str_lt_irr _ h1
      simp [h1, h2, h3]
    · by_cases h2 : b < a
      · have h3 : ¬ a = b := by rintro rfl; exact str_lt_irr _ h2
        simp [h1, h2, h3]
      · have h3 := str_tri h1 h2
        simp [h3, str_lt_irr]
  tr a b d := by
    rw [cmpS_eq, cmpS_eq, cmpS_eq]; intro h1 h2
    have h3 : a < b := by
      apply Classical.byContradiction; intro h; rw [if_neg h] at h1; split at h1 <;> omega
    have h4 : b < d := by
      apply Classical.byContradiction; intro h; rw [if_neg h] at h2; split at h2 <;> omega
    rw [if_pos (List.lt_trans h3 h4)]
    omega
theorem good_or {α β γ : Type} {c : β → β → Int} {d : γ → γ → Int} (f : α → β) (g : α → γ) (hc : Good c) (hd : Good d) (hi : ∀ a b, f a = f b → g a = g b → a = b) : Good (fun a b => if ¬ c (f a) (f b) = 0 then c (f a) (f b) else d (g a) (g b)) where
  eq a b := by
    split
    · rename_i h
      exact ⟨fun h0 => absurd h0 h, fun e => by subst e; exact absurd ((hc.eq _ _).2 rfl) h⟩
    · rename_i h
      have h1 := (hc.eq _ _).1 (Classical.not_not.1 h); rw [hd.eq]; exact ⟨fun h2 => hi _ _ h1 h2, fun e => by rw [e]⟩
  anti a b := by
    have h1 := hc.anti (f a) (f b); have h2 := hc.anti (f b) (f a); have h3 := hd.anti (g a) (g b)
    split <;> split <;> omega
  tr a b e := by
    have h1 := hc.tr (f a) (f b) (f e); have h2 := hd.tr (g a) (g b) (g e); have e1 := hc.eq (f a) (f b); have e2 := hc.eq (f b) (f e); have e3 := hc.eq (f a) (f e); have a1 := hc.anti (f a) (f b); have a2 := hc.anti (f b) (f e)
    by_cases k1 : c (f a) (f b) = 0
    · have q1 := e1.1 k1
      rw [q1] at *; rw [if_neg (by simp [(hc.eq _ _).2 rfl])]
      by_cases k2 : c (f b) (f e) = 0
      · rw [if_neg (by simp [k2]), if_neg (by simp [k2])]
        exact h2
      · rw [if_pos k2, if_pos k2]
        intro _ h; exact h
    · rw [if_pos k1]
      by_cases k2 : c (f b) (f e) = 0
      · have q2 := e2.1 k2
        rw [← q2, if_pos k1]; intro h _; exact h
      · rw [if_pos k2]
        intro h3 h4; have h5 := h1 h3 h4; rw [if_pos (by omega)]; exact h5
theorem orL3 (a b c : Int) : orL [a, b, c] = if ¬ a = 0 then a else if ¬ b = 0 then b else c := by
  simp only [orL]
  split
  · rfl
  · split
    · rfl
    · split
      · rfl
      · rename_i h; omega
theorem good_map {α β : Type} {c : β → β → Int} (f : α → β) (h : Good c) (hf : ∀ a b, f a = f b → a = b) : Good (fun a b => c (f a) (f b)) where
  eq a b := (h.eq _ _).trans ⟨hf a b, fun e => by rw [e]⟩
  anti a b := h.anti _ _
  tr a b d := h.tr _ _ _
theorem good_prod {β γ : Type} {c : β → β → Int} {d : γ → γ → Int} (hc : Good c) (hd : Good d) : Good (fun a b : β × γ => if ¬ c a.1 b.1 = 0 then c a.1 b.1 else d a.2 b.2) :=
  good_or (fun a => a.1) (fun a => a.2) hc hd (fun a b h1 h2 => Prod.ext h1 h2)
theorem good_Mk : Good cmpMk := by
  have h := good_map (α := Mk) (fun m => (m.2.1, m.1, m.2.2)) (good_prod good_I (good_prod good_I good_S)) (fun a b e => by
    simp only [Prod.mk.injEq] at e
    exact Prod.ext e.2.1 (Prod.ext e.1 e.2.2))
  have e : cmpMk = fun a b : Mk => (fun a b : Int × Int × Str => if ¬ cmpI a.1 b.1 = 0 then cmpI a.1 b.1 else (fun a b : Int × Str => if ¬ cmpI a.1 b.1 = 0 then cmpI a.1 b.1 else cmpS a.2 b.2) a.2 b.2) (a.2.1, a.1, a.2.2) (b.2.1, b.1, b.2.2) := by
    funext a b
    rw [cmpMk, orL3]
  rw [e]; exact h
theorem good_Ms : Good cmpMs where
  eq a := by
    induction a with
    | nil => intro b; cases b <;> simp [cmpMs]
    | cons x a ih =>
      intro b
      cases b with
      | nil => simp [cmpMs]
      | cons y b =>
        rw [cmpMs]
        split
        · rename_i h
          refine ⟨fun h0 => absurd h0 h, fun e => ?_⟩
          injection e with e1 e2
          exact absurd ((good_Mk.eq _ _).2 e1) h
        · rename_i h
          have h1 := (good_Mk.eq _ _).1 (Classical.not_not.1 h); rw [ih, h1]
          simp
  anti a := by
    induction a with
    | nil => intro b; cases b <;> simp [cmpMs]
    | cons x a ih =>
      intro b
      cases b with
      | nil => simp [cmpMs]
      | cons y b =>
        rw [cmpMs, cmpMs]; have h1 := good_Mk.anti x y; have h2 := good_Mk.anti y x; have h3 := ih b
        split <;> split <;> omega
  tr a := by
    induction a with
    | nil =>
      intro b d h1 h2
      cases d with
      | nil =>
        cases b with
        | nil => exact h1
        | cons y b => simp [cmpMs] at h2
      | cons z d => simp [cmpMs]
    | cons x a ih =>
      intro b d h1 h2
      cases b with
      | nil => simp [cmpMs] at h1
      | cons y b =>
        cases d with
        | nil => simp [cmpMs] at h2
        | cons z d =>
          have t1 := good_Mk.tr x y z; have e1 := good_Mk.eq x y; have e2 := good_Mk.eq y z; have a1 := good_Mk.anti x y; rw [cmpMs] at h1 h2 ⊢
          by_cases k1 : cmpMk x y = 0
          · rw [if_neg (by simp [k1])] at h1
            have q1 := e1.1 k1; subst q1
            by_cases k2 : cmpMk x z = 0
            · rw [if_neg (by simp [k2])] at h2 ⊢
              exact ih b d h1 h2
            · rw [if_pos k2] at h2 ⊢
              exact h2
          · rw [if_pos k1] at h1
            by_cases k2 : cmpMk y z = 0
            · have q2 := e2.1 k2
              subst q2; rw [if_pos k1]; exact h1
            · rw [if_pos k2] at h2
              have h5 := t1 h1 h2; rw [if_pos (by omega)]; exact h5
theorem good_L : Good cmpL := by
  have h := good_map (α := Lst) (fun l => (l.1, ((l.2.length : Nat) : Int), l.2)) (good_prod good_I (good_prod good_I good_Ms)) (fun a b e => by
    simp only [Prod.mk.injEq] at e
    exact Prod.ext e.1 e.2.2)
  have e : cmpL = fun a b : Lst => (fun a b : Int × Int × List Mk => if ¬ cmpI a.1 b.1 = 0 then cmpI a.1 b.1 else (fun a b : Int × List Mk => if ¬ cmpI a.1 b.1 = 0 then cmpI a.1 b.1 else cmpMs a.2 b.2) a.2 b.2) (a.1, ((a.2.length : Nat) : Int), a.2) (b.1, ((b.2.length : Nat) : Int), b.2) := by
    funext a b
    rw [cmpL, orL3]
  rw [e]; exact h
theorem beforeR_eq {a b : Mk} (h : ¬ a = b) : beforeR a b = decide (cmpMk a b < 0) := by
  rw [cmpMk, orL3, beforeR]; have i1 : ∀ x y : Int, ¬ x = y → ¬ cmpI x y = 0 := fun x y h h0 => h ((good_I.eq x y).1 h0); have i2 : ∀ x y : Int, (x < y) = (cmpI x y < 0) := fun x y => by apply propext; unfold cmpI; split <;> (try split) <;> omega
  by_cases h1 : a.2.1 = b.2.1
  · rw [if_neg (not_not_intro h1), if_neg (not_not_intro ((good_I.eq _ _).2 h1))]
    by_cases h2 : a.1 = b.1
    · rw [if_neg (not_not_intro h2), if_neg (not_not_intro ((good_I.eq _ _).2 h2))]
      rw [cmpS_eq, bytesLess_eq]
      apply decide_eq_decide.2
      split
      · rename_i h; simp [h]
      · rename_i h; split <;> simp [h]
    · rw [if_pos h2, if_pos (i1 _ _ h2)]
      exact decide_eq_decide.2 (by rw [i2])
  · rw [if_pos h1, if_pos (i1 _ _ h1)]
    exact decide_eq_decide.2 (by rw [i2])
theorem lexR_eq : ∀ {a b : List Mk}, a.length = b.length → lexR a b = decide (cmpMs a b < 0)
  | [], [], _ => by simp [lexR, cmpMs]
  | [], _ :: _, h => by simp at h
  | _ :: _, [], h => by simp at h
  | a :: l, b :: l', h => by
    rw [lexR, cmpMs]
    by_cases h1 : a = b
    · rw [if_neg (not_not_intro h1), if_neg (not_not_intro ((good_Mk.eq _ _).2 h1))]
      exact lexR_eq (by simpa using h)
    · rw [if_pos h1, if_pos (fun h0 => h1 ((good_Mk.eq _ _).1 h0)), beforeR_eq h1]
abbrev cL (l : List Mk) : Lst := ((costM l : Int), l)
theorem betterR_eq (a b : List Mk) : betterR a b = decide (cmpL (cL a) (cL b) < 0) := by
  have i1 : ∀ x y : Int, ¬ x = y → ¬ cmpI x y = 0 := fun x y h h0 => h ((good_I.eq x y).1 h0); have i2 : ∀ x y : Int, (x < y) = (cmpI x y < 0) := fun x y => by apply propext; unfold cmpI; split <;> (try split) <;> omega
  rw [betterR, cmpL, orL3]
  by_cases h1 : (costM a : Int) = costM b
  · rw [if_neg (not_not_intro h1), if_neg (not_not_intro ((good_I.eq _ _).2 h1))]
    by_cases h2 : (a.length : Int) = b.length
    · rw [if_neg (not_not_intro h2), if_neg (not_not_intro ((good_I.eq _ _).2 h2))]
      exact lexR_eq (by omega)
    · rw [if_pos h2, if_pos (i1 _ _ h2)]
      exact decide_eq_decide.2 (by rw [i2])
  · rw [if_pos h1, if_pos (i1 _ _ h1)]
    exact decide_eq_decide.2 (by rw [i2])
def Bt (a b : List Mk) : Prop := cmpL (cL a) (cL b) < 0
theorem Bt.of {a b : List Mk} : betterR a b = true ↔ Bt a b := by rw [betterR_eq, decide_eq_true_iff]; rfl
theorem Bt.irr (a : List Mk) : ¬ Bt a a := good_L.irr _
theorem Bt.trans {a b c : List Mk} (h : Bt a b) (h2 : Bt b c) : Bt a c := good_L.tr _ _ _ h h2
theorem Bt.tri {a b : List Mk} (h : ¬ Bt a b) (h2 : ¬ Bt b a) : a = b := congrArg Prod.snd (good_L.tri h h2)
structure Best (S : List (List Mk)) (b : List Mk) : Prop where
  mem : b ∈ S
  le : ∀ x ∈ S, ¬ Bt x b
theorem Best.uniq {S S' : List (List Mk)} {b b' : List Mk} (h : Best S b) (h' : Best S' b') (h1 : b ∈ S') (h2 : b' ∈ S) : b = b' := Bt.tri (h'.le b h1) (h.le b' h2)
def BestO (S : List (List Mk)) (o : Option (List Mk)) : Prop := (S = [] ∧ o = none) ∨ ∃ b, o = some b ∧ Best S b
theorem BestO.pick {S : List (List Mk)} {o : Option (List Mk)} (h : BestO S o) (l : List Mk) : BestO (S ++ [l]) (pickR o l) := by
  rcases h with ⟨rfl, rfl⟩ | ⟨b, rfl, hb⟩
  · exact .inr ⟨l, rfl, by simp, fun x hx => by simp at hx; subst hx; exact Bt.irr _⟩
  · right
    unfold pickR
    simp only
    split
    · rename_i hlt
      have hlt := Bt.of.1 hlt; refine ⟨l, rfl, by simp, fun x hx => ?_⟩
      rcases List.mem_append.1 hx with hx | hx
      · exact fun h => hb.le x hx (h.trans hlt)
      · simp at hx; subst hx; exact Bt.irr _
    · rename_i hlt
      refine ⟨b, rfl, by simp [hb.mem], fun x hx => ?_⟩
      rcases List.mem_append.1 hx with hx | hx
      · exact hb.le x hx
      · simp at hx; subst hx; exact fun h => hlt (Bt.of.2 h)
end Go.Proofs.YtpbbgbjidhffoaaGreat
end
section
namespace Go.Proofs.YtpbbgbjidhffoaaGreat
open Go Go.W
set_option maxRecDepth 20000
attribute [local irreducible] HL HC HQ HB Row Rows2 Blk Facts
def seed0 : Int × Int := (0, 11400714819323198485)
theorem dok0 (nums : List Int) : DOK nums seed0 := ⟨by decide, by simp [seed0], by decide, by decide⟩
abbrev Pg := Sl Str
abbrev Mg := Sl Mk
end Go.Proofs.YtpbbgbjidhffoaaGreat
end
section
namespace Go.Proofs.YtpbbgbjidhffoaaGreat
open Go Go.W
set_option maxRecDepth 20000
attribute [local irreducible] HL HC HQ HB Row Rows2 Blk Facts
/-! ### What marks make -/
def Asc : List Mk → Prop
  | [] => True
  | m :: l => (∀ b ∈ l, m.2.1 < b.2.1 ∨ (m.2.1 = b.2.1 ∧ m.1 = 1)) ∧ Asc l
theorem Asc.filter {l : List Mk} (h : Asc l) (q : Mk → Bool) : Asc (l.filter q) := by
  induction l with
  | nil => exact h
  | cons m l ih =>
    by_cases hq : q m = true
    · rw [List.filter_cons_of_pos hq]
      exact ⟨fun b hb => h.1 b ((List.mem_filter.1 hb).1), ih h.2⟩
    · rw [List.filter_cons_of_neg hq]
      exact ih h.2
def finR (st : List Str × Str × Bool) : List Str := if st.2.2 = true then st.1 ++ [st.2.1] else st.1
end Go.Proofs.YtpbbgbjidhffoaaGreat
end
section
namespace Go.Proofs.YtpbbgbjidhffoaaGreat
open Go Go.W
set_option maxRecDepth 20000
attribute [local irreducible] HL HC HQ HB Row Rows2 Blk Facts
/-! ### The marks of a diff -/
def finP (old : List Str) (st : List Str × Nat) : List Str := st.1 ++ old.drop st.2
structure DM (old page : List Str) (i j : Nat) (l : List Mk) : Prop where
  v : ∀ m ∈ l, (i : Int) ≤ m.2.1 ∧ m.2.1 ≤ old.length ∧ 1 ≤ m.1 ∧ m.1 ≤ 3 ∧ (m.1 = 1 ∨ m.2.1 < old.length) ∧ textErr m = 0
  a : Asc l
  f : ∀ nx, nx ≤ i → ∀ ls, finP old (l.foldl (stepP old) (ls, nx)) = ls ++ (old.take i).drop nx ++ page.drop j
/-! ### A page with itself -/
end Go.Proofs.YtpbbgbjidhffoaaGreat
end
section
namespace Go.Proofs.YtpbbgbjidhffoaaGreat
open Go Go.W
set_option maxRecDepth 20000
attribute [local irreducible] HL HC HQ HB Row Rows2 Blk Facts
structure OriginOK (ps : List (Sl Str)) (s : Str) (n : Nat) (o : Int) : Prop where
  lo : -1 ≤ o
  hi : o < n
  mem : 0 ≤ o → s ∈ (ps.getD o.toNat default).l
  no : ∀ j : Nat, o < j → j < n → s ∉ (ps.getD j default).l
theorem origin_ok (ps : List (Sl Str)) (s : Str) : ∀ n, OriginOK ps s n (originN ps s n)
  | 0 => ⟨by simp [originN], by simp [originN], by simp [originN], by intro j _ h; omega⟩
  | n + 1 => by
    have ih := origin_ok ps s n; rw [originN]
    by_cases h : s ∈ (ps.getD n default).l
    · rw [if_pos h]
      exact ⟨by omega, by omega, fun _ => by rw [Int.toNat_natCast]; exact h, by intro j h1 h2; omega⟩
    · rw [if_neg h]
      have h1 := ih.hi; refine ⟨ih.lo, by omega, ih.mem, fun j h2 h3 => ?_⟩
      by_cases hj : j = n
      · rw [hj]; exact h
      · exact ih.no j h2 (by omega)
def qB (ps : List (Sl Str)) (p : List Str) (i : Nat) : Bool := decide (0 ≤ originN ps (p.getD i default) ps.length) && decide (originN ps (p.getD i default) ps.length < (ps.length : Int) - 1)
def backL (ps : List (Sl Str)) (p : List Str) (k : Nat) : List Int := ((List.range k).filter (qB ps p)).map fun i : Nat => (i : Int)
theorem back_succ (ps : List (Sl Str)) (p : List Str) (k : Nat) : backL ps p (k + 1) = backL ps p k ++ (if qB ps p k = true then [(k : Int)] else []) := by
  unfold backL; rw [List.range_succ, List.filter_append, List.map_append]
  congr 1
  by_cases h : qB ps p k = true
  · rw [if_pos h, List.filter_cons_of_pos h]; rfl
  · rw [if_neg h, List.filter_cons_of_neg h]; rfl
theorem back_le (ps : List (Sl Str)) (p : List Str) (k : Nat) : (backL ps p k).length ≤ k := by
  unfold backL; rw [List.length_map]; exact Nat.le_trans (List.length_filter_le _ _) (by simp)
def backE (ps : List (Sl Str)) (p : List Str) : List Int × Int := if ¬ askedErr (years ps) p = 0 then ([], askedErr (years ps) p) else (backL ps p p.length, 0)
theorem proof_Back_meets {A B : Option Addr} {ca cb : Nat} (ps : List (Sl Str)) (p : List Str) : Meets Tryz.prog F.proof_Back [.slice A ps.length ca, .slice B p.length cb] { outE (backE ps p) with LI := [Rows2 A ps, Row B (rows p)] } := by
 refine meets_intro F.proof_Back_f rfl (Nat.le_of_ble_eq_true rfl) fun w0 => ?_; refine hc_seq (hc_region (r_assign rfl rfl (r_assign rfl rfl (hl_nil (then_n (hc_seq (hc_seq (hc_region (r_move rfl rfl (r_move rfl rfl ?_)))))))))); refine hl_call F.proof_asked_cb rfl rfl (proof_asked_meets ps p) (.refl _) ⟨m0, m1, trivial⟩ fun _ _ => ?_; refine r_assign rfl rfl (hl_nil (then_n (hc_seq (hc_region (r_move rfl rfl (r_neq rfl rfl rfl (hl_nil (then_n ?_))))))))
 first | refine c_dec rfl (fun hb1 => ?_) (fun hb1 => ?_) | refine hc_cond rfl (fun hb1 => ?_) (fun hb1 => ?_)
 ·have hb1' := hb1; try simp at hb1'
  have e : backE ps p = ([], askedErr (years ps) p) := by rw [backE, if_pos hb1]
  rw [e]; refine hc_seq (hc_region (r_move rfl rfl (r_assign rfl rfl (r_assign rfl rfl (hl_nil (then_n (hc_ret (then_ret (hq_nil0 ?_))))))))); exact ret2 (none, 0) rfl rfl rfl rfl rfl trivial (List.nil_sublist _) ⟨m0, trivial⟩
 ·have hb1' := hb1; try simp at hb1'
  have e : backE ps p = (backL ps p p.length, 0) := by rw [backE, if_neg hb1]
  rw [e]; obtain ⟨h1, h2⟩ := askedErr_zero (Classical.not_not.1 hb1); obtain ⟨h3, h4⟩ := yearsErr_zero h1; have h5 := pageErr_zero h2; refine hc_skip (then_n (hc_seq (hc_region (r_assign rfl rfl (hl_nil (then_n (hc_seq (hc_seq (hc_region (r_move rfl rfl ?_)))))))))); refine r_len_sl rfl T.u_strs rfl ?_; refine r_move rfl rfl (hl_nil (then_n (hc_block ?_))); refine hc_loop (β := Nat × OutC × Hp) ⟨fun ⟨k, o, og⟩ => k ≤ p.length ∧ Grow T.int 1 o.1 (backL ps p k).length o.2 (rows (backL ps p k)) og, fun ⟨k, o, og⟩ => [(0, .slice A ps.length ca), (7, .slice o.1 (backL ps p k).length o.2), (17, .slice B p.length cb), (18, int p.length), (19, int k)], fun ⟨k, o, og⟩ => og, fun _ => [Rows2 A ps, Row B (rows p)]⟩ (fun x => p.length - x.1) (0, (none, 0), []) ⟨Nat.zero_le _, Grow.nil _ _⟩ ⟨rfl, rfl, rfl, rfl, rfl, trivial⟩ (.refl _) ⟨m0, m1, trivial⟩ fun x hx => ?_; obtain ⟨k, o, og⟩ := x; obtain ⟨hk, hG⟩ := hx; refine hc_seq (hc_region (r_lss rfl rfl rfl (hl_nil (then_n (hc_seq ?_)))))
  first | refine c_dec rfl (fun hb2 => ?_) (fun hb2 => ?_) | refine hc_cond rfl (fun hb2 => ?_) (fun hb2 => ?_)
  ·have hb2' := hb2; try simp at hb2'
   have hk2 : k < p.length := by omega
   have hbl := back_le ps p k; have hbs := back_succ ps p k; have ho := origin_ok ps (p.getD k default) ps.length; have ho1 := ho.lo; have ho2 := ho.hi; refine hc_skip (then_n (hc_seq (hc_block (hc_seq (hc_region (r_move rfl rfl ?_)))))); refine r_elem (α := Str) _ _ rfl T.u_strs T.sz_string rfl rfl rfl mB rfl (by omega) (by decide) ?_; refine r_load rfl T.cell_string rfl (cell_row mB (rows_get0 (by omega) rfl)) ?_; refine r_assign rfl rfl (r_assign rfl rfl (hl_nil (then_n (hc_seq (hc_region (r_move rfl rfl (r_move rfl rfl ?_))))))); refine hl_call F.proof_origin_cb rfl rfl (proof_origin_meets ps (p.getD k default) (by omega) (fun q hq => by have := h4 q hq; omega)) (List.Perm.refl _) ⟨m0, trivial⟩ fun _ _ => ?_; refine r_assign rfl rfl (hl_nil (then_n (hc_seq (hc_region (r_move rfl rfl (r_geq rfl rfl rfl (r_move rfl rfl ?_))))))); refine g_split rfl rfl ?_ ?_
   ·intro hg1; have hg1' := hg1; try simp at hg1'
    have hq1 : 0 ≤ originN ps (p.getD k default) ps.length := of_decide_eq_true (bt1 hg1); refine g_yes rfl rfl hg1 (r_move rfl rfl (g_yes rfl rfl hg1 (r_move rfl rfl (g_yes rfl rfl hg1 ?_)))); refine r_len_sl rfl T.u_pages rfl ?_; refine g_yes rfl rfl hg1 ?_; refine r_sub _ rfl rfl rfl rfl (by unfold I64; omega) ?_; refine g_yes rfl rfl hg1 (r_lss rfl rfl rfl ?_); refine p_t rfl rfl (bt1 hg1) rfl ?_; refine hl_nil (then_n ?_)
    first | refine c_dec rfl (fun hb3 => ?_) (fun hb3 => ?_) | refine hc_cond rfl (fun hb3 => ?_) (fun hb3 => ?_)
    ·have hb3' := hb3; try simp at hb3'
     have hqt : qB ps p k = true := by unfold qB; rw [decide_eq_true hq1, decide_eq_true hb3]; rfl
     rw [if_pos hqt] at hbs; refine hc_region (r_move rfl rfl (r_move rfl rfl ?_)); refine r_buildSlice _ rfl rfl (fun _ => T.bs_ints_1 ..) fun gS => ?_; refine r_append ((backL ps p k).length + 1) (rows (backL ps p (k + 1))) T.el_ints rfl rfl rfl hG (List.perm_append_comm (l₁ := [_])) (Src.own (cs := #[int k]) (m := 1) (List.mem_append_right _ m0) rfl rfl) rfl (by rw [hbs, rows_append]; rfl) (by unfold maxLen; omega) (by omega) fun A' c' og' hG' => ?_; refine r_assign rfl rfl (hl_nil (inb_n (then_n (hc_region ?_)))); refine r_add _ rfl rfl rfl rfl (by unfold I64; omega) ?_; refine r_move rfl rfl (hl_nil ?_); have hl2 : (backL ps p (k + 1)).length = (backL ps p k).length + 1 := by rw [hbs, len_snoc]
     exact again _ (k + 1, (A', c'), og') ⟨by omega, by rw [hl2]; exact hG'⟩ (by show p.length - (k + 1) < p.length - k; omega) ⟨rfl, by rw [hl2]; rfl, rfl, rfl, rfl, trivial⟩ (List.sublist_append_left _ _) ⟨m0, m1, trivial⟩
    ·have hb3' := hb3; try simp at hb3'
     have hqf : ¬ qB ps p k = true := fun h => by unfold qB at h; rw [decide_eq_true hq1, decide_eq_false hb3] at h; cases h
     rw [if_neg hqf, List.append_nil] at hbs; refine hc_skip (inb_n (then_n (hc_region ?_))); refine r_add _ rfl rfl rfl rfl (by unfold I64; omega) ?_; refine r_move rfl rfl (hl_nil ?_); exact again _ (k + 1, o, og) ⟨by omega, by rw [hbs]; exact hG⟩ (by show p.length - (k + 1) < p.length - k; omega) ⟨rfl, by rw [hbs]; rfl, rfl, rfl, rfl, trivial⟩ (.refl _) ⟨m0, m1, trivial⟩
   ·intro hg1; have hg1' := hg1; try simp at hg1'
    have hq1 : ¬ 0 ≤ originN ps (p.getD k default) ps.length := of_decide_eq_false (bf2 hg1); have hqf : ¬ qB ps p k = true := fun h => by unfold qB at h; rw [decide_eq_false hq1] at h; cases h
    rw [if_neg hqf, List.append_nil] at hbs; refine g_no rfl rfl rfl rfl rfl hg1 (g_no rfl rfl rfl rfl rfl hg1 (g_no rfl rfl rfl rfl rfl hg1 (g_no rfl rfl rfl rfl rfl hg1 (g_no rfl rfl rfl rfl rfl hg1 ?_)))); refine p_f rfl rfl (bf2 hg1) rfl ?_; refine hl_nil (then_n (c_f rfl rfl (hc_skip (inb_n (then_n (hc_region ?_)))))); refine r_add _ rfl rfl rfl rfl (by unfold I64; omega) ?_; refine r_move rfl rfl (hl_nil ?_); exact again _ (k + 1, o, og) ⟨by omega, by rw [hbs]; exact hG⟩ (by show p.length - (k + 1) < p.length - k; omega) ⟨rfl, by rw [hbs]; rfl, rfl, rfl, rfl, trivial⟩ (.refl _) ⟨m0, m1, trivial⟩
  ·have hb2' := hb2; try simp at hb2'
   have hk2 : k = p.length := by omega
   subst hk2; refine hc_exit (then_exit (then_exit (inb_hit (then_n (hc_seq (hc_region (r_move rfl rfl (r_assign rfl rfl (r_assign rfl rfl (hl_nil (then_n ?_))))))))))); refine hc_ret (hq_grown0 hG ?_); exact ret2 o rfl rfl rfl rfl rfl trivial (.refl _) ⟨m0, trivial⟩
end Go.Proofs.YtpbbgbjidhffoaaGreat
end
