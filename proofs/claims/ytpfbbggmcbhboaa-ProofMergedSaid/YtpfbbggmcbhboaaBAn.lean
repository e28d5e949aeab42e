/- Texts. -/
import Derived.Sort.Walk0
import Derived.Test.YtpfbbggmcbhboaaBAm
import Derived.Test.YtpfbbggmcbhboaaBAl
set_option linter.unusedVariables false
set_option linter.unusedSimpArgs false
section
namespace Go.Proofs.Ytpfbbggmcbhboaa
open Go Go.W
set_option maxRecDepth 20000
attribute [local irreducible] HL HC HQ HB Row Rows2 Blk Facts
abbrev sAnna : Str := [97, 110, 110, 97]
abbrev sBea : Str := [98, 101, 97]
abbrev sBen : Str := [98, 101, 110]
abbrev sCid : Str := [99, 105, 100]
abbrev sCyd : Str := [99, 121, 100]
abbrev sAbe : Str := [97, 98, 101]
abbrev sDan : Str := [100, 97, 110]
abbrev folkL : List Str := [sAnna, sBen, sCyd]
abbrev slipL : List Mk := [(1, 1, sBea), (2, 2, sCid)]
abbrev newL : List Str := [sAnna, sBea, sBen, sCid]
def diffN (old page : List Str) : Nat → Nat → Nat → Lst
  | 0, _, _ => (0, [])
  | d + 1, i, j => leastOf ((if i = old.length ∧ j = page.length then [(0, [])] else []) ++
    (if j < page.length then [behindP (diffN old page d i (j + 1)) (1, (i : Int), page.getD j default)] else []) ++
    (if i < old.length then [behindP (diffN old page d (i + 1) j) (3, (i : Int), [])] else []) ++
    (if i < old.length ∧ j < page.length then behindP (diffN old page d (i + 1) (j + 1)) (2, (i : Int), page.getD j default) :: (if old.getD i default = page.getD j default then [diffN old page d (i + 1) (j + 1)] else []) else []))
theorem diffN_eq (old page : List Str) : ∀ (d i j : Nat), (old.length - i) + (page.length - j) < d → diffN old page d i j = diffP old page i j := by
  intro d
  induction d with
  | zero => intro i j h; omega
  | succ d ih =>
    intro i j h; unfold diffN diffP
    congr 1
    congr 1
    · congr 1
      · congr 1
        by_cases hj : j < page.length
        · rw [if_pos hj, dif_pos hj, ih i (j + 1) (by omega)]
        · rw [if_neg hj, dif_neg hj]
      · by_cases hi : i < old.length
        · rw [if_pos hi, dif_pos hi, ih (i + 1) j (by omega)]
        · rw [if_neg hi, dif_neg hi]
    · by_cases hi : i < old.length ∧ j < page.length
      · rw [if_pos hi, dif_pos hi, ih (i + 1) (j + 1) (by omega)]
      · rw [if_neg hi, dif_neg hi]
theorem ex_apply : applyP folkL slipL = (newL, 0) := by decide +kernel
theorem ex_diff : diffE folkL newL (diffP folkL newL 0 0).2 = (slipL, 0) := by rw [← diffN_eq folkL newL 10 0 0 (by decide)]; decide +kernel
theorem ex_steps : stepsP folkL [(1, 0, sAbe), (3, 1, []), (3, 2, [])] 3 = ([1, 0, 2], 0) := by decide +kernel
theorem ex_origin (a b : Option Addr) : originE [⟨a, 2, [sAnna, sBen]⟩, ⟨b, 2, [sAnna, sCyd]⟩] [sAnna, sBen, sDan] = ([1, 0, -1], 0) := by rfl
theorem ex_look (a b : Option Addr) : lookP [⟨a, 2, [sAnna, sBen]⟩, ⟨b, 2, [sAnna, sCyd]⟩] [(1, 2, sDan)] [sAnna, sCyd, sBen, sDan] = ((2, 2), 0) := by
  have e1 : yearsErr (years [⟨a, 2, [sAnna, sBen]⟩, ⟨b, 2, [sAnna, sCyd]⟩]) = 0 := by show yearsErr [[sAnna, sBen], [sAnna, sCyd]] = 0; decide +kernel
  have e2 : (lastP [⟨a, 2, [sAnna, sBen]⟩, ⟨b, 2, [sAnna, sCyd]⟩]).l = [sAnna, sCyd] := rfl; have e3 : applyP [sAnna, sCyd] [(1, 2, sDan)] = ([sAnna, sCyd, sDan], 0) := by decide +kernel
  have e4 : pageErr [sAnna, sCyd, sBen, sDan] = 0 := by decide +kernel
  have e5 : (diffP [sAnna, sCyd, sDan] [sAnna, sCyd, sBen, sDan] 0 0).2 = [(1, 2, sBen)] := by rw [← diffN_eq _ _ 10 0 0 (by decide)]; decide +kernel
  unfold lookP; rw [e1, e2, e3, e4, e5]
  rfl
theorem law07_folk_meets : Meets Try.prog F.law07_folk [] (outSl folkL) := by
 refine meets_intro F.law07_folk_f rfl (Nat.le_of_ble_eq_true rfl) fun w0 => ?_; refine hc_seq (hc_region (r_assign rfl rfl (hl_nil (then_n (hc_seq (hc_region ?_)))))); refine r_buildSlice _ rfl rfl (fun _ => T.bs_strs_3 ..) fun gS => ?_; refine r_assign rfl rfl (hl_nil (then_n (hc_ret ?_))); refine hq_letgo (rows folkL) (List.prefix_refl _) ?_; exact ret1 (some ⟨gS, 0, none⟩, 3) rfl rfl rfl (Nat.le_refl _) (.refl _) ⟨m0, trivial⟩
theorem law07_in_meets (n : Int) (s : Str) : Meets Try.prog F.law07_in [int n, str s] { val := fun _ : Unit => .agg #[int 1, int n, str s] } := by
 refine meets_intro F.law07_in_f rfl (Nat.le_of_ble_eq_true rfl) fun w0 => ?_; refine hc_seq (hc_region ?_); refine r_alloc rfl (fun _ => T.al_api_Mark _) fun gA => ?_; refine hl_nil (then_n (hc_seq (hc_region (r_move rfl rfl (r_move rfl rfl ?_))))); refine r_build _ rfl rfl (fun _ => T.bd_api_Mark_0_1_2 ..) ?_; refine r_storeS rfl rfl (by first | exact .refl _ | exact perm2 _ _ _ | exact perm3 _ _ _ _ | exact perm4 _ _ _ _ _) T.sz_api_Mark (by rfl) (by rfl) ?_; refine hl_nil (then_n (hc_ret ?_)); exact ret_row () rfl rfl T.row_api_Mark T.sz_api_Mark rfl m0 rfl rfl trivial (List.nil_sublist _) trivial
theorem law07_set_meets (n : Int) (s : Str) : Meets Try.prog F.law07_set [int n, str s] { val := fun _ : Unit => .agg #[int 2, int n, str s] } := by
 refine meets_intro F.law07_set_f rfl (Nat.le_of_ble_eq_true rfl) fun w0 => ?_; refine hc_seq (hc_region ?_); refine r_alloc rfl (fun _ => T.al_api_Mark _) fun gA => ?_; refine hl_nil (then_n (hc_seq (hc_region (r_move rfl rfl (r_move rfl rfl ?_))))); refine r_build _ rfl rfl (fun _ => T.bd_api_Mark_0_1_2 ..) ?_; refine r_storeS rfl rfl (by first | exact .refl _ | exact perm2 _ _ _ | exact perm3 _ _ _ _ | exact perm4 _ _ _ _ _) T.sz_api_Mark (by rfl) (by rfl) ?_; refine hl_nil (then_n (hc_ret ?_)); exact ret_row () rfl rfl T.row_api_Mark T.sz_api_Mark rfl m0 rfl rfl trivial (List.nil_sublist _) trivial
theorem law07_out_meets (n : Int) : Meets Try.prog F.law07_out [int n] { val := fun _ : Unit => .agg #[int 3, int n, str []] } := by
 refine meets_intro F.law07_out_f rfl (Nat.le_of_ble_eq_true rfl) fun w0 => ?_; refine hc_seq (hc_region ?_); refine r_alloc rfl (fun _ => T.al_api_Mark _) fun gA => ?_; refine hl_nil (then_n (hc_seq (hc_region (r_move rfl rfl ?_)))); refine r_build _ rfl rfl (fun _ => T.bd_api_Mark_0_1 ..) ?_; refine r_storeS rfl rfl (by first | exact .refl _ | exact perm2 _ _ _ | exact perm3 _ _ _ _ | exact perm4 _ _ _ _ _) T.sz_api_Mark (by rfl) (by rfl) ?_; refine hl_nil (then_n (hc_ret ?_)); exact ret_row () rfl rfl T.row_api_Mark T.sz_api_Mark rfl m0 rfl rfl trivial (List.nil_sublist _) trivial
theorem law07_slip_meets : Meets Try.prog F.law07_slip [] (outSl slipL) := by
 refine meets_intro F.law07_slip_f rfl (Nat.le_of_ble_eq_true rfl) fun w0 => ?_; refine hc_seq (hc_region (r_assign rfl rfl (hl_nil (then_n (hc_seq (hc_region ?_)))))); refine hl_call F.law07_in_cb rfl rfl (law07_in_meets 1 sBea) (List.Perm.refl _) trivial fun _ _ => ?_; refine hl_call F.law07_set_cb rfl rfl (law07_set_meets 2 sCid) (List.Perm.refl _) trivial fun _ _ => ?_; refine r_buildSlice _ rfl rfl (fun _ => T.bs_L_api_Mark_2 ..) fun gS => ?_; refine r_assign rfl rfl (hl_nil (then_n (hc_ret ?_))); refine hq_letgo (rows slipL) (List.prefix_refl _) ?_; exact ret1 (some ⟨gS, 0, none⟩, 2) rfl rfl rfl (Nat.le_refl _) (.refl _) ⟨m0, trivial⟩
def agesP (x : OutC × Option Addr × Option Addr) : List (Sl Str) := [⟨x.2.1, 2, [sAnna, sBen]⟩, ⟨x.2.2, 2, [sAnna, sCyd]⟩]
theorem law07_ages_meets : Meets Try.prog F.law07_ages [] { inv := fun x : OutC × Option Addr × Option Addr => 2 ≤ x.1.2, val := fun x => .slice x.1.1 2 x.1.2, LO := fun x => [Rows2 x.1.1 (agesP x)] } := by
 refine meets_intro F.law07_ages_f rfl (Nat.le_of_ble_eq_true rfl) fun w0 => ?_; refine hc_seq (hc_region (r_assign rfl rfl (hl_nil (then_n (hc_seq (hc_region ?_)))))); refine r_buildSlice _ rfl rfl (fun _ => T.bs_strs_2 ..) fun ga => ?_; refine r_buildSlice _ rfl rfl (fun _ => T.bs_strs_2 ..) fun gb => ?_; refine r_buildSlice _ rfl rfl (fun _ => T.bs_pages_2 ..) fun gS => ?_; refine r_assign rfl rfl (hl_nil (then_n (hc_ret ?_))); refine hq_letgo (rows [(⟨some ⟨ga, 0, none⟩, 2, [sAnna, sBen]⟩ : Sl Str), ⟨some ⟨gb, 0, none⟩, 2, [sAnna, sCyd]⟩]) (List.prefix_refl _) ?_; refine hq_letgo (rows [sAnna, sCyd]) (List.prefix_refl _) ?_; refine hq_letgo (rows [sAnna, sBen]) (List.prefix_refl _) ?_; refine hq_rows2 (A := some ⟨gS, 0, none⟩) (ps := [(⟨some ⟨ga, 0, none⟩, 2, [sAnna, sBen]⟩ : Sl Str), ⟨some ⟨gb, 0, none⟩, 2, [sAnna, sCyd]⟩]) m2 (by intro p hp; simp at hp; rcases hp with rfl | rfl; exact m0; exact m1) ?_; exact ret1 ((some ⟨gS, 0, none⟩, 2), some ⟨ga, 0, none⟩, some ⟨gb, 0, none⟩) rfl rfl rfl (Nat.le_refl _) (.refl _) ⟨m0, trivial⟩
abbrev orderM : List Mk := [(1, 0, sAbe), (3, 1, []), (3, 2, [])]
theorem ex_apply_meets {A B : Option Addr} {ca cb : Nat} (hc : 3 ≤ ca) : Meets Try.prog F.proof_Apply [.slice A 3 ca, .slice B 2 cb] { outErr (newL, (0 : Int)) with LI := [Row A (rows folkL), Row B (rows slipL)] } := by
  have h := proof_Apply_meets (A := A) (B := B) (ca := ca) (cb := cb) folkL slipL hc; rw [ex_apply] at h; exact h
theorem ex_diff_meets {A B : Option Addr} {ca cb : Nat} : Meets Try.prog F.proof_Diff [.slice A 3 ca, .slice B 4 cb] { outE (slipL, (0 : Int)) with LI := [Row A (rows folkL), Row B (rows newL)] } := by
  have h := proof_Diff_meets (A := A) (B := B) (ca := ca) (cb := cb) folkL newL; rw [ex_diff] at h; exact h
theorem ex_steps_meets {A B : Option Addr} {ca cb : Nat} : Meets Try.prog F.proof_Steps [.slice A 3 ca, .slice B 3 cb, int 3] { outE (([1, 0, 2] : List Int), (0 : Int)) with LI := [Row A (rows folkL), Row B (rows orderM)] } := by
  have h := proof_Steps_meets (A := A) (B := B) (ca := ca) (cb := cb) folkL orderM 3; rw [ex_steps] at h; exact h
theorem ex_origin_meets {B : Option Addr} {cb : Nat} (y : OutC × Option Addr × Option Addr) : Meets Try.prog F.proof_Origin [.slice y.1.1 2 y.1.2, .slice B 3 cb] { outErr (([1, 0, -1] : List Int), (0 : Int)) with LI := [Rows2 y.1.1 (agesP y), Row B (rows [sAnna, sBen, sDan])] } := by
  have h := proof_Origin_meets (A := y.1.1) (B := B) (ca := y.1.2) (cb := cb) (agesP y) [sAnna, sBen, sDan]; rw [agesP, ex_origin] at h; exact h
theorem ex_look_meets {B C : Option Addr} {cb cc : Nat} (y : OutC × Option Addr × Option Addr) (hy : 2 ≤ y.1.2) : Meets Try.prog F.proof_Look [.slice y.1.1 2 y.1.2, .slice B 1 cb, .slice C 4 cc] { LI := [Rows2 y.1.1 (agesP y), Row B (rows [((1, 2, sDan) : Mk)]), Row C (rows [sAnna, sCyd, sBen, sDan])], val := fun _ : Unit => .tuple #[.agg #[int 2, int 2], int 0] } := by
  have h := proof_Look_meets (A := y.1.1) (B := B) (C := C) (ca := y.1.2) (cb := cb) (cc := cc) (agesP y) [(1, 2, sDan)] [sAnna, sCyd, sBen, sDan] hy (by intro q hq; simp [agesP] at hq; rcases hq with rfl | rfl <;> simp); rw [agesP, ex_look] at h; exact h
set_option maxHeartbeats 1000000 in
theorem law07_correcting_meets : Meets Try.prog F.law07_correcting [] { val := fun _ : Unit => .bool true } := by
 refine meets_intro F.law07_correcting_f rfl (Nat.le_of_ble_eq_true rfl) fun w0 => ?_; refine hc_seq (hc_region (r_assign rfl rfl (hl_nil (then_n (hc_seq (hc_region ?_)))))); refine hl_call F.law07_folk_cb rfl rfl (law07_folk_meets) (List.Perm.refl _) trivial fun x1 hx1 => ?_; refine hl_call F.law07_slip_cb rfl rfl (law07_slip_meets) (List.Perm.refl _) trivial fun x2 hx2 => ?_; refine hl_call F.proof_Apply_cb rfl rfl (ex_apply_meets hx1) (List.Perm.refl _) ⟨m1, m0, trivial⟩ fun x3 hx3 => ?_; refine r_move rfl rfl (r_extract rfl rfl rfl (r_extract rfl rfl rfl (r_assign rfl rfl (r_assign rfl rfl (hl_nil (then_n (hc_seq (hc_region ?_)))))))); refine hl_call F.law07_folk_cb rfl rfl (law07_folk_meets) (List.Perm.refl _) trivial fun x4 hx4 => ?_; refine r_buildSlice _ rfl rfl (fun _ => T.bs_strs_4 ..) fun gS => ?_; refine hl_letgo (rows newL) (List.prefix_refl _) ?_; refine hl_call F.proof_Diff_cb rfl rfl (ex_diff_meets) (List.Perm.refl _) ⟨m1, m0, trivial⟩ fun x5 _ => ?_; refine r_move rfl rfl (r_extract rfl rfl rfl (r_extract rfl rfl rfl (r_assign rfl rfl (r_assign rfl rfl (hl_nil (then_n (hc_seq (hc_region ?_)))))))); refine hl_call F.law07_folk_cb rfl rfl (law07_folk_meets) (List.Perm.refl _) trivial fun x6 hx6 => ?_; refine hl_call F.law07_in_cb rfl rfl (law07_in_meets 0 sAbe) (List.Perm.refl _) trivial fun _ _ => ?_; refine hl_call F.law07_out_cb rfl rfl (law07_out_meets 1) (List.Perm.refl _) trivial fun _ _ => ?_; refine hl_call F.law07_out_cb rfl rfl (law07_out_meets 2) (List.Perm.refl _) trivial fun _ _ => ?_; refine r_buildSlice _ rfl rfl (fun _ => T.bs_L_api_Mark_3 ..) fun gS => ?_; refine hl_letgo (rows orderM) (List.prefix_refl _) ?_; refine hl_call F.proof_Steps_cb rfl rfl (ex_steps_meets) (List.Perm.refl _) ⟨m1, m0, trivial⟩ fun x7 _ => ?_; refine r_move rfl rfl (r_extract rfl rfl rfl (r_extract rfl rfl rfl (r_assign rfl rfl (r_assign rfl rfl (hl_nil (then_n (hc_seq (hc_region ?_)))))))); refine hl_call F.law07_ages_cb rfl rfl (law07_ages_meets) (List.Perm.refl _) trivial fun y1 hy1 => ?_; refine r_buildSlice _ rfl rfl (fun _ => T.bs_strs_3 ..) fun gS => ?_; refine hl_letgo (rows [sAnna, sBen, sDan]) (List.prefix_refl _) ?_; refine hl_call F.proof_Origin_cb rfl rfl (ex_origin_meets y1) (List.Perm.refl _) ⟨m1, m0, trivial⟩ fun x8 _ => ?_; refine r_move rfl rfl (r_extract rfl rfl rfl (r_extract rfl rfl rfl (r_assign rfl rfl (r_assign rfl rfl (hl_nil (then_n (hc_seq (hc_region ?_)))))))); refine hl_call F.law07_ages_cb rfl rfl (law07_ages_meets) (List.Perm.refl _) trivial fun y2 hy2 => ?_; refine hl_call F.law07_in_cb rfl rfl (law07_in_meets 2 sDan) (List.Perm.refl _) trivial fun _ _ => ?_; refine r_buildSlice _ rfl rfl (fun _ => T.bs_L_api_Mark_1 ..) fun gS => ?_; refine hl_letgo (rows [((1, 2, sDan) : Mk)]) (List.prefix_refl _) ?_; refine r_buildSlice _ rfl rfl (fun _ => T.bs_strs_4 ..) fun gS => ?_; refine hl_letgo (rows [sAnna, sCyd, sBen, sDan]) (List.prefix_refl _) ?_; refine hl_call F.proof_Look_cb rfl rfl (ex_look_meets y2 hy2) (List.Perm.refl _) ⟨m2, m1, m0, trivial⟩ fun _ _ => ?_; refine r_move rfl rfl (r_extract rfl rfl rfl (r_extract rfl rfl rfl ?_)); refine r_alloc rfl (fun _ => T.al_api_Flaw _) fun gA => ?_; refine r_storeS rfl rfl (by first | exact .refl _ | exact perm2 _ _ _ | exact perm3 _ _ _ _ | exact perm4 _ _ _ _ _) T.sz_api_Flaw (by rfl) (by rfl) ?_; refine r_assign rfl rfl (hl_nil (then_n (hc_seq (hc_region (r_move rfl rfl (r_eql rfl rfl rfl (r_move rfl rfl ?_))))))); refine g_split rfl rfl ?_ ?_
 ·intro hg1; have hg1' := hg1; try simp at hg1'
  refine g_yes rfl rfl hg1 (r_move rfl rfl (g_yes rfl rfl hg1 (r_eql rfl rfl rfl ?_))); refine p_t rfl rfl (bt1 hg1) rfl ?_; refine r_move rfl rfl ?_; refine g_split rfl rfl ?_ ?_
  ·intro hg2; have hg2' := hg2; try simp at hg2'
   refine g_yes rfl rfl hg2 (r_move rfl rfl (g_yes rfl rfl hg2 (r_eql rfl rfl rfl ?_))); refine p_t rfl rfl (bt1 hg2) rfl ?_; refine r_move rfl rfl ?_; refine g_split rfl rfl ?_ ?_
   ·intro hg3; have hg3' := hg3; try simp at hg3'
    refine g_yes rfl rfl hg3 (r_move rfl rfl (g_yes rfl rfl hg3 (r_eql rfl rfl rfl ?_))); refine p_t rfl rfl (bt1 hg3) rfl ?_; refine r_move rfl rfl ?_; refine g_split rfl rfl ?_ ?_
    ·intro hg4; have hg4' := hg4; try simp at hg4'
     refine g_yes rfl rfl hg4 (r_move rfl rfl (g_yes rfl rfl hg4 (r_eql rfl rfl rfl ?_))); refine p_t rfl rfl (bt1 hg4) rfl ?_; refine r_move rfl rfl ?_; refine g_split rfl rfl ?_ ?_
     ·intro hg5; have hg5' := hg5; try simp at hg5'
      refine g_yes rfl rfl hg5 ?_
      first | refine r_loadA rfl T.row_api_Flaw T.sz_api_Flaw rfl mB (by rfl) ?_ | refine r_loadB rfl T.row_api_Flaw T.sz_api_Flaw rfl mB (by rfl) ?_ | refine r_loadS rfl T.row_api_Flaw T.sz_api_Flaw rfl rfl (cells_row mB (rows_all (by omega))) ?_
      refine g_yes rfl rfl hg5 ?_; refine r_build _ rfl rfl (fun _ => T.bd_api_Flaw_0_1 ..) ?_; refine g_yes rfl rfl hg5 ?_; refine r_bin _ rfl rfl rfl (fun _ => T.eqg_api_Flaw ..) (fun _ => T.eql_api_Flaw ..) ?_; refine p_t rfl rfl (bt1 hg5) rfl ?_; refine r_move rfl rfl ?_; refine g_split rfl rfl ?_ ?_
      ·intro hg6; have hg6' := hg6; try simp at hg6'
       refine g_yes rfl rfl hg6 (r_move rfl rfl (g_yes rfl rfl hg6 ?_)); refine r_buildSlice _ rfl rfl (fun _ => T.bs_strs_4 ..) fun gS => ?_; refine g_yes rfl rfl hg6 ?_; refine hl_letgo (rows newL) (List.prefix_refl _) ?_; refine hl_call F.kit_EqStrings_cb rfl rfl (kit_EqStrings_meets newL newL (by decide)) (List.Perm.refl _) ⟨mB, mB, trivial⟩ fun _ _ => ?_; refine p_t rfl rfl (bt1 hg6) rfl ?_; refine r_move rfl rfl ?_; refine g_split rfl rfl ?_ ?_
       ·intro hg7; have hg7' := hg7; try simp at hg7'
        refine g_yes rfl rfl hg7 (r_move rfl rfl (g_yes rfl rfl hg7 ?_)); refine hl_call F.law07_slip_cb rfl rfl (law07_slip_meets) (List.Perm.refl _) trivial fun x9 _ => ?_; refine g_yes rfl rfl hg7 ?_; refine hl_call F.kit_EqMarks_cb rfl rfl (kit_EqMarks_meets slipL slipL (by decide)) (List.Perm.refl _) ⟨mB, mB, trivial⟩ fun _ _ => ?_; refine p_t rfl rfl (bt1 hg7) rfl ?_; refine r_move rfl rfl ?_; refine g_split rfl rfl ?_ ?_
        ·intro hg8; have hg8' := hg8; try simp at hg8'
         refine g_yes rfl rfl hg8 (r_move rfl rfl (g_yes rfl rfl hg8 ?_)); refine r_buildSlice _ rfl rfl (fun _ => T.bs_ints_3 ..) fun gS => ?_; refine g_yes rfl rfl hg8 ?_; refine hl_letgo (rows ([1, 0, 2] : List Int)) (List.prefix_refl _) ?_; refine hl_call F.kit_EqInts_cb rfl rfl (kit_EqInts_meets [1, 0, 2] [1, 0, 2] (by decide)) (List.Perm.refl _) ⟨mB, mB, trivial⟩ fun _ _ => ?_; refine p_t rfl rfl (bt1 hg8) rfl ?_; refine r_move rfl rfl ?_; refine g_split rfl rfl ?_ ?_
         ·intro hg9; have hg9' := hg9; try simp at hg9'
          refine g_yes rfl rfl hg9 (r_move rfl rfl (g_yes rfl rfl hg9 ?_)); refine r_buildSlice _ rfl rfl (fun _ => T.bs_ints_3 ..) fun gS => ?_; refine g_yes rfl rfl hg9 ?_; refine hl_letgo (rows ([1, 0, -1] : List Int)) (List.prefix_refl _) ?_; refine hl_call F.kit_EqInts_cb rfl rfl (kit_EqInts_meets [1, 0, -1] [1, 0, -1] (by decide)) (List.Perm.refl _) ⟨mB, mB, trivial⟩ fun _ _ => ?_; refine p_t rfl rfl (bt1 hg9) rfl ?_; refine r_assign rfl rfl (hl_nil (then_n (hc_ret ?_))); exact ret1 () rfl rfl rfl trivial (List.nil_sublist _) trivial
         ·intro hg9; have hg9' := hg9; try simp at hg9'
        ·intro hg8; have hg8' := hg8; try simp at hg8'
       ·intro hg7; have hg7' := hg7; try simp at hg7'
      ·intro hg6; have hg6' := hg6; try simp at hg6'
     ·intro hg5; have hg5' := hg5; try simp at hg5'
    ·intro hg4; have hg4' := hg4; try simp at hg4'
   ·intro hg3; have hg3' := hg3; try simp at hg3'
  ·intro hg2; have hg2' := hg2; try simp at hg2'
 ·intro hg1; have hg1' := hg1; try simp at hg1'
end Go.Proofs.Ytpfbbggmcbhboaa
end
section
namespace Go.Proofs.Ytpfbbggmcbhboaa
open Go Go.W
set_option maxRecDepth 20000
attribute [local irreducible] HL HC HQ HB Row Rows2 Blk Facts
def okNext (b m : Mk) : Prop := b.2.1 < m.2.1 ∨ (b.2.1 = m.2.1 ∧ b.1 = 1)
def textOK (m : Mk) : Prop := (m.1 = 3 ∧ m.2.2 = []) ∨ (¬ m.1 = 3 ∧ m.2.2 ∈ lineWords)
structure MarksOK (n : Nat) (l : List Mk) : Prop where
  ch : ∀ k, k + 1 < l.length → okNext (l.getD k default) (l.getD (k + 1) default)
  v : MV n l
  t : ∀ m ∈ l, textOK m
theorem MarksOK.nil (n : Nat) : MarksOK n [] := ⟨fun k h => by simp at h, fun m h => by simp at h, fun m h => by simp at h⟩
def LastI (i : Nat) (l : List Mk) : Prop := ∀ b ∈ l, b.2.1 < (i : Int) ∨ (b.2.1 = (i : Int) ∧ b.1 = 1)
def LastB (i : Nat) (l : List Mk) : Prop := ∀ b ∈ l, b.2.1 < (i : Int)
theorem LastB.i {i : Nat} {l : List Mk} (h : LastB i l) : LastI i l := fun b hb => .inl (h b hb)
theorem LastI.b {i : Nat} {l : List Mk} (h : LastI i l) : LastB (i + 1) l := fun b hb => by rcases h b hb with h | h <;> omega
theorem LastI.snoc {i : Nat} {l : List Mk} (h : LastI i l) (t : Str) : LastI i (l ++ [(1, (i : Int), t)]) := fun b hb => by
  rcases List.mem_append.1 hb with hb | hb
  · exact h b hb
  · simp at hb; subst hb; exact .inr ⟨rfl, rfl⟩
theorem LastI.any {i : Nat} {l : List Mk} (h : LastI i l) (k : Int) (t : Str) : LastB (i + 1) (l ++ [(k, (i : Int), t)]) := fun b hb => by
  rcases List.mem_append.1 hb with hb | hb
  · exact h.b b hb
  · simp at hb; subst hb; simp only; omega
theorem MarksOK.snoc {n i : Nat} {l : List Mk} {k : Int} {t : Str} (h : MarksOK n l) (hl : LastI i l) (hk : 1 ≤ k ∧ k ≤ 3) (hi : i ≤ n) (hi2 : k = 1 ∨ i < n) (ht : textOK (k, (i : Int), t)) : MarksOK n (l ++ [(k, (i : Int), t)]) := by
  refine ⟨fun j hj => ?_, fun m hm => ?_, fun m hm => ?_⟩
  · rw [List.length_append, List.length_cons, List.length_nil] at hj
    by_cases hj2 : j + 1 < l.length
    · have := h.ch j hj2
      rw [getD_at (by omega), getD_at hj2] at this; rw [getD_at (by simp; omega), getD_at (by simp; omega), List.getElem_append_left (by omega), List.getElem_append_left hj2]; exact this
    · have hje : j + 1 = l.length := by omega
      rw [getD_at (by simp; omega), getD_at (by simp; omega), List.getElem_append_left (by omega), List.getElem_append_right (by omega)]; have := hl l[j] (List.getElem_mem _); simp only [hje, Nat.sub_self, List.getElem_cons_zero]; exact this
  · rcases List.mem_append.1 hm with hm | hm
    · exact h.v m hm
    · simp at hm; subst hm; simp only; omega
  · rcases List.mem_append.1 hm with hm | hm
    · exact h.t m hm
    · simp at hm; subst hm; exact ht
abbrev GrowM (o : OutC) (l : List Mk) (og : Hp) : Prop := Grow T.api_Mark 3 o.1 l.length o.2 (rows l) og
theorem kit_NewDice_meets {A : Option Addr} {c : Nat} (nums : List Int) : Meets Try.prog F.kit_NewDice [.slice A nums.length c] { LI := [Row A (rows nums)], val := fun g : Nat => .pointer (some ⟨g, 0, none⟩), hpO := fun g => [dice g A c nums (0, 11400714819323198485)] } := by
 refine meets_intro F.kit_NewDice_f rfl (Nat.le_of_ble_eq_true rfl) fun w0 => ?_; refine hc_seq (hc_region (r_assign rfl rfl (hl_nil (then_n (hc_seq (hc_region (r_move rfl rfl ?_))))))); refine r_build _ rfl rfl (fun _ => T.bd_wayzgoosekit_Dice_0_2 ..) ?_; refine r_box rfl rfl fun gB => ?_; refine r_assign rfl rfl (hl_nil (then_n (hc_ret ?_))); exact ret1 gB rfl rfl rfl trivial (.refl _) trivial
theorem kit_MarksOf_meets {g : Nat} {A : Option Addr} {c : Nat} {nums : List Int} {s : Int × Int} (n most : Nat) (hn : nums.length ≤ 9223372036854775807) (hs : DOK nums s) (hI : n ≤ 100 ∧ most ≤ 100) :
    Meets Try.prog F.kit_MarksOf [.pointer (some ⟨g, 0, none⟩), int n, int most] (diceCon g A c nums s (fun x : List Mk × OutC => x.1.length ≤ most ∧ MarksOK n x.1 ∧ x.1.length ≤ x.2.2) (fun x => .slice x.2.1 x.1.length x.2.2) (fun x => [Row x.2.1 (rows x.1)])) := by
 refine meets_intro F.kit_MarksOf_f rfl (Nat.le_of_ble_eq_true rfl) fun w0 => ?_; refine hc_seq (hc_region (r_assign rfl rfl (hl_nil (then_n (hc_seq (hc_region (r_assign rfl rfl (hl_nil (then_n (hc_seq (hc_seq ?_))))))))))); refine hc_region (r_assign rfl rfl (hl_nil (then_n (hc_block ?_))))
 refine hc_loop (β := List Mk × OutC × Hp × (Int × Int) × Nat) ⟨fun ⟨l, o, og, s, i⟩ => (GrowM o l og ∧ l.length ≤ most ∧ MarksOK n l ∧ DOK nums s) ∧ LastB i l ∧ i ≤ n + 1,
   fun ⟨l, o, og, s, i⟩ => [(0, .pointer (some ⟨g, 0, none⟩)), (1, int n), (2, int most), (7, .slice o.1 l.length o.2), (8, int i)], fun ⟨l, o, og, s, i⟩ => og ++ [dice g A c nums s], fun _ => [Row A (rows nums)]⟩
   (fun x => n + 1 - x.2.2.2.2) ([], (none, 0), [], s, 0) ⟨⟨Grow.nil _ _, Nat.zero_le _, MarksOK.nil n, hs⟩, by intro b h; simp at h, Nat.zero_le _⟩ ⟨rfl, rfl, rfl, rfl, rfl, trivial⟩ (.refl _) ⟨m0, trivial⟩ fun x hx => ?_
 obtain ⟨l, o, og, s, i⟩ := x; obtain ⟨⟨hG, hlen, hOK, hs⟩, hLB, hi⟩ := hx; have hLast := hLB.i; refine hc_seq (hc_seq (hc_region (r_move rfl rfl (r_move rfl rfl (r_leq rfl rfl rfl (hl_nil (then_n ?_)))))))
 first | refine c_dec rfl (fun hb1 => ?_) (fun hb1 => ?_) | refine hc_cond rfl (fun hb1 => ?_) (fun hb1 => ?_)
 ·have hb1' := hb1; try simp at hb1'
  have hi2 : i ≤ n := by omega
  refine hc_skip (then_n (hc_seq (hc_block ?_))); refine hc_cut (⟨fun ⟨l, o, og, s⟩ => GrowM o l og ∧ l.length ≤ most ∧ MarksOK n l ∧ LastI i l ∧ DOK nums s, fun ⟨l, o, og, s⟩ => [(0, .pointer (some ⟨g, 0, none⟩)), (1, int n), (2, int most), (7, .slice o.1 l.length o.2), (8, int i)], fun ⟨l, o, og, s⟩ => og ++ [dice g A c nums s], fun _ => [Row A (rows nums)]⟩ : Sta (List Mk × OutC × Hp × (Int × Int))) ?_ ?_
  ·skip
   refine hc_block ?_
   refine hc_loop (β := List Mk × OutC × Hp × (Int × Int)) ⟨fun ⟨l, o, og, s⟩ => GrowM o l og ∧ l.length ≤ most ∧ MarksOK n l ∧ LastI i l ∧ DOK nums s,
     fun ⟨l, o, og, s⟩ => [(0, .pointer (some ⟨g, 0, none⟩)), (1, int n), (2, int most), (7, .slice o.1 l.length o.2), (8, int i)], fun ⟨l, o, og, s⟩ => og ++ [dice g A c nums s], fun _ => [Row A (rows nums)]⟩
     (fun x => most - x.1.length) (l, o, og, s) ⟨hG, hlen, hOK, hLast, hs⟩ ⟨rfl, rfl, rfl, rfl, rfl, trivial⟩ (.refl _) ⟨m0, trivial⟩ fun x hx => ?_
   clear hG hlen hOK hs hLB hLast; obtain ⟨l, o, og, s⟩ := x; obtain ⟨hG, hlen, hOK, hLast, hs⟩ := hx; refine hc_seq (hc_seq (hc_region (r_move rfl rfl ?_))); refine hl_call F.kit_Dice_Once_cb rfl rfl (kit_Dice_Once_meets (4) hn hs (by omega)) (List.perm_append_comm) ⟨m0, trivial⟩ fun x hx => ?_; obtain ⟨s1, z⟩ := x; obtain ⟨hs1, _⟩ := hx; refine r_move rfl rfl ?_; refine g_split rfl rfl ?_ ?_
   ·intro hg1; have hg1' := hg1; try simp at hg1'
    refine g_yes rfl rfl hg1 (r_move rfl rfl (g_yes rfl rfl hg1 ?_)); refine r_len_sl rfl T.u_L_api_Mark rfl ?_; refine g_yes rfl rfl hg1 (r_move rfl rfl (g_yes rfl rfl hg1 (r_lss rfl rfl rfl ?_))); refine p_t rfl rfl (bt1 hg1) rfl ?_; refine hl_nil (then_n ?_)
    first | refine c_dec rfl (fun hb2 => ?_) (fun hb2 => ?_) | refine hc_cond rfl (fun hb2 => ?_) (fun hb2 => ?_)
    ·have hb2' := hb2; try simp at hb2'
     have hlt : l.length < most := by omega
     refine hc_skip (then_n (hc_block (hc_region (r_move rfl rfl (r_move rfl rfl (r_move rfl rfl ?_)))))); refine hl_call F.kit_LineOf_cb rfl rfl (kit_LineOf_meets hn hs1) (List.Perm.refl _) ⟨m0, trivial⟩ fun x hx => ?_; obtain ⟨s2, t⟩ := x; obtain ⟨hs2, ht⟩ := hx; refine r_build _ rfl rfl (fun _ => T.bd_api_Mark_0_1_2 ..) ?_; refine r_buildSlice _ rfl rfl (fun _ => T.bs_L_api_Mark_1 ..) fun gS => ?_; refine r_append (l.length + 1) (rows (l ++ [(1, (i : Int), t)])) T.el_L_api_Mark rfl rfl rfl hG (List.perm_append_comm (l₁ := [_, _])) (Src.own (cs := #[int 1, int i, str t]) (m := 1) (List.mem_append_right _ m0) rfl rfl) rfl (rows_append l [(1, (i : Int), t)]).symm (by unfold maxLen; omega) (by omega) fun A' c' og' hG' => ?_; refine r_assign rfl rfl (hl_nil (inb_n ?_)); refine again _ (l ++ [(1, (i : Int), t)], (A', c'), og', s2) ⟨by unfold GrowM; rw [len_snoc]; exact hG', by rw [len_snoc]; omega, hOK.snoc hLast (by omega) (by omega) (by omega) (.inr ⟨by simp, ht⟩), hLast.snoc t, hs2⟩ (by show most - (l ++ [_]).length < most - l.length; rw [len_snoc]; omega) ?_ ((List.Sublist.refl og').append (.cons _ (.refl _))) ⟨m0, trivial⟩; exact ⟨rfl, rfl, rfl, by rw [len_snoc]; rfl, rfl, trivial⟩
    ·have hb2' := hb2; try simp at hb2'
     refine hc_exit (then_exit (then_exit (inb_hit ?_))); refine hq_perm (List.perm_append_comm (l₁ := [_])) ?_; exact cut_n _ (l, o, og, s1) ⟨hG, hlen, hOK, hLast, hs1⟩ ⟨rfl, rfl, rfl, rfl, rfl, trivial⟩ (.refl _) ⟨m0, trivial⟩
   ·intro hg1; have hg1' := hg1; try simp at hg1'
    refine g_no rfl rfl rfl rfl rfl hg1 (g_no rfl rfl rfl rfl rfl hg1 (g_no rfl rfl rfl rfl rfl hg1 (g_no rfl rfl rfl rfl rfl hg1 ?_))); refine p_f rfl rfl (bf2 hg1) rfl ?_; refine hl_nil (then_n (c_f rfl rfl (hc_exit (then_exit (then_exit (inb_hit ?_)))))); refine hq_perm (List.perm_append_comm (l₁ := [_])) ?_; exact cut_n _ (l, o, og, s1) ⟨hG, hlen, hOK, hLast, hs1⟩ ⟨rfl, rfl, rfl, rfl, rfl, trivial⟩ (.refl _) ⟨m0, trivial⟩
  ·intro x hx; clear hG hlen hOK hs hLB hLast; obtain ⟨l, o, og, s⟩ := x; obtain ⟨hG, hlen, hOK, hLast, hs⟩ := hx; refine hc_seq (hc_seq (hc_region (r_move rfl rfl (r_move rfl rfl (r_eql rfl rfl rfl (r_move rfl rfl ?_)))))); refine g_split rfl rfl ?_ ?_
   ·intro hg2; have hg2' := hg2; try simp at hg2'
    have hne : ¬ i = n := fun e => by subst e; simp at hg2
    refine g_yes rfl rfl hg2 (r_move rfl rfl (g_yes rfl rfl hg2 ?_)); refine r_len_sl rfl T.u_L_api_Mark rfl ?_; refine g_yes rfl rfl hg2 (r_move rfl rfl (g_yes rfl rfl hg2 (r_eql rfl rfl rfl ?_))); refine p_f rfl rfl (bf1 hg2) rfl ?_; refine hl_nil (then_n ?_)
    first | refine c_dec rfl (fun hb3 => ?_) (fun hb3 => ?_) | refine hc_cond rfl (fun hb3 => ?_) (fun hb3 => ?_)
    ·have hb3' := hb3; try simp at hb3'
     refine hc_exit (then_exit (inb_hit (then_n (hc_region (r_move rfl rfl ?_))))); refine r_add _ rfl rfl rfl rfl (by unfold I64; omega) ?_; refine r_assign rfl rfl (hl_nil ?_); refine again _ (l, o, og, s, i + 1) ⟨⟨hG, hlen, hOK, hs⟩, hLast.b, by omega⟩ (by show n + 1 - (i + 1) < n + 1 - i; omega) ?_ (.refl _) ⟨m0, trivial⟩; exact ⟨rfl, rfl, rfl, rfl, rfl, trivial⟩
    ·have hb3' := hb3; try simp at hb3'
     have hlt : l.length < most := by have : ¬ (l.length : Int) = most := hb3; omega
     refine hc_skip (then_n (hc_seq (hc_region (r_move rfl rfl ?_)))); refine hl_call F.kit_Dice_To_cb rfl rfl (kit_Dice_To_meets 4 hn hs (by omega)) (List.perm_append_comm) ⟨m0, trivial⟩ fun x hx => ?_; obtain ⟨s1, z⟩ := x; obtain ⟨hs1, hz⟩ := hx; refine hl_nil (then_n (hc_block (hc_seq (hc_region (r_eql rfl rfl rfl (r_assign rfl rfl (hl_nil (then_n ?_))))))))
     first | refine c_dec rfl (fun hb4 => ?_) (fun hb4 => ?_) | refine hc_cond rfl (fun hb4 => ?_) (fun hb4 => ?_)
     ·have hb4' := hb4; try simp at hb4'
      refine hc_region (r_move rfl rfl (r_move rfl rfl (r_move rfl rfl ?_))); refine hl_call F.kit_LineOf_cb rfl rfl (kit_LineOf_meets hn hs1) (List.Perm.refl _) ⟨m0, trivial⟩ fun x hx => ?_; obtain ⟨s2, t⟩ := x; obtain ⟨hs2, ht⟩ := hx; refine r_build _ rfl rfl (fun _ => T.bd_api_Mark_0_1_2 ..) ?_; refine r_buildSlice _ rfl rfl (fun _ => T.bs_L_api_Mark_1 ..) fun gS => ?_; refine r_append (l.length + 1) (rows (l ++ [(2, (i : Int), t)])) T.el_L_api_Mark rfl rfl rfl hG (List.perm_append_comm (l₁ := [_, _])) (Src.own (cs := #[int 2, int i, str t]) (m := 1) (List.mem_append_right _ m0) rfl rfl) rfl (rows_append l [(2, (i : Int), t)]).symm (by unfold maxLen; omega) (by omega) fun A' c' og' hG' => ?_; refine r_assign rfl rfl (hl_nil (inb_n (inb_n (then_n (hc_region (r_move rfl rfl ?_)))))); refine r_add _ rfl rfl rfl rfl (by unfold I64; omega) ?_; refine r_assign rfl rfl (hl_nil ?_); refine again _ (l ++ [(2, (i : Int), t)], (A', c'), og', s2, i + 1) ⟨⟨by unfold GrowM; rw [len_snoc]; exact hG', by rw [len_snoc]; omega, hOK.snoc hLast (by omega) (by omega) (by omega) (.inr ⟨by simp, ht⟩), hs2⟩, hLast.any 2 t, by omega⟩ (by show n + 1 - (i + 1) < n + 1 - i; omega) ?_ ((List.Sublist.refl og').append (.cons _ (.refl _))) ⟨m0, trivial⟩; exact ⟨rfl, rfl, rfl, by rw [len_snoc]; rfl, rfl, trivial⟩
     ·have hb4' := hb4; try simp at hb4'
      refine hc_seq (hc_region (r_eql rfl rfl rfl (r_assign rfl rfl (hl_nil (then_n ?_)))))
      first | refine c_dec rfl (fun hb5 => ?_) (fun hb5 => ?_) | refine hc_cond rfl (fun hb5 => ?_) (fun hb5 => ?_)
      ·have hb5' := hb5; try simp at hb5'
       refine hc_region (r_move rfl rfl (r_move rfl rfl ?_)); refine r_build _ rfl rfl (fun _ => T.bd_api_Mark_0_1 ..) ?_; refine r_buildSlice _ rfl rfl (fun _ => T.bs_L_api_Mark_1 ..) fun gS => ?_; refine r_append (l.length + 1) (rows (l ++ [(3, (i : Int), [])])) T.el_L_api_Mark rfl rfl rfl hG (List.perm_append_comm (l₁ := [_, _])) (Src.own (cs := #[int 3, int i, str []]) (m := 1) (List.mem_append_right _ m0) rfl rfl) rfl (rows_append l [(3, (i : Int), [])]).symm (by unfold maxLen; omega) (by omega) fun A' c' og' hG' => ?_; refine r_assign rfl rfl (hl_nil (inb_n (inb_n (then_n (hc_region (r_move rfl rfl ?_)))))); refine r_add _ rfl rfl rfl rfl (by unfold I64; omega) ?_; refine r_assign rfl rfl (hl_nil ?_); refine again _ (l ++ [(3, (i : Int), [])], (A', c'), og', s1, i + 1) ⟨⟨by unfold GrowM; rw [len_snoc]; exact hG', by rw [len_snoc]; omega, hOK.snoc hLast (by omega) (by omega) (by omega) (.inl ⟨rfl, rfl⟩), hs1⟩, hLast.any 3 [], by omega⟩ (by show n + 1 - (i + 1) < n + 1 - i; omega) ?_ ((List.Sublist.refl og').append (.cons _ (.refl _))) ⟨m0, trivial⟩; exact ⟨rfl, rfl, rfl, by rw [len_snoc]; rfl, rfl, trivial⟩
      ·have hb5' := hb5; try simp at hb5'
       refine hc_skip (inb_n (inb_n (then_n (hc_region (r_move rfl rfl ?_))))); refine r_add _ rfl rfl rfl rfl (by unfold I64; omega) ?_; refine r_assign rfl rfl (hl_nil ?_); refine hq_perm (List.perm_append_comm (l₁ := [_])) ?_; refine again _ (l, o, og, s1, i + 1) ⟨⟨hG, hlen, hOK, hs1⟩, hLast.b, by omega⟩ (by show n + 1 - (i + 1) < n + 1 - i; omega) ?_ (.refl _) ⟨m0, trivial⟩; exact ⟨rfl, rfl, rfl, rfl, rfl, trivial⟩
   ·intro hg2; have hg2' := hg2; try simp at hg2'
    have hne : i = n := by have h : (i : Int) = n := (by simpa using hg2); omega
    refine g_no rfl rfl rfl rfl rfl hg2 (g_no rfl rfl rfl rfl rfl hg2 (g_no rfl rfl rfl rfl rfl hg2 (g_no rfl rfl rfl rfl rfl hg2 ?_))); refine p_t rfl rfl (bt2 hg2) rfl ?_; refine hl_nil (then_n (c_t rfl rfl (hc_exit (then_exit (inb_hit (then_n (hc_region (r_move rfl rfl ?_)))))))); refine r_add _ rfl rfl rfl rfl (by unfold I64; omega) ?_; refine r_assign rfl rfl (hl_nil ?_); refine again _ (l, o, og, s, i + 1) ⟨⟨hG, hlen, hOK, hs⟩, hLast.b, by omega⟩ (by show n + 1 - (i + 1) < n + 1 - i; omega) ?_ (.refl _) ⟨m0, trivial⟩; exact ⟨rfl, rfl, rfl, rfl, rfl, trivial⟩
 ·have hb1' := hb1; try simp at hb1'
  have hi2 : i = n + 1 := by omega
  refine hc_exit (then_exit (then_exit (inb_hit (then_n (hc_seq (hc_region (r_move rfl rfl (r_assign rfl rfl (hl_nil (then_n (hc_ret ?_))))))))))); refine hq_grown hG ?_; exact ret1 (s, l, o) rfl rfl rfl ⟨hs, hlen, hOK, hG.le⟩ (.refl _) ⟨m0, trivial⟩
abbrev GrowS2 (o : OutC) (ps : List (Sl Str)) (og : Hp) : Prop := Grow T.strs 1 o.1 ps.length o.2 (rows ps) og
def inner (ps : List (Sl Str)) : Fact := Facts (ps.map fun p => Row p.a (rows p.l))
def PagesOK (ps : List (Sl Str)) : Prop := ∀ p ∈ ps, PageOK p.l ∧ p.l.length ≤ 6 ∧ p.l.length ≤ p.c
theorem PagesOK.snoc {ps : List (Sl Str)} {p : Sl Str} (h : PagesOK ps) (hp : PageOK p.l ∧ p.l.length ≤ 6 ∧ p.l.length ≤ p.c) : PagesOK (ps ++ [p]) := fun q hq => by
  rcases List.mem_append.1 hq with hq | hq
  · exact h q hq
  · simp at hq; subst hq; exact hp
theorem PageOK.set {l : List Str} {k : Nat} {t : Str} (h : PageOK l) (ht : t ∈ lineWords) : PageOK (l.set k t) := fun s hs => by
  rcases List.mem_or_eq_of_mem_set hs with h1 | h1
  · exact h s h1
  · exact h1 ▸ ht
theorem PageOK.drop {l : List Str} {k : Nat} (h : PageOK l) : PageOK (l.drop k) := fun s hs => h s (List.mem_of_mem_drop hs)
theorem PageOK.snoc {l : List Str} {t : Str} (h : PageOK l) (ht : t ∈ lineWords) : PageOK (l ++ [t]) := fun s hs => by
  rcases List.mem_append.1 hs with h1 | h1
  · exact h s h1
  · simp at h1; subst h1; exact ht
end Go.Proofs.Ytpfbbggmcbhboaa
end
section
namespace Go.Proofs.Ytpfbbggmcbhboaa
open Go Go.W
set_option maxRecDepth 20000
attribute [local irreducible] HL HC HQ HB Row Rows2 Blk Facts
structure Good {α : Type} (c : α → α → Int) : Prop where
  eq : ∀ a b, c a b = 0 ↔ a = b
  anti : ∀ a b, c a b < 0 ↔ 0 < c b a
  tr : ∀ a b d, c a b < 0 → c b d < 0 → c a d < 0
theorem Good.irr {α : Type} {c : α → α → Int} (h : Good c) (a : α) : ¬ c a a < 0 := by
  have := (h.eq a a).2 rfl; omega
theorem good_I : Good cmpI where
  eq a b := by unfold cmpI; split <;> (try split) <;> omega
  anti a b := by unfold cmpI; split <;> (try split) <;> (try split) <;> (try split) <;> omega
  tr a b d := by unfold cmpI; split <;> (try split) <;> (try split) <;> (try split) <;> (try split) <;> (try split) <;> omega
theorem str_lt_irr (a : Str) : ¬ a < a := List.lt_irrefl a
theorem str_tri {a b : Str} (h1 : ¬ a < b) (h2 : ¬ b < a) : a = b := List.le_antisymm (List.not_lt.1 h2) (List.not_lt.1 h1)
theorem cmpS_eq (a b : Str) : cmpS a b = if a < b then -1 else if a = b then 0 else 1 := by
  unfold cmpS; simp only [bytesLess_eq]
  by_cases h1 : a < b
  · simp [h1]
  · by_cases h2 : a = b
    · simp [h2, str_lt_irr]
    · simp [h1, h2]
theorem good_S : Good cmpS where
  eq a b := by
    rw [cmpS_eq]
    split
    · rename_i h; constructor
      · intro h; omega
      · rintro rfl; exact absurd h (str_lt_irr _)
    · split
      · rename_i h; exact ⟨fun _ => h, fun _ => rfl⟩
      · rename_i h; exact ⟨fun h => by omega, fun e => absurd e h⟩
  anti a b := by
    rw [cmpS_eq, cmpS_eq]
    by_cases h1 : a < b
    · have h2 : ¬ b < a := fun h => str_lt_irr _ (List.lt_trans h1 h)
      have h3 : ¬ b = a := by rintro rfl; exact str_lt_irr _ h1
      simp [h1, h2, h3]
    · by_cases h2 : b < a
      · have h3 : ¬ a = b := by rintro rfl; exact str_lt_irr _ h2
        simp [h1, h2, h3]
      · have h3 := str_tri h1 h2
        simp [h3, str_lt_irr]
  tr a b d := by
    rw [cmpS_eq, cmpS_eq, cmpS_eq]; intro h1 h2
    have h3 : a < b := by
      apply Classical.byContradiction; intro h; rw [if_neg h] at h1; split at h1 <;> omega
    have h4 : b < d := by
      apply Classical.byContradiction; intro h; rw [if_neg h] at h2; split at h2 <;> omega
    rw [if_pos (List.lt_trans h3 h4)]
    omega
theorem good_or {α β γ : Type} {c : β → β → Int} {d : γ → γ → Int} (f : α → β) (g : α → γ) (hc : Good c) (hd : Good d) (hi : ∀ a b, f a = f b → g a = g b → a = b) : Good (fun a b => if ¬ c (f a) (f b) = 0 then c (f a) (f b) else d (g a) (g b)) where
  eq a b := by
    split
    · rename_i h
      exact ⟨fun h0 => absurd h0 h, fun e => by subst e; exact absurd ((hc.eq _ _).2 rfl) h⟩
    · rename_i h
      have h1 := (hc.eq _ _).1 (Classical.not_not.1 h); rw [hd.eq]; exact ⟨fun h2 => hi _ _ h1 h2, fun e => by rw [e]⟩
  anti a b := by
    have h1 := hc.anti (f a) (f b); have h2 := hc.anti (f b) (f a); have h3 := hd.anti (g a) (g b)
    split <;> split <;> omega
  tr a b e := by
    have h1 := hc.tr (f a) (f b) (f e); have h2 := hd.tr (g a) (g b) (g e); have e1 := hc.eq (f a) (f b); have e2 := hc.eq (f b) (f e); have e3 := hc.eq (f a) (f e); have a1 := hc.anti (f a) (f b); have a2 := hc.anti (f b) (f e)
    by_cases k1 : c (f a) (f b) = 0
    · have q1 := e1.1 k1
      rw [q1] at *; rw [if_neg (by simp [(hc.eq _ _).2 rfl])]
      by_cases k2 : c (f b) (f e) = 0
      · rw [if_neg (by simp [k2]), if_neg (by simp [k2])]
        exact h2
      · rw [if_pos k2, if_pos k2]
        intro _ h; exact h
    · rw [if_pos k1]
      by_cases k2 : c (f b) (f e) = 0
      · have q2 := e2.1 k2
        rw [← q2, if_pos k1]; intro h _; exact h
      · rw [if_pos k2]
        intro h3 h4; have h5 := h1 h3 h4; rw [if_pos (by omega)]; exact h5
theorem orL3 (a b c : Int) : orL [a, b, c] = if ¬ a = 0 then a else if ¬ b = 0 then b else c := by
  simp only [orL]
  split
  · rfl
  · split
    · rfl
    · split
      · rfl
      · rename_i h; omega
theorem good_map {α β : Type} {c : β → β → Int} (f : α → β) (h : Good c) (hf : ∀ a b, f a = f b → a = b) : Good (fun a b => c (f a) (f b)) where
  eq a b := (h.eq _ _).trans ⟨hf a b, fun e => by rw [e]⟩
  anti a b := h.anti _ _
  tr a b d := h.tr _ _ _
theorem good_prod {β γ : Type} {c : β → β → Int} {d : γ → γ → Int} (hc : Good c) (hd : Good d) : Good (fun a b : β × γ => if ¬ c a.1 b.1 = 0 then c a.1 b.1 else d a.2 b.2) :=
  good_or (fun a => a.1) (fun a => a.2) hc hd (fun a b h1 h2 => Prod.ext h1 h2)
theorem good_Mk : Good cmpMk := by
  have h := good_map (α := Mk) (fun m => (m.2.1, m.1, m.2.2)) (good_prod good_I (good_prod good_I good_S)) (fun a b e => by
    simp only [Prod.mk.injEq] at e
    exact Prod.ext e.2.1 (Prod.ext e.1 e.2.2))
  have e : cmpMk = fun a b : Mk => (fun a b : Int × Int × Str => if ¬ cmpI a.1 b.1 = 0 then cmpI a.1 b.1 else (fun a b : Int × Str => if ¬ cmpI a.1 b.1 = 0 then cmpI a.1 b.1 else cmpS a.2 b.2) a.2 b.2) (a.2.1, a.1, a.2.2) (b.2.1, b.1, b.2.2) := by
    funext a b
    rw [cmpMk, orL3]
  rw [e]; exact h
theorem good_Ms : Good cmpMs where
  eq a := by
    induction a with
    | nil => intro b; cases b <;> simp [cmpMs]
    | cons x a ih =>
      intro b
      cases b with
      | nil => simp [cmpMs]
      | cons y b =>
        rw [cmpMs]
        split
        · rename_i h
          refine ⟨fun h0 => absurd h0 h, fun e => ?_⟩
          injection e with e1 e2
          exact absurd ((good_Mk.eq _ _).2 e1) h
        · rename_i h
          have h1 := (good_Mk.eq _ _).1 (Classical.not_not.1 h); rw [ih, h1]
          simp
  anti a := by
    induction a with
    | nil => intro b; cases b <;> simp [cmpMs]
    | cons x a ih =>
      intro b
      cases b with
      | nil => simp [cmpMs]
      | cons y b =>
        rw [cmpMs, cmpMs]; have h1 := good_Mk.anti x y; have h2 := good_Mk.anti y x; have h3 := ih b
        split <;> split <;> omega
  tr a := by
    induction a with
    | nil =>
      intro b d h1 h2
      cases d with
      | nil =>
        cases b with
        | nil => exact h1
        | cons y b => simp [cmpMs] at h2
      | cons z d => simp [cmpMs]
    | cons x a ih =>
      intro b d h1 h2
      cases b with
      | nil => simp [cmpMs] at h1
      | cons y b =>
        cases d with
        | nil => simp [cmpMs] at h2
        | cons z d =>
          have t1 := good_Mk.tr x y z; have e1 := good_Mk.eq x y; have e2 := good_Mk.eq y z; have a1 := good_Mk.anti x y; rw [cmpMs] at h1 h2 ⊢
          by_cases k1 : cmpMk x y = 0
          · rw [if_neg (by simp [k1])] at h1
            have q1 := e1.1 k1; subst q1
            by_cases k2 : cmpMk x z = 0
            · rw [if_neg (by simp [k2])] at h2 ⊢
              exact ih b d h1 h2
            · rw [if_pos k2] at h2 ⊢
              exact h2
          · rw [if_pos k1] at h1
            by_cases k2 : cmpMk y z = 0
            · have q2 := e2.1 k2
              subst q2; rw [if_pos k1]; exact h1
            · rw [if_pos k2] at h2
              have h5 := t1 h1 h2; rw [if_pos (by omega)]; exact h5
theorem good_L : Good cmpL := by
  have h := good_map (α := Lst) (fun l => (l.1, ((l.2.length : Nat) : Int), l.2)) (good_prod good_I (good_prod good_I good_Ms)) (fun a b e => by
    simp only [Prod.mk.injEq] at e
    exact Prod.ext e.1 e.2.2)
  have e : cmpL = fun a b : Lst => (fun a b : Int × Int × List Mk => if ¬ cmpI a.1 b.1 = 0 then cmpI a.1 b.1 else (fun a b : Int × List Mk => if ¬ cmpI a.1 b.1 = 0 then cmpI a.1 b.1 else cmpMs a.2 b.2) a.2 b.2) (a.1, ((a.2.length : Nat) : Int), a.2) (b.1, ((b.2.length : Nat) : Int), b.2) := by
    funext a b
    rw [cmpL, orL3]
  rw [e]; exact h
theorem beforeR_eq {a b : Mk} (h : ¬ a = b) : beforeR a b = decide (cmpMk a b < 0) := by
  rw [cmpMk, orL3, beforeR]; have i1 : ∀ x y : Int, ¬ x = y → ¬ cmpI x y = 0 := fun x y h h0 => h ((good_I.eq x y).1 h0); have i2 : ∀ x y : Int, (x < y) = (cmpI x y < 0) := fun x y => by apply propext; unfold cmpI; split <;> (try split) <;> omega
  by_cases h1 : a.2.1 = b.2.1
  · rw [if_neg (not_not_intro h1), if_neg (not_not_intro ((good_I.eq _ _).2 h1))]
    by_cases h2 : a.1 = b.1
    · rw [if_neg (not_not_intro h2), if_neg (not_not_intro ((good_I.eq _ _).2 h2))]
      rw [cmpS_eq, bytesLess_eq]
      apply decide_eq_decide.2
      split
      · rename_i h; simp [h]
      · rename_i h; split <;> simp [h]
    · rw [if_pos h2, if_pos (i1 _ _ h2)]
      exact decide_eq_decide.2 (by rw [i2])
  · rw [if_pos h1, if_pos (i1 _ _ h1)]
    exact decide_eq_decide.2 (by rw [i2])
theorem lexR_eq : ∀ {a b : List Mk}, a.length = b.length → lexR a b = decide (cmpMs a b < 0)
  | [], [], _ => by simp [lexR, cmpMs]
  | [], _ :: _, h => by simp at h
  | _ :: _, [], h => by simp at h
  | a :: l, b :: l', h => by
    rw [lexR, cmpMs]
    by_cases h1 : a = b
    · rw [if_neg (not_not_intro h1), if_neg (not_not_intro ((good_Mk.eq _ _).2 h1))]
      exact lexR_eq (by simpa using h)
    · rw [if_pos h1, if_pos (fun h0 => h1 ((good_Mk.eq _ _).1 h0)), beforeR_eq h1]
abbrev cL (l : List Mk) : Lst := ((costM l : Int), l)
theorem betterR_eq (a b : List Mk) : betterR a b = decide (cmpL (cL a) (cL b) < 0) := by
  have i1 : ∀ x y : Int, ¬ x = y → ¬ cmpI x y = 0 := fun x y h h0 => h ((good_I.eq x y).1 h0); have i2 : ∀ x y : Int, (x < y) = (cmpI x y < 0) := fun x y => by apply propext; unfold cmpI; split <;> (try split) <;> omega
  rw [betterR, cmpL, orL3]
  by_cases h1 : (costM a : Int) = costM b
  · rw [if_neg (not_not_intro h1), if_neg (not_not_intro ((good_I.eq _ _).2 h1))]
    by_cases h2 : (a.length : Int) = b.length
    · rw [if_neg (not_not_intro h2), if_neg (not_not_intro ((good_I.eq _ _).2 h2))]
      exact lexR_eq (by omega)
    · rw [if_pos h2, if_pos (i1 _ _ h2)]
      exact decide_eq_decide.2 (by rw [i2])
  · rw [if_pos h1, if_pos (i1 _ _ h1)]
    exact decide_eq_decide.2 (by rw [i2])
def Bt (a b : List Mk) : Prop := cmpL (cL a) (cL b) < 0
theorem Bt.of {a b : List Mk} : betterR a b = true ↔ Bt a b := by rw [betterR_eq, decide_eq_true_iff]; rfl
theorem Bt.irr (a : List Mk) : ¬ Bt a a := good_L.irr _
theorem Bt.trans {a b c : List Mk} (h : Bt a b) (h2 : Bt b c) : Bt a c := good_L.tr _ _ _ h h2
structure Best (S : List (List Mk)) (b : List Mk) : Prop where
  mem : b ∈ S
  le : ∀ x ∈ S, ¬ Bt x b
def BestO (S : List (List Mk)) (o : Option (List Mk)) : Prop := (S = [] ∧ o = none) ∨ ∃ b, o = some b ∧ Best S b
theorem BestO.pick {S : List (List Mk)} {o : Option (List Mk)} (h : BestO S o) (l : List Mk) : BestO (S ++ [l]) (pickR o l) := by
  rcases h with ⟨rfl, rfl⟩ | ⟨b, rfl, hb⟩
  · exact .inr ⟨l, rfl, by simp, fun x hx => by simp at hx; subst hx; exact Bt.irr _⟩
  · right
    unfold pickR
    simp only
    split
    · rename_i hlt
      have hlt := Bt.of.1 hlt; refine ⟨l, rfl, by simp, fun x hx => ?_⟩
      rcases List.mem_append.1 hx with hx | hx
      · exact fun h => hb.le x hx (h.trans hlt)
      · simp at hx; subst hx; exact Bt.irr _
    · rename_i hlt
      refine ⟨b, rfl, by simp [hb.mem], fun x hx => ?_⟩
      rcases List.mem_append.1 hx with hx | hx
      · exact hb.le x hx
      · simp at hx; subst hx; exact fun h => hlt (Bt.of.2 h)
end Go.Proofs.Ytpfbbggmcbhboaa
end
section
namespace Go.Proofs.Ytpfbbggmcbhboaa
open Go Go.W
set_option maxRecDepth 20000
attribute [local irreducible] HL HC HQ HB Row Rows2 Blk Facts
/-! ### What marks make -/
def Asc : List Mk → Prop
  | [] => True
  | m :: l => (∀ b ∈ l, m.2.1 < b.2.1 ∨ (m.2.1 = b.2.1 ∧ m.1 = 1)) ∧ Asc l
theorem Asc.filter_lt {l : List Mk} (h : Asc l) (i : Int) : (l.filter fun m => decide (m.2.1 < i + 1)) = (l.filter fun m => decide (m.2.1 < i)) ++ (l.filter fun m => decide (m.2.1 = i)) := by
  induction l with
  | nil => rfl
  | cons m l ih =>
    have ih := ih h.2
    rcases Int.lt_trichotomy m.2.1 i with h1 | h1 | h1
    · rw [List.filter_cons_of_pos (by simp; omega), List.filter_cons_of_pos (by simpa using h1), List.filter_cons_of_neg (by simp; omega), ih, List.cons_append]
    · have hno : (l.filter fun m => decide (m.2.1 < i)) = [] := by
        rw [List.filter_eq_nil_iff]; intro b hb
        rcases h.1 b hb with h2 | h2 <;> simp <;> omega
      rw [List.filter_cons_of_pos (by simp; omega), List.filter_cons_of_neg (by simp; omega), List.filter_cons_of_pos (by simpa using h1), ih, hno]
      rfl
    · rw [List.filter_cons_of_neg (by simp; omega), List.filter_cons_of_neg (by simp; omega), List.filter_cons_of_neg (by simp; omega), ih]
theorem Asc.filter {l : List Mk} (h : Asc l) (q : Mk → Bool) : Asc (l.filter q) := by
  induction l with
  | nil => exact h
  | cons m l ih =>
    by_cases hq : q m = true
    · rw [List.filter_cons_of_pos hq]
      exact ⟨fun b hb => h.1 b ((List.mem_filter.1 hb).1), ih h.2⟩
    · rw [List.filter_cons_of_neg hq]
      exact ih h.2
def finR (st : List Str × Str × Bool) : List Str := if st.2.2 = true then st.1 ++ [st.2.1] else st.1
theorem asc_of {l : List Mk} (h : ∀ k, k + 1 < l.length → okNext (l.getD k default) (l.getD (k + 1) default)) : Asc l := by
  induction l with
  | nil => trivial
  | cons m l ih =>
    have h2 : Asc l := ih fun k hk => by
      have := h (k + 1) (by simpa using hk)
      simpa [List.getD_eq_getElem?_getD] using this
    refine ⟨?_, h2⟩
    cases l with
    | nil => intro b hb; simp at hb
    | cons b l =>
      have h0 : okNext m b := by simpa [List.getD_eq_getElem?_getD] using h 0 (by simp)
      intro c hc
      rcases List.mem_cons.1 hc with rfl | hc
      · exact h0
      · have h3 := h2.1 c hc
        rcases h0 with h4 | ⟨h4, h5⟩ <;> rcases h3 with h6 | ⟨h6, h7⟩
        · exact .inl (by omega)
        · exact .inl (by omega)
        · exact .inl (by omega)
        · exact .inr ⟨by omega, h5⟩
theorem marks_asc {n : Nat} {l : List Mk} (h : marksErr n l = 0) : Asc l := by
  refine asc_of fun k hk => ?_; unfold marksErr at h
  split at h
  · omega
  · have := firstErr_zero h (k + 1) (by simpa using hk)
    unfold markErr at this; rw [Nat.add_sub_cancel] at this; generalize l.getD k default = b at *; generalize l.getD (k + 1) default = m at *; unfold mErr at this; unfold okNext
    split at this
    · omega
    · split at this
      · omega
      · split at this
        · first | omega | (rename_i h1; exact absurd this h1)
        · split at this
          · omega
          · split at this
            · omega
            · split at this
              · rename_i h3; omega
              · split at this <;> omega
end Go.Proofs.Ytpfbbggmcbhboaa
end
section
namespace Go.Proofs.Ytpfbbggmcbhboaa
open Go Go.W
set_option maxRecDepth 20000
attribute [local irreducible] HL HC HQ HB Row Rows2 Blk Facts
theorem insM_eq (xs : List Mk) (k : Int) : (insAt xs k).map (lineM k) = insM xs k := by
  unfold insAt insM; rw [List.map_map]
  have e : (fun m : Mk => decide (m.1 = 1 ∧ m.2.1 = k)) = fun m => decide (m.2.1 = k ∧ m.1 = 1) := by
    funext m; exact decide_eq_decide.2 and_comm
  rw [e]
  induction xs with
  | nil => rfl
  | cons m xs ih =>
    by_cases h : m.2.1 = k ∧ m.1 = 1
    · rw [List.filter_cons_of_pos (by simpa using h), List.map_cons, ih]
      congr 1
      obtain ⟨a, b, t⟩ := m; obtain ⟨h1, h2⟩ := h; simp only at h1 h2; subst h1 h2
      rfl
    · rw [List.filter_cons_of_neg (by simpa using h), ih]
theorem lineM_inj {k : Int} {a b : Str} (h : lineM k a = lineM k b) : a = b := congrArg (fun m : Mk => m.2.2) h
theorem moreM_eq (xs ys : List Mk) (k : Int) : (moreA xs ys k).map (lineM k) = moreR (insM xs k) (insM ys k) := by
  rw [← insM_eq, ← insM_eq]; unfold moreA moreR; generalize insAt xs k = ws
  induction insAt ys k with
  | nil => rfl
  | cons v vs ih =>
    have hm : lineM k v ∈ ws.map (lineM k) ↔ v ∈ ws := ⟨fun h => by
      obtain ⟨a, ha, e⟩ := List.mem_map.1 h
      rw [← lineM_inj e]; exact ha, fun h => List.mem_map.2 ⟨v, h, rfl⟩⟩
    rw [List.map_cons]
    by_cases h : v ∈ ws
    · rw [List.filter_cons_of_neg (by simp [h]), List.filter_cons_of_neg (by simp only [Bool.not_eq_true', decide_eq_false_iff_not, Classical.not_not, Bool.not_eq_true]; simpa using hm.2 h), ih]
    · rw [List.filter_cons_of_pos (by simp [h]), List.filter_cons_of_pos (by simpa using fun hh => h (hm.1 hh)), List.map_cons, ih]
theorem othM_last (xs : List Mk) (k : Int) : lastAt xs k = (othM xs k).getLast? := by
  unfold lastAt othM
  congr 1
  have e : (fun m : Mk => decide (m.1 ≠ 1 ∧ m.2.1 = k)) = fun m => decide (m.2.1 = k ∧ m.1 ≠ 1) := by
    funext m; exact decide_eq_decide.2 and_comm
  rw [e]
theorem othM_one {xs : List Mk} (h : Asc xs) (k : Int) : (othM xs k).length ≤ 1 := by
  unfold othM
  induction xs with
  | nil => simp
  | cons m xs ih =>
    have ih := ih h.2
    by_cases e : m.2.1 = k ∧ m.1 ≠ 1
    · have hn : xs.filter (fun m => decide (m.2.1 = k ∧ m.1 ≠ 1)) = [] := by
        rw [List.filter_eq_nil_iff]; intro b hb hbk; have hbk : b.2.1 = k ∧ b.1 ≠ 1 := by simpa using hbk
        rcases h.1 b hb with h1 | ⟨_, h1⟩
        · omega
        · exact e.2 h1
      rw [List.filter_cons_of_pos (by simpa using e), hn]
      simp
    · rw [List.filter_cons_of_neg (by simpa using e)]
      exact ih
theorem last_cases {xs : List Mk} (h : Asc xs) (k : Int) : (othM xs k = [] ∧ lastAt xs k = none) ∨ ∃ m, othM xs k = [m] ∧ lastAt xs k = some m := by
  have h1 := othM_one h k; rw [othM_last]
  match he : othM xs k with
  | [] => exact .inl ⟨rfl, rfl⟩
  | [m] => exact .inr ⟨m, rfl, rfl⟩
  | a :: b :: l => rw [he] at h1; simp at h1
theorem lastLR {xs ys : List Mk} (hx : Asc xs) (hy : Asc ys) (k : Int) : lastL xs ys k = lastR xs ys k := by
  unfold lastL lastR
  rcases last_cases hx k with ⟨h1, h2⟩ | ⟨m, h1, h2⟩
  · rw [h1, h2]
    rcases last_cases hy k with ⟨h3, h4⟩ | ⟨m', h3, h4⟩ <;> rw [h3, h4] <;> rfl
  · rw [h1, h2]; rfl
theorem clashAR {xs ys : List Mk} (hx : Asc xs) (hy : Asc ys) (k : Int) : clashA xs ys k = clashR xs ys k := by
  unfold clashA clashR
  rcases last_cases hx k with ⟨h1, h2⟩ | ⟨m, h1, h2⟩
  · rw [h1, h2]; simp
  · rw [h1, h2]
    rcases last_cases hy k with ⟨h3, h4⟩ | ⟨m', h3, h4⟩
    · rw [h3, h4]; simp
    · rw [h3, h4]; simp
theorem mergeOQ {xs ys : List Mk} (hx : Asc xs) (hy : Asc ys) : ∀ n, mergeO xs ys n = mergeQ xs ys n
  | 0 => rfl
  | n + 1 => by
    rw [mergeO, mergeQ, mergeOQ hx hy n]
    cases mergeQ xs ys n with
    | none => rfl
    | some out =>
      simp only [clashAR hx hy]
      have : lineA xs ys n = lineRef xs ys n := by
        unfold lineA lineRef; rw [insM_eq, moreM_eq, lastLR hx hy]
      rw [this]
theorem merge_same (p : List Str) (xs ys : List Mk) : mergeP p xs ys = mergeR p xs ys := by
  unfold mergeP mergeR
  by_cases h1 : pageErr p = 0
  · have e : checkErr p xs = marksErr p.length xs := by rw [checkErr, if_pos h1]
    by_cases h2 : marksErr p.length xs = 0
    · by_cases h3 : marksErr p.length ys = 0
      · simp only [e, h1, h2, h3, not_true_eq_false, if_false, mergeOQ (marks_asc h2) (marks_asc h3)]
        cases mergeQ xs ys (p.length + 1) <;> rfl
      · simp only [e, h1, h2, h3, not_true_eq_false, not_false_eq_true, if_false, if_true]
    · simp only [e, h1, h2, not_true_eq_false, not_false_eq_true, if_false, if_true]
  · have e : checkErr p xs = pageErr p := by rw [checkErr, if_neg h1]
    simp only [e, h1, not_false_eq_true, if_true]
end Go.Proofs.Ytpfbbggmcbhboaa
end
section
namespace Go.Proofs.Ytpfbbggmcbhboaa
open Go Go.W
set_option maxRecDepth 20000
attribute [local irreducible] HL HC HQ HB Row Rows2 Blk Facts
theorem group_eq {xs : List Mk} (h : Asc xs) (k : Int) : insM xs k ++ othM xs k = xs.filter fun m => decide (m.2.1 = k) := by
  induction xs with
  | nil => rfl
  | cons m xs ih =>
    have ih := ih h.2; unfold insM othM at ih ⊢
    by_cases e : m.2.1 = k
    · by_cases e1 : m.1 = 1
      · rw [List.filter_cons_of_pos (by simp [e, e1]), List.filter_cons_of_neg (by simp [e1]), List.filter_cons_of_pos (by simp [e]), List.cons_append, ih]
      · have hn : ∀ b ∈ xs, ¬ b.2.1 = k := fun b hb hbk => by
          rcases h.1 b hb with h1 | ⟨_, h1⟩
          · omega
          · exact e1 h1
        have z1 : xs.filter (fun m => decide (m.2.1 = k ∧ m.1 = 1)) = [] := by
          rw [List.filter_eq_nil_iff]; intro b hb; simp [hn b hb]
        have z2 : xs.filter (fun m => decide (m.2.1 = k ∧ m.1 ≠ 1)) = [] := by
          rw [List.filter_eq_nil_iff]; intro b hb; simp [hn b hb]
        have z3 : xs.filter (fun m => decide (m.2.1 = k)) = [] := by
          rw [List.filter_eq_nil_iff]; intro b hb; simp [hn b hb]
        rw [List.filter_cons_of_neg (by simp [e1]), List.filter_cons_of_pos (by simp [e, e1]), List.filter_cons_of_pos (by simp [e]), z1, z2, z3]
        rfl
    · rw [List.filter_cons_of_neg (by simp [e]), List.filter_cons_of_neg (by simp [e]), List.filter_cons_of_neg (by simp [e]), ih]
def flatQ (xs ys : List Mk) : Nat → List Mk
  | 0 => []
  | n + 1 => flatQ xs ys n ++ lineRef xs ys n
theorem mergeQ_some {xs ys : List Mk} : ∀ {n : Nat}, (∀ k, k < n → clashR xs ys (k : Nat) = false) → mergeQ xs ys n = some (flatQ xs ys n)
  | 0, _ => rfl
  | n + 1, h => by
    rw [mergeQ, mergeQ_some (fun k hk => h k (by omega))]
    simp only
    rw [if_neg (by rw [h n (by omega)]; decide)]
    rfl
theorem mergeQ_clash {xs ys : List Mk} {n k : Nat} (hk : k < n) (h : clashR xs ys (k : Nat) = true) : mergeQ xs ys n = none := by
  refine mergeQ_none (n := k + 1) hk ?_; rw [mergeQ]
  cases mergeQ xs ys k with
  | none => rfl
  | some o => simp only; rw [if_pos h]
theorem flat_self {xs ys : List Mk} (h : Asc xs) (h0 : ∀ m ∈ xs, 0 ≤ m.2.1) (hl : ∀ k : Nat, lineRef xs ys k = insM xs k ++ othM xs k) : ∀ n : Nat, flatQ xs ys n = xs.filter fun m => decide (m.2.1 < (n : Int))
  | 0 => by
    have : (xs.filter fun m => decide (m.2.1 < ((0 : Nat) : Int))) = [] := by
      rw [List.filter_eq_nil_iff]; intro m hm; have := h0 m hm
      simp; omega
    rw [this]
    rfl
  | n + 1 => by
    rw [flatQ, flat_self h h0 hl n, hl n, group_eq h]; exact (h.filter_lt n).symm
theorem flat_all {xs ys : List Mk} {n : Nat} (h : Asc xs) (hV : MV n xs) (hl : ∀ k : Nat, lineRef xs ys k = insM xs k ++ othM xs k) : flatQ xs ys (n + 1) = xs := by
  rw [flat_self h (fun m hm => (hV m hm).2.2.1) hl, List.filter_eq_self]; intro m hm; have := (hV m hm).2.2.2.1
  simp; omega
theorem insM_nil (k : Int) : insM [] k = [] := rfl
theorem othM_nil (k : Int) : othM [] k = [] := rfl
theorem moreR_self (ws : List Mk) : moreR ws ws = [] := by
  unfold moreR; rw [List.filter_eq_nil_iff]; intro m hm
  simp [hm]
theorem lineRef_r (xs : List Mk) (k : Int) : lineRef xs [] k = insM xs k ++ othM xs k := by
  unfold lineRef lastR; rw [insM_nil, othM_nil]; have : moreR (insM xs k) [] = [] := rfl; rw [this, List.append_nil]
  congr 1
  split
  · rename_i h; exact (List.eq_nil_of_length_eq_zero h).symm
  · rfl
theorem lineRef_l (xs : List Mk) (k : Int) : lineRef [] xs k = insM xs k ++ othM xs k := by
  unfold lineRef lastR; rw [insM_nil, othM_nil]
  have : moreR [] (insM xs k) = insM xs k := by
    unfold moreR; rw [List.filter_eq_self]; intro m _; simp
  rw [this]
  rfl
theorem lineRef_same (xs : List Mk) (k : Int) : lineRef xs xs k = insM xs k ++ othM xs k := by
  unfold lineRef lastR; rw [moreR_self, List.append_nil]
  congr 1
  split <;> rfl
theorem clashR_r (xs : List Mk) (k : Int) : clashR xs [] k = false := decide_eq_false fun h => by rw [othM_nil] at h; simp at h
theorem clashR_l (xs : List Mk) (k : Int) : clashR [] xs k = false := decide_eq_false fun h => by rw [othM_nil] at h; simp at h
theorem clashR_same (xs : List Mk) (k : Int) : clashR xs xs k = false := decide_eq_false fun h => h.2.2 rfl
theorem merge_one {p : List Str} {xs ys : List Mk} (hp : pageErr p = 0) (hx : marksErr p.length xs = 0) (hy : marksErr p.length ys = 0) {zs : List Mk} (hz : marksErr p.length zs = 0) (hc : ∀ k : Nat, clashR xs ys k = false) (hf : flatQ xs ys (p.length + 1) = zs) : mergeP p xs ys = (zs, 0) := by
  rw [merge_same, mergeR, if_neg (fun h => h hp), if_neg (fun h => h hx), if_neg (fun h => h hy), mergeQ_some (fun k _ => hc k), hf]; have := marksErr_len hz
  simp only
  rw [if_neg (by omega)]
end Go.Proofs.Ytpfbbggmcbhboaa
end
section
namespace Go.Proofs.Ytpfbbggmcbhboaa
open Go Go.W
set_option maxRecDepth 20000
attribute [local irreducible] HL HC HQ HB Row Rows2 Blk Facts
theorem lineRef_len {xs ys : List Mk} (hx : Asc xs) (hy : Asc ys) (k : Int) : (lineRef xs ys k).length ≤ (xs.filter fun m => decide (m.2.1 = k)).length + (ys.filter fun m => decide (m.2.1 = k)).length := by
  rw [← group_eq hx, ← group_eq hy]; have h1 := moreR_len (insM xs k) (insM ys k); unfold lineRef lastR; simp only [List.length_append]
  split <;> omega
theorem flat_len {xs ys : List Mk} (hx : Asc xs) (hy : Asc ys) : ∀ n : Nat, (flatQ xs ys n).length ≤ (xs.filter fun m => decide (m.2.1 < (n : Int))).length + (ys.filter fun m => decide (m.2.1 < (n : Int))).length
  | 0 => by simp [flatQ]
  | n + 1 => by
    have h1 := congrArg List.length (hx.filter_lt n); have h2 := congrArg List.length (hy.filter_lt n); have h3 := flat_len hx hy n; have h4 := lineRef_len hx hy n; rw [List.length_append] at h1 h2; rw [flatQ, List.length_append]; have e : (((n + 1 : Nat) : Int)) = (n : Int) + 1 := rfl; rw [e, h1, h2]
    omega
theorem flat_le {xs ys : List Mk} (hx : Asc xs) (hy : Asc ys) (n : Nat) : (flatQ xs ys n).length ≤ xs.length + ys.length :=
  Nat.le_trans (flat_len hx hy n) (Nat.add_le_add (List.length_filter_le _ _) (List.length_filter_le _ _))
theorem merge_two {p : List Str} {xs ys : List Mk} (hp : pageErr p = 0) (hx : marksErr p.length xs = 0) (hy : marksErr p.length ys = 0) (hl : xs.length + ys.length ≤ 12) (hc : ∀ k : Nat, k ≤ p.length → clashR xs ys k = false) : mergeP p xs ys = (flatQ xs ys (p.length + 1), 0) := by
  rw [merge_same, mergeR, if_neg (fun h => h hp), if_neg (fun h => h hx), if_neg (fun h => h hy), mergeQ_some (fun k hk => hc k (by omega))]; have := flat_le (marks_asc hx) (marks_asc hy) (p.length + 1)
  simp only
  rw [if_neg (by omega)]
theorem merge_clash {p : List Str} {xs ys : List Mk} {k : Nat} (hp : pageErr p = 0) (hx : marksErr p.length xs = 0) (hy : marksErr p.length ys = 0) (hk : k ≤ p.length) (hc : clashR xs ys k = true) : mergeP p xs ys = ([], 9) := by
  rw [merge_same, mergeR, if_neg (fun h => h hp), if_neg (fun h => h hx), if_neg (fun h => h hy), mergeQ_clash (k := k) (by omega) hc]
theorem clashR_comm (xs ys : List Mk) (k : Int) : clashR xs ys k = clashR ys xs k := by
  unfold clashR; exact decide_eq_decide.2 ⟨fun h => ⟨h.2.1, h.1, fun e => h.2.2 e.symm⟩, fun h => ⟨h.2.1, h.1, fun e => h.2.2 e.symm⟩⟩
theorem mem_flat {xs ys : List Mk} {m : Mk} : ∀ {n : Nat}, m ∈ flatQ xs ys n ↔ ∃ k : Nat, k < n ∧ m ∈ lineRef xs ys k
  | 0 => by simp [flatQ]
  | n + 1 => by
    rw [flatQ, List.mem_append, mem_flat]
    constructor
    · rintro (⟨k, hk, h⟩ | h)
      · exact ⟨k, by omega, h⟩
      · exact ⟨n, by omega, h⟩
    · rintro ⟨k, hk, h⟩
      by_cases e : k = n
      · subst e; exact .inr h
      · exact .inl ⟨k, by omega, h⟩
theorem mem_insM {xs : List Mk} {k : Int} {m : Mk} : m ∈ insM xs k ↔ m ∈ xs ∧ m.2.1 = k ∧ m.1 = 1 := by simp [insM]
theorem mem_othM {xs : List Mk} {k : Int} {m : Mk} : m ∈ othM xs k ↔ m ∈ xs ∧ m.2.1 = k ∧ m.1 ≠ 1 := by simp [othM]
theorem mem_moreR {ws vs : List Mk} {m : Mk} : m ∈ moreR ws vs ↔ m ∈ vs ∧ ¬ m ∈ ws := by simp [moreR]
theorem lineRef_sub {xs ys : List Mk} {k : Int} {m : Mk} (h : m ∈ lineRef xs ys k) : m ∈ xs ∨ m ∈ ys := by
  unfold lineRef lastR at h; simp only [List.mem_append] at h
  rcases h with (h | h) | h
  · exact .inl (mem_insM.1 h).1
  · exact .inr (mem_insM.1 (mem_moreR.1 h).1).1
  · split at h
    · exact .inr (mem_othM.1 h).1
    · exact .inl (mem_othM.1 h).1
theorem lineRef_x {xs ys : List Mk} {m : Mk} (h : m ∈ xs) : m ∈ lineRef xs ys m.2.1 := by
  unfold lineRef lastR; simp only [List.mem_append]
  by_cases e : m.1 = 1
  · exact .inl (.inl (mem_insM.2 ⟨h, rfl, e⟩))
  · have ho : m ∈ othM xs m.2.1 := mem_othM.2 ⟨h, rfl, e⟩
    rw [if_neg (fun h0 => by rw [List.eq_nil_of_length_eq_zero h0] at ho; cases ho)]; exact .inr ho
end Go.Proofs.Ytpfbbggmcbhboaa
end
section
namespace Go.Proofs.Ytpfbbggmcbhboaa
open Go Go.W
set_option maxRecDepth 20000
attribute [local irreducible] HL HC HQ HB Row Rows2 Blk Facts
theorem oth_single {xs : List Mk} (h : Asc xs) {k : Int} {m : Mk} (hm : m ∈ othM xs k) : othM xs k = [m] := by
  have h1 := othM_one h k
  match he : othM xs k with
  | [] => rw [he] at hm; cases hm
  | [a] =>
    rw [he] at hm
    rcases List.mem_cons.1 hm with rfl | hm
    · rfl
    · cases hm
  | a :: b :: l => rw [he] at h1; simp at h1
theorem lineRef_y {xs ys : List Mk} (hx : Asc xs) (hy : Asc ys) {m : Mk} (h : m ∈ ys) (hc : clashR xs ys m.2.1 = false) : m ∈ lineRef xs ys m.2.1 := by
  unfold lineRef lastR; simp only [List.mem_append]
  by_cases e : m.1 = 1
  · by_cases hi : m ∈ insM xs m.2.1
    · exact .inl (.inl hi)
    · exact .inl (.inr (mem_moreR.2 ⟨mem_insM.2 ⟨h, rfl, e⟩, hi⟩))
  · have ho : m ∈ othM ys m.2.1 := mem_othM.2 ⟨h, rfl, e⟩
    refine .inr ?_
    by_cases h0 : (othM xs m.2.1).length = 0
    · rw [if_pos h0]; exact ho
    · rw [if_neg h0]
      have hys := oth_single hy ho
      obtain ⟨m', hm'⟩ : ∃ m', m' ∈ othM xs m.2.1 := by
        cases hq : othM xs m.2.1 with
        | nil => rw [hq] at h0; simp at h0
        | cons a l => exact ⟨a, by simp⟩
      have hxs := oth_single hx hm'; have hc2 : ¬ (0 < (othM xs m.2.1).length ∧ 0 < (othM ys m.2.1).length ∧ ¬ (othM xs m.2.1).getD 0 default = (othM ys m.2.1).getD 0 default) := of_decide_eq_false hc; rw [hxs, hys] at hc2; have e2 : m' = m := Classical.byContradiction fun hne => hc2 ⟨by simp, by simp, hne⟩; rw [hxs, e2]; exact List.mem_cons_self ..
theorem clash_iff {xs ys : List Mk} (hx : Asc xs) (hy : Asc ys) (k : Int) : clashR xs ys k = true ↔ ∃ a ∈ xs, ∃ b ∈ ys, a.2.1 = k ∧ b.2.1 = k ∧ a.1 ≠ 1 ∧ b.1 ≠ 1 ∧ a ≠ b := by
  constructor
  · intro h
    obtain ⟨h1, h2, h3⟩ := of_decide_eq_true h; have ma : (othM xs k).getD 0 default ∈ othM xs k := getD_mem h1; have mb : (othM ys k).getD 0 default ∈ othM ys k := getD_mem h2; have a1 := mem_othM.1 ma; have b1 := mem_othM.1 mb; exact ⟨_, a1.1, _, b1.1, a1.2.1, b1.2.1, a1.2.2, b1.2.2, h3⟩
  · rintro ⟨a, ha, b, hb, e1, e2, n1, n2, hne⟩
    have ma := oth_single hx (mem_othM.2 ⟨ha, e1, n1⟩); have mb := oth_single hy (mem_othM.2 ⟨hb, e2, n2⟩); refine decide_eq_true ?_; rw [ma, mb]; exact ⟨by simp, by simp, hne⟩
def Apart (xs ys : List Mk) : Prop := ∀ a ∈ xs, ∀ b ∈ ys, a.2.1 ≠ b.2.1
theorem apart_line {xs ys : List Mk} (hx : Asc xs) (hy : Asc ys) (h : Apart xs ys) (k : Int) : lineRef xs ys k = (xs.filter fun m => decide (m.2.1 = k)) ++ (ys.filter fun m => decide (m.2.1 = k)) := by
  rw [← group_eq hx, ← group_eq hy]
  by_cases e : ∃ a ∈ xs, a.2.1 = k
  · obtain ⟨a, ha, hak⟩ := e
    have no : ∀ b ∈ ys, ¬ b.2.1 = k := fun b hb hbk => h a ha b hb (hak.trans hbk.symm); have z1 : insM ys k = [] := by unfold insM; rw [List.filter_eq_nil_iff]; intro b hb; simp [no b hb]
    have z2 : othM ys k = [] := by unfold othM; rw [List.filter_eq_nil_iff]; intro b hb; simp [no b hb]
    unfold lineRef lastR; rw [z1, z2]; have : moreR (insM xs k) [] = [] := rfl; rw [this]; simp only [List.append_nil]
    congr 1
    split
    · rename_i h0; exact (List.eq_nil_of_length_eq_zero h0).symm
    · rfl
  · have no : ∀ b ∈ xs, ¬ b.2.1 = k := fun b hb hbk => e ⟨b, hb, hbk⟩
    have z1 : insM xs k = [] := by unfold insM; rw [List.filter_eq_nil_iff]; intro b hb; simp [no b hb]
    have z2 : othM xs k = [] := by unfold othM; rw [List.filter_eq_nil_iff]; intro b hb; simp [no b hb]
    unfold lineRef lastR; rw [z1, z2]; have : moreR [] (insM ys k) = insM ys k := by unfold moreR; rw [List.filter_eq_self]; intro m _; simp
    rw [this]
    rfl
theorem Apart.symm {xs ys : List Mk} (h : Apart xs ys) : Apart ys xs := fun a ha b hb e => h b hb a ha e.symm
theorem apart_comm {xs ys : List Mk} (hx : Asc xs) (hy : Asc ys) (h : Apart xs ys) (k : Int) : lineRef xs ys k = lineRef ys xs k := by
  rw [apart_line hx hy h, apart_line hy hx h.symm]
  by_cases e : ∃ a ∈ xs, a.2.1 = k
  · obtain ⟨a, ha, hak⟩ := e
    have z : ys.filter (fun m => decide (m.2.1 = k)) = [] := by
      rw [List.filter_eq_nil_iff]; intro b hb; have := h a ha b hb; simp only [decide_eq_true_eq]; exact fun hbk => this (hak.trans hbk.symm)
    rw [z, List.append_nil, List.nil_append]
  · have z : xs.filter (fun m => decide (m.2.1 = k)) = [] := by
      rw [List.filter_eq_nil_iff]; intro b hb; simp only [decide_eq_true_eq]; exact fun hbk => e ⟨b, hb, hbk⟩
    rw [z, List.append_nil, List.nil_append]
theorem flat_comm {xs ys : List Mk} (hx : Asc xs) (hy : Asc ys) (h : Apart xs ys) : ∀ n, flatQ xs ys n = flatQ ys xs n
  | 0 => rfl
  | n + 1 => by rw [flatQ, flatQ, flat_comm hx hy h n, apart_comm hx hy h]
theorem flat_apart {xs ys : List Mk} (hx : Asc xs) (hy : Asc ys) (h : Apart xs ys) (hx0 : ∀ m ∈ xs, 0 ≤ m.2.1) (hy0 : ∀ m ∈ ys, 0 ≤ m.2.1) : ∀ n : Nat, (flatQ xs ys n).length = (xs.filter fun m => decide (m.2.1 < (n : Int))).length + (ys.filter fun m => decide (m.2.1 < (n : Int))).length
  | 0 => by
    have z : ∀ {zs : List Mk}, (∀ m ∈ zs, 0 ≤ m.2.1) → zs.filter (fun m => decide (m.2.1 < ((0 : Nat) : Int))) = [] := fun hz => by
      rw [List.filter_eq_nil_iff]; intro b hb; have := hz b hb
      simp; omega
    rw [z hx0, z hy0]
    rfl
  | n + 1 => by
    have h1 := congrArg List.length (hx.filter_lt n); have h2 := congrArg List.length (hy.filter_lt n); rw [List.length_append] at h1 h2; rw [flatQ, List.length_append, flat_apart hx hy h hx0 hy0 n, apart_line hx hy h, List.length_append]; have e : (((n + 1 : Nat) : Int)) = (n : Int) + 1 := rfl; rw [e, h1, h2]
    omega
theorem flat_apart_all {xs ys : List Mk} {n : Nat} (hx : Asc xs) (hy : Asc ys) (h : Apart xs ys) (vx : MV n xs) (vy : MV n ys) : (flatQ xs ys (n + 1)).length = xs.length + ys.length := by
  have all : ∀ {zs : List Mk}, MV n zs → zs.filter (fun m => decide (m.2.1 < ((n + 1 : Nat) : Int))) = zs := fun hz => by
    rw [List.filter_eq_self]; intro m hm; have := (hz m hm).2.2.2.1
    simp; omega
  rw [flat_apart hx hy h (fun m hm => (vx m hm).2.2.1) (fun m hm => (vy m hm).2.2.1), all vx, all vy]
theorem asc_append {a b : List Mk} (ha : Asc a) (hb : Asc b) (h : ∀ x ∈ a, ∀ y ∈ b, x.2.1 < y.2.1 ∨ (x.2.1 = y.2.1 ∧ x.1 = 1)) : Asc (a ++ b) := by
  induction a with
  | nil => exact hb
  | cons m a ih =>
    refine ⟨fun y hy => ?_, ih ha.2 fun x hx => h x (List.mem_cons_of_mem _ hx)⟩
    rcases List.mem_append.1 hy with hy | hy
    · exact ha.1 y hy
    · exact h m (List.mem_cons_self ..) y hy
theorem line_of {xs ys : List Mk} {k : Int} {m : Mk} (h : m ∈ lineRef xs ys k) : m.2.1 = k := by
  unfold lineRef lastR at h; simp only [List.mem_append] at h
  rcases h with (h | h) | h
  · exact (mem_insM.1 h).2.1
  · exact (mem_insM.1 (mem_moreR.1 h).1).2.1
  · split at h
    · exact (mem_othM.1 h).2.1
    · exact (mem_othM.1 h).2.1
theorem lineRef_asc {xs ys : List Mk} (hx : Asc xs) (hy : Asc ys) (k : Int) : Asc (lineRef xs ys k) := by
  have hl : Asc (lastR xs ys k) := by
    unfold lastR
    split
    · exact hy.filter _
    · exact hx.filter _
  have ll : ∀ m ∈ lastR xs ys k, m.2.1 = k := fun m hm => by
    unfold lastR at hm
    split at hm
    · exact (mem_othM.1 hm).2.1
    · exact (mem_othM.1 hm).2.1
  refine asc_append (asc_append (hx.filter _) ((hy.filter _).filter _) fun x h1 y h2 => ?_) hl fun x h1 y h2 => ?_
  · have a1 := mem_insM.1 h1
    have a2 := mem_insM.1 (mem_moreR.1 h2).1; exact .inr ⟨a1.2.1.trans a2.2.1.symm, a1.2.2⟩
  · rcases List.mem_append.1 h1 with h1 | h1
    · have a1 := mem_insM.1 h1
      exact .inr ⟨a1.2.1.trans (ll y h2).symm, a1.2.2⟩
    · have a1 := mem_insM.1 (mem_moreR.1 h1).1
      exact .inr ⟨a1.2.1.trans (ll y h2).symm, a1.2.2⟩
theorem flat_asc {xs ys : List Mk} (hx : Asc xs) (hy : Asc ys) : ∀ n, Asc (flatQ xs ys n)
  | 0 => trivial
  | n + 1 => by
    refine asc_append (flat_asc hx hy n) (lineRef_asc hx hy n) fun x h1 y h2 => ?_; obtain ⟨k, hk, h⟩ := mem_flat.1 h1; have a1 := line_of h; have a2 := line_of h2; exact .inl (by omega)
theorem flat_sub {xs ys : List Mk} {n : Nat} {m : Mk} (h : m ∈ flatQ xs ys n) : m ∈ xs ∨ m ∈ ys := by
  obtain ⟨k, _, h⟩ := mem_flat.1 h; exact lineRef_sub h
theorem asc_ch : ∀ {l : List Mk}, Asc l → ∀ k, k + 1 < l.length → (l.getD k default).2.1 < (l.getD (k + 1) default).2.1 ∨ ((l.getD k default).2.1 = (l.getD (k + 1) default).2.1 ∧ (l.getD k default).1 = 1)
  | [], _, k, h => by simp at h
  | m :: l, hA, 0, h => hA.1 _ (getD_mem (by simpa using h))
  | m :: l, hA, k + 1, h => asc_ch hA.2 k (by simpa using h)
end Go.Proofs.Ytpfbbggmcbhboaa
end
section
namespace Go.Proofs.Ytpfbbggmcbhboaa
open Go Go.W
set_option maxRecDepth 20000
attribute [local irreducible] HL HC HQ HB Row Rows2 Blk Facts
theorem law07_has_meets {A : Option Addr} {c : Nat} (l : List Mk) (m : Mk) (hl : l.length ≤ 1000000) :
    Meets Try.prog F.law07_has [.slice A l.length c, .agg #[int m.1, int m.2.1, str m.2.2]] { LI := [Row A (rows l)], val := fun _ : Unit => .bool (decide (m ∈ l)) } := by
 refine meets_intro F.law07_has_f rfl (Nat.le_of_ble_eq_true rfl) fun w0 => ?_; refine hc_seq (hc_region ?_); refine r_box rfl rfl fun gA => ?_; refine r_assign rfl rfl (hl_nil (then_n (hc_seq (hc_seq (hc_region (r_assign rfl rfl (hl_nil (then_n (hc_block ?_))))))))); refine hc_loop (β := Nat) ⟨fun k => k ≤ l.length ∧ ¬ m ∈ l.take k, fun k => [(0, .slice A l.length c), (3, .pointer (some ⟨gA, 0, none⟩)), (5, int (k : Nat))], fun _ => [(gA, .cells #[int m.1, int m.2.1, str m.2.2] T.api_Mark (0, 0))], fun _ => [Row A (rows l)]⟩ (fun k => l.length - k) 0 ⟨Nat.zero_le _, by simp⟩ ⟨rfl, rfl, rfl, trivial⟩ (.refl _) ⟨m0, trivial⟩ fun k hk => ?_; obtain ⟨hk, hn⟩ := hk; refine hc_seq (hc_seq (hc_region (r_move rfl rfl (r_move rfl rfl ?_)))); refine r_len_sl rfl T.u_L_api_Mark rfl ?_; refine r_lss rfl rfl rfl (hl_nil (then_n ?_))
 first | refine c_dec rfl (fun hb1 => ?_) (fun hb1 => ?_) | refine hc_cond rfl (fun hb1 => ?_) (fun hb1 => ?_)
 ·have hb1' := hb1; try simp at hb1'
  have hk2 : k < l.length := by omega
  refine hc_skip (then_n (hc_seq (hc_block (hc_seq ?_)))); refine hc_draw 5 mixed (by decide) (by decide) rfl rfl ?_; refine hb_ex _ rfl rfl rfl (fun w1 => r_move rfl rfl (hl_nil (qe_done rfl))) ?_; refine hb_ex _ rfl rfl rfl (fun w1 => r_move rfl rfl (hl_nil (qe_done rfl))) ?_; refine hb_ex _ rfl rfl rfl (fun w1 => r_elem (α := Mk) _ _ rfl T.u_L_api_Mark T.sz_api_Mark rfl rfl rfl mB rfl (by omega) (by decide) (hl_nil (qe_done rfl))) ?_; refine hb_ex _ rfl rfl rfl (fun w1 => r_loadS rfl T.row_api_Mark T.sz_api_Mark rfl rfl (cells_row mB (rows_all (by omega))) (hl_nil (qe_done rfl))) ?_
  apply hb_ex _ rfl rfl rfl
  ·intro w1
   first | refine r_loadA rfl T.row_api_Mark T.sz_api_Mark rfl mB (by rfl) ?_ | refine r_loadB rfl T.row_api_Mark T.sz_api_Mark rfl mB (by rfl) ?_ | refine r_loadS rfl T.row_api_Mark T.sz_api_Mark rfl rfl (cells_row mB (rows_all (by omega))) ?_
   refine hl_nil ?_; exact qe_done rfl
  refine hb_nil ⟨rfl, ?_⟩; refine r_bin _ rfl rfl rfl (fun _ => T.eqg_api_Mark ..) (fun _ => T.eql_api_Mark ..) ?_; refine hl_nil (then_n ?_)
  first | refine c_dec rfl (fun hb2 => ?_) (fun hb2 => ?_) | refine hc_cond rfl (fun hb2 => ?_) (fun hb2 => ?_)
  ·have hb2' := hb2; try simp at hb2'
   refine hc_seq (hc_region (r_assign rfl rfl (hl_nil (then_n (hc_ret (inb_ret (then_ret (then_ret (inb_ret (then_ret ?_))))))))))
   have hin : m ∈ l := by
     have e : l.getD k default = m := by first | exact hb2 | simpa using hb2
     rw [← e]; exact getD_mem hk2
   exact ret1 () rfl (congrArg (fun b => some (Value.bool b)) (decide_eq_true hin).symm) rfl trivial (List.nil_sublist _) trivial
  ·have hb2' := hb2; try simp at hb2'
   refine hc_skip (inb_n (then_n (hc_region (r_move rfl rfl ?_)))); refine r_add _ rfl rfl rfl rfl (by unfold I64; omega) ?_; refine r_assign rfl rfl (hl_nil ?_)
   have hn2 : ¬ m ∈ l.take (k + 1) := by
     rw [take_succ_getD l k hk2, List.mem_append]; rintro (h | h)
     · exact hn h
     · exact hb2 (List.mem_singleton.1 h).symm
   exact again _ (k + 1) ⟨by omega, hn2⟩ (by show l.length - (k + 1) < l.length - k; omega) ⟨rfl, rfl, rfl, trivial⟩ (.refl _) ⟨m0, trivial⟩
 ·have hb1' := hb1; try simp at hb1'
  have hk2 : k = l.length := by omega
  subst hk2; rw [List.take_length] at hn; refine hc_exit (then_exit (then_exit (inb_hit (then_n (hc_seq (hc_region (r_assign rfl rfl (hl_nil (then_n (hc_ret ?_)))))))))); exact ret1 () rfl (congrArg (fun b => some (Value.bool b)) (decide_eq_false hn).symm) rfl trivial (List.nil_sublist _) trivial
end Go.Proofs.Ytpfbbggmcbhboaa
end
section
namespace Go.Proofs.Ytpfbbggmcbhboaa
open Go Go.W
set_option maxRecDepth 20000
attribute [local irreducible] HL HC HQ HB Row Rows2 Blk Facts
theorem words_ok : ∀ s ∈ lineWords, lineErr s = 0 := by decide +kernel
theorem firstErr_all {α : Type} {f : α → Int} : ∀ {l : List α}, (∀ a ∈ l, f a = 0) → firstErr f l = 0
  | [], _ => rfl
  | a :: l, h => by rw [firstErr, if_pos (h a (by simp))]; exact firstErr_all fun b hb => h b (by simp [hb])
theorem page_lines {p : List Str} (h : PageOK p) : ∀ s ∈ p, lineErr s = 0 := fun s hs => words_ok s (h s hs)
theorem page_ok {p : List Str} (h : PageOK p) (h6 : p.length ≤ 6) : pageErr p = 0 := by
  rw [pageErr, if_neg (by omega)]; exact firstErr_all (page_lines h)
/-! ### The marks of a diff -/
def finP (old : List Str) (st : List Str × Nat) : List Str := st.1 ++ old.drop st.2
structure DM (old page : List Str) (i j : Nat) (l : List Mk) : Prop where
  v : ∀ m ∈ l, (i : Int) ≤ m.2.1 ∧ m.2.1 ≤ old.length ∧ 1 ≤ m.1 ∧ m.1 ≤ 3 ∧ (m.1 = 1 ∨ m.2.1 < old.length) ∧ textErr m = 0
  a : Asc l
  f : ∀ nx, nx ≤ i → ∀ ls, finP old (l.foldl (stepP old) (ls, nx)) = ls ++ (old.take i).drop nx ++ page.drop j
/-! ### A page with itself -/
end Go.Proofs.Ytpfbbggmcbhboaa
end
section
namespace Go.Proofs.Ytpfbbggmcbhboaa
open Go Go.W
set_option maxRecDepth 20000
attribute [local irreducible] HL HC HQ HB Row Rows2 Blk Facts
def longP (p : List Str) : Bool := (p.any fun s => decide (30 < s.length)) || decide (20 < p.length)
def manyP (l : List Mk) : Bool := (l.any fun m => decide (30 < m.2.2.length)) || decide (20 < l.length)
def oldP (ys : List (List Str)) : Bool := (ys.any longP) || decide (20 < ys.length)
abbrev CapOK (ps : List (Sl Str)) : Prop := ∀ p ∈ ps, p.l.length ≤ p.c
theorem CapOK.snoc {ps : List (Sl Str)} {p : Sl Str} (h : CapOK ps) (hp : p.l.length ≤ p.c) : CapOK (ps ++ [p]) := fun q hq => by
  rcases List.mem_append.1 hq with hq | hq
  · exact h q hq
  · simp at hq; subst hq; exact hp
end Go.Proofs.Ytpfbbggmcbhboaa
end
section
namespace Go.Proofs.Ytpfbbggmcbhboaa
open Go Go.W
set_option maxRecDepth 20000
attribute [local irreducible] HL HC HQ HB Row Rows2 Blk Facts
def stepC (b : List Str) (x : Str) (st : List Int × Int) (k : Nat) : List Int × Int :=
  (st.1.set (k + 1) (if x = b.getD k default then st.2 + 1 else if st.1.getD k default > st.1.getD (k + 1) default then st.1.getD k default else st.1.getD (k + 1) default), st.1.getD (k + 1) default)
def rowC (b : List Str) (cur : List Int) (x : Str) : List Int := ((List.range b.length).foldl (stepC b x) (cur, 0)).1
def zeroC (b : List Str) : List Int := List.replicate (b.length + 1) 0
def commonI (a b : List Str) : Int := (a.foldl (rowC b) (zeroC b)).getD b.length default
structure BdC (m i k : Nat) (st : List Int × Int) : Prop where
  len : st.1.length = m + 1
  c0 : 0 ≤ st.2
  c1 : st.2 ≤ i
  lo : ∀ j : Nat, 0 ≤ st.1.getD j default
  hi : ∀ j : Nat, j ≤ k → st.1.getD j default ≤ (i : Int) + 1
  hi2 : ∀ j : Nat, k < j → st.1.getD j default ≤ i
theorem getD_set' {l : List Int} {k j : Nat} {v : Int} (hk : k < l.length) : (l.set k v).getD j default = if k = j then v else l.getD j default := by
  rw [List.getD_eq_getElem?_getD, List.getD_eq_getElem?_getD, List.getElem?_set]
  split
  · rfl
  · rfl
theorem BdC.step {m i k : Nat} {st : List Int × Int} (h : BdC m i k st) (b : List Str) (x : Str) (hk : k < m) : BdC m i (k + 1) (stepC b x st k) := by
  have hl : k + 1 < st.1.length := by rw [h.len]; omega
  have h1 := h.lo k; have h2 := h.hi k (Nat.le_refl _); have h3 := h.lo (k + 1); have h4 := h.hi2 (k + 1) (by omega); have h5 := h.c0; have h6 := h.c1; refine ⟨by simp [stepC, h.len], h3, h4, fun j => ?_, fun j hj => ?_, fun j hj => ?_⟩
  · show 0 ≤ (st.1.set (k + 1) _).getD j default
    rw [getD_set' hl]
    split
    · split
      · omega
      · split <;> omega
    · exact h.lo j
  · show (st.1.set (k + 1) _).getD j default ≤ _
    rw [getD_set' hl]
    split
    · split
      · omega
      · split <;> omega
    · exact h.hi j (by omega)
  · show (st.1.set (k + 1) _).getD j default ≤ _
    rw [getD_set' hl, if_neg (by omega)]; exact h.hi2 j (by omega)
def arrB (g : Nat) (l : List Int) : Nat × Obj := (g, .cells (rows l).toArray T.int (0, 0))
end Go.Proofs.Ytpfbbggmcbhboaa
end
section
namespace Go.Proofs.Ytpfbbggmcbhboaa
open Go Go.W
set_option maxRecDepth 20000
attribute [local irreducible] HL HC HQ HB Row Rows2 Blk Facts
def seed0 : Int × Int := (0, 11400714819323198485)
theorem dok0 (nums : List Int) : DOK nums seed0 := ⟨by decide, by simp [seed0], by decide, by decide⟩
abbrev Pg := Sl Str
abbrev Mg := Sl Mk
end Go.Proofs.Ytpfbbggmcbhboaa
end
section
namespace Go.Proofs.Ytpfbbggmcbhboaa
open Go Go.W
set_option maxRecDepth 20000
attribute [local irreducible] HL HC HQ HB Row Rows2 Blk Facts
theorem marks_ok2 {n : Nat} {l : List Mk} (h : MarksOK n l) (hl : l.length ≤ 12) : marksErr n l = 0 := by
  rw [marksErr, if_neg (by omega)]; refine firstErr_all fun k hk => ?_; have hk := List.mem_range.1 hk; have hm := getD_mem hk; have hv := h.v _ hm
  have ht : textErr (l.getD k default) = 0 := by
    rcases h.t _ hm with ⟨h1, h2⟩ | ⟨h1, h2⟩
    · rw [textErr, if_neg (not_not_intro h1), if_neg (not_not_intro h2)]
    · rw [textErr, if_pos h1]; exact words_ok _ h2
  have hn : ¬ k = 0 → okNext (l.getD (k - 1) default) (l.getD k default) := fun h0 => by
    have := h.ch (k - 1) (by omega)
    rwa [Nat.sub_add_cancel (by omega)] at this
  unfold markErr mErr; unfold okNext at hn; generalize l.getD k default = m at *; generalize l.getD (k - 1) default = b at *; rw [if_neg (by omega), if_neg (by split <;> omega), if_neg (by simp [ht])]
  split
  · rfl
  · rename_i h0
    have := hn h0; rw [if_neg (by omega), if_pos (by omega)]
def apA (b : List Mk) (x : Mk) : Bool := b.all fun y => decide (¬ x.2.1 = y.2.1)
def clA (b : List Mk) (x : Mk) : Bool := b.any fun y => ((decide (x.2.1 = y.2.1) && decide (¬ x.1 = 1)) && decide (¬ y.1 = 1)) && decide (¬ x = y)
def apF (a b : List Mk) : Bool := a.all (apA b)
def clF (a b : List Mk) : Bool := a.any (clA b)
def apK (a b : List Mk) (i k : Nat) : Bool := apF (a.take i) b && apA (b.take k) (a.getD i default)
def clK (a b : List Mk) (i k : Nat) : Bool := clF (a.take i) b || clA (b.take k) (a.getD i default)
theorem apF_is {a b : List Mk} : apF a b = true ↔ Apart a b := by
  unfold apF apA Apart; simp only [List.all_eq_true, decide_eq_true_eq, ne_eq]
theorem clF_is {a b : List Mk} : clF a b = true ↔ ∃ x ∈ a, ∃ y ∈ b, x.2.1 = y.2.1 ∧ x.1 ≠ 1 ∧ y.1 ≠ 1 ∧ x ≠ y := by
  unfold clF clA; simp only [List.any_eq_true, Bool.and_eq_true, decide_eq_true_eq, and_assoc, ne_eq]
theorem apF_succ {a : List Mk} (b : List Mk) {i : Nat} (h : i < a.length) : apF (a.take (i + 1)) b = (apF (a.take i) b && apA b (a.getD i default)) := by
  rw [take_succ_getD a i h]; unfold apF; rw [List.all_append]; simp only [List.all_cons, List.all_nil, Bool.and_true]
theorem clF_succ {a : List Mk} (b : List Mk) {i : Nat} (h : i < a.length) : clF (a.take (i + 1)) b = (clF (a.take i) b || clA b (a.getD i default)) := by
  rw [take_succ_getD a i h]; unfold clF; rw [List.any_append]; simp only [List.any_cons, List.any_nil, Bool.or_false]
theorem apK_succ (a : List Mk) {b : List Mk} (i : Nat) {k : Nat} (h : k < b.length) : apK a b i (k + 1) = (apK a b i k && decide (¬ (a.getD i default).2.1 = (b.getD k default).2.1)) := by
  unfold apK; rw [take_succ_getD b k h]; unfold apA; rw [List.all_append]; simp only [List.all_cons, List.all_nil, Bool.and_true, Bool.and_assoc]
theorem clK_succ (a : List Mk) {b : List Mk} (i : Nat) {k : Nat} (h : k < b.length) : clK a b i (k + 1) = (clK a b i k || (((decide ((a.getD i default).2.1 = (b.getD k default).2.1) && decide (¬ (a.getD i default).1 = 1)) && decide (¬ (b.getD k default).1 = 1)) && decide (¬ a.getD i default = b.getD k default))) := by
  unfold clK; rw [take_succ_getD b k h]; unfold clA; rw [List.any_append]; simp only [List.any_cons, List.any_nil, Bool.or_false, Bool.or_assoc]
theorem apK_end {a : List Mk} (b : List Mk) {i : Nat} (h : i < a.length) : apK a b i b.length = apF (a.take (i + 1)) b := by
  unfold apK; rw [List.take_length, apF_succ b h]
theorem clK_end {a : List Mk} (b : List Mk) {i : Nat} (h : i < a.length) : clK a b i b.length = clF (a.take (i + 1)) b := by
  unfold clK; rw [List.take_length, clF_succ b h]
theorem apK_zero (a b : List Mk) (i : Nat) : apF (a.take i) b = apK a b i 0 := by unfold apK; rw [List.take_zero]; unfold apA; simp
theorem clK_zero (a b : List Mk) (i : Nat) : clF (a.take i) b = clK a b i 0 := by unfold clK; rw [List.take_zero]; unfold clA; simp
theorem flat_lines {xs ys us vs : List Mk} (h : ∀ k : Nat, lineRef xs ys k = lineRef us vs k) : ∀ n, flatQ xs ys n = flatQ us vs n
  | 0 => rfl
  | n + 1 => by rw [flatQ, flatQ, flat_lines h n, h n]
theorem merge_nil {p : List Str} {a : List Mk} (hp : pageErr p = 0) (ha : MarksOK p.length a) (hl : a.length ≤ 12) : mergeP p a [] = (a, 0) ∧ mergeP p [] a = (a, 0) ∧ mergeP p a a = (a, 0) := by
  have e0 : marksErr p.length [] = 0 := marks_ok2 (.nil _) (by simp); have ea := marks_ok2 ha hl; have hA := marks_asc ea; have hf := flat_all hA ha.v fun k => lineRef_r a k; refine ⟨merge_one hp ea e0 ea (fun k => clashR_r a k) hf, merge_one hp e0 ea ea (fun k => clashR_l a k) ?_, merge_one hp ea ea ea (fun k => clashR_same a k) (flat_all hA ha.v fun k => lineRef_same a k)⟩; rw [flat_lines (us := a) (vs := []) fun k => (lineRef_l a k).trans (lineRef_r a k).symm]; exact hf
theorem merged_clash {p : List Str} {a b : List Mk} (hp : pageErr p = 0) (ha : MarksOK p.length a) (hb : MarksOK p.length b) (hla : a.length ≤ 6) (hlb : b.length ≤ 6) (hc : clF a b = true) : mergeP p a b = ([], 9) ∧ mergeP p b a = ([], 9) := by
  have ea := marks_ok2 ha (by omega); have eb := marks_ok2 hb (by omega); obtain ⟨x, hx, y, hy, e, n1, n2, hne⟩ := clF_is.1 hc; have hv := ha.v x hx; have hk : (x.2.1.toNat : Int) = x.2.1 := by omega
  have h1 : clashR a b (x.2.1.toNat : Nat) = true := (clash_iff (marks_asc ea) (marks_asc eb) _).2 ⟨x, hx, y, hy, hk.symm, by omega, n1, n2, hne⟩; exact ⟨merge_clash (k := x.2.1.toNat) hp ea eb (by omega) h1, merge_clash (k := x.2.1.toNat) hp eb ea (by omega) (by rw [clashR_comm]; exact h1)⟩
structure MergedOK (p : List Str) (a b l m : List Mk) : Prop where
  el : mergeP p a b = (l, 0)
  em : mergeP p b a = (m, 0)
  len : l.length ≤ a.length + b.length
  lem : m.length ≤ a.length + b.length
  ap : apF a b = true → l.length = a.length + b.length ∧ l = m
  al : ∀ x ∈ a, x ∈ l
  am : ∀ x ∈ a, x ∈ m
  bl : ∀ x ∈ b, x ∈ l
  bm : ∀ x ∈ b, x ∈ m
  no : ∀ x ∈ l, x ∈ a ∨ x ∈ b
  ck : checkErr p l = 0
theorem merged_ok {p : List Str} {a b : List Mk} (hp : pageErr p = 0) (ha : MarksOK p.length a) (hb : MarksOK p.length b) (hla : a.length ≤ 6) (hlb : b.length ≤ 6) (hc : clF a b = false) : ∃ l m, MergedOK p a b l m := by
  have ea := marks_ok2 ha (by omega); have eb := marks_ok2 hb (by omega); have hA := marks_asc ea; have hB := marks_asc eb
  have no : ∀ k : Int, clashR a b k = false := fun k => by
    cases h : clashR a b k with
    | false => rfl
    | true =>
      obtain ⟨x, hx, y, hy, e1, e2, n1, n2, hne⟩ := (clash_iff hA hB k).1 h; rw [clF_is.2 ⟨x, hx, y, hy, by omega, n1, n2, hne⟩] at hc
      cases hc
  have no2 : ∀ k : Int, clashR b a k = false := fun k => by rw [clashR_comm]; exact no k
  have hin : ∀ {xs ys : List Mk} {x : Mk}, (0 ≤ x.2.1 ∧ x.2.1 ≤ p.length) → x ∈ lineRef xs ys x.2.1 → x ∈ flatQ xs ys (p.length + 1) := fun {xs ys x} h hl => mem_flat.2 ⟨x.2.1.toNat, by omega, by rw [Int.toNat_of_nonneg h.1]; exact hl⟩; have hva : ∀ x ∈ a, 0 ≤ x.2.1 ∧ x.2.1 ≤ p.length := fun x hx => ⟨(ha.v x hx).2.2.1, (ha.v x hx).2.2.2.1⟩; have hvb : ∀ x ∈ b, 0 ≤ x.2.1 ∧ x.2.1 ≤ p.length := fun x hx => ⟨(hb.v x hx).2.2.1, (hb.v x hx).2.2.2.1⟩; have hlen := flat_le hA hB (p.length + 1); have hok : MarksOK p.length (flatQ a b (p.length + 1)) := ⟨fun k hk => asc_ch (flat_asc hA hB _) k hk, fun m hm => (flat_sub hm).elim (ha.v m) (hb.v m), fun m hm => (flat_sub hm).elim (ha.t m) (hb.t m)⟩; refine ⟨flatQ a b (p.length + 1), flatQ b a (p.length + 1), merge_two hp ea eb (by omega) fun k _ => no k, merge_two hp eb ea (by omega) fun k _ => no2 k, hlen, by have := flat_le hB hA (p.length + 1); omega, fun h => ?_, fun x hx => hin (hva x hx) (lineRef_x hx), fun x hx => hin (hva x hx) (lineRef_y hB hA hx (no2 _)), fun x hx => hin (hvb x hx) (lineRef_y hA hB hx (no _)), fun x hx => hin (hvb x hx) (lineRef_x hx), fun x hx => flat_sub hx, ?_⟩
  · have hap := apF_is.1 h
    exact ⟨flat_apart_all hA hB hap ha.v hb.v, flat_comm hA hB hap _⟩
  · rw [checkErr, if_pos hp]
    exact marks_ok2 hok (by omega)
end Go.Proofs.Ytpfbbggmcbhboaa
end
