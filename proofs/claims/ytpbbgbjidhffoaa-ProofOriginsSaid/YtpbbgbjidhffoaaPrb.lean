/- The walk of the statement ProofSteps. -/
import Derived.Test.YtpbbgbjidhffoaaPl
import Derived.Test.YtpbbgbjidhffoaaPqb
import Derived.Test.YtpbbgbjidhffoaaPra
namespace Go.Proofs.Ytpbbgbjidhffoaa
open Go Go.W
set_option linter.unusedVariables false
set_option linter.unusedSimpArgs false
set_option maxRecDepth 20000
attribute [local irreducible] HL HC HQ HB Row Rows2 Blk Facts

theorem growF_len {n : Nat} {p : List Int → Bool} : ∀ (d : Nat) (done l : List Int), growF n p d done = some l → l.length = done.length + d
  | 0, done, l, h => by
    rw [growF] at h
    split at h
    · cases h; rfl
    · cases h
  | d + 1, done, l, h => by
    rw [growF] at h
    obtain ⟨i, _, hi⟩ := List.exists_of_findSome?_eq_some h
    split at hi
    · cases hi
    · have := growF_len d _ l hi
      rw [this, List.length_append]; simp; omega
theorem stepsP_len (p : List Str) (l : List Mk) (most : Int) : (stepsP p l most).1.length ≤ l.length := by
  unfold stepsP
  split
  · simp
  · split
    · simp
    · split
      · simp
      · split
        · simp
        · cases h : growF l.length (orderOK l most p.length) l.length [] with
          | none => simp
          | some o => have := growF_len _ _ _ h; simp at this; simp [this]
/-- A list of lists of marks that is given: each somewhere. -/
abbrev Mg := Sl Mk


set_option maxHeartbeats 2000000 in
theorem law07_ProofSteps_meets {A M N : Option Addr} {ca cm cn : Nat} (a : List Str) (ms : List Mk) (most : Int) (nums : List Int) (ha : a.length ≤ 9223372036854775807) (hm : ms.length ≤ 9223372036854775807) (hn : nums.length ≤ 9223372036854775807) :
    Meets Try.prog F.law07_ProofSteps [.slice A a.length ca, .slice M ms.length cm, int most, .slice N nums.length cn] { LI := [Row A (rows a), Row M (rows ms), Row N (rows nums)], val := fun _ : Unit => .bool true } := by
  refine meets_intro F.law07_ProofSteps_f rfl (Nat.le_of_ble_eq_true rfl) fun w0 => ?_
  refine hc_seq ?_
  refine hc_region ?_
  refine r_assign rfl rfl ?_
  refine hl_nil ?_
  refine then_n ?_
  refine hc_cut ⟨fun _ : Unit => a.length ≤ 20 ∧ ms.length ≤ 20, fun _ => [(0, .slice A a.length ca), (1, .slice M ms.length cm), (2, int most), (3, .slice N nums.length cn)], fun _ => [], fun _ => [Row A (rows a), Row M (rows ms), Row N (rows nums)]⟩ ?_ ?_
  · skip
    refine hc_seq ?_
    refine hc_region ?_
    refine r_move rfl rfl ?_
    refine hl_call F.law07_long_cb rfl rfl (law07_long_meets a ha) (List.Perm.refl _) ⟨m0, trivial⟩ fun _ _ => ?_
    refine r_move rfl rfl ?_
    refine g_split rfl rfl ?_ ?_
    · intro hg1; have hg1' := hg1; try simp at hg1'
      have hla := longP_false (bf1 hg1)
      refine g_yes rfl rfl (by first | rfl | assumption | exact gy (by assumption) | exact gy2 (by assumption)) ?_
      refine r_move rfl rfl ?_
      refine g_yes rfl rfl (by first | rfl | assumption | exact gy (by assumption) | exact gy2 (by assumption)) ?_
      refine hl_call F.law07_many_cb rfl rfl (law07_many_meets ms hm) (List.Perm.refl _) ⟨m1, trivial⟩ fun _ _ => ?_
      refine p_f rfl rfl (by first | rfl | assumption | exact bf1 (by assumption) | exact bf2 (by assumption)) rfl ?_
      refine hl_nil ?_
      refine then_n ?_
      first | refine c_dec rfl (fun hb1 => ?_) (fun hb1 => ?_) | refine hc_cond rfl (fun hb1 => ?_) (fun hb1 => ?_)
      · have hb1' := hb1; try simp at hb1'
        refine hc_seq ?_
        refine hc_region ?_
        refine hl_call F.law07_correcting_cb rfl rfl (law07_correcting_meets) (List.Perm.refl _) trivial fun _ _ => ?_
        refine r_assign rfl rfl ?_
        refine hl_nil ?_
        refine then_n ?_
        refine hc_ret ?_
        refine then_ret ?_
        exact ret1 () rfl rfl rfl trivial (List.nil_sublist _) trivial
      · have hb1' := hb1; try simp at hb1'
        have hmm0 := manyP_false hb1
        refine hc_skip ?_
        exact cut_n _ () ⟨hla.1, hmm0⟩ ⟨rfl, rfl, rfl, rfl, trivial⟩ (.refl _) ⟨m0, m1, m2, trivial⟩
    · intro hg1; have hg1' := hg1; try simp at hg1'
      refine g_no rfl rfl rfl rfl rfl (by first | rfl | assumption | exact gn (by assumption) | exact gn2 (by assumption)) ?_
      refine g_no rfl rfl rfl rfl rfl (by first | rfl | assumption | exact gn (by assumption) | exact gn2 (by assumption)) ?_
      refine p_t rfl rfl (by first | rfl | assumption | exact bt1 (by assumption) | exact bt2 (by assumption)) rfl ?_
      refine hl_nil ?_
      refine then_n ?_
      refine c_t rfl (by first | rfl | assumption | exact bt1 (by assumption) | exact bt2 (by assumption)) ?_
      refine hc_seq ?_
      refine hc_region ?_
      refine hl_call F.law07_correcting_cb rfl rfl (law07_correcting_meets) (List.Perm.refl _) trivial fun _ _ => ?_
      refine r_assign rfl rfl ?_
      refine hl_nil ?_
      refine then_n ?_
      refine hc_ret ?_
      refine then_ret ?_
      exact ret1 () rfl rfl rfl trivial (List.nil_sublist _) trivial
  · intro _ hlen
    obtain ⟨ha2, hm2⟩ := hlen
    refine hc_seq ?_
    refine hc_region ?_
    refine r_move rfl rfl ?_
    refine hl_call F.kit_NewDice_cb rfl rfl (kit_NewDice_meets nums) (List.Perm.refl _) ⟨m2, trivial⟩ fun gd _ => ?_
    refine r_assign rfl rfl ?_
    refine hl_nil ?_
    refine then_n ?_
    refine hc_seq ?_
    refine hc_region ?_
    refine r_move rfl rfl ?_
    refine hl_call F.kit_PageOf_cb rfl rfl (kit_PageOf_meets 6 hn (dok0 nums) (by omega)) (.refl _) ⟨m2, trivial⟩ fun r hr => ?_
    obtain ⟨s1, x, ox⟩ := r
    obtain ⟨hs1, hx4, _, hxc⟩ := hr
    simp only at hx4 hxc
    refine r_assign rfl rfl ?_
    refine hl_nil ?_
    refine then_n ?_
    refine hc_seq ?_
    refine hc_region ?_
    refine r_move rfl rfl ?_
    refine r_move rfl rfl ?_
    refine r_move rfl rfl ?_
    refine r_buildSlice _ rfl rfl (fun _ => T.bs_pages_3 ..) fun g50 => ?_
    refine r_move rfl rfl ?_
    refine r_move rfl rfl ?_
    refine r_move rfl rfl ?_
    refine r_len_sl rfl T.u_strs rfl ?_
    refine hl_call F.kit_MarksOf_cb rfl rfl (kit_MarksOf_meets x.length 5 hn hs1 (by omega)) (.swap _ _ _) ⟨m3, trivial⟩ fun r hr => ?_
    obtain ⟨s2, y, om⟩ := r
    obtain ⟨hs2, hy5, _, hyc⟩ := hr
    simp only at hy5 hyc
    refine r_move rfl rfl ?_
    refine r_buildSlice _ rfl rfl (fun _ => T.bs_L_L_api_Mark_3 ..) fun g51 => ?_
    refine r_move rfl rfl ?_
    refine r_move rfl rfl ?_
    refine r_len_sl rfl T.u_strs rfl ?_
    refine r_move rfl rfl ?_
    refine hl_call F.kit_Dice_To_cb rfl rfl (kit_Dice_To_meets 1 hn hs2 (by omega)) (hpR := [_, _]) (.swap _ _ _) ⟨m4, trivial⟩ fun r hr => ?_
    obtain ⟨s3, z⟩ := r
    obtain ⟨hs3, hz0, hz1, _⟩ := hr
    have hz1 := hz1 (by omega)
    simp only at hz0 hz1
    have hj : (s1, x, ox).snd.fst.length = x.length := rfl
    refine r_add _ rfl rfl rfl rfl (by unfold I64; omega) ?_
    refine r_move rfl rfl ?_
    refine r_buildSlice _ rfl rfl (fun _ => T.bs_ints_3 ..) fun g52 => ?_
    refine r_assign rfl rfl ?_
    refine r_assign rfl rfl ?_
    refine r_assign rfl rfl ?_
    refine hl_nil ?_
    refine then_n ?_
    refine hc_seq ?_
    refine hc_seq ?_
    refine hc_letgo (rows [most, (x.length : Int) + z, most]) (List.prefix_refl _) ?_
    refine hc_perm (List.perm_append_comm (l₁ := [_]) (l₂ := [_, _])) ?_
    refine hc_letgo (rows [(⟨M, cm, ms⟩ : Mg), ⟨om.1, om.2, y⟩, ⟨M, cm, ms⟩]) (List.prefix_refl _) ?_
    refine hc_letgo (rows [(⟨A, ca, a⟩ : Pg), ⟨ox.1, ox.2, x⟩, ⟨ox.1, ox.2, x⟩]) (List.prefix_refl _) ?_
    have hal : ∀ p ∈ [(⟨A, ca, a⟩ : Pg), ⟨ox.1, ox.2, x⟩, ⟨ox.1, ox.2, x⟩], p.l.length ≤ 20 := by intro p hp; simp at hp; rcases hp with rfl | rfl | rfl <;> simp only <;> omega
    have hml : ∀ p ∈ [(⟨M, cm, ms⟩ : Mg), ⟨om.1, om.2, y⟩, ⟨M, cm, ms⟩], p.l.length ≤ 20 := by intro p hp; simp at hp; rcases hp with rfl | rfl | rfl <;> simp only <;> omega
    refine hc_rows2 (A := (some ⟨g51, 0, none⟩)) (ps := [(⟨M, cm, ms⟩ : Mg), ⟨om.1, om.2, y⟩, ⟨M, cm, ms⟩]) m1 (by intro p hp; simp at hp; rcases hp with rfl | rfl | rfl <;> repeat constructor) ?_
    refine hc_rows2 (A := (some ⟨g50, 0, none⟩)) (ps := [(⟨A, ca, a⟩ : Pg), ⟨ox.1, ox.2, x⟩, ⟨ox.1, ox.2, x⟩]) m1 (by intro p hp; simp at hp; rcases hp with rfl | rfl | rfl <;> repeat constructor) ?_
    have h3a : [(⟨A, ca, a⟩ : Pg), ⟨ox.1, ox.2, x⟩, ⟨ox.1, ox.2, x⟩].length = 3 := rfl
    have h3m : [(⟨M, cm, ms⟩ : Mg), ⟨om.1, om.2, y⟩, ⟨M, cm, ms⟩].length = 3 := rfl
    have h3q : [most, (x.length : Int) + z, most].length = 3 := rfl
    generalize [(⟨A, ca, a⟩ : Pg), ⟨ox.1, ox.2, x⟩, ⟨ox.1, ox.2, x⟩] = asL at *
    generalize [(⟨M, cm, ms⟩ : Mg), ⟨om.1, om.2, y⟩, ⟨M, cm, ms⟩] = msL at *
    generalize [most, (x.length : Int) + z, most] = qsL at *
    refine hc_region ?_
    refine r_assign rfl rfl ?_
    refine hl_nil ?_
    refine then_n ?_
    refine hc_block ?_
    refine hc_loop (β := Nat) ⟨fun i => i ≤ 3, fun i => [(11, .slice (some ⟨g50, 0, none⟩) 3 3), (12, .slice (some ⟨g51, 0, none⟩) 3 3), (13, .slice (some ⟨g52, 0, none⟩) 3 3), (14, int i)], fun _ => [], fun _ => [Row (some ⟨g52, 0, none⟩) (rows qsL), Row (some ⟨g50, 0, none⟩) (rows asL), Row (some ⟨g51, 0, none⟩) (rows msL), Rows2 (some ⟨g50, 0, none⟩) asL, Rows2 (some ⟨g51, 0, none⟩) msL]⟩ (fun i => 3 - i) 0 (Nat.zero_le _) ⟨rfl, rfl, rfl, rfl, trivial⟩ (List.nil_sublist _) ⟨(by repeat constructor), (by repeat constructor), (by repeat constructor), (by repeat constructor), (by repeat constructor), trivial⟩ fun i hi => ?_
    simp only at hi
    refine hc_seq ?_
    refine hc_seq ?_
    refine hc_region ?_
    refine r_move rfl rfl ?_
    refine r_move rfl rfl ?_
    refine r_len_sl rfl T.u_pages rfl ?_
    refine r_lss rfl rfl rfl ?_
    refine hl_nil ?_
    refine then_n ?_
    first | refine c_dec rfl (fun hb2 => ?_) (fun hb2 => ?_) | refine hc_cond rfl (fun hb2 => ?_) (fun hb2 => ?_)
    · have hb2' := hb2; try simp at hb2'
      have hi2 : i < 3 := by omega
      have hma : (asL.getD i default) ∈ asL := getD_mem (by omega)
      have hmm : (msL.getD i default) ∈ msL := getD_mem (by omega)
      have hla := hal _ hma
      have hlm := hml _ hmm
      have hsl := stepsP_len (asL.getD i default).l (msL.getD i default).l (qsL.getD i default)
      refine hc_skip ?_
      refine then_n ?_
      refine hc_seq ?_
      refine hc_block ?_
      refine hc_seq ?_
      refine hc_drawW ([]) (_) (.refl _) 10 [5] mixed (by decide) (by decide) (by decide) rfl rfl rfl ?_
      apply hb_ex _ rfl rfl rfl
      · intro w1
        refine r_move rfl rfl ?_
        refine hl_nil ?_
        exact qe_done rfl
      apply hb_ex _ rfl rfl rfl
      · intro w1
        refine r_move rfl rfl ?_
        refine hl_nil ?_
        exact qe_done rfl
      apply hb_ex _ rfl rfl rfl
      · intro w1
        refine r_elem (α := Sl Str) asL i rfl T.u_pages T.sz_strs rfl rfl rfl (by repeat constructor) h3a.symm (by omega) (by decide) ?_
        refine hl_nil ?_
        exact qe_done rfl
      apply hb_ex _ rfl rfl rfl
      · intro w1
        refine r_load rfl T.cell_strs rfl (cell_row (by repeat constructor) (rows_get0 (by omega) rfl)) ?_
        refine hl_nil ?_
        exact qe_done rfl
      refine hb_vs ⟨OutC, fun _ => True, fun x => .slice x.1 (asL.getD i default).l.length x.2, fun x => [Row x.1 (rows (asL.getD i default).l)]⟩ rfl rfl rfl ?_ ?_
      · intro w1
        refine hl_inner (A := (some ⟨g50, 0, none⟩)) (ps := asL) (p := (asL.getD i default)) (by repeat constructor) hma ?_
        refine hl_call F.kit_DupStrings_cb rfl rfl (kit_DupStrings_meets (asL.getD i default).l (by omega)) (List.Perm.refl _) ⟨m0, trivial⟩ fun z _ => ?_
        refine hl_nil ?_
        exact qv_done z trivial rfl ⟨m0, trivial⟩
      refine hb_wr ⟨OutC × Hp, fun x => Grow T.api_Mark 3 x.1.1 0 x.1.2 [] x.2, fun x => .slice x.1.1 0 x.1.2, fun _ => [], fun x => x.2⟩ rfl rfl rfl ?_ ?_
      · intro w1
        refine r_buildSlice [] rfl rfl (fun _ => T.bs_L_api_Mark_0 ..) fun gS => ?_
        refine hl_nil ?_
        exact qw_done ((some ⟨gS, 0, none⟩, 0), [_]) (Grow.new (cs := #[]) (n := 0) rfl (Nat.zero_le _)) (fun _ => rfl) (.refl _) trivial
      apply hb_ex _ rfl rfl rfl
      · intro w1
        refine r_move rfl rfl ?_
        refine hl_nil ?_
        exact qe_done rfl
      apply hb_ex _ rfl rfl rfl
      · intro w1
        refine r_move rfl rfl ?_
        refine hl_nil ?_
        exact qe_done rfl
      apply hb_ex _ rfl rfl rfl
      · intro w1
        refine r_elem (α := Sl Mk) msL i rfl T.u_L_L_api_Mark T.sz_L_api_Mark rfl rfl rfl (by repeat constructor) h3m.symm (by omega) (by decide) ?_
        refine hl_nil ?_
        exact qe_done rfl
      apply hb_ex _ rfl rfl rfl
      · intro w1
        refine r_load rfl T.cell_L_api_Mark rfl (cell_row (by repeat constructor) (rows_get0 (by omega) rfl)) ?_
        refine hl_nil ?_
        exact qe_done rfl
      refine hb_nil ⟨rfl, ?_⟩
      intro z4 _ x5 hx5
      refine hl_inner (A := (some ⟨g51, 0, none⟩)) (ps := msL) (p := (msL.getD i default)) (by repeat constructor) hmm ?_
      refine r_append (msL.getD i default).l.length (rows (msL.getD i default).l) T.el_L_api_Mark rfl rfl rfl hx5 (hp' := []) (by rw [List.append_nil]) (Src.row m0 (rows_len _) (rows_one _) (by decide)) (by omega) rfl (by unfold maxLen; omega) (by omega) fun A' c' og' hG' => ?_
      refine hl_grown hG' ?_
      refine r_assign rfl rfl ?_
      refine r_assign rfl rfl ?_
      refine hl_nil ?_
      refine then_n ?_
      refine hc_seq ?_
      refine hc_region ?_
      refine r_move rfl rfl ?_
      refine r_move rfl rfl ?_
      refine r_move rfl rfl ?_
      refine r_move rfl rfl ?_
      refine r_elem (α := Int) qsL i rfl T.u_ints T.sz_int rfl rfl rfl (by repeat constructor) h3q.symm (by omega) (by decide) ?_
      refine r_load rfl T.cell_int rfl (cell_row (by repeat constructor) (rows_get0 (by omega) rfl)) ?_
      refine hl_call F.proof_Steps_cb rfl rfl (proof_Steps_meets (asL.getD i default).l (msL.getD i default).l (qsL.getD i default)) (List.Perm.refl _) ⟨(by repeat constructor), (by repeat constructor), trivial⟩ fun z10 _ => ?_
      refine r_move rfl rfl ?_
      refine r_extract rfl rfl rfl ?_
      refine r_extract rfl rfl rfl ?_
      refine r_assign rfl rfl ?_
      refine r_assign rfl rfl ?_
      refine hl_nil ?_
      refine then_n ?_
      refine hc_seq ?_
      refine hc_draw 17 mixed (by decide) (by decide) rfl rfl ?_
      apply hb_ex _ rfl rfl rfl
      · intro w1
        refine r_move rfl rfl ?_
        refine hl_nil ?_
        exact qe_done rfl
      apply hb_ex _ rfl rfl rfl
      · intro w1
        refine r_move rfl rfl ?_
        refine hl_nil ?_
        exact qe_done rfl
      apply hb_ex _ rfl rfl rfl
      · intro w1
        refine r_elem (α := Sl Str) asL i rfl T.u_pages T.sz_strs rfl rfl rfl (by repeat constructor) h3a.symm (by omega) (by decide) ?_
        refine hl_nil ?_
        exact qe_done rfl
      apply hb_ex _ rfl rfl rfl
      · intro w1
        refine r_load rfl T.cell_strs rfl (cell_row (by repeat constructor) (rows_get0 (by omega) rfl)) ?_
        refine hl_nil ?_
        exact qe_done rfl
      apply hb_ex _ rfl rfl rfl
      · intro w1
        refine r_move rfl rfl ?_
        refine hl_nil ?_
        exact qe_done rfl
      apply hb_ex _ rfl rfl rfl
      · intro w1
        refine r_move rfl rfl ?_
        refine hl_nil ?_
        exact qe_done rfl
      apply hb_ex _ rfl rfl rfl
      · intro w1
        refine r_elem (α := Sl Mk) msL i rfl T.u_L_L_api_Mark T.sz_L_api_Mark rfl rfl rfl (by repeat constructor) h3m.symm (by omega) (by decide) ?_
        refine hl_nil ?_
        exact qe_done rfl
      apply hb_ex _ rfl rfl rfl
      · intro w1
        refine r_load rfl T.cell_L_api_Mark rfl (cell_row (by repeat constructor) (rows_get0 (by omega) rfl)) ?_
        refine hl_nil ?_
        exact qe_done rfl
      apply hb_ex _ rfl rfl rfl
      · intro w1
        refine r_move rfl rfl ?_
        refine hl_nil ?_
        exact qe_done rfl
      apply hb_ex _ rfl rfl rfl
      · intro w1
        refine r_move rfl rfl ?_
        refine hl_nil ?_
        exact qe_done rfl
      apply hb_ex _ rfl rfl rfl
      · intro w1
        refine r_elem (α := Int) qsL i rfl T.u_ints T.sz_int rfl rfl rfl (by repeat constructor) h3q.symm (by omega) (by decide) ?_
        refine hl_nil ?_
        exact qe_done rfl
      apply hb_ex _ rfl rfl rfl
      · intro w1
        refine r_load rfl T.cell_int rfl (cell_row (by repeat constructor) (rows_get0 (by omega) rfl)) ?_
        refine hl_nil ?_
        exact qe_done rfl
      refine hb_vs ⟨OutC, fun _ => True, fun x => .tuple #[.slice x.1 (stepsP (asL.getD i default).l (msL.getD i default).l (qsL.getD i default)).1.length x.2, int (stepsP (asL.getD i default).l (msL.getD i default).l (qsL.getD i default)).2], fun x => [Row x.1 (rows (stepsP (asL.getD i default).l (msL.getD i default).l (qsL.getD i default)).1)]⟩ rfl rfl rfl ?_ ?_
      · intro w1
        refine hl_inner (A := (some ⟨g50, 0, none⟩)) (ps := asL) (p := (asL.getD i default)) (by repeat constructor) hma ?_
        refine hl_inner (A := (some ⟨g51, 0, none⟩)) (ps := msL) (p := (msL.getD i default)) (by repeat constructor) hmm ?_
        have hrd := ref07_Steps_meets (A := (asL.getD i default).a) (B := (msL.getD i default).a) (ca := (asL.getD i default).c) (cb := (msL.getD i default).c) (asL.getD i default).l (msL.getD i default).l (qsL.getD i default)
        rw [← steps_same] at hrd
        refine hl_call F.ref07_Steps_cb rfl rfl hrd (List.Perm.refl _) ⟨m1, m0, trivial⟩ fun z _ => ?_
        refine hl_nil ?_
        exact qv_done z trivial rfl ⟨m0, trivial⟩
      refine hb_vs ⟨OutC, fun _ => True, fun x => .tuple #[.slice x.1 (stepsP (asL.getD i default).l (msL.getD i default).l (qsL.getD i default)).1.length x.2, int (stepsP (asL.getD i default).l (msL.getD i default).l (qsL.getD i default)).2], fun x => [Row x.1 (rows (stepsP (asL.getD i default).l (msL.getD i default).l (qsL.getD i default)).1)]⟩ rfl rfl rfl ?_ ?_
      · intro z _; intro w1
        refine r_move rfl rfl ?_
        refine hl_nil ?_
        exact qv_done z trivial rfl ⟨m0, trivial⟩
      refine hb_vs ⟨OutC, fun _ => True, fun x => .slice x.1 (stepsP (asL.getD i default).l (msL.getD i default).l (qsL.getD i default)).1.length x.2, fun x => [Row x.1 (rows (stepsP (asL.getD i default).l (msL.getD i default).l (qsL.getD i default)).1)]⟩ rfl rfl rfl ?_ ?_
      · intro z _; intro w1
        refine r_extract rfl rfl rfl ?_
        refine hl_nil ?_
        exact qv_done z trivial rfl ⟨m0, trivial⟩
      apply hb_ex _ rfl rfl rfl
      · intro z _; intro w1
        refine r_extract rfl rfl rfl ?_
        refine hl_nil ?_
        exact qe_done rfl
      refine hb_vs ⟨OutC, fun _ => True, fun x => .slice x.1 (stepsP (asL.getD i default).l (msL.getD i default).l (qsL.getD i default)).1.length x.2, fun x => [Row x.1 (rows (stepsP (asL.getD i default).l (msL.getD i default).l (qsL.getD i default)).1)]⟩ rfl rfl rfl ?_ ?_
      · intro z _; intro w1
        refine r_assign rfl rfl ?_
        refine hl_nil ?_
        exact qv_done z trivial rfl ⟨m0, trivial⟩
      refine hb_nil ⟨rfl, ?_⟩
      intro _ _ _ _ _ _ z11 _
      refine r_assign rfl rfl ?_
      refine hl_nil ?_
      refine then_n ?_
      refine hc_seq ?_
      refine hc_region ?_
      refine r_move rfl rfl ?_
      refine r_move rfl rfl ?_
      refine r_neq rfl rfl rfl ?_
      refine r_move rfl rfl ?_
      refine g_split rfl rfl ?_ ?_
      · intro hg2; have hg2' := hg2; try simp at hg2'
        refine g_yes rfl rfl (by first | rfl | assumption | exact gy (by assumption) | exact gy2 (by assumption)) ?_
        refine r_move rfl rfl ?_
        refine g_yes rfl rfl (by first | rfl | assumption | exact gy (by assumption) | exact gy2 (by assumption)) ?_
        refine r_move rfl rfl ?_
        refine g_yes rfl rfl (by first | rfl | assumption | exact gy (by assumption) | exact gy2 (by assumption)) ?_
        refine hl_call F.kit_EqInts_cb rfl rfl (kit_EqInts_meets (stepsP (asL.getD i default).l (msL.getD i default).l (qsL.getD i default)).1 (stepsP (asL.getD i default).l (msL.getD i default).l (qsL.getD i default)).1 (by omega)) (List.Perm.refl _) ⟨(by repeat constructor), (by repeat constructor), trivial⟩ fun _ _ => ?_
        refine g_yes rfl rfl (by first | rfl | assumption | exact gy (by assumption) | exact gy2 (by assumption)) ?_
        refine r_not rfl rfl ?_
        refine p_f rfl rfl (by first | rfl | assumption | exact bf1 (by assumption) | exact bf2 (by assumption)) rfl ?_
        refine r_move rfl rfl ?_
        refine g_split rfl rfl ?_ ?_
        · intro hg3; have hg3' := hg3; try simp at hg3'
          refine g_yes rfl rfl (by first | rfl | assumption | exact gy (by assumption) | exact gy2 (by assumption)) ?_
          refine r_move rfl rfl ?_
          refine g_yes rfl rfl (by first | rfl | assumption | exact gy (by assumption) | exact gy2 (by assumption)) ?_
          refine r_move rfl rfl ?_
          refine g_yes rfl rfl (by first | rfl | assumption | exact gy (by assumption) | exact gy2 (by assumption)) ?_
          refine r_move rfl rfl ?_
          refine g_yes rfl rfl (by first | rfl | assumption | exact gy (by assumption) | exact gy2 (by assumption)) ?_
          refine r_elem (α := Sl Str) asL i rfl T.u_pages T.sz_strs rfl rfl rfl (by repeat constructor) h3a.symm (by omega) (by decide) ?_
          refine g_yes rfl rfl (by first | rfl | assumption | exact gy (by assumption) | exact gy2 (by assumption)) ?_
          refine r_load rfl T.cell_strs rfl (cell_row (by repeat constructor) (rows_get0 (by omega) rfl)) ?_
          refine g_yes rfl rfl (by first | rfl | assumption | exact gy (by assumption) | exact gy2 (by assumption)) ?_
          refine hl_inner (A := (some ⟨g50, 0, none⟩)) (ps := asL) (p := (asL.getD i default)) (by repeat constructor) hma ?_
          refine hl_call F.kit_EqStrings_cb rfl rfl (kit_EqStrings_meets (asL.getD i default).l (asL.getD i default).l (by omega)) (List.Perm.refl _) ⟨(by repeat constructor), (by repeat constructor), trivial⟩ fun _ _ => ?_
          refine g_yes rfl rfl (by first | rfl | assumption | exact gy (by assumption) | exact gy2 (by assumption)) ?_
          refine r_not rfl rfl ?_
          refine p_f rfl rfl (by first | rfl | assumption | exact bf1 (by assumption) | exact bf2 (by assumption)) rfl ?_
          refine r_move rfl rfl ?_
          refine g_split rfl rfl ?_ ?_
          · intro hg4; have hg4' := hg4; try simp at hg4'
            refine g_yes rfl rfl (by first | rfl | assumption | exact gy (by assumption) | exact gy2 (by assumption)) ?_
            refine r_move rfl rfl ?_
            refine g_yes rfl rfl (by first | rfl | assumption | exact gy (by assumption) | exact gy2 (by assumption)) ?_
            refine r_move rfl rfl ?_
            refine g_yes rfl rfl (by first | rfl | assumption | exact gy (by assumption) | exact gy2 (by assumption)) ?_
            refine r_move rfl rfl ?_
            refine g_yes rfl rfl (by first | rfl | assumption | exact gy (by assumption) | exact gy2 (by assumption)) ?_
            refine r_elem (α := Sl Mk) msL i rfl T.u_L_L_api_Mark T.sz_L_api_Mark rfl rfl rfl (by repeat constructor) h3m.symm (by omega) (by decide) ?_
            refine g_yes rfl rfl (by first | rfl | assumption | exact gy (by assumption) | exact gy2 (by assumption)) ?_
            refine r_load rfl T.cell_L_api_Mark rfl (cell_row (by repeat constructor) (rows_get0 (by omega) rfl)) ?_
            refine g_yes rfl rfl (by first | rfl | assumption | exact gy (by assumption) | exact gy2 (by assumption)) ?_
            refine hl_inner (A := (some ⟨g51, 0, none⟩)) (ps := msL) (p := (msL.getD i default)) (by repeat constructor) hmm ?_
            refine hl_call F.kit_EqMarks_cb rfl rfl (kit_EqMarks_meets (msL.getD i default).l (msL.getD i default).l (by omega)) (List.Perm.refl _) ⟨(by repeat constructor), (by repeat constructor), trivial⟩ fun _ _ => ?_
            refine g_yes rfl rfl (by first | rfl | assumption | exact gy (by assumption) | exact gy2 (by assumption)) ?_
            refine r_not rfl rfl ?_
            refine p_f rfl rfl (by first | rfl | assumption | exact bf1 (by assumption) | exact bf2 (by assumption)) rfl ?_
            refine hl_nil ?_
            refine then_n ?_
            first | refine c_dec rfl (fun hb3 => ?_) (fun hb3 => ?_) | refine hc_cond rfl (fun hb3 => ?_) (fun hb3 => ?_)
            · have hb3' := hb3; try simp at hb3'
            · have hb3' := hb3; try simp at hb3'
              refine hc_skip ?_
              refine inb_n ?_
              refine then_n ?_
              refine hc_region ?_
              refine r_move rfl rfl ?_
              refine r_add _ rfl rfl rfl rfl (by unfold I64; omega) ?_
              refine r_assign rfl rfl ?_
              refine hl_nil ?_
              exact again _ (i + 1) (by show i + 1 ≤ 3; omega) (by show 3 - (i + 1) < 3 - i; omega) ⟨rfl, rfl, rfl, rfl, trivial⟩ (.refl _) ⟨(by repeat constructor), (by repeat constructor), (by repeat constructor), (by repeat constructor), (by repeat constructor), trivial⟩
          · intro hg4; have hg4' := hg4; try simp at hg4'
        · intro hg3; have hg3' := hg3; try simp at hg3'
      · intro hg2; have hg2' := hg2; try simp at hg2'
    · have hb2' := hb2; try simp at hb2'
      refine hc_exit ?_
      refine then_exit ?_
      refine then_exit ?_
      refine inb_hit ?_
      refine then_n ?_
      refine hc_seq ?_
      refine hc_region ?_
      refine hl_call F.law07_correcting_cb rfl rfl (law07_correcting_meets) (List.Perm.refl _) trivial fun _ _ => ?_
      refine r_assign rfl rfl ?_
      refine hl_nil ?_
      refine then_n ?_
      refine hc_ret ?_
      exact ret1 () rfl rfl rfl trivial (List.nil_sublist _) trivial

end Go.Proofs.Ytpbbgbjidhffoaa
