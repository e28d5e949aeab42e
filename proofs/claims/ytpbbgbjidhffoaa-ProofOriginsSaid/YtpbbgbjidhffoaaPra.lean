/- The walk of the statement ProofDiffs. -/
import Derived.Test.YtpbbgbjidhffoaaPp
import Derived.Test.YtpbbgbjidhffoaaPqa
namespace Go.Proofs.Ytpbbgbjidhffoaa
open Go Go.W
set_option linter.unusedVariables false
set_option linter.unusedSimpArgs false
set_option maxRecDepth 20000
attribute [local irreducible] HL HC HQ HB Row Rows2 Blk Facts

def seed0 : Int × Int := (0, 11400714819323198485)
theorem dok0 (nums : List Int) : DOK nums seed0 := ⟨by decide, by simp [seed0], by decide, by decide⟩
theorem diffE_len (a b : List Str) (ms : List Mk) : (diffE a b ms).1.length ≤ ms.length := by
  unfold diffE
  split
  · simp
  · split
    · simp
    · exact Nat.le_refl _
theorem diffP_len (a b : List Str) : (diffP a b 0 0).2.length ≤ a.length + b.length := (diffP_bd a b _ 0 0 (Nat.le_refl _)).2.2
/-- A list of pages that is given: each somewhere. -/
abbrev Pg := Sl Str


set_option maxHeartbeats 2000000 in
theorem law07_ProofDiffs_meets {A B N : Option Addr} {ca cb cn : Nat} (a b : List Str) (nums : List Int) (ha : a.length ≤ 9223372036854775807) (hb : b.length ≤ 9223372036854775807) (hn : nums.length ≤ 9223372036854775807) :
    Meets Try.prog F.law07_ProofDiffs [.slice A a.length ca, .slice B b.length cb, .slice N nums.length cn] { LI := [Row A (rows a), Row B (rows b), Row N (rows nums)], val := fun _ : Unit => .bool true } := by
  refine meets_intro F.law07_ProofDiffs_f rfl (Nat.le_of_ble_eq_true rfl) fun w0 => ?_
  refine hc_seq ?_
  refine hc_region ?_
  refine r_assign rfl rfl ?_
  refine hl_nil ?_
  refine then_n ?_
  refine hc_cut ⟨fun _ : Unit => a.length ≤ 20 ∧ b.length ≤ 20, fun _ => [(0, .slice A a.length ca), (1, .slice B b.length cb), (2, .slice N nums.length cn)], fun _ => [], fun _ => [Row A (rows a), Row B (rows b), Row N (rows nums)]⟩ ?_ ?_
  · skip
    refine hc_seq ?_
    refine hc_region ?_
    refine r_move rfl rfl ?_
    refine hl_call F.law07_long_cb rfl rfl (law07_long_meets a ha) (List.Perm.refl _) ⟨m0, trivial⟩ fun _ _ => ?_
    refine r_move rfl rfl ?_
    refine g_split rfl rfl ?_ ?_
    · intro hg1; have hg1' := hg1; try simp at hg1'
      have hla := longP_false (bf1 hg1)
      refine g_yes rfl rfl (by first | rfl | assumption | exact gy (by assumption) | exact gy2 (by assumption)) ?_
      refine r_move rfl rfl ?_
      refine g_yes rfl rfl (by first | rfl | assumption | exact gy (by assumption) | exact gy2 (by assumption)) ?_
      refine hl_call F.law07_long_cb rfl rfl (law07_long_meets b hb) (List.Perm.refl _) ⟨m1, trivial⟩ fun _ _ => ?_
      refine p_f rfl rfl (by first | rfl | assumption | exact bf1 (by assumption) | exact bf2 (by assumption)) rfl ?_
      refine r_move rfl rfl ?_
      refine g_split rfl rfl ?_ ?_
      · intro hg2; have hg2' := hg2; try simp at hg2'
        have hlb := longP_false (bf1 hg2)
        refine g_yes rfl rfl (by first | rfl | assumption | exact gy (by assumption) | exact gy2 (by assumption)) ?_
        refine r_move rfl rfl ?_
        refine g_yes rfl rfl (by first | rfl | assumption | exact gy (by assumption) | exact gy2 (by assumption)) ?_
        refine r_len_sl rfl T.u_strs rfl ?_
        refine g_yes rfl rfl (by first | rfl | assumption | exact gy (by assumption) | exact gy2 (by assumption)) ?_
        refine r_leq rfl rfl rfl ?_
        refine g_yes rfl rfl (by first | rfl | assumption | exact gy (by assumption) | exact gy2 (by assumption)) ?_
        refine r_move rfl rfl ?_
        refine g_split rfl rfl ?_ ?_
        · intro hg3; have hg3' := hg3; try simp at hg3'
          refine g_yes rfl rfl (by first | rfl | assumption | exact gy (by assumption) | exact gy2 (by assumption)) ?_
          refine r_move rfl rfl ?_
          refine g_yes rfl rfl (by first | rfl | assumption | exact gy (by assumption) | exact gy2 (by assumption)) ?_
          refine r_len_sl rfl T.u_strs rfl ?_
          refine g_yes rfl rfl (by first | rfl | assumption | exact gy (by assumption) | exact gy2 (by assumption)) ?_
          refine r_leq rfl rfl rfl ?_
          refine g_yes rfl rfl (by first | rfl | assumption | exact gy (by assumption) | exact gy2 (by assumption)) ?_
          refine p_t rfl rfl (by first | rfl | assumption | exact bt1 (by assumption) | exact bt2 (by assumption)) rfl ?_
          refine g_yes rfl rfl (by first | rfl | assumption | exact gy (by assumption) | exact gy2 (by assumption)) ?_
          refine r_move rfl rfl ?_
          refine g_split rfl rfl ?_ ?_
          · intro hg4; have hg4' := hg4; try simp at hg4'
            refine g_yes rfl rfl (by first | rfl | assumption | exact gy (by assumption) | exact gy2 (by assumption)) ?_
            refine r_move rfl rfl ?_
            refine g_yes rfl rfl (by first | rfl | assumption | exact gy (by assumption) | exact gy2 (by assumption)) ?_
            refine r_len_sl rfl T.u_strs rfl ?_
            refine g_yes rfl rfl (by first | rfl | assumption | exact gy (by assumption) | exact gy2 (by assumption)) ?_
            refine r_move rfl rfl ?_
            refine g_yes rfl rfl (by first | rfl | assumption | exact gy (by assumption) | exact gy2 (by assumption)) ?_
            refine r_len_sl rfl T.u_strs rfl ?_
            refine g_yes rfl rfl (by first | rfl | assumption | exact gy (by assumption) | exact gy2 (by assumption)) ?_
            refine r_add _ rfl rfl rfl rfl (by unfold I64; omega) ?_
            refine g_yes rfl rfl (by first | rfl | assumption | exact gy (by assumption) | exact gy2 (by assumption)) ?_
            refine r_gtr rfl rfl rfl ?_
            refine g_yes rfl rfl (by first | rfl | assumption | exact gy (by assumption) | exact gy2 (by assumption)) ?_
            refine p_t rfl rfl (by first | rfl | assumption | exact bt1 (by assumption) | exact bt2 (by assumption)) rfl ?_
            refine p_f rfl rfl (by first | rfl | assumption | exact bf1 (by assumption) | exact bf2 (by assumption)) rfl ?_
            refine hl_nil ?_
            refine then_n ?_
            first | refine c_dec rfl (fun hb1 => ?_) (fun hb1 => ?_) | refine hc_cond rfl (fun hb1 => ?_) (fun hb1 => ?_)
            · have hb1' := hb1; try simp at hb1'
              refine hc_seq ?_
              refine hc_region ?_
              refine hl_call F.law07_correcting_cb rfl rfl (law07_correcting_meets) (List.Perm.refl _) trivial fun _ _ => ?_
              refine r_assign rfl rfl ?_
              refine hl_nil ?_
              refine then_n ?_
              refine hc_ret ?_
              refine then_ret ?_
              exact ret1 () rfl rfl rfl trivial (List.nil_sublist _) trivial
            · have hb1' := hb1; try simp at hb1'
              refine hc_skip ?_
              exact cut_n _ () ⟨hla.1, hlb.1⟩ ⟨rfl, rfl, rfl, trivial⟩ (.refl _) ⟨m0, m1, m2, trivial⟩
          · intro hg4; have hg4' := hg4; try simp at hg4'
            refine g_no rfl rfl rfl rfl rfl (by first | rfl | assumption | exact gn (by assumption) | exact gn2 (by assumption)) ?_
            refine g_no rfl rfl rfl rfl rfl (by first | rfl | assumption | exact gn (by assumption) | exact gn2 (by assumption)) ?_
            refine g_no rfl rfl rfl rfl rfl (by first | rfl | assumption | exact gn (by assumption) | exact gn2 (by assumption)) ?_
            refine g_no rfl rfl rfl rfl rfl (by first | rfl | assumption | exact gn (by assumption) | exact gn2 (by assumption)) ?_
            refine g_no rfl rfl rfl rfl rfl (by first | rfl | assumption | exact gn (by assumption) | exact gn2 (by assumption)) ?_
            refine g_no rfl rfl rfl rfl rfl (by first | rfl | assumption | exact gn (by assumption) | exact gn2 (by assumption)) ?_
            refine g_yes rfl rfl (by first | rfl | assumption | exact gy (by assumption) | exact gy2 (by assumption)) ?_
            refine p_f rfl rfl (by first | rfl | assumption | exact bf1 (by assumption) | exact bf2 (by assumption)) rfl ?_
            refine p_f rfl rfl (by first | rfl | assumption | exact bf1 (by assumption) | exact bf2 (by assumption)) rfl ?_
            refine hl_nil ?_
            refine then_n ?_
            refine c_f rfl (by first | rfl | assumption | exact bf1 (by assumption) | exact bf2 (by assumption)) ?_
            refine hc_skip ?_
            exact cut_n _ () ⟨hla.1, hlb.1⟩ ⟨rfl, rfl, rfl, trivial⟩ (.refl _) ⟨m0, m1, m2, trivial⟩
        · intro hg3; have hg3' := hg3; try simp at hg3'
          refine g_no rfl rfl rfl rfl rfl (by first | rfl | assumption | exact gn (by assumption) | exact gn2 (by assumption)) ?_
          refine g_no rfl rfl rfl rfl rfl (by first | rfl | assumption | exact gn (by assumption) | exact gn2 (by assumption)) ?_
          refine g_no rfl rfl rfl rfl rfl (by first | rfl | assumption | exact gn (by assumption) | exact gn2 (by assumption)) ?_
          refine g_yes rfl rfl (by first | rfl | assumption | exact gy (by assumption) | exact gy2 (by assumption)) ?_
          refine p_f rfl rfl (by first | rfl | assumption | exact bf1 (by assumption) | exact bf2 (by assumption)) rfl ?_
          refine g_yes rfl rfl (by first | rfl | assumption | exact gy (by assumption) | exact gy2 (by assumption)) ?_
          refine r_move rfl rfl ?_
          refine g_no rfl rfl rfl rfl rfl (by first | rfl | assumption | exact gn (by assumption) | exact gn2 (by assumption)) ?_
          refine g_no rfl rfl rfl rfl rfl (by first | rfl | assumption | exact gn (by assumption) | exact gn2 (by assumption)) ?_
          refine g_no rfl rfl rfl rfl rfl (by first | rfl | assumption | exact gn (by assumption) | exact gn2 (by assumption)) ?_
          refine g_no rfl rfl rfl rfl rfl (by first | rfl | assumption | exact gn (by assumption) | exact gn2 (by assumption)) ?_
          refine g_no rfl rfl rfl rfl rfl (by first | rfl | assumption | exact gn (by assumption) | exact gn2 (by assumption)) ?_
          refine g_no rfl rfl rfl rfl rfl (by first | rfl | assumption | exact gn (by assumption) | exact gn2 (by assumption)) ?_
          refine g_yes rfl rfl (by first | rfl | assumption | exact gy (by assumption) | exact gy2 (by assumption)) ?_
          refine p_f rfl rfl (by first | rfl | assumption | exact bf1 (by assumption) | exact bf2 (by assumption)) rfl ?_
          refine p_f rfl rfl (by first | rfl | assumption | exact bf1 (by assumption) | exact bf2 (by assumption)) rfl ?_
          refine hl_nil ?_
          refine then_n ?_
          refine c_f rfl (by first | rfl | assumption | exact bf1 (by assumption) | exact bf2 (by assumption)) ?_
          refine hc_skip ?_
          exact cut_n _ () ⟨hla.1, hlb.1⟩ ⟨rfl, rfl, rfl, trivial⟩ (.refl _) ⟨m0, m1, m2, trivial⟩
      · intro hg2; have hg2' := hg2; try simp at hg2'
        refine g_no rfl rfl rfl rfl rfl (by first | rfl | assumption | exact gn (by assumption) | exact gn2 (by assumption)) ?_
        refine g_no rfl rfl rfl rfl rfl (by first | rfl | assumption | exact gn (by assumption) | exact gn2 (by assumption)) ?_
        refine g_no rfl rfl rfl rfl rfl (by first | rfl | assumption | exact gn (by assumption) | exact gn2 (by assumption)) ?_
        refine g_no rfl rfl rfl rfl rfl (by first | rfl | assumption | exact gn (by assumption) | exact gn2 (by assumption)) ?_
        refine g_und rfl rfl rfl rfl rfl rfl ?_
        refine g_und rfl rfl rfl rfl rfl rfl ?_
        refine g_und rfl rfl rfl rfl rfl rfl ?_
        refine g_no rfl rfl rfl rfl rfl (by first | rfl | assumption | exact gn (by assumption) | exact gn2 (by assumption)) ?_
        refine g_no rfl rfl rfl rfl rfl (by first | rfl | assumption | exact gn (by assumption) | exact gn2 (by assumption)) ?_
        refine g_und rfl rfl rfl rfl rfl rfl ?_
        refine g_und rfl rfl rfl rfl rfl rfl ?_
        refine g_und rfl rfl rfl rfl rfl rfl ?_
        refine g_und rfl rfl rfl rfl rfl rfl ?_
        refine g_und rfl rfl rfl rfl rfl rfl ?_
        refine g_und rfl rfl rfl rfl rfl rfl ?_
        refine g_no rfl rfl rfl rfl rfl (by first | rfl | assumption | exact gn (by assumption) | exact gn2 (by assumption)) ?_
        refine p_t rfl rfl (by first | rfl | assumption | exact bt1 (by assumption) | exact bt2 (by assumption)) rfl ?_
        refine hl_nil ?_
        refine then_n ?_
        refine c_t rfl (by first | rfl | assumption | exact bt1 (by assumption) | exact bt2 (by assumption)) ?_
        refine hc_seq ?_
        refine hc_region ?_
        refine hl_call F.law07_correcting_cb rfl rfl (law07_correcting_meets) (List.Perm.refl _) trivial fun _ _ => ?_
        refine r_assign rfl rfl ?_
        refine hl_nil ?_
        refine then_n ?_
        refine hc_ret ?_
        refine then_ret ?_
        exact ret1 () rfl rfl rfl trivial (List.nil_sublist _) trivial
    · intro hg1; have hg1' := hg1; try simp at hg1'
      refine g_no rfl rfl rfl rfl rfl (by first | rfl | assumption | exact gn (by assumption) | exact gn2 (by assumption)) ?_
      refine g_no rfl rfl rfl rfl rfl (by first | rfl | assumption | exact gn (by assumption) | exact gn2 (by assumption)) ?_
      refine p_t rfl rfl (by first | rfl | assumption | exact bt1 (by assumption) | exact bt2 (by assumption)) rfl ?_
      refine r_move rfl rfl ?_
      refine g_no rfl rfl rfl rfl rfl (by first | rfl | assumption | exact gn (by assumption) | exact gn2 (by assumption)) ?_
      refine g_no rfl rfl rfl rfl rfl (by first | rfl | assumption | exact gn (by assumption) | exact gn2 (by assumption)) ?_
      refine g_no rfl rfl rfl rfl rfl (by first | rfl | assumption | exact gn (by assumption) | exact gn2 (by assumption)) ?_
      refine g_no rfl rfl rfl rfl rfl (by first | rfl | assumption | exact gn (by assumption) | exact gn2 (by assumption)) ?_
      refine g_und rfl rfl rfl rfl rfl rfl ?_
      refine g_und rfl rfl rfl rfl rfl rfl ?_
      refine g_und rfl rfl rfl rfl rfl rfl ?_
      refine g_no rfl rfl rfl rfl rfl (by first | rfl | assumption | exact gn (by assumption) | exact gn2 (by assumption)) ?_
      refine g_no rfl rfl rfl rfl rfl (by first | rfl | assumption | exact gn (by assumption) | exact gn2 (by assumption)) ?_
      refine g_und rfl rfl rfl rfl rfl rfl ?_
      refine g_und rfl rfl rfl rfl rfl rfl ?_
      refine g_und rfl rfl rfl rfl rfl rfl ?_
      refine g_und rfl rfl rfl rfl rfl rfl ?_
      refine g_und rfl rfl rfl rfl rfl rfl ?_
      refine g_und rfl rfl rfl rfl rfl rfl ?_
      refine g_no rfl rfl rfl rfl rfl (by first | rfl | assumption | exact gn (by assumption) | exact gn2 (by assumption)) ?_
      refine p_t rfl rfl (by first | rfl | assumption | exact bt1 (by assumption) | exact bt2 (by assumption)) rfl ?_
      refine hl_nil ?_
      refine then_n ?_
      refine c_t rfl (by first | rfl | assumption | exact bt1 (by assumption) | exact bt2 (by assumption)) ?_
      refine hc_seq ?_
      refine hc_region ?_
      refine hl_call F.law07_correcting_cb rfl rfl (law07_correcting_meets) (List.Perm.refl _) trivial fun _ _ => ?_
      refine r_assign rfl rfl ?_
      refine hl_nil ?_
      refine then_n ?_
      refine hc_ret ?_
      refine then_ret ?_
      exact ret1 () rfl rfl rfl trivial (List.nil_sublist _) trivial
  · intro _ hlen
    obtain ⟨ha2, hb2⟩ := hlen
    refine hc_seq ?_
    refine hc_region ?_
    refine r_move rfl rfl ?_
    refine hl_call F.kit_NewDice_cb rfl rfl (kit_NewDice_meets nums) (List.Perm.refl _) ⟨m2, trivial⟩ fun gd _ => ?_
    refine r_assign rfl rfl ?_
    refine hl_nil ?_
    refine then_n ?_
    refine hc_seq ?_
    refine hc_region ?_
    refine r_move rfl rfl ?_
    refine hl_call F.kit_PageOf_cb rfl rfl (kit_PageOf_meets 4 hn (dok0 nums) (by omega)) (.refl _) ⟨m2, trivial⟩ fun r hr => ?_
    obtain ⟨s1, x, ox⟩ := r
    obtain ⟨hs1, hx4, _, hxc⟩ := hr
    simp only at hx4 hxc
    refine r_assign rfl rfl ?_
    refine hl_nil ?_
    refine then_n ?_
    refine hc_seq ?_
    refine hc_region ?_
    refine r_move rfl rfl ?_
    refine r_move rfl rfl ?_
    refine r_move rfl rfl ?_
    refine r_buildSlice _ rfl rfl (fun _ => T.bs_pages_3 ..) fun g50 => ?_
    refine r_move rfl rfl ?_
    refine r_move rfl rfl ?_
    refine hl_call F.kit_PageOf_cb rfl rfl (kit_PageOf_meets 4 hn hs1 (by omega)) (.swap _ _ _) ⟨m3, trivial⟩ fun r hr => ?_
    obtain ⟨s2, y, oy⟩ := r
    obtain ⟨hs2, hy4, _, hyc⟩ := hr
    simp only at hy4 hyc
    refine r_move rfl rfl ?_
    refine r_buildSlice _ rfl rfl (fun _ => T.bs_pages_3 ..) fun g55 => ?_
    refine r_assign rfl rfl ?_
    refine r_assign rfl rfl ?_
    refine hl_nil ?_
    refine then_n ?_
    refine hc_seq ?_
    refine hc_seq ?_
    refine hc_letgo (rows [(⟨B, cb, b⟩ : Pg), ⟨oy.1, oy.2, y⟩, ⟨B, cb, b⟩]) (List.prefix_refl _) ?_
    refine hc_perm (.swap _ _ _) ?_
    refine hc_letgo (rows [(⟨A, ca, a⟩ : Pg), ⟨ox.1, ox.2, x⟩, ⟨ox.1, ox.2, x⟩]) (List.prefix_refl _) ?_
    have hal : ∀ p ∈ [(⟨A, ca, a⟩ : Pg), ⟨ox.1, ox.2, x⟩, ⟨ox.1, ox.2, x⟩], p.l.length ≤ 20 := by intro p hp; simp at hp; rcases hp with rfl | rfl | rfl <;> simp only <;> omega
    have hbl : ∀ p ∈ [(⟨B, cb, b⟩ : Pg), ⟨oy.1, oy.2, y⟩, ⟨B, cb, b⟩], p.l.length ≤ 20 := by intro p hp; simp at hp; rcases hp with rfl | rfl | rfl <;> simp only <;> omega
    refine hc_rows2 (A := (some ⟨g55, 0, none⟩)) (ps := [(⟨B, cb, b⟩ : Pg), ⟨oy.1, oy.2, y⟩, ⟨B, cb, b⟩]) m1 (by intro p hp; simp at hp; rcases hp with rfl | rfl | rfl <;> repeat constructor) ?_
    refine hc_rows2 (A := (some ⟨g50, 0, none⟩)) (ps := [(⟨A, ca, a⟩ : Pg), ⟨ox.1, ox.2, x⟩, ⟨ox.1, ox.2, x⟩]) m1 (by intro p hp; simp at hp; rcases hp with rfl | rfl | rfl <;> repeat constructor) ?_
    have h3a : [(⟨A, ca, a⟩ : Pg), ⟨ox.1, ox.2, x⟩, ⟨ox.1, ox.2, x⟩].length = 3 := rfl
    have h3b : [(⟨B, cb, b⟩ : Pg), ⟨oy.1, oy.2, y⟩, ⟨B, cb, b⟩].length = 3 := rfl
    generalize [(⟨A, ca, a⟩ : Pg), ⟨ox.1, ox.2, x⟩, ⟨ox.1, ox.2, x⟩] = asL at *
    generalize [(⟨B, cb, b⟩ : Pg), ⟨oy.1, oy.2, y⟩, ⟨B, cb, b⟩] = bsL at *
    refine hc_region ?_
    refine r_assign rfl rfl ?_
    refine hl_nil ?_
    refine then_n ?_
    refine hc_block ?_
    refine hc_loop (β := Nat) ⟨fun i => i ≤ 3, fun i => [(9, .slice (some ⟨g50, 0, none⟩) 3 3), (10, .slice (some ⟨g55, 0, none⟩) 3 3), (11, int i)], fun _ => [], fun _ => [Row (some ⟨g50, 0, none⟩) (rows asL), Row (some ⟨g55, 0, none⟩) (rows bsL), Rows2 (some ⟨g50, 0, none⟩) asL, Rows2 (some ⟨g55, 0, none⟩) bsL]⟩ (fun i => 3 - i) 0 (Nat.zero_le _) ⟨rfl, rfl, rfl, trivial⟩ (List.nil_sublist _) ⟨m2, m3, m0, m1, trivial⟩ fun i hi => ?_
    simp only at hi
    refine hc_seq ?_
    refine hc_seq ?_
    refine hc_region ?_
    refine r_move rfl rfl ?_
    refine r_move rfl rfl ?_
    refine r_len_sl rfl T.u_pages rfl ?_
    refine r_lss rfl rfl rfl ?_
    refine hl_nil ?_
    refine then_n ?_
    first | refine c_dec rfl (fun hb2 => ?_) (fun hb2 => ?_) | refine hc_cond rfl (fun hb2 => ?_) (fun hb2 => ?_)
    · have hb2' := hb2; try simp at hb2'
      have hi2 : i < 3 := by omega
      have hma : (asL.getD i default) ∈ asL := getD_mem (by omega)
      have hmb : (bsL.getD i default) ∈ bsL := getD_mem (by omega)
      have hla := hal _ hma
      have hlb := hbl _ hmb
      have hdl := diffE_len (asL.getD i default).l (bsL.getD i default).l (diffP (asL.getD i default).l (bsL.getD i default).l 0 0).2
      have hpl := diffP_len (asL.getD i default).l (bsL.getD i default).l
      refine hc_skip ?_
      refine then_n ?_
      refine hc_seq ?_
      refine hc_block ?_
      refine hc_seq ?_
      refine hc_draw 9 mixed (by decide) (by decide) rfl rfl ?_
      apply hb_ex _ rfl rfl rfl
      · intro w1
        refine r_move rfl rfl ?_
        refine hl_nil ?_
        exact qe_done rfl
      apply hb_ex _ rfl rfl rfl
      · intro w1
        refine r_move rfl rfl ?_
        refine hl_nil ?_
        exact qe_done rfl
      apply hb_ex _ rfl rfl rfl
      · intro w1
        refine r_elem (α := Sl Str) asL i rfl T.u_pages T.sz_strs rfl rfl rfl m0 h3a.symm (by omega) (by decide) ?_
        refine hl_nil ?_
        exact qe_done rfl
      apply hb_ex _ rfl rfl rfl
      · intro w1
        refine r_load rfl T.cell_strs rfl (cell_row (by repeat constructor) (rows_get0 (by omega) rfl)) ?_
        refine hl_nil ?_
        exact qe_done rfl
      refine hb_vs ⟨OutC, fun _ => True, fun x => .slice x.1 (asL.getD i default).l.length x.2, fun x => [Row x.1 (rows (asL.getD i default).l)]⟩ rfl rfl rfl ?_ ?_
      · intro w1
        refine hl_inner (A := (some ⟨g50, 0, none⟩)) (ps := asL) (p := (asL.getD i default)) m2 hma ?_
        refine hl_call F.kit_DupStrings_cb rfl rfl (kit_DupStrings_meets (asL.getD i default).l (by omega)) (List.Perm.refl _) ⟨m0, trivial⟩ fun z _ => ?_
        refine hl_nil ?_
        exact qv_done z trivial rfl ⟨m0, trivial⟩
      apply hb_ex _ rfl rfl rfl
      · intro w1
        refine r_move rfl rfl ?_
        refine hl_nil ?_
        exact qe_done rfl
      apply hb_ex _ rfl rfl rfl
      · intro w1
        refine r_move rfl rfl ?_
        refine hl_nil ?_
        exact qe_done rfl
      apply hb_ex _ rfl rfl rfl
      · intro w1
        refine r_elem (α := Sl Str) bsL i rfl T.u_pages T.sz_strs rfl rfl rfl m1 h3b.symm (by omega) (by decide) ?_
        refine hl_nil ?_
        exact qe_done rfl
      apply hb_ex _ rfl rfl rfl
      · intro w1
        refine r_load rfl T.cell_strs rfl (cell_row (by repeat constructor) (rows_get0 (by omega) rfl)) ?_
        refine hl_nil ?_
        exact qe_done rfl
      refine hb_nil ⟨rfl, ?_⟩
      intro z4 _
      refine hl_inner (A := (some ⟨g55, 0, none⟩)) (ps := bsL) (p := (bsL.getD i default)) (by repeat constructor) hmb ?_
      refine hl_call F.kit_DupStrings_cb rfl rfl (kit_DupStrings_meets (bsL.getD i default).l (by omega)) (List.Perm.refl _) ⟨m0, trivial⟩ fun z9 _ => ?_
      refine r_assign rfl rfl ?_
      refine r_assign rfl rfl ?_
      refine hl_nil ?_
      refine then_n ?_
      refine hc_seq ?_
      refine hc_region ?_
      refine r_move rfl rfl ?_
      refine r_move rfl rfl ?_
      refine hl_call F.proof_Diff_cb rfl rfl (proof_Diff_meets (asL.getD i default).l (bsL.getD i default).l) (List.Perm.refl _) ⟨(by repeat constructor), (by repeat constructor), trivial⟩ fun z10 _ => ?_
      refine r_move rfl rfl ?_
      refine r_extract rfl rfl rfl ?_
      refine r_extract rfl rfl rfl ?_
      refine r_assign rfl rfl ?_
      refine r_assign rfl rfl ?_
      refine hl_nil ?_
      refine then_n ?_
      refine hc_seq ?_
      refine hc_draw 13 mixed (by decide) (by decide) rfl rfl ?_
      apply hb_ex _ rfl rfl rfl
      · intro w1
        refine r_move rfl rfl ?_
        refine hl_nil ?_
        exact qe_done rfl
      apply hb_ex _ rfl rfl rfl
      · intro w1
        refine r_move rfl rfl ?_
        refine hl_nil ?_
        exact qe_done rfl
      apply hb_ex _ rfl rfl rfl
      · intro w1
        refine r_elem (α := Sl Str) asL i rfl T.u_pages T.sz_strs rfl rfl rfl (by repeat constructor) h3a.symm (by omega) (by decide) ?_
        refine hl_nil ?_
        exact qe_done rfl
      apply hb_ex _ rfl rfl rfl
      · intro w1
        refine r_load rfl T.cell_strs rfl (cell_row (by repeat constructor) (rows_get0 (by omega) rfl)) ?_
        refine hl_nil ?_
        exact qe_done rfl
      apply hb_ex _ rfl rfl rfl
      · intro w1
        refine r_move rfl rfl ?_
        refine hl_nil ?_
        exact qe_done rfl
      apply hb_ex _ rfl rfl rfl
      · intro w1
        refine r_move rfl rfl ?_
        refine hl_nil ?_
        exact qe_done rfl
      apply hb_ex _ rfl rfl rfl
      · intro w1
        refine r_elem (α := Sl Str) bsL i rfl T.u_pages T.sz_strs rfl rfl rfl (by repeat constructor) h3b.symm (by omega) (by decide) ?_
        refine hl_nil ?_
        exact qe_done rfl
      apply hb_ex _ rfl rfl rfl
      · intro w1
        refine r_load rfl T.cell_strs rfl (cell_row (by repeat constructor) (rows_get0 (by omega) rfl)) ?_
        refine hl_nil ?_
        exact qe_done rfl
      refine hb_vs ⟨OutC, fun _ => True, fun x => .tuple #[.slice x.1 (diffE (asL.getD i default).l (bsL.getD i default).l (diffP (asL.getD i default).l (bsL.getD i default).l 0 0).2).1.length x.2, int (diffE (asL.getD i default).l (bsL.getD i default).l (diffP (asL.getD i default).l (bsL.getD i default).l 0 0).2).2], fun x => [Row x.1 (rows (diffE (asL.getD i default).l (bsL.getD i default).l (diffP (asL.getD i default).l (bsL.getD i default).l 0 0).2).1)]⟩ rfl rfl rfl ?_ ?_
      · intro w1
        refine hl_inner (A := (some ⟨g50, 0, none⟩)) (ps := asL) (p := (asL.getD i default)) (by repeat constructor) hma ?_
        refine hl_inner (A := (some ⟨g55, 0, none⟩)) (ps := bsL) (p := (bsL.getD i default)) (by repeat constructor) hmb ?_
        have hrd := ref07_Diff_meets (A := (asL.getD i default).a) (B := (bsL.getD i default).a) (ca := (asL.getD i default).c) (cb := (bsL.getD i default).c) (asL.getD i default).l (bsL.getD i default).l
        rw [← diff_same] at hrd
        refine hl_call F.ref07_Diff_cb rfl rfl hrd (List.Perm.refl _) ⟨m1, m0, trivial⟩ fun z _ => ?_
        refine hl_nil ?_
        exact qv_done z trivial rfl ⟨m0, trivial⟩
      refine hb_vs ⟨OutC, fun _ => True, fun x => .tuple #[.slice x.1 (diffE (asL.getD i default).l (bsL.getD i default).l (diffP (asL.getD i default).l (bsL.getD i default).l 0 0).2).1.length x.2, int (diffE (asL.getD i default).l (bsL.getD i default).l (diffP (asL.getD i default).l (bsL.getD i default).l 0 0).2).2], fun x => [Row x.1 (rows (diffE (asL.getD i default).l (bsL.getD i default).l (diffP (asL.getD i default).l (bsL.getD i default).l 0 0).2).1)]⟩ rfl rfl rfl ?_ ?_
      · intro z _; intro w1
        refine r_move rfl rfl ?_
        refine hl_nil ?_
        exact qv_done z trivial rfl ⟨m0, trivial⟩
      refine hb_vs ⟨OutC, fun _ => True, fun x => .slice x.1 (diffE (asL.getD i default).l (bsL.getD i default).l (diffP (asL.getD i default).l (bsL.getD i default).l 0 0).2).1.length x.2, fun x => [Row x.1 (rows (diffE (asL.getD i default).l (bsL.getD i default).l (diffP (asL.getD i default).l (bsL.getD i default).l 0 0).2).1)]⟩ rfl rfl rfl ?_ ?_
      · intro z _; intro w1
        refine r_extract rfl rfl rfl ?_
        refine hl_nil ?_
        exact qv_done z trivial rfl ⟨m0, trivial⟩
      apply hb_ex _ rfl rfl rfl
      · intro z _; intro w1
        refine r_extract rfl rfl rfl ?_
        refine hl_nil ?_
        exact qe_done rfl
      refine hb_vs ⟨OutC, fun _ => True, fun x => .slice x.1 (diffE (asL.getD i default).l (bsL.getD i default).l (diffP (asL.getD i default).l (bsL.getD i default).l 0 0).2).1.length x.2, fun x => [Row x.1 (rows (diffE (asL.getD i default).l (bsL.getD i default).l (diffP (asL.getD i default).l (bsL.getD i default).l 0 0).2).1)]⟩ rfl rfl rfl ?_ ?_
      · intro z _; intro w1
        refine r_assign rfl rfl ?_
        refine hl_nil ?_
        exact qv_done z trivial rfl ⟨m0, trivial⟩
      refine hb_nil ⟨rfl, ?_⟩
      intro _ _ _ _ _ _ z11 _
      refine r_assign rfl rfl ?_
      refine hl_nil ?_
      refine then_n ?_
      refine hc_seq ?_
      refine hc_region ?_
      refine r_move rfl rfl ?_
      refine r_move rfl rfl ?_
      refine r_neq rfl rfl rfl ?_
      refine r_move rfl rfl ?_
      refine g_split rfl rfl ?_ ?_
      · intro hg5; have hg5' := hg5; try simp at hg5'
        refine g_yes rfl rfl (by first | rfl | assumption | exact gy (by assumption) | exact gy2 (by assumption)) ?_
        refine r_move rfl rfl ?_
        refine g_yes rfl rfl (by first | rfl | assumption | exact gy (by assumption) | exact gy2 (by assumption)) ?_
        refine r_move rfl rfl ?_
        refine g_yes rfl rfl (by first | rfl | assumption | exact gy (by assumption) | exact gy2 (by assumption)) ?_
        refine hl_call F.kit_EqMarks_cb rfl rfl (kit_EqMarks_meets (diffE (asL.getD i default).l (bsL.getD i default).l (diffP (asL.getD i default).l (bsL.getD i default).l 0 0).2).1 (diffE (asL.getD i default).l (bsL.getD i default).l (diffP (asL.getD i default).l (bsL.getD i default).l 0 0).2).1 (by omega)) (List.Perm.refl _) ⟨(by repeat constructor), (by repeat constructor), trivial⟩ fun _ _ => ?_
        refine g_yes rfl rfl (by first | rfl | assumption | exact gy (by assumption) | exact gy2 (by assumption)) ?_
        refine r_not rfl rfl ?_
        refine p_f rfl rfl (by first | rfl | assumption | exact bf1 (by assumption) | exact bf2 (by assumption)) rfl ?_
        refine r_move rfl rfl ?_
        refine g_split rfl rfl ?_ ?_
        · intro hg6; have hg6' := hg6; try simp at hg6'
          refine g_yes rfl rfl (by first | rfl | assumption | exact gy (by assumption) | exact gy2 (by assumption)) ?_
          refine r_move rfl rfl ?_
          refine g_yes rfl rfl (by first | rfl | assumption | exact gy (by assumption) | exact gy2 (by assumption)) ?_
          refine r_move rfl rfl ?_
          refine g_yes rfl rfl (by first | rfl | assumption | exact gy (by assumption) | exact gy2 (by assumption)) ?_
          refine r_move rfl rfl ?_
          refine g_yes rfl rfl (by first | rfl | assumption | exact gy (by assumption) | exact gy2 (by assumption)) ?_
          refine r_elem (α := Sl Str) asL i rfl T.u_pages T.sz_strs rfl rfl rfl (by repeat constructor) h3a.symm (by omega) (by decide) ?_
          refine g_yes rfl rfl (by first | rfl | assumption | exact gy (by assumption) | exact gy2 (by assumption)) ?_
          refine r_load rfl T.cell_strs rfl (cell_row (by repeat constructor) (rows_get0 (by omega) rfl)) ?_
          refine g_yes rfl rfl (by first | rfl | assumption | exact gy (by assumption) | exact gy2 (by assumption)) ?_
          refine hl_inner (A := (some ⟨g50, 0, none⟩)) (ps := asL) (p := (asL.getD i default)) (by repeat constructor) hma ?_
          refine hl_call F.kit_EqStrings_cb rfl rfl (kit_EqStrings_meets (asL.getD i default).l (asL.getD i default).l (by omega)) (List.Perm.refl _) ⟨(by repeat constructor), (by repeat constructor), trivial⟩ fun _ _ => ?_
          refine g_yes rfl rfl (by first | rfl | assumption | exact gy (by assumption) | exact gy2 (by assumption)) ?_
          refine r_not rfl rfl ?_
          refine p_f rfl rfl (by first | rfl | assumption | exact bf1 (by assumption) | exact bf2 (by assumption)) rfl ?_
          refine r_move rfl rfl ?_
          refine g_split rfl rfl ?_ ?_
          · intro hg7; have hg7' := hg7; try simp at hg7'
            refine g_yes rfl rfl (by first | rfl | assumption | exact gy (by assumption) | exact gy2 (by assumption)) ?_
            refine r_move rfl rfl ?_
            refine g_yes rfl rfl (by first | rfl | assumption | exact gy (by assumption) | exact gy2 (by assumption)) ?_
            refine r_move rfl rfl ?_
            refine g_yes rfl rfl (by first | rfl | assumption | exact gy (by assumption) | exact gy2 (by assumption)) ?_
            refine r_move rfl rfl ?_
            refine g_yes rfl rfl (by first | rfl | assumption | exact gy (by assumption) | exact gy2 (by assumption)) ?_
            refine r_elem (α := Sl Str) bsL i rfl T.u_pages T.sz_strs rfl rfl rfl (by repeat constructor) h3b.symm (by omega) (by decide) ?_
            refine g_yes rfl rfl (by first | rfl | assumption | exact gy (by assumption) | exact gy2 (by assumption)) ?_
            refine r_load rfl T.cell_strs rfl (cell_row (by repeat constructor) (rows_get0 (by omega) rfl)) ?_
            refine g_yes rfl rfl (by first | rfl | assumption | exact gy (by assumption) | exact gy2 (by assumption)) ?_
            refine hl_inner (A := (some ⟨g55, 0, none⟩)) (ps := bsL) (p := (bsL.getD i default)) (by repeat constructor) hmb ?_
            refine hl_call F.kit_EqStrings_cb rfl rfl (kit_EqStrings_meets (bsL.getD i default).l (bsL.getD i default).l (by omega)) (List.Perm.refl _) ⟨(by repeat constructor), (by repeat constructor), trivial⟩ fun _ _ => ?_
            refine g_yes rfl rfl (by first | rfl | assumption | exact gy (by assumption) | exact gy2 (by assumption)) ?_
            refine r_not rfl rfl ?_
            refine p_f rfl rfl (by first | rfl | assumption | exact bf1 (by assumption) | exact bf2 (by assumption)) rfl ?_
            refine hl_nil ?_
            refine then_n ?_
            first | refine c_dec rfl (fun hb3 => ?_) (fun hb3 => ?_) | refine hc_cond rfl (fun hb3 => ?_) (fun hb3 => ?_)
            · have hb3' := hb3; try simp at hb3'
            · have hb3' := hb3; try simp at hb3'
              refine hc_skip ?_
              refine inb_n ?_
              refine then_n ?_
              refine hc_region ?_
              refine r_move rfl rfl ?_
              refine r_add _ rfl rfl rfl rfl (by unfold I64; omega) ?_
              refine r_assign rfl rfl ?_
              refine hl_nil ?_
              exact again _ (i + 1) (by show i + 1 ≤ 3; omega) (by show 3 - (i + 1) < 3 - i; omega) ⟨rfl, rfl, rfl, trivial⟩ (.refl _) ⟨(by repeat constructor), (by repeat constructor), (by repeat constructor), (by repeat constructor), trivial⟩
          · intro hg7; have hg7' := hg7; try simp at hg7'
        · intro hg6; have hg6' := hg6; try simp at hg6'
      · intro hg5; have hg5' := hg5; try simp at hg5'
    · have hb2' := hb2; try simp at hb2'
      refine hc_exit ?_
      refine then_exit ?_
      refine then_exit ?_
      refine inb_hit ?_
      refine then_n ?_
      refine hc_seq ?_
      refine hc_region ?_
      refine hl_call F.law07_correcting_cb rfl rfl (law07_correcting_meets) (List.Perm.refl _) trivial fun _ _ => ?_
      refine r_assign rfl rfl ?_
      refine hl_nil ?_
      refine then_n ?_
      refine hc_ret ?_
      exact ret1 () rfl rfl rfl trivial (List.nil_sublist _) trivial

end Go.Proofs.Ytpbbgbjidhffoaa
