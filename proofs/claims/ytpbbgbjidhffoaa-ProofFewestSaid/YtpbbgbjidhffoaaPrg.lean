/- The walk of the statement ProofFewest. -/
import Derived.Test.YtpbbgbjidhffoaaPre
import Derived.Test.YtpbbgbjidhffoaaPqh
import Derived.Test.YtpbbgbjidhffoaaPrb
namespace Go.Proofs.Ytpbbgbjidhffoaa
open Go Go.W
set_option linter.unusedVariables false
set_option linter.unusedSimpArgs false
set_option maxRecDepth 20000
attribute [local irreducible] HL HC HQ HB Row Rows2 Blk Facts

abbrev cellM (g : Nat) (v : Value) : Nat × Obj := (g, .cells #[v] T.L_api_Mark (0, 0))
abbrev cellB (g : Nat) (b : Bool) : Nat × Obj := (g, .cells #[.bool b] T.bool (0, 0))
abbrev LSt := Option (List Mk) × OutC
abbrev lval (x : LSt) : Value := .slice x.2.1 (x.1.getD []).length x.2.2
abbrev lhp (gm gs : Nat) (x : LSt) : Hp := [cellM gm (lval x), cellB gs x.1.isSome]
abbrev ptrM (g : Nat) : Value := .pointer (some ⟨g, 0, none⟩)
theorem bd_some {N : Nat} {o : Option (List Mk)} (h : Bd N o) : (o.getD []).length ≤ N := by
  cases o with
  | none => simp
  | some b => exact h b rfl
theorem pick_if_t {c : Prop} [Decidable c] {g : List Mk} {U : List (List Mk)} {o : Option (List Mk)} (h : c) : pickAll g (if c then U else []) o = pickAll g U o := by rw [if_pos h]
theorem pick_if_f {c : Prop} [Decidable c] {g : List Mk} {U : List (List Mk)} {o : Option (List Mk)} (h : ¬ c) : pickAll g (if c then U else []) o = o := by rw [if_neg h]; rfl


set_option maxHeartbeats 1000000 in
theorem law07_lists_meets {A B : Option Addr} {ca cb : Nat} {gm gs : Nat} (a b : List Str) (ha : a.length ≤ 3) (hb : b.length ≤ 3) :
    ∀ (d i k : Nat) (g : List Mk) (G : Option Addr) (cg : Nat) (st : LSt), (a.length - i) + (b.length - k) ≤ d → i ≤ a.length → k ≤ b.length → g.length + ((a.length - i) + (b.length - k)) ≤ 12 → g.length ≤ cg → Bd 12 st.1 →
    Meets Try.prog F.law07_lists [.slice A a.length ca, .slice B b.length cb, int i, int k, .slice G g.length cg, ptrM gm, ptrM gs] { hpI := lhp gm gs st, LI := [Row st.2.1 (rows (st.1.getD [])), Row A (rows a), Row B (rows b), Row G (rows g)], inv := fun x : LSt => x.1 = pickAll g (allL a b d i k) st.1 ∧ Bd 12 x.1, val := fun _ => .tuple #[], hpO := fun x => lhp gm gs x, LO := fun x => [Row x.2.1 (rows (x.1.getD []))] } := by
  intro d
  induction d using Nat.strongRecOn
  rename_i d ih
  intro i k g G cg st hd hi hk hgl hgc hst
  obtain ⟨o, oc⟩ := st
  simp only at hst
  have hsl := bd_some hst
  refine meets_intro F.law07_lists_f rfl (Nat.le_of_ble_eq_true rfl) fun w0 => ?_
  refine hc_cut ⟨fun _ : Unit => ¬ (i = a.length ∧ k = b.length), fun _ => [(0, .slice A a.length ca), (1, .slice B b.length cb), (2, int i), (3, int k), (4, .slice G g.length cg), (5, ptrM gm), (6, ptrM gs)], fun _ => lhp gm gs (o, oc), fun _ => [Row oc.1 (rows (o.getD [])), Row A (rows a), Row B (rows b), Row G (rows g)]⟩ ?_ ?_
  · skip
    refine hc_seq ?_
    refine hc_region ?_
    refine r_move rfl rfl ?_
    refine r_move rfl rfl ?_
    refine r_len_sl rfl T.u_strs rfl ?_
    refine r_eql rfl rfl rfl ?_
    refine r_move rfl rfl ?_
    refine g_split rfl rfl ?_ ?_
    · intro hg1; have hg1' := hg1; try simp at hg1'
      have hi2 : i = a.length := by have := of_decide_eq_true (bt1 hg1); omega
      refine g_yes rfl rfl (by first | rfl | assumption | exact gy (by assumption) | exact gy2 (by assumption)) ?_
      refine r_move rfl rfl ?_
      refine g_yes rfl rfl (by first | rfl | assumption | exact gy (by assumption) | exact gy2 (by assumption)) ?_
      refine r_move rfl rfl ?_
      refine g_yes rfl rfl (by first | rfl | assumption | exact gy (by assumption) | exact gy2 (by assumption)) ?_
      refine r_len_sl rfl T.u_strs rfl ?_
      refine g_yes rfl rfl (by first | rfl | assumption | exact gy (by assumption) | exact gy2 (by assumption)) ?_
      refine r_eql rfl rfl rfl ?_
      refine p_t rfl rfl (by first | rfl | assumption | exact bt1 (by assumption) | exact bt2 (by assumption)) rfl ?_
      refine hl_nil ?_
      refine then_n ?_
      first | refine c_dec rfl (fun hb1 => ?_) (fun hb1 => ?_) | refine hc_cond rfl (fun hb1 => ?_) (fun hb1 => ?_)
      · have hb1' := hb1; try simp at hb1'
        have hend : i = a.length ∧ k = b.length := ⟨hi2, by omega⟩
        have hall : allL a b d i k = [[]] := by
          cases d with
          | zero => rfl
          | succ d => rw [allL, if_pos hend]
        rw [hall, pickAll_one]
        refine hc_seq ?_
        refine hc_seq ?_
        refine hc_region ?_
        refine r_move rfl rfl ?_
        refine r_nilCheck rfl rfl ?_
        first | refine r_load rfl T.cell_bool rfl (cell_own (by repeat constructor) rfl) ?_ | refine r_load rfl T.cell_bool rfl (cell_blk (by repeat constructor) rfl) ?_ | refine r_load rfl T.cell_bool rfl (cell_row (by repeat constructor) (rows_get0 (by omega) rfl)) ?_ | refine r_load rfl T.cell_bool rfl (cell_row_f (by repeat constructor) (rows_get (by omega) rfl)) ?_
        refine r_not rfl rfl ?_
        refine r_move rfl rfl ?_
        refine g_split rfl rfl ?_ ?_
        · intro hg2; have hg2' := hg2; try simp at hg2'
          obtain ⟨b0, rfl⟩ : ∃ b0, o = some b0 := by cases o with | none => simp at hg2 | some b => exact ⟨b, rfl⟩
          refine g_yes rfl rfl (by first | rfl | assumption | exact gy (by assumption) | exact gy2 (by assumption)) ?_
          refine r_move rfl rfl ?_
          refine g_yes rfl rfl (by first | rfl | assumption | exact gy (by assumption) | exact gy2 (by assumption)) ?_
          refine r_move rfl rfl ?_
          refine g_yes rfl rfl (by first | rfl | assumption | exact gy (by assumption) | exact gy2 (by assumption)) ?_
          refine r_nilCheck rfl rfl ?_
          refine g_yes rfl rfl (by first | rfl | assumption | exact gy (by assumption) | exact gy2 (by assumption)) ?_
          first | refine r_load rfl T.cell_L_api_Mark rfl (cell_own (by repeat constructor) rfl) ?_ | refine r_load rfl T.cell_L_api_Mark rfl (cell_blk (by repeat constructor) rfl) ?_ | refine r_load rfl T.cell_L_api_Mark rfl (cell_row (by repeat constructor) (rows_get0 (by omega) rfl)) ?_ | refine r_load rfl T.cell_L_api_Mark rfl (cell_row_f (by repeat constructor) (rows_get (by omega) rfl)) ?_
          refine g_yes rfl rfl (by first | rfl | assumption | exact gy (by assumption) | exact gy2 (by assumption)) ?_
          refine hl_call F.ref07_Better_cb rfl rfl (ref07_Better_meets g ((some b0).getD []) (by omega) (by omega)) (hpR := lhp gm gs (some b0, oc)) (List.Perm.refl _) ⟨(by repeat constructor), (by repeat constructor), trivial⟩ fun _ _ => ?_
          refine p_f rfl rfl (by first | rfl | assumption | exact bf1 (by assumption) | exact bf2 (by assumption)) rfl ?_
          refine hl_nil ?_
          refine then_n ?_
          first | refine c_dec rfl (fun hb2 => ?_) (fun hb2 => ?_) | refine hc_cond rfl (fun hb2 => ?_) (fun hb2 => ?_)
          · have hb2' := hb2; try simp at hb2'
            refine hc_region ?_
            refine r_move rfl rfl ?_
            refine r_move rfl rfl ?_
            refine r_buildSlice _ rfl rfl (fun _ => T.bs_L_api_Mark_0 ..) fun gS => ?_
            refine r_move rfl rfl ?_
            refine r_append g.length (rows g) T.el_L_api_Mark rfl rfl rfl (Grow.new (cs := #[]) (n := 0) rfl (Nat.zero_le _)) (.refl _) (Src.row (by repeat constructor) (rows_len g) (rows_one g) (by decide)) (by omega) rfl (by unfold maxLen; omega) (by omega) fun A' c' og' hG => ?_
            refine hl_grown hG ?_
            refine r_nilCheck rfl rfl ?_
            refine r_store rfl rfl (by first | exact .refl _ | exact perm2 _ _ _ | exact perm3 _ _ _ _ | exact perm4 _ _ _ _ _) T.sz_L_api_Mark (by rfl) (by rfl) ?_
            refine r_nilCheck rfl rfl ?_
            refine r_store rfl rfl (by first | exact .refl _ | exact perm2 _ _ _ | exact perm3 _ _ _ _ | exact perm4 _ _ _ _ _) T.sz_bool (by rfl) (by rfl) ?_
            refine hl_nil ?_
            refine then_n ?_
            refine hc_ret ?_
            refine then_ret ?_
            refine hq_perm (.swap _ _ _) ?_
            exact ret0 (some g, (A', c')) rfl rfl rfl ⟨(if_pos hb2).symm, fun b h => by cases h; omega⟩ (.refl _) ⟨(by repeat constructor), trivial⟩
          · have hb2' := hb2; try simp at hb2'
            refine hc_skip ?_
            refine then_n ?_
            refine hc_ret ?_
            refine then_ret ?_
            exact ret0 (some b0, oc) rfl rfl rfl ⟨(if_neg (by rw [hb2']; decide)).symm, hst⟩ (.refl _) ⟨(by repeat constructor), trivial⟩
        · intro hg2; have hg2' := hg2; try simp at hg2'
          obtain rfl : o = none := by cases o with | none => rfl | some b => simp at hg2
          refine g_no rfl rfl rfl rfl rfl (by first | rfl | assumption | exact gn (by assumption) | exact gn2 (by assumption)) ?_
          refine g_no rfl rfl rfl rfl rfl (by first | rfl | assumption | exact gn (by assumption) | exact gn2 (by assumption)) ?_
          refine g_no rfl rfl rfl rfl rfl (by first | rfl | assumption | exact gn (by assumption) | exact gn2 (by assumption)) ?_
          refine g_no rfl rfl rfl rfl rfl (by first | rfl | assumption | exact gn (by assumption) | exact gn2 (by assumption)) ?_
          refine g_no rfl rfl rfl rfl rfl (by first | rfl | assumption | exact gn (by assumption) | exact gn2 (by assumption)) ?_
          refine p_t rfl rfl (by first | rfl | assumption | exact bt1 (by assumption) | exact bt2 (by assumption)) rfl ?_
          refine hl_nil ?_
          refine then_n ?_
          refine c_t rfl (by first | rfl | assumption | exact bt1 (by assumption) | exact bt2 (by assumption)) ?_
          refine hc_region ?_
          refine r_move rfl rfl ?_
          refine r_move rfl rfl ?_
          refine r_buildSlice _ rfl rfl (fun _ => T.bs_L_api_Mark_0 ..) fun gS => ?_
          refine r_move rfl rfl ?_
          refine r_append g.length (rows g) T.el_L_api_Mark rfl rfl rfl (Grow.new (cs := #[]) (n := 0) rfl (Nat.zero_le _)) (.refl _) (Src.row (by repeat constructor) (rows_len g) (rows_one g) (by decide)) (by omega) rfl (by unfold maxLen; omega) (by omega) fun A' c' og' hG => ?_
          refine hl_grown hG ?_
          refine r_nilCheck rfl rfl ?_
          refine r_store rfl rfl (by first | exact .refl _ | exact perm2 _ _ _ | exact perm3 _ _ _ _ | exact perm4 _ _ _ _ _) T.sz_L_api_Mark (by rfl) (by rfl) ?_
          refine r_nilCheck rfl rfl ?_
          refine r_store rfl rfl (by first | exact .refl _ | exact perm2 _ _ _ | exact perm3 _ _ _ _ | exact perm4 _ _ _ _ _) T.sz_bool (by rfl) (by rfl) ?_
          refine hl_nil ?_
          refine then_n ?_
          refine hc_ret ?_
          refine then_ret ?_
          refine hq_perm (.swap _ _ _) ?_
          exact ret0 (some g, (A', c')) rfl rfl rfl ⟨rfl, fun b h => by cases h; omega⟩ (.refl _) ⟨(by repeat constructor), trivial⟩
      · have hb1' := hb1; try simp at hb1'
        have hend : ¬ (i = a.length ∧ k = b.length) := by omega
        refine hc_skip ?_
        exact cut_n _ () hend ⟨rfl, rfl, rfl, rfl, rfl, rfl, rfl, trivial⟩ (.refl _) ⟨(by repeat constructor), (by repeat constructor), (by repeat constructor), (by repeat constructor), trivial⟩
    · intro hg1; have hg1' := hg1; try simp at hg1'
      have hi2 : ¬ i = a.length := by have := of_decide_eq_false (bf2 hg1); omega
      have hend : ¬ (i = a.length ∧ k = b.length) := fun h => hi2 h.1
      refine g_no rfl rfl rfl rfl rfl (by first | rfl | assumption | exact gn (by assumption) | exact gn2 (by assumption)) ?_
      refine g_no rfl rfl rfl rfl rfl (by first | rfl | assumption | exact gn (by assumption) | exact gn2 (by assumption)) ?_
      refine g_no rfl rfl rfl rfl rfl (by first | rfl | assumption | exact gn (by assumption) | exact gn2 (by assumption)) ?_
      refine g_no rfl rfl rfl rfl rfl (by first | rfl | assumption | exact gn (by assumption) | exact gn2 (by assumption)) ?_
      refine p_f rfl rfl (by first | rfl | assumption | exact bf1 (by assumption) | exact bf2 (by assumption)) rfl ?_
      refine hl_nil ?_
      refine then_n ?_
      refine c_f rfl (by first | rfl | assumption | exact bf1 (by assumption) | exact bf2 (by assumption)) ?_
      refine hc_skip ?_
      exact cut_n _ () hend ⟨rfl, rfl, rfl, rfl, rfl, rfl, rfl, trivial⟩ (.refl _) ⟨(by repeat constructor), (by repeat constructor), (by repeat constructor), (by repeat constructor), trivial⟩
  · intro _ hend
    refine hc_seq ?_
    obtain ⟨d0, rfl⟩ : ∃ d0, d = d0 + 1 := ⟨d - 1, by omega⟩
    have hall : pickAll g (allL a b (d0 + 1) i k) o = pickAll g (if i < a.length ∧ k < b.length then (allL a b d0 (i + 1) (k + 1)).map ((2, (i : Int), b.getD k default) :: ·) else []) (pickAll g (if i < a.length then (allL a b d0 (i + 1) k).map ((3, (i : Int), []) :: ·) else []) (pickAll g (if k < b.length then (allL a b d0 i (k + 1)).map ((1, (i : Int), b.getD k default) :: ·) else []) (pickAll g (if i < a.length ∧ k < b.length ∧ a.getD i default = b.getD k default then allL a b d0 (i + 1) (k + 1) else []) o))) := by rw [allL, if_neg hend, pickAll_append, pickAll_append, pickAll_append]
    refine hc_region ?_
    refine r_move rfl rfl ?_
    refine r_move rfl rfl ?_
    refine r_len_sl rfl T.u_L_api_Mark rfl ?_
    refine r_move rfl rfl ?_
    refine r_len_sl rfl T.u_L_api_Mark rfl ?_
    refine r_slice_hm g.length g.length rfl T.u_L_api_Mark T.sz_api_Mark rfl rfl rfl rfl rfl (Nat.le_refl _) hgc ?_
    refine r_assign rfl rfl ?_
    refine hl_nil ?_
    refine then_n ?_
    refine hc_cut ⟨fun x : LSt => x.1 = pickAll g (if i < a.length ∧ k < b.length ∧ a.getD i default = b.getD k default then allL a b d0 (i + 1) (k + 1) else []) o ∧ Bd 12 x.1, fun x => [(0, .slice A a.length ca), (1, .slice B b.length cb), (2, int i), (3, int k), (5, ptrM gm), (6, ptrM gs), (14, .slice G g.length g.length)], fun x => lhp gm gs x, fun x => [Row x.2.1 (rows (x.1.getD [])), Row A (rows a), Row B (rows b), Row G (rows g)]⟩ ?_ ?_
    · skip
      refine hc_seq ?_
      refine hc_draw 19 mixed (by decide) (by decide) rfl rfl ?_
      apply hb_ex _ rfl rfl rfl
      · intro w1
        refine r_move rfl rfl ?_
        refine hl_nil ?_
        exact qe_done rfl
      apply hb_ex _ rfl rfl rfl
      · intro w1
        refine r_move rfl rfl ?_
        refine hl_nil ?_
        exact qe_done rfl
      apply hb_ex _ rfl rfl rfl
      · intro w1
        refine r_len_sl rfl T.u_strs rfl ?_
        refine hl_nil ?_
        exact qe_done rfl
      apply hb_ex _ rfl rfl rfl
      · intro w1
        refine r_lss rfl rfl rfl ?_
        refine hl_nil ?_
        exact qe_done rfl
      apply hb_ex _ rfl rfl rfl
      · intro w1
        refine r_move rfl rfl ?_
        refine hl_nil ?_
        exact qe_done rfl
      refine hb_split (t := 53) (want := true) rfl ?_ ?_
      · intro hg3; have hg3' := hg3; try simp at hg3'
        have hi3 : i < a.length := by have := of_decide_eq_true (bt1 hg3); omega
        apply hb_ex _ rfl rfl rfl
        · intro w1
          refine g_yes rfl rfl (by first | rfl | assumption | exact gy (by assumption) | exact gy2 (by assumption)) ?_
          refine r_move rfl rfl ?_
          refine hl_nil ?_
          exact qe_done rfl
        apply hb_ex _ rfl rfl rfl
        · intro w1
          refine g_yes rfl rfl (by first | rfl | assumption | exact gy (by assumption) | exact gy2 (by assumption)) ?_
          refine r_move rfl rfl ?_
          refine hl_nil ?_
          exact qe_done rfl
        apply hb_ex _ rfl rfl rfl
        · intro w1
          refine g_yes rfl rfl (by first | rfl | assumption | exact gy (by assumption) | exact gy2 (by assumption)) ?_
          refine r_len_sl rfl T.u_strs rfl ?_
          refine hl_nil ?_
          exact qe_done rfl
        apply hb_ex _ rfl rfl rfl
        · intro w1
          refine g_yes rfl rfl (by first | rfl | assumption | exact gy (by assumption) | exact gy2 (by assumption)) ?_
          refine r_lss rfl rfl rfl ?_
          refine hl_nil ?_
          exact qe_done rfl
        apply hb_ex _ rfl rfl rfl
        · intro w1
          refine p_t rfl rfl (by first | rfl | assumption | exact bt1 (by assumption) | exact bt2 (by assumption)) rfl ?_
          refine hl_nil ?_
          exact qe_done rfl
        apply hb_ex _ rfl rfl rfl
        · intro w1
          refine r_move rfl rfl ?_
          refine hl_nil ?_
          exact qe_done rfl
        refine hb_split (t := 59) (want := true) rfl ?_ ?_
        · intro hg4; have hg4' := hg4; try simp at hg4'
          have hk3 : k < b.length := by have := of_decide_eq_true (bt1 hg4); omega
          apply hb_ex _ rfl rfl rfl
          · intro w1
            refine g_yes rfl rfl (by first | rfl | assumption | exact gy (by assumption) | exact gy2 (by assumption)) ?_
            refine r_move rfl rfl ?_
            refine hl_nil ?_
            exact qe_done rfl
          apply hb_ex _ rfl rfl rfl
          · intro w1
            refine g_yes rfl rfl (by first | rfl | assumption | exact gy (by assumption) | exact gy2 (by assumption)) ?_
            refine r_move rfl rfl ?_
            refine hl_nil ?_
            exact qe_done rfl
          apply hb_ex _ rfl rfl rfl
          · intro w1
            refine g_yes rfl rfl (by first | rfl | assumption | exact gy (by assumption) | exact gy2 (by assumption)) ?_
            refine r_elem (α := Str) _ _ rfl T.u_strs T.sz_string rfl rfl rfl (by repeat constructor) rfl (by omega) (by decide) ?_
            refine hl_nil ?_
            exact qe_done rfl
          apply hb_ex _ rfl rfl rfl
          · intro w1
            refine g_yes rfl rfl (by first | rfl | assumption | exact gy (by assumption) | exact gy2 (by assumption)) ?_
            refine r_load rfl T.cell_string rfl (cell_row (by repeat constructor) (rows_get0 (by omega) rfl)) ?_
            refine hl_nil ?_
            exact qe_done rfl
          apply hb_ex _ rfl rfl rfl
          · intro w1
            refine g_yes rfl rfl (by first | rfl | assumption | exact gy (by assumption) | exact gy2 (by assumption)) ?_
            refine r_move rfl rfl ?_
            refine hl_nil ?_
            exact qe_done rfl
          apply hb_ex _ rfl rfl rfl
          · intro w1
            refine g_yes rfl rfl (by first | rfl | assumption | exact gy (by assumption) | exact gy2 (by assumption)) ?_
            refine r_move rfl rfl ?_
            refine hl_nil ?_
            exact qe_done rfl
          apply hb_ex _ rfl rfl rfl
          · intro w1
            refine g_yes rfl rfl (by first | rfl | assumption | exact gy (by assumption) | exact gy2 (by assumption)) ?_
            refine r_elem (α := Str) _ _ rfl T.u_strs T.sz_string rfl rfl rfl (by repeat constructor) rfl (by omega) (by decide) ?_
            refine hl_nil ?_
            exact qe_done rfl
          apply hb_ex _ rfl rfl rfl
          · intro w1
            refine g_yes rfl rfl (by first | rfl | assumption | exact gy (by assumption) | exact gy2 (by assumption)) ?_
            refine r_load rfl T.cell_string rfl (cell_row (by repeat constructor) (rows_get0 (by omega) rfl)) ?_
            refine hl_nil ?_
            exact qe_done rfl
          refine hb_nil ⟨rfl, ?_⟩
          refine g_yes rfl rfl (by first | rfl | assumption | exact gy (by assumption) | exact gy2 (by assumption)) ?_
          refine r_seql rfl rfl rfl ?_
          refine p_t rfl rfl (by first | rfl | assumption | exact bt1 (by assumption) | exact bt2 (by assumption)) rfl ?_
          refine hl_nil ?_
          refine then_n ?_
          first | refine c_dec rfl (fun hb3 => ?_) (fun hb3 => ?_) | refine hc_cond rfl (fun hb3 => ?_) (fun hb3 => ?_)
          · have hb3' := hb3; try simp at hb3'
            have hc3 : i < a.length ∧ k < b.length ∧ a.getD i default = b.getD k default := ⟨hi3, hk3, hb3⟩
            refine hc_region ?_
            refine r_move rfl rfl ?_
            refine r_move rfl rfl ?_
            refine r_move rfl rfl ?_
            refine r_add _ rfl rfl rfl rfl (by unfold I64; omega) ?_
            refine r_move rfl rfl ?_
            refine r_add _ rfl rfl rfl rfl (by unfold I64; omega) ?_
            refine r_move rfl rfl ?_
            refine r_move rfl rfl ?_
            refine r_move rfl rfl ?_
            refine hl_call F.law07_lists_cb rfl rfl (ih d0 (Nat.lt_succ_self _) (i + 1) (k + 1) (g) G g.length (o, oc) (by omega) (by omega) (by omega) (by first | omega | (simp only [List.length_append, List.length_cons, List.length_nil]; omega)) (by first | omega | (simp only [List.length_append, List.length_cons, List.length_nil]; omega)) hst) (hpR := []) (by rw [List.append_nil]; exact .refl _) ⟨(by repeat constructor), (by repeat constructor), (by repeat constructor), (by repeat constructor), trivial⟩ fun y hy => ?_
            obtain ⟨hy, hyb⟩ := hy
            refine hl_nil ?_
            exact cut_n _ y ⟨by rw [pick_if_t hc3]; exact hy, hyb⟩ ⟨rfl, rfl, rfl, rfl, rfl, rfl, rfl, trivial⟩ (List.sublist_append_left _ _) ⟨(by repeat constructor), (by repeat constructor), (by repeat constructor), (by repeat constructor), trivial⟩
          · have hb3' := hb3; try simp at hb3'
            have hc3 : ¬ (i < a.length ∧ k < b.length ∧ a.getD i default = b.getD k default) := fun h => hb3 h.2.2
            refine hc_skip ?_
            exact cut_n _ (o, oc) ⟨(pick_if_f hc3).symm, hst⟩ ⟨rfl, rfl, rfl, rfl, rfl, rfl, rfl, trivial⟩ (.refl _) ⟨(by repeat constructor), (by repeat constructor), (by repeat constructor), (by repeat constructor), trivial⟩
        · intro hg4; have hg4' := hg4; try simp at hg4'
          have hk3 : ¬ k < b.length := by have := of_decide_eq_false (bf2 hg4); omega
          have hc3 : ¬ (i < a.length ∧ k < b.length ∧ a.getD i default = b.getD k default) := fun h => hk3 h.2.1
          apply hb_ex _ rfl rfl rfl
          · intro w1
            refine g_no rfl rfl rfl rfl rfl (by first | rfl | assumption | exact gn (by assumption) | exact gn2 (by assumption)) ?_
            refine hl_nil ?_
            exact qe_done rfl
          apply hb_ex _ rfl rfl rfl
          · intro w1
            refine g_no rfl rfl rfl rfl rfl (by first | rfl | assumption | exact gn (by assumption) | exact gn2 (by assumption)) ?_
            refine hl_nil ?_
            exact qe_done rfl
          apply hb_ex _ rfl rfl rfl
          · intro w1
            refine g_no rfl rfl rfl rfl rfl (by first | rfl | assumption | exact gn (by assumption) | exact gn2 (by assumption)) ?_
            refine hl_nil ?_
            exact qe_done rfl
          apply hb_ex _ rfl rfl rfl
          · intro w1
            refine g_no rfl rfl rfl rfl rfl (by first | rfl | assumption | exact gn (by assumption) | exact gn2 (by assumption)) ?_
            refine hl_nil ?_
            exact qe_done rfl
          apply hb_ex _ rfl rfl rfl
          · intro w1
            refine g_no rfl rfl rfl rfl rfl (by first | rfl | assumption | exact gn (by assumption) | exact gn2 (by assumption)) ?_
            refine hl_nil ?_
            exact qe_done rfl
          apply hb_ex _ rfl rfl rfl
          · intro w1
            refine g_no rfl rfl rfl rfl rfl (by first | rfl | assumption | exact gn (by assumption) | exact gn2 (by assumption)) ?_
            refine hl_nil ?_
            exact qe_done rfl
          apply hb_ex _ rfl rfl rfl
          · intro w1
            refine g_no rfl rfl rfl rfl rfl (by first | rfl | assumption | exact gn (by assumption) | exact gn2 (by assumption)) ?_
            refine hl_nil ?_
            exact qe_done rfl
          apply hb_ex _ rfl rfl rfl
          · intro w1
            refine g_no rfl rfl rfl rfl rfl (by first | rfl | assumption | exact gn (by assumption) | exact gn2 (by assumption)) ?_
            refine hl_nil ?_
            exact qe_done rfl
          refine hb_nil ⟨rfl, ?_⟩
          refine g_no rfl rfl rfl rfl rfl (by first | rfl | assumption | exact gn (by assumption) | exact gn2 (by assumption)) ?_
          refine p_f rfl rfl (by first | rfl | assumption | exact bf1 (by assumption) | exact bf2 (by assumption)) rfl ?_
          refine hl_nil ?_
          refine then_n ?_
          refine c_f rfl (by first | rfl | assumption | exact bf1 (by assumption) | exact bf2 (by assumption)) ?_
          refine hc_skip ?_
          exact cut_n _ (o, oc) ⟨(pick_if_f hc3).symm, hst⟩ ⟨rfl, rfl, rfl, rfl, rfl, rfl, rfl, trivial⟩ (.refl _) ⟨(by repeat constructor), (by repeat constructor), (by repeat constructor), (by repeat constructor), trivial⟩
      · intro hg3; have hg3' := hg3; try simp at hg3'
        have hi3 : ¬ i < a.length := by have := of_decide_eq_false (bf2 hg3); omega
        have hc3 : ¬ (i < a.length ∧ k < b.length ∧ a.getD i default = b.getD k default) := fun h => hi3 h.1
        apply hb_ex _ rfl rfl rfl
        · intro w1
          refine g_no rfl rfl rfl rfl rfl (by first | rfl | assumption | exact gn (by assumption) | exact gn2 (by assumption)) ?_
          refine hl_nil ?_
          exact qe_done rfl
        apply hb_ex _ rfl rfl rfl
        · intro w1
          refine g_no rfl rfl rfl rfl rfl (by first | rfl | assumption | exact gn (by assumption) | exact gn2 (by assumption)) ?_
          refine hl_nil ?_
          exact qe_done rfl
        apply hb_ex _ rfl rfl rfl
        · intro w1
          refine g_no rfl rfl rfl rfl rfl (by first | rfl | assumption | exact gn (by assumption) | exact gn2 (by assumption)) ?_
          refine hl_nil ?_
          exact qe_done rfl
        apply hb_ex _ rfl rfl rfl
        · intro w1
          refine g_no rfl rfl rfl rfl rfl (by first | rfl | assumption | exact gn (by assumption) | exact gn2 (by assumption)) ?_
          refine hl_nil ?_
          exact qe_done rfl
        apply hb_ex _ rfl rfl rfl
        · intro w1
          refine p_f rfl rfl (by first | rfl | assumption | exact bf1 (by assumption) | exact bf2 (by assumption)) rfl ?_
          refine hl_nil ?_
          exact qe_done rfl
        apply hb_ex _ rfl rfl rfl
        · intro w1
          refine r_move rfl rfl ?_
          refine hl_nil ?_
          exact qe_done rfl
        apply hb_ex _ rfl rfl rfl
        · intro w1
          refine g_no rfl rfl rfl rfl rfl (by first | rfl | assumption | exact gn (by assumption) | exact gn2 (by assumption)) ?_
          refine hl_nil ?_
          exact qe_done rfl
        apply hb_ex _ rfl rfl rfl
        · intro w1
          refine g_no rfl rfl rfl rfl rfl (by first | rfl | assumption | exact gn (by assumption) | exact gn2 (by assumption)) ?_
          refine hl_nil ?_
          exact qe_done rfl
        apply hb_ex _ rfl rfl rfl
        · intro w1
          refine g_no rfl rfl rfl rfl rfl (by first | rfl | assumption | exact gn (by assumption) | exact gn2 (by assumption)) ?_
          refine hl_nil ?_
          exact qe_done rfl
        apply hb_ex _ rfl rfl rfl
        · intro w1
          refine g_no rfl rfl rfl rfl rfl (by first | rfl | assumption | exact gn (by assumption) | exact gn2 (by assumption)) ?_
          refine hl_nil ?_
          exact qe_done rfl
        apply hb_ex _ rfl rfl rfl
        · intro w1
          refine g_no rfl rfl rfl rfl rfl (by first | rfl | assumption | exact gn (by assumption) | exact gn2 (by assumption)) ?_
          refine hl_nil ?_
          exact qe_done rfl
        apply hb_ex _ rfl rfl rfl
        · intro w1
          refine g_no rfl rfl rfl rfl rfl (by first | rfl | assumption | exact gn (by assumption) | exact gn2 (by assumption)) ?_
          refine hl_nil ?_
          exact qe_done rfl
        apply hb_ex _ rfl rfl rfl
        · intro w1
          refine g_no rfl rfl rfl rfl rfl (by first | rfl | assumption | exact gn (by assumption) | exact gn2 (by assumption)) ?_
          refine hl_nil ?_
          exact qe_done rfl
        apply hb_ex _ rfl rfl rfl
        · intro w1
          refine g_no rfl rfl rfl rfl rfl (by first | rfl | assumption | exact gn (by assumption) | exact gn2 (by assumption)) ?_
          refine hl_nil ?_
          exact qe_done rfl
        refine hb_nil ⟨rfl, ?_⟩
        refine g_no rfl rfl rfl rfl rfl (by first | rfl | assumption | exact gn (by assumption) | exact gn2 (by assumption)) ?_
        refine p_f rfl rfl (by first | rfl | assumption | exact bf1 (by assumption) | exact bf2 (by assumption)) rfl ?_
        refine hl_nil ?_
        refine then_n ?_
        refine c_f rfl (by first | rfl | assumption | exact bf1 (by assumption) | exact bf2 (by assumption)) ?_
        refine hc_skip ?_
        exact cut_n _ (o, oc) ⟨(pick_if_f hc3).symm, hst⟩ ⟨rfl, rfl, rfl, rfl, rfl, rfl, rfl, trivial⟩ (.refl _) ⟨(by repeat constructor), (by repeat constructor), (by repeat constructor), (by repeat constructor), trivial⟩
    · intro x hx
      obtain ⟨hx, hxb⟩ := hx
      have hxl := bd_some hxb
      refine hc_cut ⟨fun x : LSt => x.1 = pickAll g (if k < b.length then (allL a b d0 i (k + 1)).map ((1, (i : Int), b.getD k default) :: ·) else []) (pickAll g (if i < a.length ∧ k < b.length ∧ a.getD i default = b.getD k default then allL a b d0 (i + 1) (k + 1) else []) o) ∧ Bd 12 x.1, fun x => [(0, .slice A a.length ca), (1, .slice B b.length cb), (2, int i), (3, int k), (5, ptrM gm), (6, ptrM gs), (14, .slice G g.length g.length)], fun x => lhp gm gs x, fun x => [Row x.2.1 (rows (x.1.getD [])), Row A (rows a), Row B (rows b), Row G (rows g)]⟩ ?_ ?_
      · skip
        refine hc_seq ?_
        refine hc_region ?_
        refine r_move rfl rfl ?_
        refine r_move rfl rfl ?_
        refine r_len_sl rfl T.u_strs rfl ?_
        refine r_lss rfl rfl rfl ?_
        refine hl_nil ?_
        refine then_n ?_
        first | refine c_dec rfl (fun hb4 => ?_) (fun hb4 => ?_) | refine hc_cond rfl (fun hb4 => ?_) (fun hb4 => ?_)
        · have hb4' := hb4; try simp at hb4'
          have hk3 : k < b.length := by omega
          refine hc_region ?_
          refine r_move rfl rfl ?_
          refine r_move rfl rfl ?_
          refine r_move rfl rfl ?_
          refine r_move rfl rfl ?_
          refine r_add _ rfl rfl rfl rfl (by unfold I64; omega) ?_
          refine r_move rfl rfl ?_
          refine r_move rfl rfl ?_
          refine r_move rfl rfl ?_
          refine r_move rfl rfl ?_
          refine r_elem (α := Str) _ _ rfl T.u_strs T.sz_string rfl rfl rfl (by repeat constructor) rfl (by omega) (by decide) ?_
          refine r_load rfl T.cell_string rfl (cell_row (by repeat constructor) (rows_get0 (by omega) rfl)) ?_
          refine hl_call F.law07_in_cb rfl rfl (law07_in_meets i (b.getD k default)) (hpR := lhp gm gs x) (List.Perm.refl _) trivial fun _ _ => ?_
          refine r_buildSlice _ rfl rfl (fun _ => T.bs_L_api_Mark_1 ..) fun gS => ?_
          refine r_append_full (g.length + 1) (rows (g ++ [(1, (i : Int), (b.getD k default))])) T.el_L_api_Mark rfl rfl rfl (by repeat constructor) (rows_len g) (Src.own (cs := #[int 1, int i, str (b.getD k default)]) (m := 1) m0 rfl rfl) rfl (rows_append g [(1, (i : Int), (b.getD k default))]).symm (by unfold maxLen; omega) (by omega) fun A' c' hc' => ?_
          refine r_move rfl rfl ?_
          refine r_move rfl rfl ?_
          have hr := (ih d0 (Nat.lt_succ_self _) (i) (k + 1) (g ++ [(1, (i : Int), (b.getD k default))]) A' c' x (by omega) (by omega) (by omega) (by first | omega | (simp only [List.length_append, List.length_cons, List.length_nil]; omega)) (by first | omega | (simp only [List.length_append, List.length_cons, List.length_nil]; omega)) hxb)
          rw [len_snoc] at hr
          refine hl_call (vs := [.slice A a.length ca, .slice B b.length cb, int ((i : Nat) : Int), int ((k + 1 : Nat) : Int), .slice A' (g.length + 1) c', ptrM gm, ptrM gs]) F.law07_lists_cb rfl rfl hr (List.perm_append_comm (l₁ := [_])) ⟨(by repeat constructor), (by repeat constructor), (by repeat constructor), (by repeat constructor), trivial⟩ fun y hy => ?_
          obtain ⟨hy, hyb⟩ := hy
          refine hl_nil ?_
          exact cut_n _ y ⟨by rw [pick_if_t hk3, pickAll_map, ← hx]; exact hy, hyb⟩ ⟨rfl, rfl, rfl, rfl, rfl, rfl, rfl, trivial⟩ (List.sublist_append_left _ _) ⟨(by repeat constructor), (by repeat constructor), (by repeat constructor), (by repeat constructor), trivial⟩
        · have hb4' := hb4; try simp at hb4'
          have hk3 : ¬ k < b.length := by omega
          refine hc_skip ?_
          exact cut_n _ x ⟨by rw [pick_if_f hk3, ← hx], hxb⟩ ⟨rfl, rfl, rfl, rfl, rfl, rfl, rfl, trivial⟩ (.refl _) ⟨(by repeat constructor), (by repeat constructor), (by repeat constructor), (by repeat constructor), trivial⟩
      · intro x2 hx
        obtain ⟨hx2, hx2b⟩ := hx
        have hx2l := bd_some hx2b
        refine hc_cut ⟨fun x : LSt => x.1 = pickAll g (if i < a.length then (allL a b d0 (i + 1) k).map ((3, (i : Int), []) :: ·) else []) (pickAll g (if k < b.length then (allL a b d0 i (k + 1)).map ((1, (i : Int), b.getD k default) :: ·) else []) (pickAll g (if i < a.length ∧ k < b.length ∧ a.getD i default = b.getD k default then allL a b d0 (i + 1) (k + 1) else []) o)) ∧ Bd 12 x.1, fun x => [(0, .slice A a.length ca), (1, .slice B b.length cb), (2, int i), (3, int k), (5, ptrM gm), (6, ptrM gs), (14, .slice G g.length g.length)], fun x => lhp gm gs x, fun x => [Row x.2.1 (rows (x.1.getD [])), Row A (rows a), Row B (rows b), Row G (rows g)]⟩ ?_ ?_
        · skip
          refine hc_seq ?_
          refine hc_region ?_
          refine r_move rfl rfl ?_
          refine r_move rfl rfl ?_
          refine r_len_sl rfl T.u_strs rfl ?_
          refine r_lss rfl rfl rfl ?_
          refine hl_nil ?_
          refine then_n ?_
          first | refine c_dec rfl (fun hb5 => ?_) (fun hb5 => ?_) | refine hc_cond rfl (fun hb5 => ?_) (fun hb5 => ?_)
          · have hb5' := hb5; try simp at hb5'
            have hi3 : i < a.length := by omega
            refine hc_region ?_
            refine r_move rfl rfl ?_
            refine r_move rfl rfl ?_
            refine r_move rfl rfl ?_
            refine r_add _ rfl rfl rfl rfl (by unfold I64; omega) ?_
            refine r_move rfl rfl ?_
            refine r_move rfl rfl ?_
            refine r_move rfl rfl ?_
            refine hl_call F.law07_out_cb rfl rfl (law07_out_meets i) (hpR := lhp gm gs x2) (List.Perm.refl _) trivial fun _ _ => ?_
            refine r_buildSlice _ rfl rfl (fun _ => T.bs_L_api_Mark_1 ..) fun gS => ?_
            refine r_append_full (g.length + 1) (rows (g ++ [(3, (i : Int), [])])) T.el_L_api_Mark rfl rfl rfl (by repeat constructor) (rows_len g) (Src.own (cs := #[int 3, int i, str []]) (m := 1) m0 rfl rfl) rfl (rows_append g [(3, (i : Int), [])]).symm (by unfold maxLen; omega) (by omega) fun A' c' hc' => ?_
            refine r_move rfl rfl ?_
            refine r_move rfl rfl ?_
            have hr := (ih d0 (Nat.lt_succ_self _) (i + 1) (k) (g ++ [(3, (i : Int), [])]) A' c' x2 (by omega) (by omega) (by omega) (by first | omega | (simp only [List.length_append, List.length_cons, List.length_nil]; omega)) (by first | omega | (simp only [List.length_append, List.length_cons, List.length_nil]; omega)) hx2b)
            rw [len_snoc] at hr
            refine hl_call (vs := [.slice A a.length ca, .slice B b.length cb, int ((i + 1 : Nat) : Int), int ((k : Nat) : Int), .slice A' (g.length + 1) c', ptrM gm, ptrM gs]) F.law07_lists_cb rfl rfl hr (List.perm_append_comm (l₁ := [_])) ⟨(by repeat constructor), (by repeat constructor), (by repeat constructor), (by repeat constructor), trivial⟩ fun y hy => ?_
            obtain ⟨hy, hyb⟩ := hy
            refine hl_nil ?_
            exact cut_n _ y ⟨by rw [pick_if_t hi3, pickAll_map, ← hx2]; exact hy, hyb⟩ ⟨rfl, rfl, rfl, rfl, rfl, rfl, rfl, trivial⟩ (List.sublist_append_left _ _) ⟨(by repeat constructor), (by repeat constructor), (by repeat constructor), (by repeat constructor), trivial⟩
          · have hb5' := hb5; try simp at hb5'
            have hi3 : ¬ i < a.length := by omega
            refine hc_skip ?_
            exact cut_n _ x2 ⟨by rw [pick_if_f hi3, ← hx2], hx2b⟩ ⟨rfl, rfl, rfl, rfl, rfl, rfl, rfl, trivial⟩ (.refl _) ⟨(by repeat constructor), (by repeat constructor), (by repeat constructor), (by repeat constructor), trivial⟩
        · intro x3 hx
          obtain ⟨hx3, hx3b⟩ := hx
          have hx3l := bd_some hx3b
          refine hc_seq ?_
          refine hc_region ?_
          refine r_move rfl rfl ?_
          refine r_move rfl rfl ?_
          refine r_len_sl rfl T.u_strs rfl ?_
          refine r_lss rfl rfl rfl ?_
          refine r_move rfl rfl ?_
          refine g_split rfl rfl ?_ ?_
          · intro hg5; have hg5' := hg5; try simp at hg5'
            have hi3 : i < a.length := by have := of_decide_eq_true (bt1 hg5); omega
            refine g_yes rfl rfl (by first | rfl | assumption | exact gy (by assumption) | exact gy2 (by assumption)) ?_
            refine r_move rfl rfl ?_
            refine g_yes rfl rfl (by first | rfl | assumption | exact gy (by assumption) | exact gy2 (by assumption)) ?_
            refine r_move rfl rfl ?_
            refine g_yes rfl rfl (by first | rfl | assumption | exact gy (by assumption) | exact gy2 (by assumption)) ?_
            refine r_len_sl rfl T.u_strs rfl ?_
            refine g_yes rfl rfl (by first | rfl | assumption | exact gy (by assumption) | exact gy2 (by assumption)) ?_
            refine r_lss rfl rfl rfl ?_
            refine p_t rfl rfl (by first | rfl | assumption | exact bt1 (by assumption) | exact bt2 (by assumption)) rfl ?_
            refine hl_nil ?_
            refine then_n ?_
            first | refine c_dec rfl (fun hb6 => ?_) (fun hb6 => ?_) | refine hc_cond rfl (fun hb6 => ?_) (fun hb6 => ?_)
            · have hb6' := hb6; try simp at hb6'
              have hc6 : i < a.length ∧ k < b.length := ⟨hi3, by omega⟩
              refine hc_region ?_
              refine r_move rfl rfl ?_
              refine r_move rfl rfl ?_
              refine r_move rfl rfl ?_
              refine r_add _ rfl rfl rfl rfl (by unfold I64; omega) ?_
              refine r_move rfl rfl ?_
              refine r_add _ rfl rfl rfl rfl (by unfold I64; omega) ?_
              refine r_move rfl rfl ?_
              refine r_move rfl rfl ?_
              refine r_move rfl rfl ?_
              refine r_move rfl rfl ?_
              refine r_elem (α := Str) _ _ rfl T.u_strs T.sz_string rfl rfl rfl (by repeat constructor) rfl (by omega) (by decide) ?_
              refine r_load rfl T.cell_string rfl (cell_row (by repeat constructor) (rows_get0 (by omega) rfl)) ?_
              refine hl_call F.law07_set_cb rfl rfl (law07_set_meets i (b.getD k default)) (hpR := lhp gm gs x3) (List.Perm.refl _) trivial fun _ _ => ?_
              refine r_buildSlice _ rfl rfl (fun _ => T.bs_L_api_Mark_1 ..) fun gS => ?_
              refine r_append_full (g.length + 1) (rows (g ++ [(2, (i : Int), (b.getD k default))])) T.el_L_api_Mark rfl rfl rfl (by repeat constructor) (rows_len g) (Src.own (cs := #[int 2, int i, str (b.getD k default)]) (m := 1) m0 rfl rfl) rfl (rows_append g [(2, (i : Int), (b.getD k default))]).symm (by unfold maxLen; omega) (by omega) fun A' c' hc' => ?_
              refine r_move rfl rfl ?_
              refine r_move rfl rfl ?_
              have hr := (ih d0 (Nat.lt_succ_self _) (i + 1) (k + 1) (g ++ [(2, (i : Int), (b.getD k default))]) A' c' x3 (by omega) (by omega) (by omega) (by first | omega | (simp only [List.length_append, List.length_cons, List.length_nil]; omega)) (by first | omega | (simp only [List.length_append, List.length_cons, List.length_nil]; omega)) hx3b)
              rw [len_snoc] at hr
              refine hl_call (vs := [.slice A a.length ca, .slice B b.length cb, int ((i + 1 : Nat) : Int), int ((k + 1 : Nat) : Int), .slice A' (g.length + 1) c', ptrM gm, ptrM gs]) F.law07_lists_cb rfl rfl hr (List.perm_append_comm (l₁ := [_])) ⟨(by repeat constructor), (by repeat constructor), (by repeat constructor), (by repeat constructor), trivial⟩ fun y hy => ?_
              obtain ⟨hy, hyb⟩ := hy
              refine hl_nil ?_
              exact ret0n y rfl rfl rfl ⟨by rw [hall, pick_if_t hc6, pickAll_map, ← hx3]; exact hy, hyb⟩ (List.sublist_append_left _ _) ⟨(by repeat constructor), trivial⟩
            · have hb6' := hb6; try simp at hb6'
              have hc6 : ¬ (i < a.length ∧ k < b.length) := fun h => by omega
              refine hc_skip ?_
              exact ret0n x3 rfl rfl rfl ⟨by rw [hall, pick_if_f hc6, ← hx3], hx3b⟩ (.refl _) ⟨(by repeat constructor), trivial⟩
          · intro hg5; have hg5' := hg5; try simp at hg5'
            have hi3 : ¬ i < a.length := by have := of_decide_eq_false (bf2 hg5); omega
            have hc6 : ¬ (i < a.length ∧ k < b.length) := fun h => hi3 h.1
            refine g_no rfl rfl rfl rfl rfl (by first | rfl | assumption | exact gn (by assumption) | exact gn2 (by assumption)) ?_
            refine g_no rfl rfl rfl rfl rfl (by first | rfl | assumption | exact gn (by assumption) | exact gn2 (by assumption)) ?_
            refine g_no rfl rfl rfl rfl rfl (by first | rfl | assumption | exact gn (by assumption) | exact gn2 (by assumption)) ?_
            refine g_no rfl rfl rfl rfl rfl (by first | rfl | assumption | exact gn (by assumption) | exact gn2 (by assumption)) ?_
            refine p_f rfl rfl (by first | rfl | assumption | exact bf1 (by assumption) | exact bf2 (by assumption)) rfl ?_
            refine hl_nil ?_
            refine then_n ?_
            refine c_f rfl (by first | rfl | assumption | exact bf1 (by assumption) | exact bf2 (by assumption)) ?_
            refine hc_skip ?_
            exact ret0n x3 rfl rfl rfl ⟨by rw [hall, pick_if_f hc6, ← hx3], hx3b⟩ (.refl _) ⟨(by repeat constructor), trivial⟩

end Go.Proofs.Ytpbbgbjidhffoaa
