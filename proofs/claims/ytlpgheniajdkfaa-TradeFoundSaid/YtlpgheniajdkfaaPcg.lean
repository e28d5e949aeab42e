/- The walk of the statement TradeFound. -/
import Derived.Test.YtlpgheniajdkfaaPbl
namespace Go.Proofs.Ytlpgheniajdkfaa
open Go Go.W
set_option linter.unusedVariables false
set_option linter.unusedSimpArgs false
set_option maxRecDepth 20000
attribute [local irreducible] HL HC HQ HB Row Rows2 Blk Facts

theorem steps_at {t : Tr} {h i : Nat} (hi : i < t.hs.length) : (stepsT t (h : Int)).getD i default = distI t.hs.length (nextB t) h i := by
  unfold stepsT
  rw [getD_at (by rw [List.length_map, List.length_range]; exact hi), List.getElem_map, List.getElem_range, Int.toNat_natCast]
theorem dist_hi {n : Nat} {e : Edges} {h i : Nat} : -1 ≤ distI n e h i ∧ distI n e h i ≤ (n : Int) := by
  unfold distI
  cases hd : distB n e h i with
  | none => simp only; omega
  | some s => have := (dist_some.1 hd).1; simp only; omega
theorem dist_self {n : Nat} {e : Edges} {h : Nat} (hh : h < n) : distI n e h h = 0 := by
  have h1 := (dist_le (e := e) hh hh 0).2 (by rw [reachB]; simp)
  omega
def upB (e : Edges) (D : Nat → Int) (i : Nat) (b : Int) (j : Nat) : Bool := (e j i && decide (0 ≤ D j)) && (decide (b < 0) || decide (D j + 1 < b))
def bestK (e : Edges) (D : Nat → Int) (i : Nat) : Nat → Int
  | 0 => -1
  | j + 1 => if upB e D i (bestK e D i j) j = true then D j + 1 else bestK e D i j
theorem best_at {e : Edges} {D : Nat → Int} {i : Nat} : ∀ j : Nat, (bestK e D i j = -1 ∧ ∀ p, p < j → e p i = true → D p < 0) ∨ (∃ p, p < j ∧ e p i = true ∧ 0 ≤ D p ∧ bestK e D i j = D p + 1 ∧ ∀ r, r < j → e r i = true → 0 ≤ D r → D p ≤ D r)
  | 0 => .inl ⟨rfl, fun p hp => by omega⟩
  | j + 1 => by
    have ih := best_at (e := e) (D := D) (i := i) j
    rw [bestK]
    by_cases hu : upB e D i (bestK e D i j) j = true
    · rw [if_pos hu]
      unfold upB at hu
      simp only [Bool.and_eq_true, Bool.or_eq_true, decide_eq_true_eq] at hu
      refine .inr ⟨j, by omega, hu.1.1, hu.1.2, rfl, fun r hr he h0 => ?_⟩
      by_cases hrj : r = j
      · subst hrj; omega
      · rcases ih with ⟨h1, h2⟩ | ⟨p, hp, hp1, hp2, hp3, hp4⟩
        · have := h2 r (by omega) he; omega
        · have := hp4 r (by omega) he h0; omega
    · rw [if_neg hu]
      unfold upB at hu
      simp only [Bool.and_eq_true, Bool.or_eq_true, decide_eq_true_eq] at hu
      rcases ih with ⟨h1, h2⟩ | ⟨p, hp, hp1, hp2, hp3, hp4⟩
      · refine .inl ⟨h1, fun p hp he => ?_⟩
        by_cases hpj : p = j
        · subst hpj
          apply Classical.byContradiction
          intro hn
          exact hu ⟨⟨he, by omega⟩, .inl (by omega)⟩
        · exact h2 p (by omega) he
      · refine .inr ⟨p, by omega, hp1, hp2, hp3, fun r hr he h0 => ?_⟩
        by_cases hrj : r = j
        · subst hrj
          apply Classical.byContradiction
          intro hn
          exact hu ⟨⟨he, h0⟩, .inr (by omega)⟩
        · exact hp4 r (by omega) he h0
theorem best_bd {e : Edges} {D : Nat → Int} {i j : Nat} {m : Int} (hD : ∀ p, D p ≤ m) (hm : 0 ≤ m) : -1 ≤ bestK e D i j ∧ bestK e D i j ≤ m + 1 := by
  rcases best_at (e := e) (D := D) (i := i) j with ⟨h1, _⟩ | ⟨p, _, _, h2, h3, _⟩
  · omega
  · have := hD p; omega
/-- A heading that is found is found from the nearest that leads to it. -/
theorem dist_best {n : Nat} {e : Edges} {h i : Nat} (hh : h < n) (hi : i < n) (hne : i ≠ h) : distI n e h i = bestK e (distI n e h) i n := by
  have key : ∀ s, reachB n e h s i = true → ∃ k s', s = s' + 1 + (s - (s' + 1)) ∧ s' + 1 ≤ s ∧ k < n ∧ reachB n e h s' k = true ∧ e k i = true := by
    intro s
    induction s with
    | zero => intro hr; rw [reachB] at hr; exact absurd (of_decide_eq_true hr) hne
    | succ s ih =>
      intro hr
      rcases reach_succ.1 hr with h1 | ⟨k, h1, h2, h3⟩
      · obtain ⟨k, s', _, h3, h4⟩ := ih h1
        exact ⟨k, s', by omega, by omega, h4⟩
      · exact ⟨k, s, by omega, by omega, h1, h2, h3⟩
  have hb := dist_hi (n := n) (e := e) (h := h) (i := i)
  rcases best_at (e := e) (D := distI n e h) (i := i) n with ⟨h1, h2⟩ | ⟨p, hp, hp1, hp2, hp3, hp4⟩
  · rw [h1]
    apply Classical.byContradiction
    intro hn
    have hr := (dist_le (e := e) hh hi (distI n e h i).toNat).1 ⟨by omega, by omega⟩
    obtain ⟨k, s', _, _, hk, hrk, hek⟩ := key _ hr
    have h3 := (dist_le (e := e) hh hk s').2 hrk
    have := h2 k hk hek
    omega
  · rw [hp3]
    have hr1 := (dist_le (e := e) hh hp (distI n e h p).toNat).1 ⟨hp2, by omega⟩
    have hr2 : reachB n e h ((distI n e h p).toNat + 1) i = true := reach_succ.2 (.inr ⟨p, hp, hr1, hp1⟩)
    have h3 := (dist_le (e := e) hh hi _).2 hr2
    have hr := (dist_le (e := e) hh hi (distI n e h i).toNat).1 ⟨by omega, by omega⟩
    obtain ⟨k, s', _, hs, hk, hrk, hek⟩ := key _ hr
    have h4 := (dist_le (e := e) hh hk s').2 hrk
    have := hp4 k hk hek h4.1
    omega
theorem is_tr {cs : List Cl} {hs : List Hd} (hok : TrOK (trOf cs hs)) {i : Nat} (hi : i < hs.length) : isTrB (trOf cs hs) (i : Int) = decide (0 ≤ (hs.getD i default).2.1) := by
  have hh := hok.h i (by rw [hs_len]; exact hi)
  have hk := hh.kinds
  have hc := hh.c
  rw [show (trOf cs hs).hs.getD i default = (hs.getD i default).p from hd_get hi] at hk hc
  have hc1 : -1 ≤ (hs.getD i default).2.1 := hc.1
  rw [← isTr_at cs (i := (i : Int)) (by omega) (by omega), isA_of, Int.toNat_natCast]
  rcases hk with ⟨_, h1, _⟩ | ⟨h1, _⟩ | ⟨h1, _⟩
  · have h2 : (hs.getD i default).2.1 = -1 := h1
    rw [h2]; simp
  · have h2 : (hs.getD i default).2.2.1 = -1 := h1
    rw [decide_eq_true h2, Bool.true_and]; exact decide_eq_decide.2 (by omega)
  · have h2 : (hs.getD i default).2.2.1 = -1 := h1
    rw [decide_eq_true h2, Bool.true_and]; exact decide_eq_decide.2 (by omega)
theorem hiK_pre (t : Tr) (h s : Int) {k : Nat} : ∀ {m : Nat}, k ≤ m → hiK t h s k <+: hiK t h s m
  | 0, e => by obtain rfl : k = 0 := (by omega); exact List.prefix_refl _
  | m + 1, e => by
    by_cases e1 : k = m + 1
    · subst e1; exact List.prefix_refl _
    · refine (hiK_pre t h s (m := m) (by omega)).trans ?_
      rw [hiK_succ]
      split
      · exact List.prefix_append _ _
      · exact List.prefix_refl _
theorem hiK_at {t : Tr} {h s : Int} {k : Nat} (hk : k < t.hs.length) (e : hiB t h s k = true) : (hiK t h s k).length < (hiddenT t h s).length ∧ (hiddenT t h s).getD (hiK t h s k).length default = (k : Int) := by
  have hp : hiK t h s (k + 1) <+: hiddenT t h s := hiK_pre t h s (by omega)
  rw [hiK_succ, if_pos e] at hp
  obtain ⟨r, hr⟩ := hp
  rw [← hr]
  constructor
  · simp only [List.length_append, List.length_singleton]; omega
  · rw [List.getD_eq_getElem?_getD, List.append_assoc, List.getElem?_append_right (Nat.le_refl _), Nat.sub_self]
    rfl
theorem hi_eq {t : Tr} {h s : Int} {k : Nat} {c d : Int} (h1 : isTrB t (k : Int) = decide (0 ≤ c)) (h2 : (stepsT t h).getD k default = d) : hiB t h s k = (decide (0 ≤ c) && (decide (d < 0) || decide (s < d))) := by
  unfold hiB
  rw [h1, h2]
  congr 1
  by_cases e1 : d < 0
  · rw [decide_eq_true e1, decide_eq_false (by omega)]; rfl
  · rw [decide_eq_false e1, Bool.false_or]
    by_cases e2 : s < d
    · rw [decide_eq_true e2, decide_eq_false (by omega)]; rfl
    · rw [decide_eq_false e2, decide_eq_true (by omega)]; rfl

set_option maxHeartbeats 2000000 in
theorem law04_TradeFound_meets {A : Option Addr} {c0 : Nat} (nums : List Int) (hn : nums.length ≤ 9223372036854775807) : Meets Try.prog F.law04_TradeFound [.slice A nums.length c0] { LI := [Row A (rows nums)], val := fun _ : Unit => .bool true } := by
 refine meets_intro F.law04_TradeFound_f rfl (Nat.le_of_ble_eq_true rfl) fun w0 => ?_
 refine hc_seq ?_
 refine hc_region ?_
 refine r_assign rfl rfl ?_
 refine hl_nil ?_
 refine then_n ?_
 refine hc_seq ?_
 refine hc_region ?_
 refine r_move rfl rfl ?_
 refine hl_call F.kit_NewDice_cb rfl rfl (kit_NewDice_meets nums) (List.Perm.refl _) ⟨(by repeat constructor), trivial⟩ fun g _ => ?_
 refine r_assign rfl rfl ?_
 refine hl_nil ?_
 refine then_n ?_
 refine hc_seq ?_
 refine hc_region ?_
 refine r_move rfl rfl ?_
 refine hl_call F.kit_TradesOf_cb rfl rfl (kit_TradesOf_meets 2 6 hn (dok0 nums) (by decide) (by decide)) (List.Perm.refl _) ⟨(by repeat constructor), trivial⟩ fun x hx => ?_
 obtain ⟨sd, cs, hs, ⟨CA, ca⟩, ⟨HB, cb⟩⟩ := x
 obtain ⟨hsd, hT⟩ := hx
 have hca : cs.length ≤ ca := hT.ca
 have hcb : hs.length ≤ cb := hT.cb
 have ha : ∀ h ∈ hs, h.2.2.2.l.length ≤ 1000000 := hT.ha
 have hT0 : checkT (trOf cs hs) = 0 := hT.ok
 have hok : TrOK (trOf cs hs) := tr_ok hT0
 clear hT
 have h6 : cs.length ≤ 6 := hok.c6
 have h6h := hok.h6
 have hln := hs_len cs hs
 rw [hln] at h6h
 have hcl : ∀ i, i < cs.length → ClsOK cs i := hok.c
 refine r_alloc rfl (fun _ => T.al_api_Trades _) fun gT => ?_
 refine r_storeS (cs := #[.slice CA cs.length ca, .slice HB hs.length cb]) rfl rfl (.refl _) T.sz_api_Trades (by rfl) (by rfl) ?_
 refine hl_nil ?_
 refine then_n ?_
 refine hc_seq ?_
 refine hc_seq ?_
 refine hc_letgoB ?_
 refine hc_outerF (ps := hs) (A := HB) (f := Hd.row) (by repeat constructor) ?_
 refine hc_region ?_
 first | refine r_fieldAddr ⟨_, 1, none⟩ rfl rfl T.fa_api_Trades_1 rfl ?_ | refine r_fieldAddr _ rfl rfl T.fa_api_Trades_1 rfl ?_
 first | refine r_load rfl T.cell_L_api_Head rfl (cell_own (by repeat constructor) rfl) ?_ | refine r_load rfl T.cell_L_api_Head rfl (cell_blk (by repeat constructor) rfl) ?_ | refine r_load rfl T.cell_L_api_Head rfl (cell_row (by repeat constructor) (rows_get0 (by omega) rfl)) ?_ | refine r_load rfl T.cell_L_api_Head rfl (cell_row_f (by repeat constructor) (rows_get (by omega) rfl)) ?_ | refine r_load rfl T.cell_L_api_Head rfl (cell_rowg (by repeat constructor) rfl) ?_
 refine r_len_sl rfl T.u_L_api_Head rfl ?_
 refine r_eql rfl rfl rfl ?_
 refine hl_nil ?_
 refine then_n ?_
 first | refine c_dec rfl (fun hb1 => ?_) (fun hb1 => ?_) | refine hc_cond rfl (fun hb1 => ?_) (fun hb1 => ?_)
 ·have hb1' := hb1; try simp at hb1'
  refine hc_seq ?_
  refine hc_region ?_
  refine hl_call F.law04_indexed_cb rfl rfl (law04_indexed_meets) (hpR := [_]) (List.Perm.refl _) trivial fun _ _ => ?_
  refine r_assign rfl rfl ?_
  refine hl_nil ?_
  refine then_n ?_
  refine hc_ret ?_
  refine then_ret ?_
  exact ret1 () rfl rfl rfl trivial (List.nil_sublist _) trivial
 ·have hb1' := hb1; try simp at hb1'
  have hpos : 0 < hs.length := by omega
  refine hc_skip ?_
  refine then_n ?_
  refine hc_seq ?_
  refine hc_region ?_
  refine r_move rfl rfl ?_
  first | refine r_fieldAddr ⟨_, 1, none⟩ rfl rfl T.fa_api_Trades_1 rfl ?_ | refine r_fieldAddr _ rfl rfl T.fa_api_Trades_1 rfl ?_
  first | refine r_load rfl T.cell_L_api_Head rfl (cell_own (by repeat constructor) rfl) ?_ | refine r_load rfl T.cell_L_api_Head rfl (cell_blk (by repeat constructor) rfl) ?_ | refine r_load rfl T.cell_L_api_Head rfl (cell_row (by repeat constructor) (rows_get0 (by omega) rfl)) ?_ | refine r_load rfl T.cell_L_api_Head rfl (cell_row_f (by repeat constructor) (rows_get (by omega) rfl)) ?_ | refine r_load rfl T.cell_L_api_Head rfl (cell_rowg (by repeat constructor) rfl) ?_
  refine r_len_sl rfl T.u_L_api_Head rfl ?_
  refine r_sub _ rfl rfl rfl rfl (by unfold I64; omega) ?_
  refine hl_call F.kit_Dice_To_cb rfl rfl (kit_Dice_To_meets ((hs.length : Int) - 1) hn hsd (by omega)) (List.Perm.refl _) ⟨(by repeat constructor), trivial⟩ fun x hx => ?_
  obtain ⟨s5, z5⟩ := x
  obtain ⟨hs5, hz5⟩ := hx
  simp only [ToInv] at hz5
  obtain ⟨st, rfl⟩ := Int.eq_ofNat_of_zero_le hz5.1
  have hst : st < hs.length := by by_cases h1 : (1 : Int) ≤ (hs.length : Int) - 1; have := hz5.2.1 h1; omega; have := hz5.2.2 (by omega); omega
  refine r_assign rfl rfl ?_
  refine hl_nil ?_
  refine then_n ?_
  refine hc_seq ?_
  have hsl : (stepsT (trOf cs hs) (st : Int)).length = hs.length := by rw [steps_len, hln]
  have hsa : ∀ k, k < hs.length → (stepsT (trOf cs hs) (st : Int)).getD k default = (distI hs.length (nextB (trOf cs hs)) st) k := fun k hk => by rw [steps_at (by rw [hln]; exact hk), hln]
  have hdb := fun k => dist_hi (n := hs.length) (e := nextB (trOf cs hs)) (h := st) (i := k)
  have hds := dist_self (e := nextB (trOf cs hs)) hst
  refine hc_region ?_
  first | refine r_loadA rfl T.row_api_Trades T.sz_api_Trades rfl (by repeat constructor) (by rfl) ?_ | refine r_loadB rfl T.row_api_Trades T.sz_api_Trades rfl (by repeat constructor) (by rfl) ?_ | refine r_loadS rfl T.row_api_Trades T.sz_api_Trades rfl rfl (cells_row (by repeat constructor) (rows_all (by omega))) ?_
  refine r_move rfl rfl ?_
  refine hl_call F.trade_Steps_cb rfl rfl (steps_is cs hs (st : Int) hca hcb ha hT0 (by rw [hln]; omega)) (hpR := [_]) (List.Perm.refl _) ⟨(by repeat constructor), (by repeat constructor), trivial⟩ fun y hy => ?_
  refine r_move rfl rfl ?_
  refine r_extract rfl rfl rfl ?_
  refine r_extract rfl rfl rfl ?_
  refine r_assign rfl rfl ?_
  refine r_assign rfl rfl ?_
  refine hl_nil ?_
  refine then_n ?_
  refine hc_seq ?_
  refine hc_seq ?_
  refine hc_region ?_
  refine r_move rfl rfl ?_
  refine r_neq rfl rfl rfl ?_
  refine r_move rfl rfl ?_
  refine g_split rfl rfl ?_ ?_
  ·intro hg1; have hg1' := hg1; try simp at hg1'
   refine g_yes rfl rfl hg1 ?_
   refine r_move rfl rfl ?_
   refine g_yes rfl rfl hg1 ?_
   refine r_len_sl rfl T.u_ints rfl ?_
   refine g_yes rfl rfl hg1 ?_
   first | refine r_fieldAddr ⟨_, 1, none⟩ rfl rfl T.fa_api_Trades_1 rfl ?_ | refine r_fieldAddr _ rfl rfl T.fa_api_Trades_1 rfl ?_
   refine g_yes rfl rfl hg1 ?_
   first | refine r_load rfl T.cell_L_api_Head rfl (cell_own (by repeat constructor) rfl) ?_ | refine r_load rfl T.cell_L_api_Head rfl (cell_blk (by repeat constructor) rfl) ?_ | refine r_load rfl T.cell_L_api_Head rfl (cell_row (by repeat constructor) (rows_get0 (by omega) rfl)) ?_ | refine r_load rfl T.cell_L_api_Head rfl (cell_row_f (by repeat constructor) (rows_get (by omega) rfl)) ?_ | refine r_load rfl T.cell_L_api_Head rfl (cell_rowg (by repeat constructor) rfl) ?_
   refine g_yes rfl rfl hg1 ?_
   refine r_len_sl rfl T.u_L_api_Head rfl ?_
   refine g_yes rfl rfl hg1 ?_
   refine r_neq rfl rfl rfl ?_
   refine p_f rfl rfl (bf1 hg1) rfl ?_
   refine r_move rfl rfl ?_
   refine g_split rfl rfl ?_ ?_
   ·intro hg2; have hg2' := hg2; try simp at hg2'
    refine g_yes rfl rfl hg2 ?_
    refine r_move rfl rfl ?_
    refine g_yes rfl rfl hg2 ?_
    refine r_move rfl rfl ?_
    refine g_yes rfl rfl hg2 ?_
    refine r_elem (α := Int) (stepsT (trOf cs hs) (st : Int)) st rfl T.u_ints T.sz_int rfl rfl rfl (by repeat constructor) rfl (by rw [hsl]; exact hst) (by decide) ?_
    refine g_yes rfl rfl hg2 ?_
    refine r_load (v := int 0) rfl T.cell_int rfl (cell_row (by repeat constructor) (rows_get0 (by rw [hsl]; exact hst) (by rw [hsa _ hst, hds]; rfl))) ?_
    refine g_yes rfl rfl hg2 ?_
    refine r_neq rfl rfl rfl ?_
    refine p_f rfl rfl (bf1 hg2) rfl ?_
    refine hl_nil ?_
    refine then_n ?_
    first | refine c_dec rfl (fun hb2 => ?_) (fun hb2 => ?_) | refine hc_cond rfl (fun hb2 => ?_) (fun hb2 => ?_)
    ·have hb2' := hb2; try simp at hb2'
    ·have hb2' := hb2; try simp at hb2'
     refine hc_skip ?_
     refine then_n ?_
     refine hc_seq ?_
     refine hc_seq ?_
     refine hc_region ?_
     refine r_assign rfl rfl ?_
     refine hl_nil ?_
     refine then_n ?_
     refine hc_block ?_
     refine hc_loop (β := Nat) ⟨fun i => i ≤ hs.length, fun i => [(4, .pointer (some ⟨gT, 0, none⟩)), (5, int st), (6, .slice y.1 (stepsT (trOf cs hs) (st : Int)).length y.2), (8, int i)], fun _ => [], fun _ => (Row y.1 (rows (stepsT (trOf cs hs) (st : Int))) :: (Row HB (rows hs) :: [Blk gT (.cells #[.slice CA cs.length ca, .slice HB hs.length cb] T.api_Trades (0, 0)), Row CA (rows cs), RowsF HB hs Hd.row]))⟩ (fun i => hs.length - i) 0 (Nat.zero_le _) ⟨rfl, rfl, rfl, rfl, trivial⟩ (List.nil_sublist _) ⟨(by repeat constructor), (by repeat constructor), (by repeat constructor), (by repeat constructor), (by repeat constructor), trivial⟩ fun i hi => ?_
     simp only at hi
     refine hc_seq ?_
     refine hc_seq ?_
     refine hc_region ?_
     refine r_move rfl rfl ?_
     refine r_move rfl rfl ?_
     refine r_len_sl rfl T.u_ints rfl ?_
     refine r_lss rfl rfl rfl ?_
     refine hl_nil ?_
     refine then_n ?_
     first | refine c_dec rfl (fun hb3 => ?_) (fun hb3 => ?_) | refine hc_cond rfl (fun hb3 => ?_) (fun hb3 => ?_)
     ·have hb3' := hb3; try simp at hb3'
      have hi2 : i < hs.length := by omega
      have hbb := fun j => best_bd (e := nextB (trOf cs hs)) (D := (distI hs.length (nextB (trOf cs hs)) st)) (i := i) (j := j) (m := (hs.length : Int)) (fun p => (hdb p).2) (by omega)
      refine hc_skip ?_
      refine then_n ?_
      refine hc_seq ?_
      refine hc_block ?_
      refine hc_seq ?_
      refine hc_region ?_
      refine r_assign rfl rfl ?_
      refine hl_nil ?_
      refine then_n ?_
      refine hc_seq ?_
      refine hc_seq ?_
      refine hc_region ?_
      refine r_assign rfl rfl ?_
      refine hl_nil ?_
      refine then_n ?_
      refine hc_block ?_
      refine hc_loop (β := Nat) ⟨fun j => j ≤ hs.length, fun j => [(4, .pointer (some ⟨gT, 0, none⟩)), (5, int st), (6, .slice y.1 (stepsT (trOf cs hs) (st : Int)).length y.2), (8, int i), (9, int (bestK (nextB (trOf cs hs)) (distI hs.length (nextB (trOf cs hs)) st) i j)), (10, int j)], fun _ => [], fun _ => (Row y.1 (rows (stepsT (trOf cs hs) (st : Int))) :: (Row HB (rows hs) :: [Blk gT (.cells #[.slice CA cs.length ca, .slice HB hs.length cb] T.api_Trades (0, 0)), Row CA (rows cs), RowsF HB hs Hd.row]))⟩ (fun j => hs.length - j) 0 (Nat.zero_le _) ⟨rfl, rfl, rfl, rfl, rfl, rfl, trivial⟩ (List.nil_sublist _) ⟨(by repeat constructor), (by repeat constructor), (by repeat constructor), (by repeat constructor), (by repeat constructor), trivial⟩ fun j hj => ?_
      simp only at hj
      have hbs : (bestK (nextB (trOf cs hs)) (distI hs.length (nextB (trOf cs hs)) st) i (j + 1)) = if upB (nextB (trOf cs hs)) (distI hs.length (nextB (trOf cs hs)) st) i (bestK (nextB (trOf cs hs)) (distI hs.length (nextB (trOf cs hs)) st) i j) j = true then (distI hs.length (nextB (trOf cs hs)) st) j + 1 else (bestK (nextB (trOf cs hs)) (distI hs.length (nextB (trOf cs hs)) st) i j) := rfl
      have hbj := hbb j
      have hdj := hdb j
      refine hc_seq ?_
      refine hc_seq ?_
      refine hc_region ?_
      refine r_move rfl rfl ?_
      refine r_move rfl rfl ?_
      refine r_len_sl rfl T.u_ints rfl ?_
      refine r_lss rfl rfl rfl ?_
      refine hl_nil ?_
      refine then_n ?_
      first | refine c_dec rfl (fun hb4 => ?_) (fun hb4 => ?_) | refine hc_cond rfl (fun hb4 => ?_) (fun hb4 => ?_)
      ·have hb4' := hb4; try simp at hb4'
       have hj2 : j < hs.length := by omega
       refine hc_skip ?_
       refine then_n ?_
       refine hc_seq ?_
       refine hc_block ?_
       refine hc_cut ⟨fun _ : Unit => True, fun _ => [(4, .pointer (some ⟨gT, 0, none⟩)), (5, int st), (6, .slice y.1 (stepsT (trOf cs hs) (st : Int)).length y.2), (8, int i), (9, int (bestK (nextB (trOf cs hs)) (distI hs.length (nextB (trOf cs hs)) st) i j)), (10, int j), (89, .bool (upB (nextB (trOf cs hs)) (distI hs.length (nextB (trOf cs hs)) st) i (bestK (nextB (trOf cs hs)) (distI hs.length (nextB (trOf cs hs)) st) i j) j))], fun _ => [], fun _ => (Row y.1 (rows (stepsT (trOf cs hs) (st : Int))) :: (Row HB (rows hs) :: [Blk gT (.cells #[.slice CA cs.length ca, .slice HB hs.length cb] T.api_Trades (0, 0)), Row CA (rows cs), RowsF HB hs Hd.row]))⟩ ?_ ?_
       ·skip
        refine hc_region ?_
        first | refine r_loadA rfl T.row_api_Trades T.sz_api_Trades rfl (by repeat constructor) (by rfl) ?_ | refine r_loadB rfl T.row_api_Trades T.sz_api_Trades rfl (by repeat constructor) (by rfl) ?_ | refine r_loadS rfl T.row_api_Trades T.sz_api_Trades rfl rfl (cells_row (by repeat constructor) (rows_all (by omega))) ?_
        refine r_move rfl rfl ?_
        refine r_move rfl rfl ?_
        refine hl_call F.law04_leads_cb rfl rfl (law04_leads_meets (A := CA) (B := HB) (ca := ca) (cb := cb) cs hs j i hj2 ha) (List.Perm.refl _) ⟨(by repeat constructor), trivial⟩ fun _ _ => ?_
        refine r_move rfl rfl ?_
        refine g_split rfl rfl ?_ ?_
        ·intro hg3; have hg3' := hg3; try simp at hg3'
         have g5 : nextB (trOf cs hs) j i = true := by simpa using hg3
         refine g_yes rfl rfl hg3 ?_
         refine r_move rfl rfl ?_
         refine g_yes rfl rfl hg3 ?_
         refine r_move rfl rfl ?_
         refine g_yes rfl rfl hg3 ?_
         refine r_elem (α := Int) (stepsT (trOf cs hs) (st : Int)) j rfl T.u_ints T.sz_int rfl rfl rfl (by repeat constructor) rfl (by rw [hsl]; exact hj2) (by decide) ?_
         refine g_yes rfl rfl hg3 ?_
         refine r_load (v := int ((distI hs.length (nextB (trOf cs hs)) st) j)) rfl T.cell_int rfl (cell_row (by repeat constructor) (rows_get0 (by rw [hsl]; exact hj2) (by rw [hsa _ hj2]; rfl))) ?_
         refine g_yes rfl rfl hg3 ?_
         refine r_geq rfl rfl rfl ?_
         refine p_t rfl rfl (bt1 hg3) rfl ?_
         refine r_move rfl rfl ?_
         refine g_split rfl rfl ?_ ?_
         ·intro hg4; have hg4' := hg4; try simp at hg4'
          have g12 : 0 ≤ (distI hs.length (nextB (trOf cs hs)) st) j := of_decide_eq_true (eq_of_beq hg4)
          refine g_yes rfl rfl hg4 ?_
          refine r_move rfl rfl ?_
          refine g_yes rfl rfl hg4 ?_
          refine r_lss rfl rfl rfl ?_
          refine g_yes rfl rfl hg4 ?_
          refine r_move rfl rfl ?_
          refine g_split rfl rfl ?_ ?_
          ·intro hg5; have hg5' := hg5; try simp at hg5'
           have g15 : ¬ (bestK (nextB (trOf cs hs)) (distI hs.length (nextB (trOf cs hs)) st) i j) < 0 := of_decide_eq_false (eq_of_beq hg5)
           refine g_yes rfl rfl hg5 ?_
           refine r_move rfl rfl ?_
           refine g_yes rfl rfl hg5 ?_
           refine r_move rfl rfl ?_
           refine g_yes rfl rfl hg5 ?_
           refine r_elem (α := Int) (stepsT (trOf cs hs) (st : Int)) j rfl T.u_ints T.sz_int rfl rfl rfl (by repeat constructor) rfl (by rw [hsl]; exact hj2) (by decide) ?_
           refine g_yes rfl rfl hg5 ?_
           refine r_load (v := int ((distI hs.length (nextB (trOf cs hs)) st) j)) rfl T.cell_int rfl (cell_row (by repeat constructor) (rows_get0 (by rw [hsl]; exact hj2) (by rw [hsa _ hj2]; rfl))) ?_
           refine g_yes rfl rfl hg5 ?_
           refine r_add _ rfl rfl rfl rfl (by unfold I64; omega) ?_
           refine g_yes rfl rfl hg5 ?_
           refine r_move rfl rfl ?_
           refine g_yes rfl rfl hg5 ?_
           refine r_lss rfl rfl rfl ?_
           refine g_yes rfl rfl hg4 ?_
           refine p_f rfl rfl (bf1 hg5) rfl ?_
           refine p_t rfl rfl (bt1 hg4) rfl ?_
           refine hl_nil ?_
           exact cut_n _ () trivial ⟨rfl, rfl, rfl, rfl, rfl, rfl, congrArg (fun b => some (Value.bool b)) (by unfold upB; rw [g5, decide_eq_true g12, decide_eq_false g15]; rfl), trivial⟩ (List.nil_sublist _) ⟨(by repeat constructor), (by repeat constructor), (by repeat constructor), (by repeat constructor), (by repeat constructor), trivial⟩
          ·intro hg5; have hg5' := hg5; try simp at hg5'
           have g15 : (bestK (nextB (trOf cs hs)) (distI hs.length (nextB (trOf cs hs)) st) i j) < 0 := Classical.byContradiction fun e => by rw [decide_eq_false e] at hg5; cases hg5
           refine g_no rfl rfl rfl rfl rfl hg5 ?_
           refine g_no rfl rfl rfl rfl rfl hg5 ?_
           refine g_no rfl rfl rfl rfl rfl hg5 ?_
           refine g_no rfl rfl rfl rfl rfl hg5 ?_
           refine g_no rfl rfl rfl rfl rfl hg5 ?_
           refine g_no rfl rfl rfl rfl rfl hg5 ?_
           refine g_no rfl rfl rfl rfl rfl hg5 ?_
           refine g_yes rfl rfl hg4 ?_
           refine p_t rfl rfl (bt2 hg5) rfl ?_
           refine p_t rfl rfl (bt1 hg4) rfl ?_
           refine hl_nil ?_
           exact cut_n _ () trivial ⟨rfl, rfl, rfl, rfl, rfl, rfl, congrArg (fun b => some (Value.bool b)) (by unfold upB; rw [g5, decide_eq_true g12, decide_eq_true g15]; rfl), trivial⟩ (List.nil_sublist _) ⟨(by repeat constructor), (by repeat constructor), (by repeat constructor), (by repeat constructor), (by repeat constructor), trivial⟩
         ·intro hg4; have hg4' := hg4; try simp at hg4'
          have g12 : ¬ 0 ≤ (distI hs.length (nextB (trOf cs hs)) st) j := of_decide_eq_false (bf2 hg4)
          refine g_no rfl rfl rfl rfl rfl hg4 ?_
          refine g_no rfl rfl rfl rfl rfl hg4 ?_
          refine g_no rfl rfl rfl rfl rfl hg4 ?_
          refine g_und rfl rfl rfl rfl rfl rfl ?_
          refine g_und rfl rfl rfl rfl rfl rfl ?_
          refine g_und rfl rfl rfl rfl rfl rfl ?_
          refine g_und rfl rfl rfl rfl rfl rfl ?_
          refine g_und rfl rfl rfl rfl rfl rfl ?_
          refine g_und rfl rfl rfl rfl rfl rfl ?_
          refine g_und rfl rfl rfl rfl rfl rfl ?_
          refine g_no rfl rfl rfl rfl rfl hg4 ?_
          refine p_f rfl rfl (bf2 hg4) rfl ?_
          refine hl_nil ?_
          exact cut_n _ () trivial ⟨rfl, rfl, rfl, rfl, rfl, rfl, congrArg (fun b => some (Value.bool b)) (by unfold upB; rw [g5, decide_eq_false g12]; rfl), trivial⟩ (List.nil_sublist _) ⟨(by repeat constructor), (by repeat constructor), (by repeat constructor), (by repeat constructor), (by repeat constructor), trivial⟩
        ·intro hg3; have hg3' := hg3; try simp at hg3'
         have g5 : nextB (trOf cs hs) j i = false := by simpa using hg3
         refine g_no rfl rfl rfl rfl rfl hg3 ?_
         refine g_no rfl rfl rfl rfl rfl hg3 ?_
         refine g_no rfl rfl rfl rfl rfl hg3 ?_
         refine g_no rfl rfl rfl rfl rfl hg3 ?_
         refine g_no rfl rfl rfl rfl rfl hg3 ?_
         refine p_f rfl rfl (bf2 hg3) rfl ?_
         refine r_move rfl rfl ?_
         refine g_no rfl rfl rfl rfl rfl rfl ?_
         refine g_no rfl rfl rfl rfl rfl rfl ?_
         refine g_no rfl rfl rfl rfl rfl rfl ?_
         refine g_und rfl rfl rfl rfl rfl rfl ?_
         refine g_und rfl rfl rfl rfl rfl rfl ?_
         refine g_und rfl rfl rfl rfl rfl rfl ?_
         refine g_und rfl rfl rfl rfl rfl rfl ?_
         refine g_und rfl rfl rfl rfl rfl rfl ?_
         refine g_und rfl rfl rfl rfl rfl rfl ?_
         refine g_und rfl rfl rfl rfl rfl rfl ?_
         refine g_no rfl rfl rfl rfl rfl rfl ?_
         refine p_f rfl rfl rfl rfl ?_
         refine hl_nil ?_
         exact cut_n _ () trivial ⟨rfl, rfl, rfl, rfl, rfl, rfl, congrArg (fun b => some (Value.bool b)) (by unfold upB; rw [g5]; rfl), trivial⟩ (List.nil_sublist _) ⟨(by repeat constructor), (by repeat constructor), (by repeat constructor), (by repeat constructor), (by repeat constructor), trivial⟩
       ·refine fun _ _ => ?_
        first | refine c_dec rfl (fun hb5 => ?_) (fun hb5 => ?_) | refine hc_cond rfl (fun hb5 => ?_) (fun hb5 => ?_)
        ·have hb5' := hb5; try simp at hb5'
         rw [if_pos hb5] at hbs
         refine hc_region ?_
         refine r_move rfl rfl ?_
         refine r_move rfl rfl ?_
         refine r_elem (α := Int) (stepsT (trOf cs hs) (st : Int)) j rfl T.u_ints T.sz_int rfl rfl rfl (by repeat constructor) rfl (by rw [hsl]; exact hj2) (by decide) ?_
         refine r_load (v := int ((distI hs.length (nextB (trOf cs hs)) st) j)) rfl T.cell_int rfl (cell_row (by repeat constructor) (rows_get0 (by rw [hsl]; exact hj2) (by rw [hsa _ hj2]; rfl))) ?_
         refine r_add _ rfl rfl rfl rfl (by unfold I64; omega) ?_
         refine r_assign rfl rfl ?_
         refine hl_nil ?_
         refine inb_n ?_
         refine then_n ?_
         refine hc_region ?_
         refine r_move rfl rfl ?_
         refine r_add _ rfl rfl rfl rfl (by unfold I64; omega) ?_
         refine r_assign rfl rfl ?_
         refine hl_nil ?_
         exact again _ (j + 1) (by show j + 1 ≤ hs.length; omega) (by show hs.length - (j + 1) < hs.length - j; omega) ⟨rfl, rfl, rfl, rfl, congrArg (fun z : Int => some (int z)) hbs.symm, rfl, trivial⟩ (List.nil_sublist _) ⟨(by repeat constructor), (by repeat constructor), (by repeat constructor), (by repeat constructor), (by repeat constructor), trivial⟩
        ·have hb5' := hb5; try simp at hb5'
         rw [if_neg (by rw [hb5]; decide)] at hbs
         refine hc_skip ?_
         refine inb_n ?_
         refine then_n ?_
         refine hc_region ?_
         refine r_move rfl rfl ?_
         refine r_add _ rfl rfl rfl rfl (by unfold I64; omega) ?_
         refine r_assign rfl rfl ?_
         refine hl_nil ?_
         exact again _ (j + 1) (by show j + 1 ≤ hs.length; omega) (by show hs.length - (j + 1) < hs.length - j; omega) ⟨rfl, rfl, rfl, rfl, congrArg (fun z : Int => some (int z)) hbs.symm, rfl, trivial⟩ (List.nil_sublist _) ⟨(by repeat constructor), (by repeat constructor), (by repeat constructor), (by repeat constructor), (by repeat constructor), trivial⟩
      ·have hb4' := hb4; try simp at hb4'
       obtain rfl : j = hs.length := by omega
       refine hc_exit ?_
       refine then_exit ?_
       refine then_exit ?_
       refine inb_hit ?_
       refine then_n ?_
       refine hc_seq ?_
       refine hc_region ?_
       refine r_move rfl rfl ?_
       refine r_move rfl rfl ?_
       refine r_neq rfl rfl rfl ?_
       refine r_move rfl rfl ?_
       refine g_split rfl rfl ?_ ?_
       ·intro hg6; have hg6' := hg6; try simp at hg6'
        have g4 : ¬ (i : Int) = (st : Int) := of_decide_eq_true (eq_of_beq hg6)
        have hdi := dist_best (e := nextB (trOf cs hs)) hst hi2 (by omega)
        refine g_yes rfl rfl hg6 ?_
        refine r_move rfl rfl ?_
        refine g_yes rfl rfl hg6 ?_
        refine r_move rfl rfl ?_
        refine g_yes rfl rfl hg6 ?_
        refine r_elem (α := Int) (stepsT (trOf cs hs) (st : Int)) i rfl T.u_ints T.sz_int rfl rfl rfl (by repeat constructor) rfl (by rw [hsl]; exact hi2) (by decide) ?_
        refine g_yes rfl rfl hg6 ?_
        refine r_load (v := int ((distI hs.length (nextB (trOf cs hs)) st) i)) rfl T.cell_int rfl (cell_row (by repeat constructor) (rows_get0 (by rw [hsl]; exact hi2) (by rw [hsa _ hi2]; rfl))) ?_
        refine g_yes rfl rfl hg6 ?_
        refine r_move rfl rfl ?_
        refine g_yes rfl rfl hg6 ?_
        refine r_neq rfl rfl rfl ?_
        refine p_t rfl rfl (bt1 hg6) rfl ?_
        refine r_move rfl rfl ?_
        refine g_split rfl rfl ?_ ?_
        ·intro hg7; have hg7' := hg7; try simp at hg7'
         refine g_yes rfl rfl hg7 ?_
         refine r_move rfl rfl ?_
         refine g_yes rfl rfl hg7 ?_
         refine r_move rfl rfl ?_
         refine g_yes rfl rfl hg7 ?_
         refine r_elem (α := Int) (stepsT (trOf cs hs) (st : Int)) i rfl T.u_ints T.sz_int rfl rfl rfl (by repeat constructor) rfl (by rw [hsl]; exact hi2) (by decide) ?_
         refine g_yes rfl rfl hg7 ?_
         refine r_load (v := int ((distI hs.length (nextB (trOf cs hs)) st) i)) rfl T.cell_int rfl (cell_row (by repeat constructor) (rows_get0 (by rw [hsl]; exact hi2) (by rw [hsa _ hi2]; rfl))) ?_
         refine g_yes rfl rfl hg7 ?_
         refine r_move rfl rfl ?_
         refine g_yes rfl rfl hg7 ?_
         refine r_len_sl rfl T.u_ints rfl ?_
         refine g_yes rfl rfl hg7 ?_
         refine r_gtr rfl rfl rfl ?_
         refine p_f rfl rfl (bf1 hg7) rfl ?_
         refine hl_nil ?_
         refine then_n ?_
         first | refine c_dec rfl (fun hb6 => ?_) (fun hb6 => ?_) | refine hc_cond rfl (fun hb6 => ?_) (fun hb6 => ?_)
         ·exfalso; have h9 := (hdb i).2
          rw [hsl] at hb6
          omega
         ·have hb6' := hb6; try simp at hb6'
          refine hc_skip ?_
          refine inb_n ?_
          refine then_n ?_
          refine hc_region ?_
          refine r_move rfl rfl ?_
          refine r_add _ rfl rfl rfl rfl (by unfold I64; omega) ?_
          refine r_assign rfl rfl ?_
          refine hl_nil ?_
          exact again _ (i + 1) (by show i + 1 ≤ hs.length; omega) (by show hs.length - (i + 1) < hs.length - i; omega) ⟨rfl, rfl, rfl, rfl, trivial⟩ (List.nil_sublist _) ⟨(by repeat constructor), (by repeat constructor), (by repeat constructor), (by repeat constructor), (by repeat constructor), trivial⟩
        ·intro hg7; have hg7' := hg7; try simp at hg7'
         first | exact absurd hdi (by simpa using hg7) | (exfalso; simp at hg7)
       ·intro hg6; have hg6' := hg6; try simp at hg6'
        refine g_no rfl rfl rfl rfl rfl hg6 ?_
        refine g_no rfl rfl rfl rfl rfl hg6 ?_
        refine g_no rfl rfl rfl rfl rfl hg6 ?_
        refine g_no rfl rfl rfl rfl rfl hg6 ?_
        refine g_no rfl rfl rfl rfl rfl hg6 ?_
        refine g_no rfl rfl rfl rfl rfl hg6 ?_
        refine p_f rfl rfl (bf2 hg6) rfl ?_
        refine r_move rfl rfl ?_
        refine g_yes rfl rfl rfl ?_
        refine r_move rfl rfl ?_
        refine g_yes rfl rfl rfl ?_
        refine r_move rfl rfl ?_
        refine g_yes rfl rfl rfl ?_
        refine r_elem (α := Int) (stepsT (trOf cs hs) (st : Int)) i rfl T.u_ints T.sz_int rfl rfl rfl (by repeat constructor) rfl (by rw [hsl]; exact hi2) (by decide) ?_
        refine g_yes rfl rfl rfl ?_
        refine r_load (v := int ((distI hs.length (nextB (trOf cs hs)) st) i)) rfl T.cell_int rfl (cell_row (by repeat constructor) (rows_get0 (by rw [hsl]; exact hi2) (by rw [hsa _ hi2]; rfl))) ?_
        refine g_yes rfl rfl rfl ?_
        refine r_move rfl rfl ?_
        refine g_yes rfl rfl rfl ?_
        refine r_len_sl rfl T.u_ints rfl ?_
        refine g_yes rfl rfl rfl ?_
        refine r_gtr rfl rfl rfl ?_
        refine p_f rfl rfl rfl rfl ?_
        refine hl_nil ?_
        refine then_n ?_
        first | refine c_dec rfl (fun hb6 => ?_) (fun hb6 => ?_) | refine hc_cond rfl (fun hb6 => ?_) (fun hb6 => ?_)
        ·exfalso; have h9 := (hdb i).2
         rw [hsl] at hb6
         omega
        ·have hb6' := hb6; try simp at hb6'
         refine hc_skip ?_
         refine inb_n ?_
         refine then_n ?_
         refine hc_region ?_
         refine r_move rfl rfl ?_
         refine r_add _ rfl rfl rfl rfl (by unfold I64; omega) ?_
         refine r_assign rfl rfl ?_
         refine hl_nil ?_
         exact again _ (i + 1) (by show i + 1 ≤ hs.length; omega) (by show hs.length - (i + 1) < hs.length - i; omega) ⟨rfl, rfl, rfl, rfl, trivial⟩ (List.nil_sublist _) ⟨(by repeat constructor), (by repeat constructor), (by repeat constructor), (by repeat constructor), (by repeat constructor), trivial⟩
     ·have hb3' := hb3; try simp at hb3'
      refine hc_exit ?_
      refine then_exit ?_
      refine then_exit ?_
      refine inb_hit ?_
      refine then_n ?_
      refine hc_seq ?_
      refine hc_seq ?_
      refine hc_region ?_
      refine r_assign rfl rfl ?_
      refine hl_nil ?_
      refine then_n ?_
      refine hc_block ?_
      refine hc_loop (β := Nat) ⟨fun r => r ≤ 7, fun r => [(4, .pointer (some ⟨gT, 0, none⟩)), (5, int st), (6, .slice y.1 (stepsT (trOf cs hs) (st : Int)).length y.2), (11, int r)], fun _ => [], fun _ => (Row y.1 (rows (stepsT (trOf cs hs) (st : Int))) :: (Row HB (rows hs) :: [Blk gT (.cells #[.slice CA cs.length ca, .slice HB hs.length cb] T.api_Trades (0, 0)), Row CA (rows cs), RowsF HB hs Hd.row]))⟩ (fun r => 7 - r) 0 (Nat.zero_le _) ⟨rfl, rfl, rfl, rfl, trivial⟩ (List.nil_sublist _) ⟨(by repeat constructor), (by repeat constructor), (by repeat constructor), (by repeat constructor), (by repeat constructor), trivial⟩ fun r hr => ?_
      simp only at hr
      refine hc_seq ?_
      refine hc_seq ?_
      refine hc_region ?_
      refine r_move rfl rfl ?_
      refine r_leq rfl rfl rfl ?_
      refine hl_nil ?_
      refine then_n ?_
      first | refine c_dec rfl (fun hb7 => ?_) (fun hb7 => ?_) | refine hc_cond rfl (fun hb7 => ?_) (fun hb7 => ?_)
      ·have hb7' := hb7; try simp at hb7'
       have hr6 : r ≤ 6 := by omega
       have hHT : (hiK (trOf cs hs) (st : Int) (r : Int) hs.length) = (hiddenT (trOf cs hs) (st : Int) (r : Int)) := by unfold hiddenT; rw [hln]
       refine hc_skip ?_
       refine then_n ?_
       refine hc_seq ?_
       refine hc_block ?_
       refine hc_seq ?_
       refine hc_region ?_
       first | refine r_loadA rfl T.row_api_Trades T.sz_api_Trades rfl (by repeat constructor) (by rfl) ?_ | refine r_loadB rfl T.row_api_Trades T.sz_api_Trades rfl (by repeat constructor) (by rfl) ?_ | refine r_loadS rfl T.row_api_Trades T.sz_api_Trades rfl rfl (cells_row (by repeat constructor) (rows_all (by omega))) ?_
       refine r_move rfl rfl ?_
       refine r_move rfl rfl ?_
       refine hl_call F.trade_Hidden_cb rfl rfl (hidden_is cs hs (st : Int) (r : Int) hca hcb ha hT0 (by rw [hln]; omega) (by omega)) (List.Perm.refl _) ⟨(by repeat constructor), (by repeat constructor), trivial⟩ fun z hz => ?_
       refine r_move rfl rfl ?_
       refine r_extract rfl rfl rfl ?_
       refine r_extract rfl rfl rfl ?_
       refine r_assign rfl rfl ?_
       refine r_assign rfl rfl ?_
       refine hl_nil ?_
       refine then_n ?_
       refine hc_seq ?_
       refine hc_region ?_
       refine r_assign rfl rfl ?_
       refine hl_nil ?_
       refine then_n ?_
       refine hc_seq ?_
       refine hc_seq ?_
       refine hc_region ?_
       refine r_assign rfl rfl ?_
       refine hl_nil ?_
       refine then_n ?_
       refine hc_block ?_
       refine hc_loop (β := Nat) ⟨fun k => k ≤ hs.length, fun k => [(4, .pointer (some ⟨gT, 0, none⟩)), (5, int st), (6, .slice y.1 (stepsT (trOf cs hs) (st : Int)).length y.2), (11, int r), (12, .slice z.1 (hiddenT (trOf cs hs) (st : Int) (r : Int)).length z.2), (13, int 0), (14, int (hiK (trOf cs hs) (st : Int) (r : Int) k).length), (15, int k)], fun _ => [], fun _ => (Row z.1 (rows (hiddenT (trOf cs hs) (st : Int) (r : Int))) :: (Row y.1 (rows (stepsT (trOf cs hs) (st : Int))) :: (Row HB (rows hs) :: [Blk gT (.cells #[.slice CA cs.length ca, .slice HB hs.length cb] T.api_Trades (0, 0)), Row CA (rows cs), RowsF HB hs Hd.row])))⟩ (fun k => hs.length - k) 0 (Nat.zero_le _) ⟨rfl, rfl, rfl, rfl, rfl, rfl, rfl, rfl, trivial⟩ (List.nil_sublist _) ⟨(by repeat constructor), (by repeat constructor), (by repeat constructor), (by repeat constructor), (by repeat constructor), (by repeat constructor), trivial⟩ fun k hk => ?_
       simp only at hk
       have hls := hiK_succ (trOf cs hs) (st : Int) (r : Int) k
       have hkl := hiK_len (trOf cs hs) (st : Int) (r : Int) k
       refine hc_seq ?_
       refine hc_cut ⟨fun _ : Unit => True, fun _ => [(4, .pointer (some ⟨gT, 0, none⟩)), (5, int st), (6, .slice y.1 (stepsT (trOf cs hs) (st : Int)).length y.2), (11, int r), (12, .slice z.1 (hiddenT (trOf cs hs) (st : Int) (r : Int)).length z.2), (13, int 0), (14, int (hiK (trOf cs hs) (st : Int) (r : Int) k).length), (15, int k), (133, .bool (decide (k < hs.length)))], fun _ => [], fun _ => (Row z.1 (rows (hiddenT (trOf cs hs) (st : Int) (r : Int))) :: (Row y.1 (rows (stepsT (trOf cs hs) (st : Int))) :: (Row HB (rows hs) :: [Blk gT (.cells #[.slice CA cs.length ca, .slice HB hs.length cb] T.api_Trades (0, 0)), Row CA (rows cs), RowsF HB hs Hd.row])))⟩ ?_ ?_
       ·skip
        refine hc_region ?_
        refine r_move rfl rfl ?_
        refine r_move rfl rfl ?_
        refine r_len_sl rfl T.u_ints rfl ?_
        refine r_lss rfl rfl rfl ?_
        refine r_move rfl rfl ?_
        refine g_split rfl rfl ?_ ?_
        ·intro hg8; have hg8' := hg8; try simp at hg8'
         have g26 := hg8
         refine g_yes rfl rfl hg8 ?_
         refine r_move rfl rfl ?_
         refine g_yes rfl rfl hg8 ?_
         refine r_eql rfl rfl rfl ?_
         refine p_t rfl rfl (bt1 hg8) rfl ?_
         refine hl_nil ?_
         exact cut_n _ () trivial ⟨rfl, rfl, rfl, rfl, rfl, rfl, rfl, rfl, congrArg (fun b => some (Value.bool b)) (by have h9 := of_decide_eq_true (eq_of_beq g26); rw [hsl] at h9; rw [decide_eq_true (show k < hs.length by omega)]; rfl), trivial⟩ (List.nil_sublist _) ⟨(by repeat constructor), (by repeat constructor), (by repeat constructor), (by repeat constructor), (by repeat constructor), (by repeat constructor), trivial⟩
        ·intro hg8; have hg8' := hg8; try simp at hg8'
         have g26 := hg8
         refine g_no rfl rfl rfl rfl rfl hg8 ?_
         refine g_no rfl rfl rfl rfl rfl hg8 ?_
         refine p_f rfl rfl (bf2 hg8) rfl ?_
         refine hl_nil ?_
         exact cut_n _ () trivial ⟨rfl, rfl, rfl, rfl, rfl, rfl, rfl, rfl, congrArg (fun b => some (Value.bool b)) (by have h9 := of_decide_eq_false (bf2 g26); rw [hsl] at h9; rw [decide_eq_false (show ¬ k < hs.length by omega)]), trivial⟩ (List.nil_sublist _) ⟨(by repeat constructor), (by repeat constructor), (by repeat constructor), (by repeat constructor), (by repeat constructor), (by repeat constructor), trivial⟩
       ·refine fun _ _ => ?_
        first | refine c_dec rfl (fun hb8 => ?_) (fun hb8 => ?_) | refine hc_cond rfl (fun hb8 => ?_) (fun hb8 => ?_)
        ·have hb8' := hb8; try simp at hb8'
         have hk2 : k < hs.length := by simpa using hb8
         have hhe := hi_eq (t := (trOf cs hs)) (h := (st : Int)) (s := (r : Int)) (is_tr hok hk2) (hsa k hk2)
         refine hc_skip ?_
         refine then_n ?_
         refine hc_seq ?_
         refine hc_block ?_
         refine hc_cut ⟨fun _ : Unit => True, fun _ => [(4, .pointer (some ⟨gT, 0, none⟩)), (5, int st), (6, .slice y.1 (stepsT (trOf cs hs) (st : Int)).length y.2), (11, int r), (12, .slice z.1 (hiddenT (trOf cs hs) (st : Int) (r : Int)).length z.2), (13, int 0), (14, int (hiK (trOf cs hs) (st : Int) (r : Int) k).length), (15, int k), (157, .bool (hiB (trOf cs hs) (st : Int) (r : Int) k))], fun _ => [], fun _ => (Row z.1 (rows (hiddenT (trOf cs hs) (st : Int) (r : Int))) :: (Row y.1 (rows (stepsT (trOf cs hs) (st : Int))) :: (Row HB (rows hs) :: [Blk gT (.cells #[.slice CA cs.length ca, .slice HB hs.length cb] T.api_Trades (0, 0)), Row CA (rows cs), RowsF HB hs Hd.row])))⟩ ?_ ?_
         ·skip
          refine hc_region ?_
          first | refine r_fieldAddr ⟨_, 1, none⟩ rfl rfl T.fa_api_Trades_1 rfl ?_ | refine r_fieldAddr _ rfl rfl T.fa_api_Trades_1 rfl ?_
          first | refine r_load rfl T.cell_L_api_Head rfl (cell_own (by repeat constructor) rfl) ?_ | refine r_load rfl T.cell_L_api_Head rfl (cell_blk (by repeat constructor) rfl) ?_ | refine r_load rfl T.cell_L_api_Head rfl (cell_row (by repeat constructor) (rows_get0 (by omega) rfl)) ?_ | refine r_load rfl T.cell_L_api_Head rfl (cell_row_f (by repeat constructor) (rows_get (by omega) rfl)) ?_ | refine r_load rfl T.cell_L_api_Head rfl (cell_rowg (by repeat constructor) rfl) ?_
          refine r_move rfl rfl ?_
          refine r_elem (α := Hd) hs k rfl T.u_L_api_Head T.sz_api_Head rfl rfl rfl (by repeat constructor) rfl hk2 (by decide) ?_
          first | refine r_fieldAddr ⟨_, 1, none⟩ rfl rfl T.fa_api_Head_1 rfl ?_ | refine r_fieldAddr _ rfl rfl T.fa_api_Head_1 rfl ?_
          refine r_load (v := int (hs.getD k default).2.1) rfl T.cell_int rfl (cell_row_f (by repeat constructor) (rows_get hk2 rfl)) ?_
          refine r_geq rfl rfl rfl ?_
          refine r_move rfl rfl ?_
          refine g_split rfl rfl ?_ ?_
          ·intro hg9; have hg9' := hg9; try simp at hg9'
           have g8 := of_decide_eq_true (eq_of_beq hg9)
           refine g_yes rfl rfl hg9 ?_
           refine r_move rfl rfl ?_
           refine g_yes rfl rfl hg9 ?_
           refine r_move rfl rfl ?_
           refine g_yes rfl rfl hg9 ?_
           refine r_elem (α := Int) (stepsT (trOf cs hs) (st : Int)) k rfl T.u_ints T.sz_int rfl rfl rfl (by repeat constructor) rfl (by rw [hsl]; exact hk2) (by decide) ?_
           refine g_yes rfl rfl hg9 ?_
           refine r_load (v := int ((distI hs.length (nextB (trOf cs hs)) st) k)) rfl T.cell_int rfl (cell_row (by repeat constructor) (rows_get0 (by rw [hsl]; exact hk2) (by rw [hsa _ hk2]; rfl))) ?_
           refine g_yes rfl rfl hg9 ?_
           refine r_lss rfl rfl rfl ?_
           refine g_yes rfl rfl hg9 ?_
           refine r_move rfl rfl ?_
           refine g_split rfl rfl ?_ ?_
           ·intro hg10; have hg10' := hg10; try simp at hg10'
            have g14 : ¬ (distI hs.length (nextB (trOf cs hs)) st) k < 0 := of_decide_eq_false (eq_of_beq hg10)
            refine g_yes rfl rfl hg10 ?_
            refine r_move rfl rfl ?_
            refine g_yes rfl rfl hg10 ?_
            refine r_move rfl rfl ?_
            refine g_yes rfl rfl hg10 ?_
            refine r_elem (α := Int) (stepsT (trOf cs hs) (st : Int)) k rfl T.u_ints T.sz_int rfl rfl rfl (by repeat constructor) rfl (by rw [hsl]; exact hk2) (by decide) ?_
            refine g_yes rfl rfl hg10 ?_
            refine r_load (v := int ((distI hs.length (nextB (trOf cs hs)) st) k)) rfl T.cell_int rfl (cell_row (by repeat constructor) (rows_get0 (by rw [hsl]; exact hk2) (by rw [hsa _ hk2]; rfl))) ?_
            refine g_yes rfl rfl hg10 ?_
            refine r_move rfl rfl ?_
            refine g_yes rfl rfl hg10 ?_
            refine r_gtr rfl rfl rfl ?_
            refine g_yes rfl rfl hg9 ?_
            refine p_f rfl rfl (bf1 hg10) rfl ?_
            refine p_t rfl rfl (bt1 hg9) rfl ?_
            refine hl_nil ?_
            exact cut_n _ () trivial ⟨rfl, rfl, rfl, rfl, rfl, rfl, rfl, rfl, congrArg (fun b => some (Value.bool b)) (by rw [hhe, decide_eq_true g8, decide_eq_false g14, Bool.true_and, Bool.false_or]), trivial⟩ (List.nil_sublist _) ⟨(by repeat constructor), (by repeat constructor), (by repeat constructor), (by repeat constructor), (by repeat constructor), (by repeat constructor), trivial⟩
           ·intro hg10; have hg10' := hg10; try simp at hg10'
            have g14 : (distI hs.length (nextB (trOf cs hs)) st) k < 0 := Classical.byContradiction fun e => by rw [decide_eq_false e] at hg10; cases hg10
            refine g_no rfl rfl rfl rfl rfl hg10 ?_
            refine g_no rfl rfl rfl rfl rfl hg10 ?_
            refine g_no rfl rfl rfl rfl rfl hg10 ?_
            refine g_no rfl rfl rfl rfl rfl hg10 ?_
            refine g_no rfl rfl rfl rfl rfl hg10 ?_
            refine g_no rfl rfl rfl rfl rfl hg10 ?_
            refine g_yes rfl rfl hg9 ?_
            refine p_t rfl rfl (bt2 hg10) rfl ?_
            refine p_t rfl rfl (bt1 hg9) rfl ?_
            refine hl_nil ?_
            exact cut_n _ () trivial ⟨rfl, rfl, rfl, rfl, rfl, rfl, rfl, rfl, congrArg (fun b => some (Value.bool b)) (by rw [hhe, decide_eq_true g8, decide_eq_true g14]; rfl), trivial⟩ (List.nil_sublist _) ⟨(by repeat constructor), (by repeat constructor), (by repeat constructor), (by repeat constructor), (by repeat constructor), (by repeat constructor), trivial⟩
          ·intro hg9; have hg9' := hg9; try simp at hg9'
           have g8 := of_decide_eq_false (bf2 hg9)
           refine g_no rfl rfl rfl rfl rfl hg9 ?_
           refine g_no rfl rfl rfl rfl rfl hg9 ?_
           refine g_no rfl rfl rfl rfl rfl hg9 ?_
           refine g_no rfl rfl rfl rfl rfl hg9 ?_
           refine g_no rfl rfl rfl rfl rfl hg9 ?_
           refine g_no rfl rfl rfl rfl rfl hg9 ?_
           refine g_und rfl rfl rfl rfl rfl rfl ?_
           refine g_und rfl rfl rfl rfl rfl rfl ?_
           refine g_und rfl rfl rfl rfl rfl rfl ?_
           refine g_und rfl rfl rfl rfl rfl rfl ?_
           refine g_und rfl rfl rfl rfl rfl rfl ?_
           refine g_und rfl rfl rfl rfl rfl rfl ?_
           refine g_no rfl rfl rfl rfl rfl hg9 ?_
           refine p_f rfl rfl (bf2 hg9) rfl ?_
           refine hl_nil ?_
           exact cut_n _ () trivial ⟨rfl, rfl, rfl, rfl, rfl, rfl, rfl, rfl, congrArg (fun b => some (Value.bool b)) (by rw [hhe, decide_eq_false g8, Bool.false_and]), trivial⟩ (List.nil_sublist _) ⟨(by repeat constructor), (by repeat constructor), (by repeat constructor), (by repeat constructor), (by repeat constructor), (by repeat constructor), trivial⟩
         ·refine fun _ _ => ?_
          first | refine c_dec rfl (fun hb9 => ?_) (fun hb9 => ?_) | refine hc_cond rfl (fun hb9 => ?_) (fun hb9 => ?_)
          ·have hb9' := hb9; try simp at hb9'
           rw [if_pos hb9] at hls
           have hAt := hiK_at (t := (trOf cs hs)) (h := (st : Int)) (s := (r : Int)) (k := k) (by rw [hln]; exact hk2) hb9
           refine hc_seq ?_
           refine hc_seq ?_
           refine hc_region ?_
           refine r_move rfl rfl ?_
           refine r_move rfl rfl ?_
           refine r_len_sl rfl T.u_ints rfl ?_
           refine r_geq rfl rfl rfl ?_
           refine r_move rfl rfl ?_
           refine g_split rfl rfl ?_ ?_
           ·intro hg11; have hg11' := hg11; try simp at hg11'
            refine g_yes rfl rfl hg11 ?_
            refine r_move rfl rfl ?_
            refine g_yes rfl rfl hg11 ?_
            refine r_move rfl rfl ?_
            refine g_yes rfl rfl hg11 ?_
            refine r_elem (α := Int) (hiddenT (trOf cs hs) (st : Int) (r : Int)) (hiK (trOf cs hs) (st : Int) (r : Int) k).length rfl T.u_ints T.sz_int rfl rfl rfl (by repeat constructor) rfl hAt.1 (by decide) ?_
            refine g_yes rfl rfl hg11 ?_
            refine r_load (v := int (k : Int)) rfl T.cell_int rfl (cell_row (by repeat constructor) (rows_get0 hAt.1 (by rw [hAt.2]; rfl))) ?_
            refine g_yes rfl rfl hg11 ?_
            refine r_move rfl rfl ?_
            refine g_yes rfl rfl hg11 ?_
            refine r_neq rfl rfl rfl ?_
            refine p_f rfl rfl (bf1 hg11) rfl ?_
            refine hl_nil ?_
            refine then_n ?_
            first | refine c_dec rfl (fun hb10 => ?_) (fun hb10 => ?_) | refine hc_cond rfl (fun hb10 => ?_) (fun hb10 => ?_)
            ·have hb10' := hb10; try simp at hb10'
            ·have hb10' := hb10; try simp at hb10'
             refine hc_skip ?_
             refine then_n ?_
             refine hc_region ?_
             refine r_move rfl rfl ?_
             refine r_add _ rfl rfl rfl rfl (by unfold I64; omega) ?_
             refine r_assign rfl rfl ?_
             refine hl_nil ?_
             refine inb_n ?_
             refine then_n ?_
             refine hc_region ?_
             refine r_move rfl rfl ?_
             refine r_add _ rfl rfl rfl rfl (by unfold I64; omega) ?_
             refine r_assign rfl rfl ?_
             refine hl_nil ?_
             exact again _ (k + 1) (by show k + 1 ≤ hs.length; omega) (by show hs.length - (k + 1) < hs.length - k; omega) ⟨rfl, rfl, rfl, rfl, rfl, rfl, by rw [hls, List.length_append]; rfl, rfl, trivial⟩ (List.nil_sublist _) ⟨(by repeat constructor), (by repeat constructor), (by repeat constructor), (by repeat constructor), (by repeat constructor), (by repeat constructor), trivial⟩
           ·intro hg11; have hg11' := hg11; try simp at hg11'
            exfalso; have := hAt.1; simp at hg11; omega
          ·have hb9' := hb9; try simp at hb9'
           rw [if_neg (by rw [hb9]; decide)] at hls
           refine hc_skip ?_
           refine inb_n ?_
           refine then_n ?_
           refine hc_region ?_
           refine r_move rfl rfl ?_
           refine r_add _ rfl rfl rfl rfl (by unfold I64; omega) ?_
           refine r_assign rfl rfl ?_
           refine hl_nil ?_
           exact again _ (k + 1) (by show k + 1 ≤ hs.length; omega) (by show hs.length - (k + 1) < hs.length - k; omega) ⟨rfl, rfl, rfl, rfl, rfl, rfl, by rw [hls]; rfl, rfl, trivial⟩ (List.nil_sublist _) ⟨(by repeat constructor), (by repeat constructor), (by repeat constructor), (by repeat constructor), (by repeat constructor), (by repeat constructor), trivial⟩
        ·have hb8' := hb8; try simp at hb8'
         have h9 : ¬ k < hs.length := hb8
         obtain rfl : k = hs.length := by omega
         refine hc_exit ?_
         refine then_exit ?_
         refine then_exit ?_
         refine inb_hit ?_
         refine then_n ?_
         refine hc_seq ?_
         refine hc_region ?_
         refine r_move rfl rfl ?_
         refine r_neq rfl rfl rfl ?_
         refine r_move rfl rfl ?_
         refine g_split rfl rfl ?_ ?_
         ·intro hg12; have hg12' := hg12; try simp at hg12'
          refine g_yes rfl rfl hg12 ?_
          refine r_move rfl rfl ?_
          refine g_yes rfl rfl hg12 ?_
          refine r_move rfl rfl ?_
          refine g_yes rfl rfl hg12 ?_
          refine r_len_sl rfl T.u_ints rfl ?_
          refine g_yes rfl rfl hg12 ?_
          refine r_neq rfl rfl rfl ?_
          refine p_f rfl rfl (bf1 hg12) rfl ?_
          refine hl_nil ?_
          refine then_n ?_
          first | refine c_dec rfl (fun hb11 => ?_) (fun hb11 => ?_) | refine hc_cond rfl (fun hb11 => ?_) (fun hb11 => ?_)
          ·exact absurd (by rw [hHT]) hb11
          ·have hb11' := hb11; try simp at hb11'
           refine hc_skip ?_
           refine inb_n ?_
           refine then_n ?_
           refine hc_region ?_
           refine r_move rfl rfl ?_
           refine r_add _ rfl rfl rfl rfl (by unfold I64; omega) ?_
           refine r_assign rfl rfl ?_
           refine hl_nil ?_
           exact again _ (r + 1) (by show r + 1 ≤ 7; omega) (by show 7 - (r + 1) < 7 - r; omega) ⟨rfl, rfl, rfl, rfl, trivial⟩ (List.nil_sublist _) ⟨(by repeat constructor), (by repeat constructor), (by repeat constructor), (by repeat constructor), (by repeat constructor), trivial⟩
         ·intro hg12; have hg12' := hg12; try simp at hg12'
      ·have hb7' := hb7; try simp at hb7'
       refine hc_exit ?_
       refine then_exit ?_
       refine then_exit ?_
       refine inb_hit ?_
       refine then_n ?_
       refine hc_seq ?_
       refine hc_region ?_
       refine hl_call F.law04_indexed_cb rfl rfl (law04_indexed_meets) (List.Perm.refl _) trivial fun _ _ => ?_
       refine r_assign rfl rfl ?_
       refine hl_nil ?_
       refine then_n ?_
       refine hc_ret ?_
       exact ret1 () rfl rfl rfl trivial (List.nil_sublist _) trivial
   ·intro hg2; have hg2' := hg2; try simp at hg2'
    exfalso; have h9 : ¬ ((stepsT (trOf cs hs) (st : Int)).length : Int) = (hs.length : Int) := by simpa using hg2
    exact h9 (by rw [hsl])
  ·intro hg1; have hg1' := hg1; try simp at hg1'

end Go.Proofs.Ytlpgheniajdkfaa
