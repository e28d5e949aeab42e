/- A heading dropped: what goes with it, the walk, the statement TradeDropped. -/
import Derived.Test.YtlpgheniajdkfaaPbg
namespace Go.Proofs.Ytlpgheniajdkfaa
open Go Go.W
set_option linter.unusedVariables false
set_option linter.unusedSimpArgs false
set_option maxRecDepth 20000
attribute [local irreducible] HL HC HQ HB Row Rows2 Blk Facts

theorem cls_mk {cs : List Cl} {i : Nat} (h : ClsOK cs i) (hi : i < cs.length) : clsErr cs i = 0 := by
  have h1 := h.lo
  have h2 := h.hi
  unfold clsErr
  rw [if_neg (by rw [h.w]; decide), if_neg h.n, if_neg (by omega), if_neg (by omega)]
theorem head_mk {t : Tr} {i : Nat} (h : HeadOK t i) : headErr t i = 0 := by
  have h1 := h.c
  have h2 := h.s
  have h3 := firstE_all (n := (t.hs.getD i default).2.2.2.length) h.a
  unfold headErr
  rw [if_neg (by rw [h.w]; decide), if_neg h.n, if_neg h.o, if_neg (by omega), if_neg h2.2.2, if_neg (not_not_intro h3), if_neg (by rw [h.k]; decide)]
/-- What is in order is valid. -/
theorem tr_mk {t : Tr} (h : TrOK t) : checkT t = 0 := by
  have h1 := h.c6
  have h2 := h.h6
  unfold checkT
  rw [if_neg (by omega), if_neg (not_not_intro (firstE_all fun i hi => cls_mk (h.c i hi) hi))]
  exact firstE_all fun i hi => head_mk (h.h i hi)


theorem arr_set (l : List Int) (k : Nat) (v : Int) : (rows l).toArray.setIfInBounds (0 + k * 1) (int v) = (rows (l.set k v)).toArray := by
  rw [← rows_set1 rfl (int v) v rfl]
  simp
theorem arr_take (l : List Int) : (rows l).toArray.toList.take (l.length * 1) = rows l := by
  have h1 : (rows l).length = l.length := by rw [rows_len]; exact Nat.mul_one _
  rw [List.take_of_length_le (by simp [h1])]


theorem law04_leads_meets {A B : Option Addr} {ca cb : Nat} (cs : List Cl) (hs : List Hd) (i k : Nat) (hi : i < hs.length) (ha : ∀ h ∈ hs, h.2.2.2.l.length ≤ 1000000) : Meets Try.prog F.law04_leads [.agg #[.slice A cs.length ca, .slice B hs.length cb], int i, int k] { LI := [RowsF B hs Hd.row], val := fun _ : Unit => .bool (nextB (trOf cs hs) i k) } := by
 refine meets_intro F.law04_leads_f rfl (Nat.le_of_ble_eq_true rfl) fun w0 => ?_
 refine hc_seq ?_
 refine hc_region ?_
 refine r_box rfl rfl fun gB => ?_
 refine r_assign rfl rfl ?_
 refine hl_nil ?_
 refine then_n ?_
 refine hc_seq ?_
 have hnx : nextB (trOf cs hs) i k = (decide ((hs.getD i default).2.2.1 = (k : Int)) || decide ((k : Int) ∈ (hs.getD i default).2.2.2.l)) := by
   unfold nextB
   rw [show (trOf cs hs).hs.getD i default = (hs.getD i default).p from hd_get hi]
   rfl
 have hal := ha _ (getD_mem hi)
 refine hc_outerF (ps := hs) (A := B) (f := Hd.row) (by repeat constructor) ?_
 refine hc_region ?_
 first | refine r_fieldAddr ⟨_, 1, none⟩ rfl rfl T.fa_api_Trades_1 rfl ?_ | refine r_fieldAddr _ rfl rfl T.fa_api_Trades_1 rfl ?_
 first | refine r_load rfl T.cell_L_api_Head rfl (cell_own (by repeat constructor) rfl) ?_ | refine r_load rfl T.cell_L_api_Head rfl (cell_blk (by repeat constructor) rfl) ?_ | refine r_load rfl T.cell_L_api_Head rfl (cell_row (by repeat constructor) (rows_get0 (by omega) rfl)) ?_ | refine r_load rfl T.cell_L_api_Head rfl (cell_row_f (by repeat constructor) (rows_get (by omega) rfl)) ?_ | refine r_load rfl T.cell_L_api_Head rfl (cell_rowg (by repeat constructor) rfl) ?_
 refine r_move rfl rfl ?_
 refine r_elem (α := Hd) hs i rfl T.u_L_api_Head T.sz_api_Head rfl rfl rfl (by repeat constructor) rfl hi (by decide) ?_
 first | refine r_fieldAddr ⟨_, 2, none⟩ rfl rfl T.fa_api_Head_2 rfl ?_ | refine r_fieldAddr _ rfl rfl T.fa_api_Head_2 rfl ?_
 refine r_load (v := int (hs.getD i default).2.2.1) rfl T.cell_int rfl (cell_row_f (by repeat constructor) (rows_get hi rfl)) ?_
 refine r_move rfl rfl ?_
 refine r_eql rfl rfl rfl ?_
 refine r_move rfl rfl ?_
 refine g_split rfl rfl ?_ ?_
 ·intro hg1; have hg1' := hg1; try simp at hg1'
  have hA : ¬ (hs.getD i default).2.2.1 = (k : Int) := of_decide_eq_false (eq_of_beq hg1)
  refine g_yes rfl rfl hg1 ?_
  first | refine r_fieldAddr ⟨_, 1, none⟩ rfl rfl T.fa_api_Trades_1 rfl ?_ | refine r_fieldAddr _ rfl rfl T.fa_api_Trades_1 rfl ?_
  refine g_yes rfl rfl hg1 ?_
  first | refine r_load rfl T.cell_L_api_Head rfl (cell_own (by repeat constructor) rfl) ?_ | refine r_load rfl T.cell_L_api_Head rfl (cell_blk (by repeat constructor) rfl) ?_ | refine r_load rfl T.cell_L_api_Head rfl (cell_row (by repeat constructor) (rows_get0 (by omega) rfl)) ?_ | refine r_load rfl T.cell_L_api_Head rfl (cell_row_f (by repeat constructor) (rows_get (by omega) rfl)) ?_ | refine r_load rfl T.cell_L_api_Head rfl (cell_rowg (by repeat constructor) rfl) ?_
  refine g_yes rfl rfl hg1 ?_
  refine r_move rfl rfl ?_
  refine g_yes rfl rfl hg1 ?_
  refine r_elem (α := Hd) hs i rfl T.u_L_api_Head T.sz_api_Head rfl rfl rfl (by repeat constructor) rfl hi (by decide) ?_
  refine g_yes rfl rfl hg1 ?_
  first | refine r_fieldAddr ⟨_, 3, none⟩ rfl rfl T.fa_api_Head_3 rfl ?_ | refine r_fieldAddr _ rfl rfl T.fa_api_Head_3 rfl ?_
  refine g_yes rfl rfl hg1 ?_
  refine r_load (v := .slice (hs.getD i default).2.2.2.a (hs.getD i default).2.2.2.l.length (hs.getD i default).2.2.2.c) rfl T.cell_ints rfl (cell_row_f (by repeat constructor) (rows_get hi rfl)) ?_
  refine g_yes rfl rfl hg1 ?_
  refine r_move rfl rfl ?_
  refine hl_innerF (p := hs.getD i default) (f := Hd.row) (ps := hs) (by repeat constructor) (getD_mem hi) ?_
  refine g_yes rfl rfl hg1 ?_
  refine hl_call F.kit_Index_cb rfl rfl (kit_Index_meets (hs.getD i default).2.2.2.l (k : Int) hal) (hpR := [_]) (List.Perm.refl _) ⟨(by repeat constructor), trivial⟩ fun z hz => ?_
  refine g_yes rfl rfl hg1 ?_
  refine r_geq rfl rfl rfl ?_
  refine p_f rfl rfl (bf1 hg1) rfl ?_
  refine r_assign rfl rfl ?_
  refine hl_nil ?_
  refine then_n ?_
  refine hc_ret ?_
  exact ret1 () rfl (congrArg (fun b => some (Value.bool b)) (by rw [hnx, decide_eq_false hA, Bool.false_or]; exact decide_eq_decide.2 hz.1)) rfl trivial (List.nil_sublist _) trivial
 ·intro hg1; have hg1' := hg1; try simp at hg1'
  have hA : (hs.getD i default).2.2.1 = (k : Int) := Classical.byContradiction fun e => by rw [decide_eq_false e] at hg1; cases hg1
  refine g_no rfl rfl rfl rfl rfl hg1 ?_
  refine g_no rfl rfl rfl rfl rfl hg1 ?_
  refine g_no rfl rfl rfl rfl rfl hg1 ?_
  refine g_no rfl rfl rfl rfl rfl hg1 ?_
  refine g_no rfl rfl rfl rfl rfl hg1 ?_
  refine g_no rfl rfl rfl rfl rfl hg1 ?_
  refine g_no rfl rfl rfl rfl rfl hg1 ?_
  refine hl_innerF (p := hs.getD i default) (f := Hd.row) (ps := hs) (by repeat constructor) (getD_mem hi) ?_
  refine g_no rfl rfl rfl rfl rfl hg1 ?_
  refine g_no rfl rfl rfl rfl rfl hg1 ?_
  refine p_t rfl rfl (bt2 hg1) rfl ?_
  refine r_assign rfl rfl ?_
  refine hl_nil ?_
  refine then_n ?_
  refine hc_ret ?_
  exact ret1 () rfl (congrArg (fun b => some (Value.bool b)) (by rw [hnx, decide_eq_true hA, Bool.true_or])) rfl trivial (List.nil_sublist _) trivial

def fallsB (hs : List PH) (g : Nat → Bool) (i : Nat) : Bool :=
  if ¬ (hs.getD i default).2.2.1 = -1 then g (hs.getD i default).2.2.1.toNat
  else if ¬ (hs.getD i default).2.1 = -1 then false
  else (hs.getD i default).2.2.2.all fun a => g a.toNat
def goneS (hs : List PH) (g : Nat → Bool) (k : Nat) : Nat → Bool := fun j => g j || (decide (k = j) && fallsB hs g k)
def goneK (hs : List PH) (g : Nat → Bool) : Nat → Nat → Bool
  | 0 => g
  | k + 1 => goneS hs (goneK hs g k) k
def goneR (hs : List PH) (g : Nat → Bool) : Nat → Nat → Bool
  | 0 => g
  | r + 1 => goneK hs (goneR hs g r) hs.length
/-- What is gone in the end. -/
def goneB (hs : List PH) (i : Nat) : Nat → Bool := goneR hs (fun j => decide (i = j)) hs.length
theorem falls_mono {hs : List PH} {g g' : Nat → Bool} (h : ∀ j, g j = true → g' j = true) {i : Nat} (hf : fallsB hs g i = true) : fallsB hs g' i = true := by
  unfold fallsB at *
  split at hf
  · rename_i h1; rw [if_pos h1]; exact h _ hf
  · rename_i h1
    rw [if_neg h1]
    split at hf
    · cases hf
    · rename_i h2
      rw [if_neg h2]
      rw [List.all_eq_true] at hf ⊢
      exact fun a ha => h _ (hf a ha)
theorem goneS_up {hs : List PH} {g : Nat → Bool} {k j : Nat} (h : g j = true) : goneS hs g k j = true := by unfold goneS; rw [h]; rfl
theorem goneK_up {hs : List PH} {g : Nat → Bool} {j : Nat} (h : g j = true) : ∀ k, goneK hs g k j = true
  | 0 => h
  | k + 1 => goneS_up (goneK_up h k)
theorem goneK_le {hs : List PH} {g : Nat → Bool} {j k : Nat} (h : goneK hs g k j = true) : ∀ m, k ≤ m → goneK hs g m j = true
  | 0, hm => by obtain rfl : k = 0 := (by omega); exact h
  | m + 1, hm => by
    by_cases e : k = m + 1
    · subst e; exact h
    · exact goneS_up (goneK_le h m (by omega))
theorem goneR_up {hs : List PH} {g : Nat → Bool} {j : Nat} (h : g j = true) : ∀ r, goneR hs g r j = true
  | 0 => h
  | r + 1 => goneK_up (goneR_up h r) _
/-- Nothing more falls. -/
def Shut (hs : List PH) (g : Nat → Bool) : Prop := ∀ k, k < hs.length → fallsB hs g k = true → g k = true
theorem shut_K {hs : List PH} {g : Nat → Bool} (h : Shut hs g) : ∀ k, k ≤ hs.length → goneK hs g k = g
  | 0, _ => rfl
  | k + 1, hk => by
    have ih := shut_K h k (by omega)
    funext j
    show goneS hs (goneK hs g k) k j = g j
    rw [ih]
    unfold goneS
    cases hg : g j
    · rw [Bool.false_or]
      by_cases e : k = j
      · subst e
        rw [decide_eq_true rfl, Bool.true_and]
        cases hf : fallsB hs g k
        · rfl
        · rw [h k (by omega) hf] at hg; cases hg
      · rw [decide_eq_false e]; rfl
    · rfl
def cntB (n : Nat) (g : Nat → Bool) : Nat := ((List.range n).filter g).length
theorem cnt_succ (n : Nat) (g : Nat → Bool) : cntB (n + 1) g = cntB n g + (if g n = true then 1 else 0) := by
  unfold cntB
  rw [List.range_succ, List.filter_append, List.length_append, List.filter_cons, List.filter_nil]
  by_cases h : g n = true
  · rw [if_pos h, if_pos h]; rfl
  · rw [if_neg h, if_neg h]; rfl
theorem cnt_le (n : Nat) (g : Nat → Bool) : cntB n g ≤ n := by
  unfold cntB
  exact Nat.le_trans (List.length_filter_le _ _) (by simp)
theorem cnt_mono {g g' : Nat → Bool} (h : ∀ j, g j = true → g' j = true) : ∀ n, cntB n g ≤ cntB n g'
  | 0 => Nat.le_refl _
  | n + 1 => by
    have ih := cnt_mono h n
    rw [cnt_succ, cnt_succ]
    by_cases e : g n = true
    · rw [if_pos e, if_pos (h n e)]; omega
    · rw [if_neg e]; omega
theorem cnt_lt {g g' : Nat → Bool} (h : ∀ j, g j = true → g' j = true) {k : Nat} (h1 : ¬ g k = true) (h2 : g' k = true) : ∀ n, k < n → cntB n g < cntB n g'
  | 0, hn => by omega
  | n + 1, hn => by
    rw [cnt_succ, cnt_succ]
    by_cases e : k = n
    · subst e
      have := cnt_mono h k
      rw [if_neg h1, if_pos h2]; omega
    · have ih := cnt_lt h h1 h2 n (by omega)
      by_cases e : g n = true
      · rw [if_pos e, if_pos (h n e)]; omega
      · rw [if_neg e]; omega
theorem cnt_pos {g : Nat → Bool} {i : Nat} (hi : g i = true) : ∀ n, i < n → 1 ≤ cntB n g
  | 0, hn => by omega
  | n + 1, hn => by
    rw [cnt_succ]
    by_cases e : i = n
    · subst e; rw [if_pos hi]; omega
    · have := cnt_pos hi n (by omega); omega
theorem gone_round {hs : List PH} {g : Nat → Bool} {i : Nat} (hi : i < hs.length) (h0 : g i = true) : ∀ r, Shut hs (goneR hs g r) ∨ r + 1 ≤ cntB hs.length (goneR hs g r)
  | 0 => .inr (cnt_pos h0 _ hi)
  | r + 1 => by
    by_cases hS : Shut hs (goneR hs g r)
    · left
      show Shut hs (goneK hs (goneR hs g r) hs.length)
      rw [shut_K hS _ (Nat.le_refl _)]
      exact hS
    · rcases gone_round hi h0 r with h1 | h1
      · exact absurd h1 hS
      · right
        have hx : ∃ k, k < hs.length ∧ fallsB hs (goneR hs g r) k = true ∧ ¬ goneR hs g r k = true := Classical.byContradiction fun hn => hS fun k hk hf => Classical.byContradiction fun e => hn ⟨k, hk, hf, e⟩
        obtain ⟨k, hk, hf, hg⟩ := hx
        have h2 : goneK hs (goneR hs g r) hs.length k = true := by
          refine goneK_le (k := k + 1) ?_ _ (by omega)
          show (goneK hs (goneR hs g r) k k || (decide (k = k) && fallsB hs (goneK hs (goneR hs g r) k) k)) = true
          rw [falls_mono (fun j hj => goneK_up hj k) hf]
          simp
        have := cnt_lt (n := hs.length) (g := goneR hs g r) (g' := goneR hs g (r + 1)) (fun j hj => goneK_up hj _) hg h2 hk
        omega
theorem gone_shut {hs : List PH} {i : Nat} (hi : i < hs.length) : Shut hs (goneB hs i) := by
  rcases gone_round (hs := hs) (g := fun j => decide (i = j)) hi (decide_eq_true rfl) hs.length with h | h
  · exact h
  · have := cnt_le hs.length (goneR hs (fun j => decide (i = j)) hs.length)
    omega
theorem gone_self (hs : List PH) (i : Nat) : goneB hs i i = true := goneR_up (decide_eq_true rfl) _
/-- What holds of the heading, and of all that fall if it holds of what is gone before, holds of all that go. -/
theorem gone_inv {hs : List PH} {i : Nat} (P : Nat → Prop) (h0 : P i) (hP : ∀ (g : Nat → Bool) k, k < hs.length → (∀ j, g j = true → P j) → fallsB hs g k = true → P k) : ∀ j, goneB hs i j = true → P j := by
  have hK : ∀ (g : Nat → Bool), (∀ j, g j = true → P j) → ∀ k, k ≤ hs.length → ∀ j, goneK hs g k j = true → P j := by
    intro g hg k
    induction k with
    | zero => exact fun _ => hg
    | succ k ih =>
      intro hk j hj
      have hj2 : (goneK hs g k j || (decide (k = j) && fallsB hs (goneK hs g k) k)) = true := hj
      rw [Bool.or_eq_true, Bool.and_eq_true, decide_eq_true_eq] at hj2
      rcases hj2 with hj2 | ⟨he, hj2⟩
      · exact ih (by omega) j hj2
      · exact he ▸ hP _ k (by omega) (ih (by omega)) hj2
  have hR : ∀ r j, goneR hs (fun j => decide (i = j)) r j = true → P j := by
    intro r
    induction r with
    | zero => intro j hj; rw [← of_decide_eq_true hj]; exact h0
    | succ r ih => intro j hj; exact hK _ ih _ (Nat.le_refl _) j hj
  exact hR _
theorem gone_kind {t : Tr} (hok : TrOK t) {i : Nat} : ∀ j, goneB t.hs i j = true → j = i ∨ (t.hs.getD j default).2.1 = -1 := by
  refine gone_inv (fun j => j = i ∨ (t.hs.getD j default).2.1 = -1) (.inl rfl) fun g k hk hg hf => .inr ?_
  have hkd := (hok.h k hk).kinds
  unfold fallsB at hf
  split at hf
  · rename_i h1
    rcases hkd with ⟨_, h2, _⟩ | ⟨h2, _⟩ | ⟨h2, _⟩
    · exact h2
    · exact absurd h2 h1
    · exact absurd h2 h1
  · split at hf
    · cases hf
    · rename_i h2; exact Classical.not_not.1 h2
theorem gone_alone {t : Tr} (hok : TrOK t) {i : Nat} (hn : ∀ k, k < t.hs.length → nextB t k i = false) : ∀ j, goneB t.hs i j = true → j = i := by
  refine gone_inv (fun j => j = i) rfl fun g k hk hg hf => ?_
  exfalso
  have hh := hok.h k hk
  have hkd := hh.kinds
  have hno := hn k hk
  unfold nextB at hno
  rw [Bool.or_eq_false_iff, decide_eq_false_iff_not, decide_eq_false_iff_not] at hno
  unfold fallsB at hf
  split at hf
  · rename_i h1
    have h2 := hg _ hf
    have h3 := hh.s.1
    exact hno.1 (by omega)
  · rename_i h1
    split at hf
    · cases hf
    · rename_i h2
      rw [List.all_eq_true] at hf
      rcases hkd with ⟨h3, _⟩ | ⟨_, h3⟩ | ⟨_, _, h3⟩
      · exact h1 (by omega)
      · exact h2 (by omega)
      · obtain ⟨a, ha⟩ := List.exists_mem_of_ne_nil _ h3
        have h4 := hg _ (hf a ha)
        obtain ⟨q, hq, rfl⟩ := List.getElem_of_mem ha
        have h5 := (also_ok (hh.a q hq)).1
        rw [getD_at hq] at h5
        exact hno.2 (by rw [show (i : Int) = (t.hs.getD k default).2.2.2[q] by omega]; exact ha)
/-! ### What is kept -/
def keepK (g : Nat → Bool) (n : Nat) : List Nat := (List.range n).filter fun k => !g k
def numN (g : Nat → Bool) (k : Nat) : Nat := (keepK g k).length
theorem keep_succ (g : Nat → Bool) (k : Nat) : keepK g (k + 1) = if g k = true then keepK g k else keepK g k ++ [k] := by
  unfold keepK
  rw [List.range_succ, List.filter_append, List.filter_cons, List.filter_nil]
  cases h : g k <;> simp
theorem num_succ (g : Nat → Bool) (k : Nat) : numN g (k + 1) = if g k = true then numN g k else numN g k + 1 := by
  unfold numN
  rw [keep_succ]
  split
  · rfl
  · rw [List.length_append]; rfl
theorem num_le (g : Nat → Bool) (k : Nat) : numN g k ≤ k := by
  unfold numN keepK
  exact Nat.le_trans (List.length_filter_le _ _) (by simp)
theorem keep_pre (g : Nat → Bool) {k : Nat} : ∀ {m : Nat}, k ≤ m → keepK g k <+: keepK g m
  | 0, e => by obtain rfl : k = 0 := (by omega); exact List.prefix_refl _
  | m + 1, e => by
    by_cases e1 : k = m + 1
    · subst e1; exact List.prefix_refl _
    · refine (keep_pre g (m := m) (by omega)).trans ?_
      rw [keep_succ]
      split
      · exact List.prefix_refl _
      · exact List.prefix_append _ _
theorem num_mono (g : Nat → Bool) {k m : Nat} (h : k ≤ m) : numN g k ≤ numN g m := (keep_pre g h).length_le
theorem num_lt {g : Nat → Bool} {k m : Nat} (hk : g k = false) (h : k < m) : numN g k < numN g m := by
  have h1 := num_mono g (show k + 1 ≤ m from h)
  rw [num_succ, if_neg (by rw [hk]; decide)] at h1
  omega
theorem num_inj {g : Nat → Bool} {j k : Nat} (hj : g j = false) (hk : g k = false) (h : numN g j = numN g k) : j = k := by
  rcases Nat.lt_trichotomy j k with h1 | h1 | h1
  · have := num_lt hj h1; omega
  · exact h1
  · have := num_lt hk h1; omega
theorem keep_at {g : Nat → Bool} {k n : Nat} (hk : k < n) (hg : g k = false) : (keepK g n).getD (numN g k) default = k := by
  have hp : keepK g (k + 1) <+: keepK g n := keep_pre g (by omega)
  rw [keep_succ, if_neg (by rw [hg]; decide)] at hp
  obtain ⟨r, hr⟩ := hp
  unfold numN
  rw [← hr, List.getD_eq_getElem?_getD, List.append_assoc, List.getElem?_append_right (Nat.le_refl _), Nat.sub_self]
  rfl
theorem keep_mem {g : Nat → Bool} {n p : Nat} (hp : p < numN g n) : (keepK g n).getD p default < n ∧ g ((keepK g n).getD p default) = false ∧ numN g ((keepK g n).getD p default) = p := by
  have hm : (keepK g n).getD p default ∈ keepK g n := getD_mem hp
  generalize hk : (keepK g n).getD p default = k at *
  unfold keepK at hm
  rw [List.mem_filter, List.mem_range] at hm
  have hg : g k = false := by simpa using hm.2
  refine ⟨hm.1, hg, ?_⟩
  have h1 := num_lt hg hm.1
  have h2 := keep_at hm.1 hg
  have hnd : (keepK g n).Nodup := List.Nodup.sublist List.filter_sublist List.nodup_range
  have h3 : (keepK g n)[numN g k]'h1 = (keepK g n)[p]'hp := by rw [← getD_at h1, ← getD_at hp, h2, hk]
  rcases Nat.lt_trichotomy (numN g k) p with h4 | h4 | h4
  · exact absurd h3 (List.pairwise_iff_getElem.1 hnd _ _ h1 hp h4)
  · exact h4
  · exact absurd h3.symm (List.pairwise_iff_getElem.1 hnd _ _ hp h1 h4)
theorem num_cnt (g : Nat → Bool) : ∀ n, numN g n + cntB n g = n
  | 0 => rfl
  | n + 1 => by
    have ih := num_cnt g n
    rw [num_succ, cnt_succ]
    by_cases h : g n = true
    · rw [if_pos h, if_pos h]; omega
    · rw [if_neg h, if_neg h]; omega
theorem cnt_one {g : Nat → Bool} {i : Nat} (h0 : g i = true) (h : ∀ j, g j = true → j = i) : ∀ n, cntB n g = if i < n then 1 else 0
  | 0 => by rw [if_neg (by omega)]; rfl
  | n + 1 => by
    rw [cnt_succ, cnt_one h0 h n]
    by_cases e : i = n
    · subst e; rw [if_neg (by omega), if_pos h0, if_pos (by omega)]
    · rw [if_neg (show ¬ g n = true from fun hg => e (h n hg).symm)]
      by_cases e2 : i < n
      · rw [if_pos e2, if_pos (by omega)]
      · rw [if_neg e2, if_neg (by omega)]
/-! ### The trades that remain -/
def dropA (g : Nat → Bool) (l : List Int) : List Int := (l.filter fun a => !g a.toNat).map fun a => (numN g a.toNat : Int)
def dropP (g : Nat → Bool) (h : PH) : PH := (h.1, h.2.1, (if 0 ≤ h.2.2.1 then (numN g h.2.2.1.toNat : Int) else h.2.2.1), dropA g h.2.2.2)
def dropHs (hs : List PH) (g : Nat → Bool) (n : Nat) : List PH := (keepK g n).map fun k => dropP g (hs.getD k default)
abbrev dropT (t : Tr) (i : Nat) : Tr := ⟨t.cs, dropHs t.hs (goneB t.hs i) t.hs.length⟩
theorem dropHs_len (hs : List PH) (g : Nat → Bool) (n : Nat) : (dropHs hs g n).length = numN g n := List.length_map ..
theorem dropHs_succ (hs : List PH) (g : Nat → Bool) (k : Nat) : dropHs hs g (k + 1) = if g k = true then dropHs hs g k else dropHs hs g k ++ [dropP g (hs.getD k default)] := by
  unfold dropHs
  rw [keep_succ]
  split
  · rfl
  · rw [List.map_append]; rfl
theorem dropHs_at {hs : List PH} {g : Nat → Bool} {n k : Nat} (hk : k < n) (hg : g k = false) : (dropHs hs g n).getD (numN g k) default = dropP g (hs.getD k default) := by
  have h1 : numN g k < (keepK g n).length := num_lt hg hk
  unfold dropHs
  rw [getD_at (by rw [List.length_map]; exact h1), List.getElem_map, ← getD_at h1, keep_at hk hg]
/-- The headings that are dropped are gone: where a pointer leads, and what an index has, is kept with it. -/
theorem kept_see {t : Tr} (hok : TrOK t) {i k : Nat} (hi : i < t.hs.length) (hk : k < t.hs.length) (hg : goneB t.hs i k = false) (h0 : 0 ≤ (t.hs.getD k default).2.2.1) : goneB t.hs i (t.hs.getD k default).2.2.1.toNat = false := by
  have hS := gone_shut hi k hk
  cases hs : goneB t.hs i (t.hs.getD k default).2.2.1.toNat
  · rfl
  · rw [hS (by unfold fallsB; rw [if_pos (by omega)]; exact hs)] at hg
    cases hg
theorem kept_also {t : Tr} (hok : TrOK t) {i k : Nat} (hi : i < t.hs.length) (hk : k < t.hs.length) (hg : goneB t.hs i k = false) (h0 : (t.hs.getD k default).2.2.1 = -1) (h1 : (t.hs.getD k default).2.1 = -1) : dropA (goneB t.hs i) (t.hs.getD k default).2.2.2 ≠ [] := by
  have hS := gone_shut hi k hk
  intro e
  unfold dropA at e
  rw [List.map_eq_nil_iff, List.filter_eq_nil_iff] at e
  rw [hS (by
    unfold fallsB
    rw [if_neg (not_not_intro h0), if_neg (not_not_intro h1), List.all_eq_true]
    intro a ha
    simpa using e a ha)] at hg
  cases hg
theorem hd_lt {t : Tr} (hok : TrOK t) : ∀ (m : Nat), m < t.hs.length → ∀ j, j < m → (t.hs.getD j default).1 < (t.hs.getD m default).1
  | 0, _, j, hj => by omega
  | m + 1, hm, j, hj => by
    have hh := hok.h (m + 1) hm
    have h1 : (t.hs.getD m default).1 < (t.hs.getD (m + 1) default).1 := by
      have h2 := hh.o
      rw [Nat.add_sub_cancel] at h2
      have h3 : ¬ (t.hs.getD (m + 1) default).1 < (t.hs.getD m default).1 := fun e => h2 ⟨by omega, e⟩
      have h4 : ¬ (t.hs.getD m default).1 = (t.hs.getD (m + 1) default).1 := fun e => hh.n (by
        rw [← e]
        refine List.mem_map.2 ⟨_, ?_, rfl⟩
        rw [getD_at (show m < t.hs.length by omega), List.mem_take_iff_getElem]
        exact ⟨m, by omega, rfl⟩)
      exact wlt_of h3 h4
    by_cases e : j = m
    · subst e; exact h1
    · exact List.lt_trans (hd_lt hok m (by omega) j (by omega)) h1
theorem hd_uniq {t : Tr} (hok : TrOK t) {i j : Nat} (hi : i < t.hs.length) (hj : j < t.hs.length) (h : (t.hs.getD i default).1 = (t.hs.getD j default).1) : i = j := by
  rcases Nat.lt_trichotomy i j with h1 | h1 | h1
  · have := hd_lt hok j hj i h1; rw [h] at this; exact absurd this (List.lt_irrefl _)
  · exact h1
  · have := hd_lt hok i hi j h1; rw [h] at this; exact absurd this (List.lt_irrefl _)
theorem dropA_mem {g : Nat → Bool} {l : List Int} {x : Int} (hl : ∀ a ∈ l, 0 ≤ a) : x ∈ dropA g l ↔ ∃ a : Nat, (a : Int) ∈ l ∧ g a = false ∧ x = (numN g a : Int) := by
  unfold dropA
  rw [List.mem_map]
  constructor
  · rintro ⟨a, ha, rfl⟩
    rw [List.mem_filter] at ha
    refine ⟨a.toNat, by rw [Int.toNat_of_nonneg (hl a ha.1)]; exact ha.1, by simpa using ha.2, rfl⟩
  · rintro ⟨a, ha, hg, rfl⟩
    exact ⟨a, List.mem_filter.2 ⟨ha, by simp [hg]⟩, by simp⟩
theorem also_mk {n i : Nat} {l : List Int} (hp : l.Pairwise (· < ·)) (hr : ∀ a ∈ l, 0 ≤ a ∧ a < (n : Int) ∧ ¬ a = (i : Int)) (k : Nat) (hk : k < l.length) : alsoErr n i l k = 0 := by
  have h1 := hr _ (getD_mem hk)
  unfold alsoErr
  rw [if_neg (by omega), if_neg h1.2.2, if_neg]
  rintro ⟨h2, h3⟩
  have := asc_at hp (show k - 1 < k by omega) hk
  omega
theorem also_pair {t : Tr} {k : Nat} (hh : HeadOK t k) : (t.hs.getD k default).2.2.2.Pairwise (· < ·) := by
  have ha := hh.a
  generalize (t.hs.getD k default).2.2.2 = l at *
  have key : ∀ m, m < l.length → ∀ j, j < m → l.getD j default < l.getD m default := by
    intro m
    induction m with
    | zero => intro _ j hj; omega
    | succ m ih =>
      intro hm j hj
      have h1 := (also_ok (ha (m + 1) hm)).2.2.2 (by omega)
      rw [Nat.add_sub_cancel] at h1
      by_cases e : j = m
      · subst e; exact h1
      · have := ih (by omega) j (by omega); omega
  rw [List.pairwise_iff_getElem]
  intro i j hi hj hij
  have := key j hj i hij
  rwa [getD_at hi, getD_at hj] at this
theorem also_in {t : Tr} {k : Nat} (hh : HeadOK t k) : ∀ a ∈ (t.hs.getD k default).2.2.2, 0 ≤ a ∧ a < (t.hs.length : Int) ∧ ¬ a = (k : Int) := by
  intro a ha
  obtain ⟨q, hq, rfl⟩ := List.getElem_of_mem ha
  have h := also_ok (hh.a q hq)
  rw [getD_at hq] at h
  exact ⟨h.1, h.2.1, h.2.2.1⟩
theorem dropA_pair {g : Nat → Bool} {l : List Int} (hl : ∀ a ∈ l, 0 ≤ a) (hp : l.Pairwise (· < ·)) : (dropA g l).Pairwise (· < ·) := by
  unfold dropA
  rw [List.pairwise_map]
  refine (hp.sublist List.filter_sublist).imp_of_mem fun {a b} ha hb hab => ?_
  rw [List.mem_filter] at ha hb
  have h1 := hl a ha.1
  have h2 := num_lt (g := g) (k := a.toNat) (m := b.toNat) (by simpa using ha.2) (by omega)
  omega
/-- What remains is valid. -/
theorem drop_ok {t : Tr} (hok : TrOK t) {i : Nat} (hi : i < t.hs.length) : TrOK (dropT t i) := by
  have hln : (dropT t i).hs.length = numN (goneB t.hs i) t.hs.length := dropHs_len ..
  have hlm := num_le (goneB t.hs i) t.hs.length
  refine ⟨hok.c6, by rw [hln]; have := hok.h6; omega, hok.c, fun p hp => ?_⟩
  rw [hln] at hp
  obtain ⟨hk, hg, hn⟩ := keep_mem hp
  generalize (keepK (goneB t.hs i) t.hs.length).getD p default = k at hk hg hn
  have e : (dropT t i).hs.getD p default = dropP (goneB t.hs i) (t.hs.getD k default) := by rw [← hn]; exact dropHs_at hk hg
  have hh := hok.h k hk
  have hai := also_in hh
  have hkd := hh.kinds
  have hnm : ∀ q, q < p → ∃ j, j < k ∧ ((dropT t i).hs.getD q default).1 = (t.hs.getD j default).1 := fun q hq => by
    obtain ⟨hj, hgj, hnj⟩ := keep_mem (g := goneB t.hs i) (n := t.hs.length) (p := q) (by omega)
    refine ⟨(keepK (goneB t.hs i) t.hs.length).getD q default, ?_, ?_⟩
    rotate_left
    · have h1 : (dropT t i).hs.getD (numN (goneB t.hs i) ((keepK (goneB t.hs i) t.hs.length).getD q default)) default = _ := dropHs_at hj hgj
      rw [hnj] at h1
      rw [h1]
      rfl
    generalize (keepK (goneB t.hs i) t.hs.length).getD q default = j at hj hgj hnj
    rcases Nat.lt_or_ge j k with h1 | h1
    · exact h1
    · have := num_mono (goneB t.hs i) h1; omega
  refine ⟨by rw [e]; exact hh.w, ?_, ?_, by rw [e]; exact hh.c, ?_, ?_, ?_⟩
  · rw [e]
    intro hm
    obtain ⟨x, hx, he⟩ := List.mem_map.1 hm
    obtain ⟨q, hq, rfl⟩ := List.mem_take_iff_getElem.1 hx
    obtain ⟨j, hj, e2⟩ := hnm q (by omega)
    rw [← getD_at (by omega), e2] at he
    have := hd_lt hok k hk j hj
    rw [he] at this
    exact List.lt_irrefl _ this
  · rintro ⟨h0, hlt⟩
    obtain ⟨j, hj, e2⟩ := hnm (p - 1) (by omega)
    rw [e, e2] at hlt
    exact List.lt_irrefl _ (List.lt_trans hlt (hd_lt hok k hk j hj))
  · rw [e, hln]
    show -1 ≤ (if 0 ≤ (t.hs.getD k default).2.2.1 then (numN (goneB t.hs i) (t.hs.getD k default).2.2.1.toNat : Int) else (t.hs.getD k default).2.2.1) ∧ (if 0 ≤ (t.hs.getD k default).2.2.1 then (numN (goneB t.hs i) (t.hs.getD k default).2.2.1.toNat : Int) else (t.hs.getD k default).2.2.1) < _ ∧ ¬ (if 0 ≤ (t.hs.getD k default).2.2.1 then (numN (goneB t.hs i) (t.hs.getD k default).2.2.1.toNat : Int) else (t.hs.getD k default).2.2.1) = _
    have hs := hh.s
    by_cases h0 : 0 ≤ (t.hs.getD k default).2.2.1
    · rw [if_pos h0]
      have hsg := kept_see hok hi hk hg h0
      have h1 := num_lt hsg (show (t.hs.getD k default).2.2.1.toNat < t.hs.length by omega)
      refine ⟨by omega, by omega, fun e3 => ?_⟩
      have := num_inj hsg hg (by omega)
      omega
    · rw [if_neg h0]; omega
  · rw [e, hln]
    refine also_mk (dropA_pair (fun a ha => (hai a ha).1) (also_pair hh)) fun a ha => ?_
    obtain ⟨b, hb, hgb, rfl⟩ := (dropA_mem fun a ha => (hai a ha).1).1 ha
    have hbi := hai _ hb
    have h1 := num_lt hgb (show b < t.hs.length by omega)
    refine ⟨by omega, by omega, fun e3 => ?_⟩
    have := num_inj hgb hg (by omega)
    omega
  · rw [e]
    unfold kindBad
    show ((decide (¬ (if 0 ≤ (t.hs.getD k default).2.2.1 then (numN (goneB t.hs i) (t.hs.getD k default).2.2.1.toNat : Int) else (t.hs.getD k default).2.2.1) = -1) && (decide (¬ (t.hs.getD k default).2.1 = -1) || decide (0 < (dropA (goneB t.hs i) (t.hs.getD k default).2.2.2).length))) || (decide ((if 0 ≤ (t.hs.getD k default).2.2.1 then (numN (goneB t.hs i) (t.hs.getD k default).2.2.1.toNat : Int) else (t.hs.getD k default).2.2.1) = -1) && (decide ((t.hs.getD k default).2.1 = -1) && decide ((dropA (goneB t.hs i) (t.hs.getD k default).2.2.2).length = 0)))) = false
    rcases hkd with ⟨h1, h2, h3⟩ | ⟨h1, h2⟩ | ⟨h1, h2, h3⟩
    · rw [if_pos h1, h2, h3]
      rw [decide_eq_false (show ¬ ((numN (goneB t.hs i) (t.hs.getD k default).2.2.1.toNat : Int) = -1) by omega)]
      simp [dropA]
    · rw [if_neg (by omega), h1, decide_eq_false (show ¬ (t.hs.getD k default).2.1 = -1 by omega)]
      simp
    · rw [if_neg (by omega), h1, h2, decide_eq_false (show ¬ (dropA (goneB t.hs i) (t.hs.getD k default).2.2.2).length = 0 from fun e3 => kept_also hok hi hk hg h1 h2 (List.length_eq_zero_iff.1 e3))]
      simp
/-- References that remain. -/
theorem drop_next {t : Tr} (hok : TrOK t) {i j k : Nat} (hi : i < t.hs.length) (hk : k < t.hs.length) (hj : j < t.hs.length) (hgk : goneB t.hs i k = false) (hgj : goneB t.hs i j = false) : nextB (dropT t i) (numN (goneB t.hs i) k) (numN (goneB t.hs i) j) = nextB t k j := by
  have hh := hok.h k hk
  have hai := also_in hh
  have e : (dropT t i).hs.getD (numN (goneB t.hs i) k) default = dropP (goneB t.hs i) (t.hs.getD k default) := dropHs_at hk hgk
  unfold nextB
  rw [e]
  show (decide ((if 0 ≤ (t.hs.getD k default).2.2.1 then (numN (goneB t.hs i) (t.hs.getD k default).2.2.1.toNat : Int) else (t.hs.getD k default).2.2.1) = (numN (goneB t.hs i) j : Int)) || decide ((numN (goneB t.hs i) j : Int) ∈ dropA (goneB t.hs i) (t.hs.getD k default).2.2.2)) = _
  congr 1
  · refine decide_eq_decide.2 ?_
    by_cases h0 : 0 ≤ (t.hs.getD k default).2.2.1
    · rw [if_pos h0]
      have hsg := kept_see hok hi hk hgk h0
      constructor
      · intro e1
        have := num_inj hsg hgj (by omega)
        omega
      · intro e1
        rw [show (t.hs.getD k default).2.2.1.toNat = j by omega]
    · rw [if_neg h0]; omega
  · refine decide_eq_decide.2 ?_
    rw [dropA_mem fun a ha => (hai a ha).1]
    constructor
    · rintro ⟨a, ha, hga, e1⟩
      rw [← num_inj hga hgj (by omega)]; exact ha
    · intro ha; exact ⟨j, ha, hgj, rfl⟩
/-- Where a word is in what remains. -/
theorem drop_word {t : Tr} (hok : TrOK t) {i k p : Nat} (hk : k < t.hs.length) (hp : p < (dropT t i).hs.length) (h : ((dropT t i).hs.getD p default).1 = (t.hs.getD k default).1) : goneB t.hs i k = false ∧ p = numN (goneB t.hs i) k := by
  rw [show (dropT t i).hs.length = _ from dropHs_len ..] at hp
  obtain ⟨hj, hgj, hnj⟩ := keep_mem hp
  generalize (keepK (goneB t.hs i) t.hs.length).getD p default = j at hj hgj hnj
  rw [← hnj, show (dropT t i).hs.getD _ default = _ from dropHs_at hj hgj] at h
  obtain rfl := hd_uniq hok hj hk h
  exact ⟨hgj, hnj.symm⟩
theorem drop_gone {t : Tr} (hok : TrOK t) {i k : Nat} (hk : k < t.hs.length) (h : (t.hs.getD k default).1 ∉ (dropT t i).hs.map (·.1)) : goneB t.hs i k = true := by
  cases hg : goneB t.hs i k
  · exfalso
    have hl : numN (goneB t.hs i) k < (dropT t i).hs.length := by rw [show (dropT t i).hs.length = _ from dropHs_len ..]; exact num_lt hg hk
    refine h (List.mem_map.2 ⟨(dropT t i).hs.getD (numN (goneB t.hs i) k) default, getD_mem hl, ?_⟩)
    rw [show (dropT t i).hs.getD _ default = _ from dropHs_at hk hg]
    rfl
  · rfl
theorem drop_len {t : Tr} {i : Nat} (hi : i < t.hs.length) : (dropT t i).hs.length < t.hs.length := by
  rw [show (dropT t i).hs.length = _ from dropHs_len ..]
  have h1 := num_cnt (goneB t.hs i) t.hs.length
  have h2 := cnt_pos (gone_self t.hs i) _ hi
  omega
theorem drop_one {t : Tr} (hok : TrOK t) {i : Nat} (hi : i < t.hs.length) (hn : ∀ k, k < t.hs.length → nextB t k i = false) : (dropT t i).hs.length + 1 = t.hs.length := by
  rw [show (dropT t i).hs.length = _ from dropHs_len ..]
  have h1 := num_cnt (goneB t.hs i) t.hs.length
  rw [cnt_one (gone_self t.hs i) (gone_alone hok hn), if_pos hi] at h1
  exact h1

theorem zv_idx (w : World) : (zeroValue T.trade_index).run Try.prog w = .ok (.agg #[.slice none 0 0]) w := by kernel_rfl
def Kd.isI : Kd → Bool | .idx _ => true | _ => false
def Kd.ixs : Kd → Sl Int | .idx a => a | _ => ⟨none, 0, []⟩
section
variable {c : Cx} {Q : Exit → Act → World → Prop} {fr : Fr} {hp : Hp} {L : List Fact} {ops : Array Oper} {rest : List Oper} {d : Tmp} {ty : TypeId} {pos : String} {af : Array Edge}
theorem r_asI {xt : TypeId} {x : Operand} {kd : Kd} (hd : Nat.blt d c.n = true) (hP : c.P = Try.prog) (hx : ev fr x = some kd.v) (k : HL c ops Q rest ((d, .tuple #[.agg #[.slice kd.ixs.a kd.ixs.l.length kd.ixs.c], .bool kd.isI]) :: fr) hp L) : HL c ops Q (⟨some d, .typeAssert x xt T.trade_index true, ty, pos, af, none⟩ :: rest) fr hp L := by
  have ht : NoI c.P T.trade_index := by rw [hP]; exact ⟨_, Try.underlying115, rfl⟩
  have hz : ∀ w, (zeroValue T.trade_index).run c.P w = .ok (.agg #[.slice none 0 0]) w := by rw [hP]; exact zv_idx
  cases kd with
  | idx b => exact r_assertY hd ht hx k
  | art a b => exact r_assertN hd ht hx rfl hz k
  | ptr s => exact r_assertN hd ht hx rfl hz k
end
theorem falls_at {hs : List Hd} {g : Nat → Bool} {k : Nat} (hk : k < hs.length) : fallsB (hs.map Hd.p) g k = if ¬ (hs.getD k default).2.2.1 = -1 then g (hs.getD k default).2.2.1.toNat else if ¬ (hs.getD k default).2.1 = -1 then false else (hs.getD k default).2.2.2.l.all fun a => g a.toNat := by
  unfold fallsB
  rw [hd_get hk]
  rfl
theorem falls_ptr {hs : List Hd} {g : Nat → Bool} {k : Nat} (hk : k < hs.length) (h : (kindOf (hs.getD k default)).isP = true) : fallsB (hs.map Hd.p) g k = g (kindOf (hs.getD k default)).see.toNat := by
  rw [isP_of, decide_eq_true_eq] at h
  rw [falls_at hk, if_pos h, see_of h]
theorem idx_of {h : Hd} (hI : (kindOf h).isI = true) : h.2.2.1 = -1 ∧ h.2.1 = -1 ∧ (kindOf h).ixs = h.2.2.2 := by
  unfold kindOf at *
  split at hI
  · cases hI
  · rename_i h1
    split at hI
    · cases hI
    · rename_i h2
      rw [if_neg h1, if_neg h2]
      exact ⟨Classical.not_not.1 h1, Classical.not_not.1 h2, rfl⟩
theorem falls_idx {hs : List Hd} {g : Nat → Bool} {k : Nat} (hk : k < hs.length) (h : (kindOf (hs.getD k default)).isI = true) : fallsB (hs.map Hd.p) g k = (hs.getD k default).2.2.2.l.all fun a => g a.toNat := by
  obtain ⟨h1, h2, _⟩ := idx_of h
  rw [falls_at hk, if_neg (not_not_intro h1), if_neg (not_not_intro h2)]
theorem falls_art {hs : List Hd} {g : Nat → Bool} {k : Nat} (hk : k < hs.length) (h : (kindOf (hs.getD k default)).isP = false) (h2 : (kindOf (hs.getD k default)).isI = false) : fallsB (hs.map Hd.p) g k = false := by
  rw [isP_of, decide_eq_false_iff_not] at h
  rw [falls_at hk, if_neg h]
  split
  · rfl
  · rename_i h3
    unfold kindOf at h2
    rw [if_neg h, if_neg h3] at h2
    cases h2
theorem gone_t {H : List PH} {g : Nat → Bool} {k : Nat} (h : fallsB H (goneK H g k) k = true) (j : Nat) : goneK H g (k + 1) j = (goneK H g k j || decide (k = j)) := by
  show (_ || (_ && _)) = _
  rw [h, Bool.and_true]
theorem gone_f {H : List PH} {g : Nat → Bool} {k : Nat} (h : fallsB H (goneK H g k) k = false) (j : Nat) : goneK H g (k + 1) j = goneK H g k j := by
  show (_ || (_ && _)) = _
  rw [h, Bool.and_false, Bool.or_false]
theorem all_gone {m : Nat} {p : Nat → Bool} (h : SetIs m p) (l : List Int) : (l.all fun a => m.testBit a.toNat) = l.all fun a => p a.toNat := by
  congr 1
  funext a
  exact h.2 _
theorem all_dec {z : Int} {b : Bool} (hz : 0 ≤ z ↔ b = false) : decide (0 ≤ z) = !b := by
  cases b with
  | true => exact decide_eq_false (fun h => by have := hz.1 h; cases this)
  | false => exact decide_eq_true (hz.2 rfl)
def numL (g : Nat → Bool) (k n : Nat) : List Int := (List.range n).map fun j => if j < k then (numN g j : Int) else 0
theorem numL_len (g : Nat → Bool) (k n : Nat) : (numL g k n).length = n := by unfold numL; rw [List.length_map, List.length_range]
theorem numL_get {g : Nat → Bool} {k n i : Nat} (h : i < (numL g k n).length) : (numL g k n)[i] = if i < k then (numN g i : Int) else 0 := by
  have e : (numL g k n)[i]? = some (if i < k then (numN g i : Int) else 0) := by
    unfold numL
    rw [List.getElem?_map, List.getElem?_range (by rw [numL_len] at h; exact h)]
    rfl
  rw [List.getElem?_eq_getElem h] at e
  exact Option.some.inj e
theorem numL_zero (g : Nat → Bool) (n : Nat) : numL g 0 n = List.replicate n 0 := by
  refine List.ext_getElem (by rw [numL_len, List.length_replicate]) fun i h1 h2 => ?_
  rw [numL_get, List.getElem_replicate, if_neg (by omega)]
theorem numL_set {g : Nat → Bool} {k n : Nat} (hk : k < n) : (numL g k n).set k (numN g k : Int) = numL g (k + 1) n := by
  refine List.ext_getElem (by rw [List.length_set, numL_len, numL_len]) fun i h1 h2 => ?_
  rw [List.getElem_set, numL_get, numL_get]
  by_cases e : k = i
  · subst e; rw [if_pos rfl, if_pos (by omega)]
  · rw [if_neg e]
    by_cases e2 : i < k
    · rw [if_pos e2, if_pos (by omega)]
    · rw [if_neg e2, if_neg (by omega)]
theorem numL_at {g : Nat → Bool} {j n : Nat} (hj : j < n) : (numL g n n).getD j default = (numN g j : Int) := by
  rw [getD_at (by rw [numL_len]; exact hj), numL_get, if_pos hj]
theorem dropA_succ (g : Nat → Bool) (l : List Int) {j : Nat} (hj : j < l.length) : dropA g (l.take (j + 1)) = if g (l.getD j default).toNat = true then dropA g (l.take j) else dropA g (l.take j) ++ [(numN g (l.getD j default).toNat : Int)] := by
  unfold dropA
  rw [take_succ_getD l j hj, List.filter_append, List.map_append]
  generalize l.getD j default = a
  by_cases h : g a.toNat = true
  · rw [if_pos h]; simp [h]
  · rw [if_neg h]; simp [h]
theorem dropA_len (g : Nat → Bool) (l : List Int) : (dropA g l).length ≤ l.length := by
  unfold dropA
  rw [List.length_map]
  exact List.length_filter_le _ _
theorem drop_ha {hs ys : List Hd} {g : Nat → Bool} {n : Nat} (ha : ∀ h ∈ hs, h.2.2.2.l.length ≤ 1000000) (hn : n ≤ hs.length) (hy : ys.map Hd.p = dropHs (hs.map Hd.p) g n) : ∀ h ∈ ys, h.2.2.2.l.length ≤ 1000000 := by
  intro h hh
  have h1 : h.p ∈ dropHs (hs.map Hd.p) g n := by rw [← hy]; exact List.mem_map_of_mem hh
  unfold dropHs at h1
  obtain ⟨k, hk, e⟩ := List.mem_map.1 h1
  unfold keepK at hk
  rw [List.mem_filter, List.mem_range] at hk
  rw [hd_get (by omega)] at e
  have h2 : dropA g (hs.getD k default).2.2.2.l = h.2.2.2.l := congrArg (fun q : PH => q.2.2.2) e
  rw [← h2]
  have := dropA_len g (hs.getD k default).2.2.2.l
  have := ha _ (getD_mem (show k < hs.length by omega))
  omega
abbrev OutR := List Hd × OutC × OutC
/-- What is given back: the trades t, in rows of one's own. -/
structure TrIs (t : Tr) (x : OutR) : Prop where
  p : x.1.map Hd.p = t.hs
  a : t.cs.length ≤ x.2.1.2
  b : x.1.length ≤ x.2.2.2
def dropE (t : Tr) (h : Int) : Tr × Int := if ¬ askE t [h] = 0 then (⟨[], []⟩, askE t [h]) else (dropT t h.toNat, 0)

theorem trade_list_drop_1_meets {g : Nat} (m a : Nat) (hm : m < 256) (ha : a < 8) : Meets Try.prog F.trade_list_drop_1 [int a, .pointer (some ⟨g, 0, none⟩)] { hpI := [(g, Obj.cells #[u8 m] T.trade_heads (0, 0))], val := fun _ : Unit => .bool (!m.testBit a), hpO := fun _ => [(g, Obj.cells #[u8 m] T.trade_heads (0, 0))] } := by
 refine meets_intro F.trade_list_drop_1_f rfl (Nat.le_of_ble_eq_true rfl) fun w0 => ?_
 refine hc_seq ?_
 refine hc_region ?_
 refine r_assign rfl rfl ?_
 refine hl_nil ?_
 refine then_n ?_
 refine hc_seq ?_
 refine hc_region ?_
 first | refine r_load rfl T.cell_trade_heads rfl (cell_own (by repeat constructor) rfl) ?_ | refine r_load rfl T.cell_trade_heads rfl (cell_blk (by repeat constructor) rfl) ?_ | refine r_load rfl T.cell_trade_heads rfl (cell_row (by repeat constructor) (rows_get0 (by omega) rfl)) ?_ | refine r_load rfl T.cell_trade_heads rfl (cell_row_f (by repeat constructor) (rows_get (by omega) rfl)) ?_ | refine r_load rfl T.cell_trade_heads rfl (cell_rowg (by repeat constructor) rfl) ?_
 refine r_move rfl rfl ?_
 refine hl_call F.trade_heads_has_cb rfl rfl (trade_heads_has_meets m a hm ha) (List.Perm.refl _) trivial fun _ _ => ?_
 refine r_not rfl rfl ?_
 refine r_assign rfl rfl ?_
 refine hl_nil ?_
 refine then_n ?_
 refine hc_ret ?_
 exact ret1 () rfl rfl rfl trivial (List.Sublist.refl _) trivial

theorem slices_IndexFunc_ints_meets {A : Option Addr} {cp g : Nat} (l : List Int) (m : Nat) (hm : m < 256) (hl : l.length ≤ 1000000) (hr : ∀ a ∈ l, 0 ≤ a ∧ a < 8) : Meets Try.prog F.slices_IndexFunc_ints [.slice A l.length cp, .func (.func F.trade_list_drop_1) #[] #[.pointer (some ⟨g, 0, none⟩)]] { hpI := [(g, Obj.cells #[u8 m] T.trade_heads (0, 0))], LI := [Row A (rows l)], inv := fun z : Int => (0 ≤ z ↔ (l.all fun a => m.testBit a.toNat) = false), val := fun z => int z, hpO := fun _ => [(g, Obj.cells #[u8 m] T.trade_heads (0, 0))] } := by
 refine meets_intro F.slices_IndexFunc_ints_f rfl (Nat.le_of_ble_eq_true rfl) fun w0 => ?_
 refine hc_seq ?_
 refine hc_region ?_
 refine r_assign rfl rfl ?_
 refine hl_nil ?_
 refine then_n ?_
 refine hc_seq ?_
 refine hc_seq ?_
 refine hc_region ?_
 refine r_move rfl rfl ?_
 refine r_len_sl rfl T.u_ints rfl ?_
 refine r_move rfl rfl ?_
 refine hl_nil ?_
 refine then_n ?_
 refine hc_block ?_
 refine hc_loop (β := Nat) ⟨fun k => k ≤ l.length ∧ ((l.take k).all fun a => m.testBit a.toNat) = true, fun k => [(0, .slice A l.length cp), (1, .func (.func F.trade_list_drop_1) #[] #[.pointer (some ⟨g, 0, none⟩)]), (7, int l.length), (8, int k)], fun _ => [(g, Obj.cells #[u8 m] T.trade_heads (0, 0))], fun _ => [Row A (rows l)]⟩ (fun k => l.length - k) 0 ⟨Nat.zero_le _, rfl⟩ ⟨rfl, rfl, rfl, rfl, trivial⟩ (List.Sublist.refl _) ⟨(by repeat constructor), trivial⟩ fun k hk => ?_
 obtain ⟨hk, ht⟩ := hk
 refine hc_seq ?_
 refine hc_region ?_
 refine r_lss rfl rfl rfl ?_
 refine hl_nil ?_
 refine then_n ?_
 refine hc_seq ?_
 first | refine c_dec rfl (fun hb1 => ?_) (fun hb1 => ?_) | refine hc_cond rfl (fun hb1 => ?_) (fun hb1 => ?_)
 ·have hb1' := hb1; try simp at hb1'
  have hk2 : k < l.length := by omega
  have hak := hr _ (getD_mem hk2)
  obtain ⟨a, ha⟩ := Int.eq_ofNat_of_zero_le hak.1
  refine hc_skip ?_
  refine then_n ?_
  refine hc_seq ?_
  refine hc_block ?_
  refine hc_seq ?_
  refine hc_region ?_
  refine r_move rfl rfl ?_
  refine r_assign rfl rfl ?_
  refine hl_nil ?_
  refine then_n ?_
  refine hc_seq ?_
  refine hc_region ?_
  refine r_move rfl rfl ?_
  refine r_move rfl rfl ?_
  refine r_move rfl rfl ?_
  refine r_elem (α := Int) l k rfl T.u_ints T.sz_int rfl rfl rfl (by repeat constructor) rfl hk2 (by decide) ?_
  refine r_load (v := int (a : Int)) rfl T.cell_int rfl (cell_row (by repeat constructor) (rows_get0 hk2 (by rw [← ha]; rfl))) ?_
  refine hl_callv (vs := [int (a : Int)]) (cap := [.pointer (some ⟨g, 0, none⟩)]) F.trade_list_drop_1_cb rfl rfl rfl (trade_list_drop_1_meets m a hm (by omega)) (List.Perm.refl _) trivial fun _ _ => ?_
  refine hl_nil ?_
  refine then_n ?_
  first | refine c_dec rfl (fun hb2 => ?_) (fun hb2 => ?_) | refine hc_cond rfl (fun hb2 => ?_) (fun hb2 => ?_)
  ·have hb2' := hb2; try simp at hb2'
   have hx : m.testBit a = false := by simpa using hb2
   refine hc_seq ?_
   refine hc_region ?_
   refine r_move rfl rfl ?_
   refine r_assign rfl rfl ?_
   refine hl_nil ?_
   refine then_n ?_
   refine hc_ret ?_
   refine inb_ret ?_
   refine then_ret ?_
   refine then_ret ?_
   refine inb_ret ?_
   refine then_ret ?_
   exact ret1 (k : Int) rfl rfl rfl ⟨fun _ => List.all_eq_false.2 ⟨_, getD_mem hk2, by rw [ha, Int.toNat_natCast, hx]; decide⟩, fun _ => by omega⟩ (List.Sublist.refl _) trivial
  ·have hb2' := hb2; try simp at hb2'
   have hx : m.testBit a = true := by simpa using hb2
   refine hc_skip ?_
   refine inb_n ?_
   refine then_n ?_
   refine hc_region ?_
   refine r_add _ rfl rfl rfl rfl (by unfold I64; omega) ?_
   refine r_move rfl rfl ?_
   refine hl_nil ?_
   exact again _ (k + 1) ⟨by omega, by rw [take_succ_getD l k hk2, List.all_append, ht, Bool.true_and, List.all_cons, ha, Int.toNat_natCast, hx]; rfl⟩ (by show l.length - (k + 1) < l.length - k; omega) ⟨rfl, rfl, rfl, rfl, trivial⟩ (List.Sublist.refl _) ⟨(by repeat constructor), trivial⟩
 ·have hb1' := hb1; try simp at hb1'
  have hk2 : k = l.length := by omega
  subst hk2
  rw [List.take_length] at ht
  refine hc_exit ?_
  refine then_exit ?_
  refine then_exit ?_
  refine inb_hit ?_
  refine then_n ?_
  refine hc_seq ?_
  refine hc_region ?_
  refine r_assign rfl rfl ?_
  refine hl_nil ?_
  refine then_n ?_
  refine hc_ret ?_
  exact ret1 (-1) rfl rfl rfl ⟨fun h => by omega, fun h => by rw [ht] at h; cases h⟩ (List.Sublist.refl _) trivial

theorem slices_ContainsFunc_ints_meets {A : Option Addr} {cp g : Nat} (l : List Int) (m : Nat) (hm : m < 256) (hl : l.length ≤ 1000000) (hr : ∀ a ∈ l, 0 ≤ a ∧ a < 8) : Meets Try.prog F.slices_ContainsFunc_ints [.slice A l.length cp, .func (.func F.trade_list_drop_1) #[] #[.pointer (some ⟨g, 0, none⟩)]] { hpI := [(g, Obj.cells #[u8 m] T.trade_heads (0, 0))], LI := [Row A (rows l)], val := fun _ : Unit => .bool (!(l.all fun a => m.testBit a.toNat)), hpO := fun _ => [(g, Obj.cells #[u8 m] T.trade_heads (0, 0))] } := by
 refine meets_intro F.slices_ContainsFunc_ints_f rfl (Nat.le_of_ble_eq_true rfl) fun w0 => ?_
 refine hc_seq ?_
 refine hc_region ?_
 refine r_assign rfl rfl ?_
 refine hl_nil ?_
 refine then_n ?_
 refine hc_seq ?_
 refine hc_region ?_
 refine r_move rfl rfl ?_
 refine r_move rfl rfl ?_
 refine hl_call F.slices_IndexFunc_ints_cb rfl rfl (slices_IndexFunc_ints_meets l m hm hl hr) (List.Perm.refl _) ⟨(by repeat constructor), trivial⟩ fun z hz => ?_
 refine r_geq rfl rfl rfl ?_
 refine r_assign rfl rfl ?_
 refine hl_nil ?_
 refine then_n ?_
 refine hc_ret ?_
 exact ret1 () rfl (congrArg (fun b => some (Value.bool b)) (all_dec hz)) rfl trivial (List.Sublist.refl _) trivial

theorem slices_Clonex_meets {A : Option Addr} {c : Nat} (l : List Cl) (hl : l.length ≤ 1000000) : Meets Try.prog F.slices_Clonex [.slice A l.length c] { LI := [Row A (rows l)], inv := fun x : OutC × Hp => Grow T.api_Class 2 x.1.1 l.length x.1.2 (rows l) x.2, val := fun x => .slice x.1.1 l.length x.1.2, hpO := fun x => x.2 } := by
 refine meets_intro F.slices_Clonex_f rfl (Nat.le_of_ble_eq_true rfl) fun w0 => ?_
 refine hc_seq ?_
 refine hc_region ?_
 refine r_assign rfl rfl ?_
 refine hl_nil ?_
 refine then_n ?_
 refine hc_seq ?_
 refine hc_seq ?_
 refine hc_region ?_
 refine r_move rfl rfl ?_
 refine r_eqlnil rfl T.u_L_api_Class rfl rfl ?_
 refine hl_nil ?_
 refine then_n ?_
 refine hc_cond rfl (fun hb1 => ?_) (fun hb1 => ?_)
 ·have hb1' := hb1; try simp at hb1'
  have hA : A = none := by cases A with | none => rfl | some a => cases hb1
  subst hA
  refine hc_pure (φ := l = []) (fun w hw => row_none (by decide) (hw.fs (Row none (rows l)) m0)) fun hl0 => ?_
  subst hl0
  refine hc_seq ?_
  refine hc_region ?_
  refine r_assign rfl rfl ?_
  refine hl_nil ?_
  refine then_n ?_
  refine hc_ret ?_
  refine then_ret ?_
  exact ret1 ((none, 0), []) rfl rfl rfl (Grow.nil _ _) (.refl _) trivial
 ·have hb1' := hb1; try simp at hb1'
  refine hc_skip ?_
  refine then_n ?_
  refine hc_seq ?_
  refine hc_region ?_
  refine r_buildSlice _ rfl rfl (fun _ => T.bs_L_api_Class_0 ..) fun gS => ?_
  refine r_move rfl rfl ?_
  refine r_append l.length (rows l) T.el_L_api_Class rfl rfl rfl (Grow.new (cs := #[]) (n := 0) rfl (Nat.zero_le _)) (.refl _) (Src.row m0 (rows_len l) (rows_one l) (by decide)) (by omega) rfl (by unfold maxLen; omega) (by omega) fun A' c' og' hG => ?_
  refine r_assign rfl rfl ?_
  refine hl_nil ?_
  refine then_n ?_
  refine hc_ret ?_
  exact ret1 ((A', c'), og') rfl rfl rfl hG (List.sublist_append_left _ _) trivial

set_option maxHeartbeats 2000000 in
theorem trade_list_drop_meets {A B oa ka : Option Addr} {ca cb oc kc gl : Nat} (cs : List Cl) (hs : List Hd) (i : Nat) (hok : TrOK (trOf cs hs)) (hi : i < hs.length) (hca : cs.length ≤ ca) (ha : ∀ h ∈ hs, h.2.2.2.l.length ≤ 1000000) : Meets Try.prog F.trade_list_drop [.pointer (some ⟨gl, 0, none⟩), int i] { LI := [Row (some ⟨gl, 0, none⟩) [.slice A cs.length ca, .slice B hs.length cb, .slice oa cs.length oc, .slice ka hs.length kc], Row ka (rows (kindsN hs hs.length)), Row A (rows cs), RowsF B hs Hd.row], inv := fun x : OutR => TrIs (dropT (trOf cs hs) i) x, val := fun x => .agg #[.slice x.2.1.1 cs.length x.2.1.2, .slice x.2.2.1 x.1.length x.2.2.2], LO := fun x => [Row x.2.1.1 (rows cs), RowsF x.2.2.1 x.1 Hd.row] } := by
 refine meets_intro F.trade_list_drop_f rfl (Nat.le_of_ble_eq_true rfl) fun w0 => ?_
 refine hc_seq ?_
 refine hc_region ?_
 refine r_alloc rfl (fun _ => T.al_api_Trades _) fun gR => ?_
 refine hl_nil ?_
 refine then_n ?_
 refine hc_seq ?_
 have h6h := hok.h6
 have h6 : cs.length ≤ 6 := hok.c6
 have hln := hs_len cs hs
 rw [hln] at h6h
 have hS := sees_ok hok
 have hH : (hs.map Hd.p).length = hs.length := List.length_map ..
 refine hc_region ?_
 refine r_move rfl rfl ?_
 refine hl_call F.trade_heads_with_cb rfl rfl (trade_heads_with_meets 0 i (by decide) (by omega)) (List.Perm.refl _) trivial fun _ _ => ?_
 refine r_alloc rfl (fun _ => T.al_trade_heads _) fun g5 => ?_
 refine r_store rfl rfl (.refl _) T.sz_trade_heads (by rfl) (by rfl) ?_
 refine hl_nil ?_
 refine then_n ?_
 refine hc_seq ?_
 refine hc_seq ?_
 refine hc_region ?_
 refine r_move rfl rfl ?_
 refine r_nilCheck rfl rfl ?_
 first | refine r_fieldAddr ⟨_, 0, none⟩ rfl rfl T.fa_trade_list_0 rfl ?_ | refine r_fieldAddr _ rfl rfl T.fa_trade_list_0 rfl ?_
 first | refine r_fieldAddr ⟨_, 1, none⟩ rfl rfl T.fa_api_Trades_1 rfl ?_ | refine r_fieldAddr _ rfl rfl T.fa_api_Trades_1 rfl ?_
 first | refine r_load rfl T.cell_L_api_Head rfl (cell_own (by repeat constructor) rfl) ?_ | refine r_load rfl T.cell_L_api_Head rfl (cell_blk (by repeat constructor) rfl) ?_ | refine r_load rfl T.cell_L_api_Head rfl (cell_row (by repeat constructor) (rows_get0 (by omega) rfl)) ?_ | refine r_load rfl T.cell_L_api_Head rfl (cell_row_f (by repeat constructor) (rows_get (by omega) rfl)) ?_ | refine r_load rfl T.cell_L_api_Head rfl (cell_rowg (by repeat constructor) rfl) ?_
 refine r_len_sl rfl T.u_L_api_Head rfl ?_
 refine r_move rfl rfl ?_
 refine hl_nil ?_
 refine then_n ?_
 refine hc_block ?_
 refine hc_loop (β := Nat × Nat) ⟨fun x => x.1 ≤ hs.length ∧ SetIs x.2 (goneR (hs.map Hd.p) (fun j => decide (i = j)) x.1), fun x => [(0, .pointer (some ⟨gl, 0, none⟩)), (4, .pointer (some ⟨gR, 0, none⟩)), (5, .pointer (some ⟨g5, 0, none⟩)), (26, int hs.length), (27, int x.1)], fun x => [(g5, Obj.cells #[u8 x.2] T.trade_heads (0, 0)), (gR, Obj.cells #[.slice none 0 0, .slice none 0 0] T.api_Trades (0, 0))], fun _ => [Row (some ⟨gl, 0, none⟩) [.slice A cs.length ca, .slice B hs.length cb, .slice oa cs.length oc, .slice ka hs.length kc], Row ka (rows (kindsN hs hs.length)), Row A (rows cs), RowsF B hs Hd.row]⟩ (fun x => hs.length - x.1) (0, 0 ||| 2 ^ i) ⟨Nat.zero_le _, SetIs.add (p := fun _ => false) ⟨by decide, fun j => by simp⟩ (by omega) fun j => rfl⟩ ⟨rfl, rfl, rfl, rfl, rfl, trivial⟩ (List.Sublist.refl _) ⟨(by repeat constructor), (by repeat constructor), (by repeat constructor), (by repeat constructor), trivial⟩ fun x hx => ?_
 obtain ⟨r, m⟩ := x
 obtain ⟨hr, hM⟩ := hx
 simp only at hr hM
 refine hc_seq ?_
 refine hc_region ?_
 refine r_lss rfl rfl rfl ?_
 refine hl_nil ?_
 refine then_n ?_
 refine hc_seq ?_
 first | refine c_dec rfl (fun hb1 => ?_) (fun hb1 => ?_) | refine hc_cond rfl (fun hb1 => ?_) (fun hb1 => ?_)
 ·have hb1' := hb1; try simp at hb1'
  have hr2 : r < hs.length := by omega
  refine hc_skip ?_
  refine then_n ?_
  refine hc_seq ?_
  refine hc_block ?_
  refine hc_seq ?_
  refine hc_region ?_
  refine r_move rfl rfl ?_
  refine r_nilCheck rfl rfl ?_
  first | refine r_fieldAddr ⟨_, 3, none⟩ rfl rfl T.fa_trade_list_2 rfl ?_ | refine r_fieldAddr _ rfl rfl T.fa_trade_list_2 rfl ?_
  first | refine r_load rfl T.cell_L_trade_kind rfl (cell_own (by repeat constructor) rfl) ?_ | refine r_load rfl T.cell_L_trade_kind rfl (cell_blk (by repeat constructor) rfl) ?_ | refine r_load rfl T.cell_L_trade_kind rfl (cell_row (by repeat constructor) (rows_get0 (by omega) rfl)) ?_ | refine r_load rfl T.cell_L_trade_kind rfl (cell_row_f (by repeat constructor) (rows_get (by omega) rfl)) ?_ | refine r_load rfl T.cell_L_trade_kind rfl (cell_rowg (by repeat constructor) rfl) ?_
  refine r_len_sl rfl T.u_L_trade_kind rfl ?_
  refine r_move rfl rfl ?_
  refine hl_nil ?_
  refine then_n ?_
  refine hc_block ?_
  refine hc_loop (β := Nat × Nat) ⟨fun x => x.1 ≤ hs.length ∧ SetIs x.2 (goneK (hs.map Hd.p) (goneR (hs.map Hd.p) (fun j => decide (i = j)) r) x.1), fun x => [(0, .pointer (some ⟨gl, 0, none⟩)), (4, .pointer (some ⟨gR, 0, none⟩)), (5, .pointer (some ⟨g5, 0, none⟩)), (26, int hs.length), (27, int r), (32, .slice ka hs.length kc), (33, int hs.length), (34, int x.1)], fun x => [(g5, Obj.cells #[u8 x.2] T.trade_heads (0, 0)), (gR, Obj.cells #[.slice none 0 0, .slice none 0 0] T.api_Trades (0, 0))], fun _ => [Row (some ⟨gl, 0, none⟩) [.slice A cs.length ca, .slice B hs.length cb, .slice oa cs.length oc, .slice ka hs.length kc], Row ka (rows (kindsN hs hs.length)), Row A (rows cs), RowsF B hs Hd.row]⟩ (fun x => hs.length - x.1) (0, m) ⟨Nat.zero_le _, hM⟩ ⟨rfl, rfl, rfl, rfl, rfl, rfl, rfl, rfl, trivial⟩ (List.Sublist.refl _) ⟨(by repeat constructor), (by repeat constructor), (by repeat constructor), (by repeat constructor), trivial⟩ fun x hx => ?_
  clear hM
  obtain ⟨k, m⟩ := x
  obtain ⟨hk, hM⟩ := hx
  simp only at hk hM
  refine hc_seq ?_
  refine hc_region ?_
  refine r_lss rfl rfl rfl ?_
  refine hl_nil ?_
  refine then_n ?_
  refine hc_seq ?_
  first | refine c_dec rfl (fun hb2 => ?_) (fun hb2 => ?_) | refine hc_cond rfl (fun hb2 => ?_) (fun hb2 => ?_)
  ·have hb2' := hb2; try simp at hb2'
   have hk2 : k < hs.length := by omega
   have hSk := hS k hk2
   have hai : ∀ a ∈ (hs.getD k default).2.2.2.l, 0 ≤ a ∧ a < 8 := fun a hm => by
     have h1 := also_in (hok.h k (by rw [hln]; exact hk2)) a (by rw [show (trOf cs hs).hs.getD k default = (hs.getD k default).p from hd_get hk2]; exact hm)
     rw [hln] at h1
     omega
   have hall := all_gone hM (hs.getD k default).2.2.2.l
   have hal := ha _ (getD_mem hk2)
   refine hc_skip ?_
   refine then_n ?_
   refine hc_seq ?_
   refine hc_block ?_
   refine hc_seq ?_
   refine hc_region ?_
   refine r_move rfl rfl ?_
   refine r_elem (α := Kd) (kindsN hs hs.length) k rfl T.u_L_trade_kind T.sz_trade_kind rfl rfl rfl (by repeat constructor) (kinds_len (Nat.le_refl _)).symm (by rw [kinds_len (Nat.le_refl _)]; exact hk2) (by decide) ?_
   refine r_load (v := (kindOf (hs.getD k default)).v) rfl T.cell_trade_kind rfl (cell_row (by repeat constructor) (rows_get0 (by rw [kinds_len (Nat.le_refl _)]; exact hk2) (by rw [kind_get hk2]; rfl))) ?_
   refine r_assign rfl rfl ?_
   refine r_assign rfl rfl ?_
   refine hl_nil ?_
   refine then_n ?_
   refine hc_seq ?_
   refine hc_region ?_
   refine r_move rfl rfl ?_
   refine hl_nil ?_
   refine then_n ?_
   refine hc_block ?_
   refine hc_seq ?_
   refine hc_region ?_
   refine r_asP (kd := (kindOf (hs.getD k default))) rfl rfl rfl ?_
   refine r_extract rfl rfl rfl ?_
   refine r_extract rfl rfl rfl ?_
   refine hl_nil ?_
   refine then_n ?_
   first | refine c_dec rfl (fun hb3 => ?_) (fun hb3 => ?_) | refine hc_cond rfl (fun hb3 => ?_) (fun hb3 => ?_)
   ·have hb3' := hb3; try simp at hb3'
    have hfp := fun g => falls_ptr (g := g) hk2 hb3
    have hse0 : 0 ≤ (kindOf (hs.getD k default)).see ∧ (kindOf (hs.getD k default)).see < (hs.length : Int) := by
      have h1 := hb3
      rw [isP_of, decide_eq_true_eq] at h1
      rw [see_of h1]
      omega
    refine hc_seq ?_
    refine hc_region ?_
    refine r_alloc rfl (fun _ => T.al_trade_pointer _) fun g8 => ?_
    refine r_storeS (cs := #[int (kindOf (hs.getD k default)).see]) rfl rfl (.refl _) T.sz_trade_pointer (by rfl) (by rfl) ?_
    refine hl_nil ?_
    refine then_n ?_
    refine hc_seq ?_
    refine hc_letgoB ?_
    refine hc_region ?_
    first | refine r_load rfl T.cell_trade_heads rfl (cell_own (by repeat constructor) rfl) ?_ | refine r_load rfl T.cell_trade_heads rfl (cell_blk (by repeat constructor) rfl) ?_ | refine r_load rfl T.cell_trade_heads rfl (cell_row (by repeat constructor) (rows_get0 (by omega) rfl)) ?_ | refine r_load rfl T.cell_trade_heads rfl (cell_row_f (by repeat constructor) (rows_get (by omega) rfl)) ?_ | refine r_load rfl T.cell_trade_heads rfl (cell_rowg (by repeat constructor) rfl) ?_
    first | refine r_fieldAddr ⟨_, 0, none⟩ rfl rfl T.fa_trade_pointer_0 rfl ?_ | refine r_fieldAddr _ rfl rfl T.fa_trade_pointer_0 rfl ?_
    first | refine r_load rfl T.cell_int rfl (cell_own (by repeat constructor) rfl) ?_ | refine r_load rfl T.cell_int rfl (cell_blk (by repeat constructor) rfl) ?_ | refine r_load rfl T.cell_int rfl (cell_row (by repeat constructor) (rows_get0 (by omega) rfl)) ?_ | refine r_load rfl T.cell_int rfl (cell_row_f (by repeat constructor) (rows_get (by omega) rfl)) ?_ | refine r_load rfl T.cell_int rfl (cell_rowg (by repeat constructor) rfl) ?_
    refine hl_call (vs := [u8 m, int ((kindOf (hs.getD k default)).see.toNat : Int)]) F.trade_heads_has_cb rfl (by rw [Int.toNat_of_nonneg hse0.1]; rfl) (trade_heads_has_meets m (kindOf (hs.getD k default)).see.toNat hM.1 (by omega)) (List.Perm.refl _) trivial fun _ _ => ?_
    refine hl_nil ?_
    refine then_n ?_
    first | refine c_dec rfl (fun hb4 => ?_) (fun hb4 => ?_) | refine hc_cond rfl (fun hb4 => ?_) (fun hb4 => ?_)
    ·have hb4' := hb4; try simp at hb4'
     have hf : fallsB (hs.map Hd.p) (goneK (hs.map Hd.p) (goneR (hs.map Hd.p) (fun j => decide (i = j)) r) k) k = true := by rw [hfp, ← hM.2]; exact hb4
     refine hc_region ?_
     first | refine r_load rfl T.cell_trade_heads rfl (cell_own (by repeat constructor) rfl) ?_ | refine r_load rfl T.cell_trade_heads rfl (cell_blk (by repeat constructor) rfl) ?_ | refine r_load rfl T.cell_trade_heads rfl (cell_row (by repeat constructor) (rows_get0 (by omega) rfl)) ?_ | refine r_load rfl T.cell_trade_heads rfl (cell_row_f (by repeat constructor) (rows_get (by omega) rfl)) ?_ | refine r_load rfl T.cell_trade_heads rfl (cell_rowg (by repeat constructor) rfl) ?_
     refine r_move rfl rfl ?_
     refine hl_call F.trade_heads_with_cb rfl rfl (trade_heads_with_meets m k hM.1 (by omega)) (List.Perm.refl _) trivial fun _ _ => ?_
     refine r_store rfl rfl (.refl _) T.sz_trade_heads (by rfl) (by rfl) ?_
     refine hl_nil ?_
     refine inb_n ?_
     refine inb_n ?_
     refine then_n ?_
     refine hc_region ?_
     refine r_add _ rfl rfl rfl rfl (by unfold I64; omega) ?_
     refine r_move rfl rfl ?_
     refine hl_nil ?_
     exact again _ (k + 1, m ||| 2 ^ k) ⟨by show k + 1 ≤ hs.length; omega, hM.add (by omega) (gone_t hf)⟩ (by show hs.length - (k + 1) < hs.length - k; omega) ⟨rfl, rfl, rfl, rfl, rfl, rfl, rfl, rfl, trivial⟩ (List.Sublist.refl _) ⟨(by repeat constructor), (by repeat constructor), (by repeat constructor), (by repeat constructor), trivial⟩
    ·have hb4' := hb4; try simp at hb4'
     have hf : fallsB (hs.map Hd.p) (goneK (hs.map Hd.p) (goneR (hs.map Hd.p) (fun j => decide (i = j)) r) k) k = false := by rw [hfp, ← hM.2]; exact hb4
     refine hc_skip ?_
     refine inb_n ?_
     refine inb_n ?_
     refine then_n ?_
     refine hc_region ?_
     refine r_add _ rfl rfl rfl rfl (by unfold I64; omega) ?_
     refine r_move rfl rfl ?_
     refine hl_nil ?_
     exact again _ (k + 1, m) ⟨by show k + 1 ≤ hs.length; omega, hM.same (gone_f hf)⟩ (by show hs.length - (k + 1) < hs.length - k; omega) ⟨rfl, rfl, rfl, rfl, rfl, rfl, rfl, rfl, trivial⟩ (List.Sublist.refl _) ⟨(by repeat constructor), (by repeat constructor), (by repeat constructor), (by repeat constructor), trivial⟩
   ·have hb3' := hb3; try simp at hb3'
    refine hc_seq ?_
    refine hc_region ?_
    refine r_asI (kd := (kindOf (hs.getD k default))) rfl rfl rfl ?_
    refine r_extract rfl rfl rfl ?_
    refine r_extract rfl rfl rfl ?_
    refine hl_nil ?_
    refine then_n ?_
    first | refine c_dec rfl (fun hb5 => ?_) (fun hb5 => ?_) | refine hc_cond rfl (fun hb5 => ?_) (fun hb5 => ?_)
    ·have hb5' := hb5; try simp at hb5'
     have hix := (idx_of hb5).2.2
     refine hc_seq ?_
     refine hc_region ?_
     refine r_alloc rfl (fun _ => T.al_trade_index _) fun g9 => ?_
     refine r_storeS (cs := #[.slice (hs.getD k default).2.2.2.a (hs.getD k default).2.2.2.l.length (hs.getD k default).2.2.2.c]) rfl (congrArg (fun s : Sl Int => some (Value.agg #[.slice s.a s.l.length s.c])) hix) (.refl _) T.sz_trade_index (by rfl) (by rfl) ?_
     refine hl_nil ?_
     refine then_n ?_
     refine hc_seq ?_
     refine hc_letgoB ?_
     refine hc_innerF (p := (hs.getD k default)) (f := Hd.row) (ps := hs) (by repeat constructor) (getD_mem hk2) ?_
     refine hc_region ?_
     first | refine r_fieldAddr ⟨_, 0, none⟩ rfl rfl T.fa_trade_index_0 rfl ?_ | refine r_fieldAddr _ rfl rfl T.fa_trade_index_0 rfl ?_
     first | refine r_load rfl T.cell_ints rfl (cell_own (by repeat constructor) rfl) ?_ | refine r_load rfl T.cell_ints rfl (cell_blk (by repeat constructor) rfl) ?_ | refine r_load rfl T.cell_ints rfl (cell_row (by repeat constructor) (rows_get0 (by omega) rfl)) ?_ | refine r_load rfl T.cell_ints rfl (cell_row_f (by repeat constructor) (rows_get (by omega) rfl)) ?_ | refine r_load rfl T.cell_ints rfl (cell_rowg (by repeat constructor) rfl) ?_
     refine r_makeFunc rfl rfl rfl ?_
     refine hl_call F.slices_ContainsFunc_ints_cb rfl rfl (slices_ContainsFunc_ints_meets (hs.getD k default).2.2.2.l m hM.1 hal hai) (List.Perm.refl _) ⟨(by repeat constructor), trivial⟩ fun _ _ => ?_
     refine r_not rfl rfl ?_
     refine hl_nil ?_
     refine then_n ?_
     first | refine c_dec rfl (fun hb6 => ?_) (fun hb6 => ?_) | refine hc_cond rfl (fun hb6 => ?_) (fun hb6 => ?_)
     ·have hb6' := hb6; try simp at hb6'
      have hf : fallsB (hs.map Hd.p) (goneK (hs.map Hd.p) (goneR (hs.map Hd.p) (fun j => decide (i = j)) r) k) k = true := by rw [falls_idx hk2 hb5, ← hall]; simpa using hb6
      refine hc_region ?_
      first | refine r_load rfl T.cell_trade_heads rfl (cell_own (by repeat constructor) rfl) ?_ | refine r_load rfl T.cell_trade_heads rfl (cell_blk (by repeat constructor) rfl) ?_ | refine r_load rfl T.cell_trade_heads rfl (cell_row (by repeat constructor) (rows_get0 (by omega) rfl)) ?_ | refine r_load rfl T.cell_trade_heads rfl (cell_row_f (by repeat constructor) (rows_get (by omega) rfl)) ?_ | refine r_load rfl T.cell_trade_heads rfl (cell_rowg (by repeat constructor) rfl) ?_
      refine r_move rfl rfl ?_
      refine hl_call F.trade_heads_with_cb rfl rfl (trade_heads_with_meets m k hM.1 (by omega)) (List.Perm.refl _) trivial fun _ _ => ?_
      refine r_store rfl rfl (.refl _) T.sz_trade_heads (by rfl) (by rfl) ?_
      refine hl_nil ?_
      refine inb_n ?_
      refine inb_n ?_
      refine then_n ?_
      refine hc_region ?_
      refine r_add _ rfl rfl rfl rfl (by unfold I64; omega) ?_
      refine r_move rfl rfl ?_
      refine hl_nil ?_
      exact again _ (k + 1, m ||| 2 ^ k) ⟨by show k + 1 ≤ hs.length; omega, hM.add (by omega) (gone_t hf)⟩ (by show hs.length - (k + 1) < hs.length - k; omega) ⟨rfl, rfl, rfl, rfl, rfl, rfl, rfl, rfl, trivial⟩ (List.Sublist.refl _) ⟨(by repeat constructor), (by repeat constructor), (by repeat constructor), (by repeat constructor), trivial⟩
     ·have hb6' := hb6; try simp at hb6'
      have hf : fallsB (hs.map Hd.p) (goneK (hs.map Hd.p) (goneR (hs.map Hd.p) (fun j => decide (i = j)) r) k) k = false := by rw [falls_idx hk2 hb5, ← hall]; simpa using hb6
      refine hc_skip ?_
      refine inb_n ?_
      refine inb_n ?_
      refine then_n ?_
      refine hc_region ?_
      refine r_add _ rfl rfl rfl rfl (by unfold I64; omega) ?_
      refine r_move rfl rfl ?_
      refine hl_nil ?_
      exact again _ (k + 1, m) ⟨by show k + 1 ≤ hs.length; omega, hM.same (gone_f hf)⟩ (by show hs.length - (k + 1) < hs.length - k; omega) ⟨rfl, rfl, rfl, rfl, rfl, rfl, rfl, rfl, trivial⟩ (List.Sublist.refl _) ⟨(by repeat constructor), (by repeat constructor), (by repeat constructor), (by repeat constructor), trivial⟩
    ·have hb5' := hb5; try simp at hb5'
     refine hc_skip ?_
     refine inb_n ?_
     refine inb_n ?_
     refine then_n ?_
     refine hc_region ?_
     refine r_add _ rfl rfl rfl rfl (by unfold I64; omega) ?_
     refine r_move rfl rfl ?_
     refine hl_nil ?_
     exact again _ (k + 1, m) ⟨by show k + 1 ≤ hs.length; omega, hM.same (gone_f (falls_art hk2 hb3 hb5))⟩ (by show hs.length - (k + 1) < hs.length - k; omega) ⟨rfl, rfl, rfl, rfl, rfl, rfl, rfl, rfl, trivial⟩ (List.Sublist.refl _) ⟨(by repeat constructor), (by repeat constructor), (by repeat constructor), (by repeat constructor), trivial⟩
  ·have hb2' := hb2; try simp at hb2'
   obtain rfl : k = hs.length := by omega
   refine hc_exit ?_
   refine then_exit ?_
   refine then_exit ?_
   refine inb_hit ?_
   refine inb_n ?_
   refine then_n ?_
   refine hc_region ?_
   refine r_add _ rfl rfl rfl rfl (by unfold I64; omega) ?_
   refine r_move rfl rfl ?_
   refine hl_nil ?_
   exact again _ (r + 1, m) ⟨by show r + 1 ≤ hs.length; omega, by show SetIs m (goneK (hs.map Hd.p) (goneR (hs.map Hd.p) (fun j => decide (i = j)) r) (hs.map Hd.p).length); rw [hH]; exact hM⟩ (by show hs.length - (r + 1) < hs.length - r; omega) ⟨rfl, rfl, rfl, rfl, rfl, trivial⟩ (List.Sublist.refl _) ⟨(by repeat constructor), (by repeat constructor), (by repeat constructor), (by repeat constructor), trivial⟩
 ·have hb1' := hb1; try simp at hb1'
  obtain rfl : r = hs.length := by omega
  have hM2 : SetIs m (goneB (hs.map Hd.p) i) := by unfold goneB; rw [hH]; exact hM
  refine hc_exit ?_
  refine then_exit ?_
  refine then_exit ?_
  refine inb_hit ?_
  refine then_n ?_
  refine hc_seq ?_
  clear hM
  refine hc_letgoB ?_
  refine hc_region ?_
  refine r_move rfl rfl ?_
  refine r_nilCheck rfl rfl ?_
  first | refine r_fieldAddr ⟨_, 0, none⟩ rfl rfl T.fa_trade_list_0 rfl ?_ | refine r_fieldAddr _ rfl rfl T.fa_trade_list_0 rfl ?_
  first | refine r_fieldAddr ⟨_, 1, none⟩ rfl rfl T.fa_api_Trades_1 rfl ?_ | refine r_fieldAddr _ rfl rfl T.fa_api_Trades_1 rfl ?_
  first | refine r_load rfl T.cell_L_api_Head rfl (cell_own (by repeat constructor) rfl) ?_ | refine r_load rfl T.cell_L_api_Head rfl (cell_blk (by repeat constructor) rfl) ?_ | refine r_load rfl T.cell_L_api_Head rfl (cell_row (by repeat constructor) (rows_get0 (by omega) rfl)) ?_ | refine r_load rfl T.cell_L_api_Head rfl (cell_row_f (by repeat constructor) (rows_get (by omega) rfl)) ?_ | refine r_load rfl T.cell_L_api_Head rfl (cell_rowg (by repeat constructor) rfl) ?_
  refine r_len_sl rfl T.u_L_api_Head rfl ?_
  refine r_make1 (n := hs.length) rfl T.u_ints T.zi_ints rfl rfl rfl rfl (by omega) (by omega) fun g10 => ?_
  rw [← rows_replicate (α := Int) _ 0 _ rfl]
  refine r_assign rfl rfl ?_
  refine hl_nil ?_
  refine then_n ?_
  refine hc_seq ?_
  refine hc_region ?_
  refine r_assign rfl rfl ?_
  refine hl_nil ?_
  refine then_n ?_
  refine hc_seq ?_
  refine hc_seq ?_
  refine hc_region ?_
  refine r_move rfl rfl ?_
  refine r_nilCheck rfl rfl ?_
  first | refine r_fieldAddr ⟨_, 0, none⟩ rfl rfl T.fa_trade_list_0 rfl ?_ | refine r_fieldAddr _ rfl rfl T.fa_trade_list_0 rfl ?_
  first | refine r_fieldAddr ⟨_, 1, none⟩ rfl rfl T.fa_api_Trades_1 rfl ?_ | refine r_fieldAddr _ rfl rfl T.fa_api_Trades_1 rfl ?_
  first | refine r_load rfl T.cell_L_api_Head rfl (cell_own (by repeat constructor) rfl) ?_ | refine r_load rfl T.cell_L_api_Head rfl (cell_blk (by repeat constructor) rfl) ?_ | refine r_load rfl T.cell_L_api_Head rfl (cell_row (by repeat constructor) (rows_get0 (by omega) rfl)) ?_ | refine r_load rfl T.cell_L_api_Head rfl (cell_row_f (by repeat constructor) (rows_get (by omega) rfl)) ?_ | refine r_load rfl T.cell_L_api_Head rfl (cell_rowg (by repeat constructor) rfl) ?_
  refine r_len_sl rfl T.u_L_api_Head rfl ?_
  refine r_move rfl rfl ?_
  refine hl_nil ?_
  refine then_n ?_
  refine hc_block ?_
  refine hc_loop (β := Nat) ⟨fun k => k ≤ hs.length, fun k => [(0, .pointer (some ⟨gl, 0, none⟩)), (4, .pointer (some ⟨gR, 0, none⟩)), (5, .pointer (some ⟨g5, 0, none⟩)), (10, .slice (some ⟨g10, 0, none⟩) hs.length hs.length), (11, int (numN (goneB (hs.map Hd.p) i) k)), (75, int hs.length), (76, int k)], fun k => [(g10, Obj.cells (rows (numL (goneB (hs.map Hd.p) i) k hs.length)).toArray T.int (0, 0)), (gR, Obj.cells #[.slice none 0 0, .slice none 0 0] T.api_Trades (0, 0))], fun _ => Blk g5 (.cells #[u8 m] T.trade_heads (0, 0)) :: [Row (some ⟨gl, 0, none⟩) [.slice A cs.length ca, .slice B hs.length cb, .slice oa cs.length oc, .slice ka hs.length kc], Row ka (rows (kindsN hs hs.length)), Row A (rows cs), RowsF B hs Hd.row]⟩ (fun k => hs.length - k) 0 (Nat.zero_le _) ⟨rfl, rfl, rfl, rfl, rfl, rfl, rfl, trivial⟩ (by show List.Sublist [(g10, Obj.cells (rows (numL (goneB (hs.map Hd.p) i) 0 hs.length)).toArray T.int (0, 0)), (gR, Obj.cells #[.slice none 0 0, .slice none 0 0] T.api_Trades (0, 0))] _; rw [numL_zero]; exact List.Sublist.refl _) ⟨(by repeat constructor), (by repeat constructor), (by repeat constructor), (by repeat constructor), (by repeat constructor), trivial⟩ fun k hk => ?_
  refine hc_seq ?_
  refine hc_region ?_
  refine r_lss rfl rfl rfl ?_
  refine hl_nil ?_
  refine then_n ?_
  refine hc_seq ?_
  first | refine c_dec rfl (fun hb7 => ?_) (fun hb7 => ?_) | refine hc_cond rfl (fun hb7 => ?_) (fun hb7 => ?_)
  ·have hb7' := hb7; try simp at hb7'
   have hk2 : k < hs.length := by omega
   have hnl := num_le (goneB (hs.map Hd.p) i) k
   have hns := num_succ (goneB (hs.map Hd.p) i) k
   refine hc_skip ?_
   refine then_n ?_
   refine hc_seq ?_
   refine hc_block ?_
   refine hc_seq ?_
   refine hc_region ?_
   refine r_move rfl rfl ?_
   refine r_assign rfl rfl ?_
   refine hl_nil ?_
   refine then_n ?_
   refine hc_seq ?_
   refine hc_region ?_
   refine r_move rfl rfl ?_
   refine r_move rfl rfl ?_
   refine r_move rfl rfl ?_
   refine r_indexAddr_own k (0 + k * 1) rfl T.u_ints T.sz_int rfl rfl rfl hk2 rfl ?_
   refine r_store rfl rfl (.refl _) T.sz_int (own_el rfl (arr_take (numL (goneB (hs.map Hd.p) i) k hs.length)) (by rw [numL_len]; exact hk2) (by omega) rfl) (by rfl) ?_
   rw [arr_set, numL_set hk2]
   refine hl_nil ?_
   refine then_n ?_
   refine hc_seq ?_
   refine hc_region ?_
   first | refine r_load rfl T.cell_trade_heads rfl (cell_own (by repeat constructor) rfl) ?_ | refine r_load rfl T.cell_trade_heads rfl (cell_blk (by repeat constructor) rfl) ?_ | refine r_load rfl T.cell_trade_heads rfl (cell_row (by repeat constructor) (rows_get0 (by omega) rfl)) ?_ | refine r_load rfl T.cell_trade_heads rfl (cell_row_f (by repeat constructor) (rows_get (by omega) rfl)) ?_ | refine r_load rfl T.cell_trade_heads rfl (cell_rowg (by repeat constructor) rfl) ?_
   refine r_move rfl rfl ?_
   refine hl_call F.trade_heads_has_cb rfl rfl (trade_heads_has_meets m k hM2.1 (by omega)) (List.Perm.refl _) trivial fun _ _ => ?_
   refine r_not rfl rfl ?_
   refine hl_nil ?_
   refine then_n ?_
   first | refine c_dec rfl (fun hb8 => ?_) (fun hb8 => ?_) | refine hc_cond rfl (fun hb8 => ?_) (fun hb8 => ?_)
   ·have hb8' := hb8; try simp at hb8'
    have hg : (goneB (hs.map Hd.p) i) k = false := by rw [← hM2.2]; simpa using hb8
    rw [if_neg (by rw [hg]; decide)] at hns
    refine hc_region ?_
    refine r_move rfl rfl ?_
    refine r_add _ rfl rfl rfl rfl (by unfold I64; omega) ?_
    refine r_assign rfl rfl ?_
    refine hl_nil ?_
    refine inb_n ?_
    refine then_n ?_
    refine hc_region ?_
    refine r_add _ rfl rfl rfl rfl (by unfold I64; omega) ?_
    refine r_move rfl rfl ?_
    refine hl_nil ?_
    exact again _ (k + 1) (by show k + 1 ≤ hs.length; omega) (by show hs.length - (k + 1) < hs.length - k; omega) ⟨rfl, rfl, rfl, rfl, congrArg (fun z : Int => some (int z)) (by show ((numN (goneB (hs.map Hd.p) i) k) : Int) + 1 = ((numN (goneB (hs.map Hd.p) i) (k + 1)) : Int); omega), rfl, rfl, trivial⟩ (List.Sublist.refl _) ⟨(by repeat constructor), (by repeat constructor), (by repeat constructor), (by repeat constructor), (by repeat constructor), trivial⟩
   ·have hb8' := hb8; try simp at hb8'
    have hg : (goneB (hs.map Hd.p) i) k = true := by rw [← hM2.2]; simpa using hb8
    rw [if_pos hg] at hns
    refine hc_skip ?_
    refine inb_n ?_
    refine then_n ?_
    refine hc_region ?_
    refine r_add _ rfl rfl rfl rfl (by unfold I64; omega) ?_
    refine r_move rfl rfl ?_
    refine hl_nil ?_
    exact again _ (k + 1) (by show k + 1 ≤ hs.length; omega) (by show hs.length - (k + 1) < hs.length - k; omega) ⟨rfl, rfl, rfl, rfl, congrArg (fun z : Int => some (int z)) (by show ((numN (goneB (hs.map Hd.p) i) k) : Int) = ((numN (goneB (hs.map Hd.p) i) (k + 1)) : Int); omega), rfl, rfl, trivial⟩ (List.Sublist.refl _) ⟨(by repeat constructor), (by repeat constructor), (by repeat constructor), (by repeat constructor), (by repeat constructor), trivial⟩
  ·have hb7' := hb7; try simp at hb7'
   obtain rfl : k = hs.length := by omega
   refine hc_exit ?_
   refine then_exit ?_
   refine then_exit ?_
   refine inb_hit ?_
   refine then_n ?_
   refine hc_seq ?_
   refine hc_letgo (rows (numL (goneB (hs.map Hd.p) i) hs.length hs.length)) ⟨[], List.append_nil _⟩ ?_
   refine hc_region ?_
   refine r_move rfl rfl ?_
   refine r_nilCheck rfl rfl ?_
   first | refine r_fieldAddr ⟨_, 0, none⟩ rfl rfl T.fa_trade_list_0 rfl ?_ | refine r_fieldAddr _ rfl rfl T.fa_trade_list_0 rfl ?_
   first | refine r_fieldAddr ⟨_, 0, none⟩ rfl rfl T.fa_api_Trades_0 rfl ?_ | refine r_fieldAddr _ rfl rfl T.fa_api_Trades_0 rfl ?_
   first | refine r_load rfl T.cell_L_api_Class rfl (cell_own (by repeat constructor) rfl) ?_ | refine r_load rfl T.cell_L_api_Class rfl (cell_blk (by repeat constructor) rfl) ?_ | refine r_load rfl T.cell_L_api_Class rfl (cell_row (by repeat constructor) (rows_get0 (by omega) rfl)) ?_ | refine r_load rfl T.cell_L_api_Class rfl (cell_row_f (by repeat constructor) (rows_get (by omega) rfl)) ?_ | refine r_load rfl T.cell_L_api_Class rfl (cell_rowg (by repeat constructor) rfl) ?_
   refine hl_call F.slices_Clonex_cb rfl rfl (slices_Clonex_meets cs (by omega)) (List.Perm.refl _) ⟨(by repeat constructor), trivial⟩ fun y hy => ?_
   obtain ⟨⟨xa, xc⟩, xo⟩ := y
   have hGc : Grow T.api_Class 2 xa cs.length xc (rows cs) xo := hy
   have hxc := hGc.le
   refine hl_grown hGc ?_
   clear hy hGc
   refine r_build _ rfl rfl (fun _ => T.bd_api_Trades_0 ..) ?_
   refine r_alloc rfl (fun _ => T.al_api_Trades _) fun g13 => ?_
   refine r_storeS (cs := #[.slice xa cs.length xc, .slice none 0 0]) rfl rfl (.refl _) T.sz_api_Trades (by rfl) (by rfl) ?_
   refine hl_nil ?_
   refine then_n ?_
   refine hc_seq ?_
   refine hc_seq ?_
   refine hc_region ?_
   refine r_move rfl rfl ?_
   refine r_nilCheck rfl rfl ?_
   first | refine r_fieldAddr ⟨_, 0, none⟩ rfl rfl T.fa_trade_list_0 rfl ?_ | refine r_fieldAddr _ rfl rfl T.fa_trade_list_0 rfl ?_
   first | refine r_fieldAddr ⟨_, 1, none⟩ rfl rfl T.fa_api_Trades_1 rfl ?_ | refine r_fieldAddr _ rfl rfl T.fa_api_Trades_1 rfl ?_
   first | refine r_load rfl T.cell_L_api_Head rfl (cell_own (by repeat constructor) rfl) ?_ | refine r_load rfl T.cell_L_api_Head rfl (cell_blk (by repeat constructor) rfl) ?_ | refine r_load rfl T.cell_L_api_Head rfl (cell_row (by repeat constructor) (rows_get0 (by omega) rfl)) ?_ | refine r_load rfl T.cell_L_api_Head rfl (cell_row_f (by repeat constructor) (rows_get (by omega) rfl)) ?_ | refine r_load rfl T.cell_L_api_Head rfl (cell_rowg (by repeat constructor) rfl) ?_
   refine r_len_sl rfl T.u_L_api_Head rfl ?_
   refine r_move rfl rfl ?_
   refine hl_nil ?_
   refine then_n ?_
   refine hc_block ?_
   refine hc_outerF (ps := hs) (A := B) (f := Hd.row) (by repeat constructor) ?_
   refine hc_facts (Fs := ([] : List Hd).map Hd.row) (by intro F hF; simp at hF) ?_
   refine hc_loop (β := Nat × List Hd × OutC × Hp) ⟨fun x => x.1 ≤ hs.length ∧ x.2.1.map Hd.p = dropHs (hs.map Hd.p) (goneB (hs.map Hd.p) i) x.1 ∧ Grow T.api_Head 4 x.2.2.1.1 x.2.1.length x.2.2.1.2 (rows x.2.1) x.2.2.2, fun x => [(4, .pointer (some ⟨gR, 0, none⟩)), (5, .pointer (some ⟨g5, 0, none⟩)), (10, .slice (some ⟨g10, 0, none⟩) hs.length hs.length), (13, .pointer (some ⟨g13, 0, none⟩)), (101, .slice B hs.length cb), (102, int hs.length), (103, int x.1)], fun x => (g13, Obj.cells #[.slice xa cs.length xc, .slice x.2.2.1.1 x.2.1.length x.2.2.1.2] T.api_Trades (0, 0)) :: (gR, Obj.cells #[.slice none 0 0, .slice none 0 0] T.api_Trades (0, 0)) :: x.2.2.2, fun x => [Blk g5 (.cells #[u8 m] T.trade_heads (0, 0)), Row (some ⟨g10, 0, none⟩) (rows (numL (goneB (hs.map Hd.p) i) hs.length hs.length)), Row xa (rows cs), Row B (rows hs), RowsF B hs Hd.row, innersF x.2.1 Hd.row]⟩ (fun x => hs.length - x.1) (0, [], (none, 0), []) ⟨Nat.zero_le _, rfl, Grow.nil _ _⟩ ⟨rfl, rfl, rfl, rfl, rfl, rfl, rfl, trivial⟩ (List.Sublist.refl _) ⟨(by repeat constructor), (by repeat constructor), (by repeat constructor), (by repeat constructor), (by repeat constructor), (by repeat constructor), trivial⟩ fun x hx => ?_
   obtain ⟨k, ys, ⟨yA, yC⟩, og⟩ := x
   obtain ⟨hk, hy, hG⟩ := hx
   simp only at hk hy hG
   have hyl : ys.length = (numN (goneB (hs.map Hd.p) i) k) := by have h1 := congrArg List.length hy; rw [List.length_map, dropHs_len] at h1; exact h1
   have hnl := num_le (goneB (hs.map Hd.p) i) k
   refine hc_seq ?_
   refine hc_region ?_
   refine r_lss rfl rfl rfl ?_
   refine hl_nil ?_
   refine then_n ?_
   refine hc_seq ?_
   first | refine c_dec rfl (fun hb9 => ?_) (fun hb9 => ?_) | refine hc_cond rfl (fun hb9 => ?_) (fun hb9 => ?_)
   ·have hb9' := hb9; try simp at hb9'
    have hk2 : k < hs.length := by omega
    have hSk := hS k hk2
    have hds := dropHs_succ (hs.map Hd.p) (goneB (hs.map Hd.p) i) k
    rw [hd_get hk2] at hds
    have hai : ∀ a ∈ (hs.getD k default).2.2.2.l, 0 ≤ a ∧ a < (hs.length : Int) := fun a hm => by
      have h1 := also_in (hok.h k (by rw [hln]; exact hk2)) a (by rw [show (trOf cs hs).hs.getD k default = (hs.getD k default).p from hd_get hk2]; exact hm)
      rw [hln] at h1
      exact ⟨h1.1, h1.2.1⟩
    have hal := ha _ (getD_mem hk2)
    refine hc_skip ?_
    refine then_n ?_
    refine hc_seq ?_
    refine hc_block ?_
    refine hc_seq ?_
    refine hc_region ?_
    refine r_move rfl rfl ?_
    refine r_elem (α := Hd) hs k rfl T.u_L_api_Head T.sz_api_Head rfl rfl rfl (by repeat constructor) rfl hk2 (by decide) ?_
    refine r_loadS rfl T.row_api_Head T.sz_api_Head rfl rfl (cells_row (by repeat constructor) (rows_all (by omega))) ?_
    refine r_alloc rfl (fun _ => T.al_api_Head _) fun gA => ?_
    refine r_assign rfl rfl ?_
    refine r_storeS rfl rfl (by first | exact .refl _ | exact perm2 _ _ _ | exact perm3 _ _ _ _ | exact perm4 _ _ _ _ _) T.sz_api_Head (by rfl) (by rfl) ?_
    refine hl_nil ?_
    refine then_n ?_
    refine hc_seq ?_
    refine hc_seq ?_
    refine hc_letgo (rows [(hs.getD k default)]) ⟨[], List.append_nil _⟩ ?_
    refine hc_region ?_
    first | refine r_load rfl T.cell_trade_heads rfl (cell_own (by repeat constructor) rfl) ?_ | refine r_load rfl T.cell_trade_heads rfl (cell_blk (by repeat constructor) rfl) ?_ | refine r_load rfl T.cell_trade_heads rfl (cell_row (by repeat constructor) (rows_get0 (by omega) rfl)) ?_ | refine r_load rfl T.cell_trade_heads rfl (cell_row_f (by repeat constructor) (rows_get (by omega) rfl)) ?_ | refine r_load rfl T.cell_trade_heads rfl (cell_rowg (by repeat constructor) rfl) ?_
    refine r_move rfl rfl ?_
    refine hl_call F.trade_heads_has_cb rfl rfl (trade_heads_has_meets m k hM2.1 (by omega)) (List.Perm.refl _) trivial fun _ _ => ?_
    refine hl_nil ?_
    refine then_n ?_
    first | refine c_dec rfl (fun hb10 => ?_) (fun hb10 => ?_) | refine hc_cond rfl (fun hb10 => ?_) (fun hb10 => ?_)
    ·have hb10' := hb10; try simp at hb10'
     have hg : (goneB (hs.map Hd.p) i) k = true := by rw [← hM2.2]; exact hb10
     rw [if_pos hg] at hds
     refine hc_exit ?_
     refine then_exit ?_
     refine inb_hit ?_
     refine then_n ?_
     refine hc_region ?_
     refine r_add _ rfl rfl rfl rfl (by unfold I64; omega) ?_
     refine r_move rfl rfl ?_
     refine hl_nil ?_
     exact again _ (k + 1, ys, (yA, yC), og) ⟨by show k + 1 ≤ hs.length; omega, by show ys.map Hd.p = _; rw [hds]; exact hy, hG⟩ (by show hs.length - (k + 1) < hs.length - k; omega) ⟨rfl, rfl, rfl, rfl, rfl, rfl, rfl, trivial⟩ (List.Sublist.refl _) ⟨(by repeat constructor), (by repeat constructor), (by repeat constructor), (by repeat constructor), (by repeat constructor), (by repeat constructor), trivial⟩
    ·have hb10' := hb10; try simp at hb10'
     have hg : (goneB (hs.map Hd.p) i) k = false := by rw [← hM2.2]; exact hb10
     rw [if_neg (by rw [hg]; decide)] at hds
     refine hc_skip ?_
     refine then_n ?_
     refine hc_seq ?_
     refine hc_region ?_
     first | refine r_fieldAddr ⟨_, 0, none⟩ rfl rfl T.fa_api_Head_0 rfl ?_ | refine r_fieldAddr _ rfl rfl T.fa_api_Head_0 rfl ?_
     first | refine r_load rfl T.cell_string rfl (cell_own (by repeat constructor) rfl) ?_ | refine r_load rfl T.cell_string rfl (cell_blk (by repeat constructor) rfl) ?_ | refine r_load rfl T.cell_string rfl (cell_row (by repeat constructor) (rows_get0 (by omega) rfl)) ?_ | refine r_load rfl T.cell_string rfl (cell_row_f (by repeat constructor) (rows_get (by omega) rfl)) ?_ | refine r_load rfl T.cell_string rfl (cell_rowg (by repeat constructor) rfl) ?_
     first | refine r_fieldAddr ⟨_, 1, none⟩ rfl rfl T.fa_api_Head_1 rfl ?_ | refine r_fieldAddr _ rfl rfl T.fa_api_Head_1 rfl ?_
     first | refine r_load rfl T.cell_int rfl (cell_own (by repeat constructor) rfl) ?_ | refine r_load rfl T.cell_int rfl (cell_blk (by repeat constructor) rfl) ?_ | refine r_load rfl T.cell_int rfl (cell_row (by repeat constructor) (rows_get0 (by omega) rfl)) ?_ | refine r_load rfl T.cell_int rfl (cell_row_f (by repeat constructor) (rows_get (by omega) rfl)) ?_ | refine r_load rfl T.cell_int rfl (cell_rowg (by repeat constructor) rfl) ?_
     first | refine r_fieldAddr ⟨_, 2, none⟩ rfl rfl T.fa_api_Head_2 rfl ?_ | refine r_fieldAddr _ rfl rfl T.fa_api_Head_2 rfl ?_
     first | refine r_load rfl T.cell_int rfl (cell_own (by repeat constructor) rfl) ?_ | refine r_load rfl T.cell_int rfl (cell_blk (by repeat constructor) rfl) ?_ | refine r_load rfl T.cell_int rfl (cell_row (by repeat constructor) (rows_get0 (by omega) rfl)) ?_ | refine r_load rfl T.cell_int rfl (cell_row_f (by repeat constructor) (rows_get (by omega) rfl)) ?_ | refine r_load rfl T.cell_int rfl (cell_rowg (by repeat constructor) rfl) ?_
     refine r_build _ rfl rfl (fun _ => T.bd_api_Head_0_1_2 ..) ?_
     refine r_alloc rfl (fun _ => T.al_api_Head _) fun g16 => ?_
     refine r_storeS (cs := #[str (hs.getD k default).1, int (hs.getD k default).2.1, int (hs.getD k default).2.2.1, .slice none 0 0]) rfl rfl (.refl _) T.sz_api_Head (by rfl) (by rfl) ?_
     refine hl_nil ?_
     refine then_n ?_
     refine hc_cut ⟨fun z : Int => z = (if 0 ≤ (hs.getD k default).2.2.1 then ((numN (goneB (hs.map Hd.p) i) (hs.getD k default).2.2.1.toNat) : Int) else (hs.getD k default).2.2.1), fun _ => [(4, .pointer (some ⟨gR, 0, none⟩)), (5, .pointer (some ⟨g5, 0, none⟩)), (10, .slice (some ⟨g10, 0, none⟩) hs.length hs.length), (13, .pointer (some ⟨g13, 0, none⟩)), (101, .slice B hs.length cb), (102, int hs.length), (103, int k), (15, .pointer (some ⟨gA, 0, none⟩)), (16, .pointer (some ⟨g16, 0, none⟩))], fun z => (g16, Obj.cells #[str (hs.getD k default).1, int (hs.getD k default).2.1, int z, .slice none 0 0] T.api_Head (0, 0)) :: (g13, Obj.cells #[.slice xa cs.length xc, .slice yA ys.length yC] T.api_Trades (0, 0)) :: (gR, Obj.cells #[.slice none 0 0, .slice none 0 0] T.api_Trades (0, 0)) :: og, fun _ => [Row (some ⟨gA, 0, none⟩) (rows [(hs.getD k default)]), Blk g5 (.cells #[u8 m] T.trade_heads (0, 0)), Row (some ⟨g10, 0, none⟩) (rows (numL (goneB (hs.map Hd.p) i) hs.length hs.length)), Row xa (rows cs), Row B (rows hs), RowsF B hs Hd.row, innersF ys Hd.row]⟩ ?_ ?_
     ·skip
      refine hc_seq ?_
      refine hc_region ?_
      first | refine r_fieldAddr ⟨_, 2, none⟩ rfl rfl T.fa_api_Head_2 rfl ?_ | refine r_fieldAddr _ rfl rfl T.fa_api_Head_2 rfl ?_
      first | refine r_load rfl T.cell_int rfl (cell_own (by repeat constructor) rfl) ?_ | refine r_load rfl T.cell_int rfl (cell_blk (by repeat constructor) rfl) ?_ | refine r_load rfl T.cell_int rfl (cell_row (by repeat constructor) (rows_get0 (by omega) rfl)) ?_ | refine r_load rfl T.cell_int rfl (cell_row_f (by repeat constructor) (rows_get (by omega) rfl)) ?_ | refine r_load rfl T.cell_int rfl (cell_rowg (by repeat constructor) rfl) ?_
      refine r_geq rfl rfl rfl ?_
      refine hl_nil ?_
      refine then_n ?_
      first | refine c_dec rfl (fun hb11 => ?_) (fun hb11 => ?_) | refine hc_cond rfl (fun hb11 => ?_) (fun hb11 => ?_)
      ·have hb11' := hb11; try simp at hb11'
       refine hc_region ?_
       refine r_move rfl rfl ?_
       first | refine r_fieldAddr ⟨_, 2, none⟩ rfl rfl T.fa_api_Head_2 rfl ?_ | refine r_fieldAddr _ rfl rfl T.fa_api_Head_2 rfl ?_
       first | refine r_load rfl T.cell_int rfl (cell_own (by repeat constructor) rfl) ?_ | refine r_load rfl T.cell_int rfl (cell_blk (by repeat constructor) rfl) ?_ | refine r_load rfl T.cell_int rfl (cell_row (by repeat constructor) (rows_get0 (by omega) rfl)) ?_ | refine r_load rfl T.cell_int rfl (cell_row_f (by repeat constructor) (rows_get (by omega) rfl)) ?_ | refine r_load rfl T.cell_int rfl (cell_rowg (by repeat constructor) rfl) ?_
       refine r_elem (α := Int) (numL (goneB (hs.map Hd.p) i) hs.length hs.length) (hs.getD k default).2.2.1.toNat rfl T.u_ints T.sz_int rfl rfl (Int.toNat_of_nonneg hb11).symm (by repeat constructor) (numL_len _ _ _).symm (by rw [numL_len]; omega) (by decide) ?_
       refine r_load (v := int ((numN (goneB (hs.map Hd.p) i) (hs.getD k default).2.2.1.toNat) : Int)) rfl T.cell_int rfl (cell_row (by repeat constructor) (rows_get0 (by rw [numL_len]; omega) (by rw [numL_at (by omega)]; rfl))) ?_
       first | refine r_fieldAddr ⟨_, 2, none⟩ rfl rfl T.fa_api_Head_2 rfl ?_ | refine r_fieldAddr _ rfl rfl T.fa_api_Head_2 rfl ?_
       refine r_store rfl rfl (.refl _) T.sz_int (by rfl) (by rfl) ?_
       refine hl_nil ?_
       exact cut_n _ ((numN (goneB (hs.map Hd.p) i) (hs.getD k default).2.2.1.toNat) : Int) (by show _ = _; rw [if_pos hb11]) ⟨rfl, rfl, rfl, rfl, rfl, rfl, rfl, rfl, rfl, trivial⟩ (List.Sublist.refl _) ⟨(by repeat constructor), (by repeat constructor), (by repeat constructor), (by repeat constructor), (by repeat constructor), (by repeat constructor), (by repeat constructor), trivial⟩
      ·have hb11' := hb11; try simp at hb11'
       refine hc_skip ?_
       exact cut_n _ (hs.getD k default).2.2.1 (by show _ = _; rw [if_neg hb11]) ⟨rfl, rfl, rfl, rfl, rfl, rfl, rfl, rfl, rfl, trivial⟩ (List.Sublist.refl _) ⟨(by repeat constructor), (by repeat constructor), (by repeat constructor), (by repeat constructor), (by repeat constructor), (by repeat constructor), (by repeat constructor), trivial⟩
     ·intro z hz
      have hz : z = _ := hz
      refine hc_seq ?_
      refine hc_seq ?_
      refine hc_region ?_
      first | refine r_fieldAddr ⟨_, 3, none⟩ rfl rfl T.fa_api_Head_3 rfl ?_ | refine r_fieldAddr _ rfl rfl T.fa_api_Head_3 rfl ?_
      first | refine r_load rfl T.cell_ints rfl (cell_own (by repeat constructor) rfl) ?_ | refine r_load rfl T.cell_ints rfl (cell_blk (by repeat constructor) rfl) ?_ | refine r_load rfl T.cell_ints rfl (cell_row (by repeat constructor) (rows_get0 (by omega) rfl)) ?_ | refine r_load rfl T.cell_ints rfl (cell_row_f (by repeat constructor) (rows_get (by omega) rfl)) ?_ | refine r_load rfl T.cell_ints rfl (cell_rowg (by repeat constructor) rfl) ?_
      refine r_len_sl rfl T.u_ints rfl ?_
      refine r_move rfl rfl ?_
      refine hl_nil ?_
      refine then_n ?_
      refine hc_block ?_
      refine hc_innerF (p := (hs.getD k default)) (f := Hd.row) (ps := hs) (by repeat constructor) (getD_mem hk2) ?_
      refine hc_loop (β := Nat × OutC × Hp) ⟨fun x => x.1 ≤ (hs.getD k default).2.2.2.l.length ∧ Grow T.int 1 x.2.1.1 (dropA (goneB (hs.map Hd.p) i) ((hs.getD k default).2.2.2.l.take x.1)).length x.2.1.2 (rows (dropA (goneB (hs.map Hd.p) i) ((hs.getD k default).2.2.2.l.take x.1))) x.2.2, fun x => [(4, .pointer (some ⟨gR, 0, none⟩)), (5, .pointer (some ⟨g5, 0, none⟩)), (10, .slice (some ⟨g10, 0, none⟩) hs.length hs.length), (13, .pointer (some ⟨g13, 0, none⟩)), (101, .slice B hs.length cb), (102, int hs.length), (103, int k), (16, .pointer (some ⟨g16, 0, none⟩)), (128, .slice (hs.getD k default).2.2.2.a (hs.getD k default).2.2.2.l.length (hs.getD k default).2.2.2.c), (129, int (hs.getD k default).2.2.2.l.length), (130, int x.1)], fun x => (g16, Obj.cells #[str (hs.getD k default).1, int (hs.getD k default).2.1, int z, .slice x.2.1.1 (dropA (goneB (hs.map Hd.p) i) ((hs.getD k default).2.2.2.l.take x.1)).length x.2.1.2] T.api_Head (0, 0)) :: (g13, Obj.cells #[.slice xa cs.length xc, .slice yA ys.length yC] T.api_Trades (0, 0)) :: (gR, Obj.cells #[.slice none 0 0, .slice none 0 0] T.api_Trades (0, 0)) :: (x.2.2 ++ og), fun _ => [Hd.row (hs.getD k default), Blk g5 (.cells #[u8 m] T.trade_heads (0, 0)), Row (some ⟨g10, 0, none⟩) (rows (numL (goneB (hs.map Hd.p) i) hs.length hs.length)), Row xa (rows cs), Row B (rows hs), RowsF B hs Hd.row, innersF ys Hd.row]⟩ (fun x => (hs.getD k default).2.2.2.l.length - x.1) (0, (none, 0), []) ⟨Nat.zero_le _, Grow.nil _ _⟩ ⟨rfl, rfl, rfl, rfl, rfl, rfl, rfl, rfl, rfl, rfl, rfl, trivial⟩ (List.Sublist.refl _) ⟨(by repeat constructor), (by repeat constructor), (by repeat constructor), (by repeat constructor), (by repeat constructor), (by repeat constructor), (by repeat constructor), trivial⟩ fun x hx => ?_
      obtain ⟨j, ⟨dA, dC⟩, og2⟩ := x
      obtain ⟨hj, hG5⟩ := hx
      simp only at hj hG5
      have hdl := dropA_len (goneB (hs.map Hd.p) i) ((hs.getD k default).2.2.2.l.take j)
      rw [List.length_take] at hdl
      refine hc_seq ?_
      refine hc_region ?_
      refine r_lss rfl rfl rfl ?_
      refine hl_nil ?_
      refine then_n ?_
      refine hc_seq ?_
      first | refine c_dec rfl (fun hb12 => ?_) (fun hb12 => ?_) | refine hc_cond rfl (fun hb12 => ?_) (fun hb12 => ?_)
      ·have hb12' := hb12; try simp at hb12'
       have hj2 : j < (hs.getD k default).2.2.2.l.length := by omega
       have haj := hai _ (getD_mem hj2)
       have hda := dropA_succ (goneB (hs.map Hd.p) i) (hs.getD k default).2.2.2.l hj2
       obtain ⟨e, he⟩ := Int.eq_ofNat_of_zero_le haj.1
       rw [he, Int.toNat_natCast] at hda
       refine hc_skip ?_
       refine then_n ?_
       refine hc_seq ?_
       refine hc_block ?_
       refine hc_seq ?_
       refine hc_region ?_
       refine r_elem (α := Int) (hs.getD k default).2.2.2.l j rfl T.u_ints T.sz_int rfl rfl rfl (by repeat constructor) rfl hj2 (by decide) ?_
       refine r_load (v := int (e : Int)) rfl T.cell_int rfl (cell_row (by repeat constructor) (rows_get0 hj2 (by rw [← he]; rfl))) ?_
       refine r_assign rfl rfl ?_
       refine hl_nil ?_
       refine then_n ?_
       refine hc_seq ?_
       refine hc_region ?_
       first | refine r_load rfl T.cell_trade_heads rfl (cell_own (by repeat constructor) rfl) ?_ | refine r_load rfl T.cell_trade_heads rfl (cell_blk (by repeat constructor) rfl) ?_ | refine r_load rfl T.cell_trade_heads rfl (cell_row (by repeat constructor) (rows_get0 (by omega) rfl)) ?_ | refine r_load rfl T.cell_trade_heads rfl (cell_row_f (by repeat constructor) (rows_get (by omega) rfl)) ?_ | refine r_load rfl T.cell_trade_heads rfl (cell_rowg (by repeat constructor) rfl) ?_
       refine r_move rfl rfl ?_
       refine hl_call F.trade_heads_has_cb rfl rfl (trade_heads_has_meets m e hM2.1 (by omega)) (List.Perm.refl _) trivial fun _ _ => ?_
       refine r_not rfl rfl ?_
       refine hl_nil ?_
       refine then_n ?_
       first | refine c_dec rfl (fun hb13 => ?_) (fun hb13 => ?_) | refine hc_cond rfl (fun hb13 => ?_) (fun hb13 => ?_)
       ·have hb13' := hb13; try simp at hb13'
        have hge : (goneB (hs.map Hd.p) i) e = false := by rw [← hM2.2]; simpa using hb13
        rw [if_neg (by rw [hge]; decide)] at hda
        refine hc_draw 7 mixed (by decide) (by decide) rfl rfl ?_
        apply hb_ex _ rfl rfl rfl
        ·intro w1
         first | refine r_fieldAddr ⟨_, 3, none⟩ rfl rfl T.fa_api_Head_3 rfl ?_ | refine r_fieldAddr _ rfl rfl T.fa_api_Head_3 rfl ?_
         refine hl_nil ?_
         exact qe_done rfl
        apply hb_ex _ rfl rfl rfl
        ·intro w1
         first | refine r_load rfl T.cell_ints rfl (cell_blk (by repeat constructor) rfl) ?_ | refine r_load rfl T.cell_ints rfl (cell_own (by repeat constructor) rfl) ?_ | refine r_load rfl T.cell_ints rfl (cell_row (by repeat constructor) (rows_get0 (by omega) rfl)) ?_ | refine r_load rfl T.cell_ints rfl (cell_row_f (by repeat constructor) (rows_get (by omega) rfl)) ?_ | refine r_load rfl T.cell_ints rfl (cell_rowg (by repeat constructor) rfl) ?_
         refine hl_nil ?_
         exact qe_done rfl
        apply hb_ex _ rfl rfl rfl
        ·intro w1
         refine r_move rfl rfl ?_
         refine hl_nil ?_
         exact qe_done rfl
        apply hb_ex _ rfl rfl rfl
        ·intro w1
         refine r_move rfl rfl ?_
         refine hl_nil ?_
         exact qe_done rfl
        apply hb_ex _ rfl rfl rfl
        ·intro w1
         refine r_elem (α := Int) (numL (goneB (hs.map Hd.p) i) hs.length hs.length) e rfl T.u_ints T.sz_int rfl rfl rfl (List.mem_append_right _ (by repeat constructor)) (numL_len _ _ _).symm (by rw [numL_len]; omega) (by decide) ?_
         refine hl_nil ?_
         exact qe_done rfl
        apply hb_ex _ rfl rfl rfl
        ·intro w1
         refine r_load (v := int ((numN (goneB (hs.map Hd.p) i) e : Nat) : Int)) rfl T.cell_int rfl (cell_row (List.mem_append_right _ (by repeat constructor)) (rows_get0 (by rw [numL_len]; omega) (by rw [numL_at (by omega)]; rfl))) ?_
         refine hl_nil ?_
         exact qe_done rfl
        refine hb_vs ⟨Nat, fun _ => True, fun g => .slice (some ⟨g, 0, none⟩) 1 1, fun g => [Row (some ⟨g, 0, none⟩) (rows [((numN (goneB (hs.map Hd.p) i) e : Nat) : Int)])]⟩ rfl rfl rfl ?_ ?_
        ·intro w1
         refine r_buildSlice _ rfl rfl (fun _ => T.bs_ints_1 ..) fun gS => ?_
         refine hl_nil ?_
         refine hq_letgo (rows [((numN (goneB (hs.map Hd.p) i) e : Nat) : Int)]) (List.prefix_refl _) ?_
         exact qv_done gS trivial rfl ⟨m0, trivial⟩
        refine hb_nil ⟨rfl, ?_⟩
        intro g9 _
        refine r_append ((dropA (goneB (hs.map Hd.p) i) ((hs.getD k default).2.2.2.l.take j)).length + 1) (rows ((dropA (goneB (hs.map Hd.p) i) ((hs.getD k default).2.2.2.l.take j)) ++ [((numN (goneB (hs.map Hd.p) i) e : Nat) : Int)])) T.el_ints rfl rfl rfl hG5 (hp' := (g16, Obj.cells #[str (hs.getD k default).1, int (hs.getD k default).2.1, int z, .slice dA (dropA (goneB (hs.map Hd.p) i) ((hs.getD k default).2.2.2.l.take j)).length dC] T.api_Head (0, 0)) :: (g13, Obj.cells #[.slice xa cs.length xc, .slice yA ys.length yC] T.api_Trades (0, 0)) :: (gR, Obj.cells #[.slice none 0 0, .slice none 0 0] T.api_Trades (0, 0)) :: og) (show List.Perm ((g16, Obj.cells #[str (hs.getD k default).1, int (hs.getD k default).2.1, int z, .slice dA (dropA (goneB (hs.map Hd.p) i) ((hs.getD k default).2.2.2.l.take j)).length dC] T.api_Head (0, 0)) :: (g13, Obj.cells #[.slice xa cs.length xc, .slice yA ys.length yC] T.api_Trades (0, 0)) :: (gR, Obj.cells #[.slice none 0 0, .slice none 0 0] T.api_Trades (0, 0)) :: (og2 ++ og)) (og2 ++ ((g16, Obj.cells #[str (hs.getD k default).1, int (hs.getD k default).2.1, int z, .slice dA (dropA (goneB (hs.map Hd.p) i) ((hs.getD k default).2.2.2.l.take j)).length dC] T.api_Head (0, 0)) :: (g13, Obj.cells #[.slice xa cs.length xc, .slice yA ys.length yC] T.api_Trades (0, 0)) :: (gR, Obj.cells #[.slice none 0 0, .slice none 0 0] T.api_Trades (0, 0)) :: og)) from (perm_of fun p => by simp only [List.countP_append, List.countP_cons, List.countP_nil]; omega)) (Src.row (news := rows [((numN (goneB (hs.map Hd.p) i) e : Nat) : Int)]) (m := 1) m0 rfl (rows_one _) (by decide)) rfl (rows_append _ _).symm (by unfold maxLen; omega) (by omega) fun A' c' og' hG' => ?_
        first | refine r_fieldAddr ⟨_, 3, none⟩ rfl rfl T.fa_api_Head_3 rfl ?_ | refine r_fieldAddr _ rfl rfl T.fa_api_Head_3 rfl ?_
        refine r_store rfl rfl (show List.Perm (og' ++ ((g16, Obj.cells #[str (hs.getD k default).1, int (hs.getD k default).2.1, int z, .slice dA (dropA (goneB (hs.map Hd.p) i) ((hs.getD k default).2.2.2.l.take j)).length dC] T.api_Head (0, 0)) :: (g13, Obj.cells #[.slice xa cs.length xc, .slice yA ys.length yC] T.api_Trades (0, 0)) :: (gR, Obj.cells #[.slice none 0 0, .slice none 0 0] T.api_Trades (0, 0)) :: og)) ((g16, Obj.cells #[str (hs.getD k default).1, int (hs.getD k default).2.1, int z, .slice dA (dropA (goneB (hs.map Hd.p) i) ((hs.getD k default).2.2.2.l.take j)).length dC] T.api_Head (0, 0)) :: (og' ++ ((g13, Obj.cells #[.slice xa cs.length xc, .slice yA ys.length yC] T.api_Trades (0, 0)) :: (gR, Obj.cells #[.slice none 0 0, .slice none 0 0] T.api_Trades (0, 0)) :: og))) from (perm_of fun p => by simp only [List.countP_append, List.countP_cons, List.countP_nil]; omega)) T.sz_ints (by rfl) (by rfl) ?_
        refine hl_nil ?_
        refine inb_n ?_
        refine then_n ?_
        refine hc_region ?_
        refine r_add _ rfl rfl rfl rfl (by unfold I64; omega) ?_
        refine r_move rfl rfl ?_
        refine hl_nil ?_
        have hl1 : (dropA (goneB (hs.map Hd.p) i) ((hs.getD k default).2.2.2.l.take (j + 1))).length = (dropA (goneB (hs.map Hd.p) i) ((hs.getD k default).2.2.2.l.take j)).length + 1 := by rw [hda, List.length_append]; rfl
        refine hq_perm (show List.Perm ((g16, Obj.cells #[str (hs.getD k default).1, int (hs.getD k default).2.1, int z, .slice A' ((dropA (goneB (hs.map Hd.p) i) ((hs.getD k default).2.2.2.l.take j)).length + 1) c'] T.api_Head (0, 0)) :: (og' ++ ((g13, Obj.cells #[.slice xa cs.length xc, .slice yA ys.length yC] T.api_Trades (0, 0)) :: (gR, Obj.cells #[.slice none 0 0, .slice none 0 0] T.api_Trades (0, 0)) :: og))) ((g16, Obj.cells #[str (hs.getD k default).1, int (hs.getD k default).2.1, int z, .slice A' ((dropA (goneB (hs.map Hd.p) i) ((hs.getD k default).2.2.2.l.take j)).length + 1) c'] T.api_Head (0, 0)) :: (g13, Obj.cells #[.slice xa cs.length xc, .slice yA ys.length yC] T.api_Trades (0, 0)) :: (gR, Obj.cells #[.slice none 0 0, .slice none 0 0] T.api_Trades (0, 0)) :: (og' ++ og)) from (perm_of fun p => by simp only [List.countP_append, List.countP_cons, List.countP_nil]; omega)) ?_
        exact again _ (j + 1, (A', c'), og') ⟨by show j + 1 ≤ (hs.getD k default).2.2.2.l.length; omega, by show Grow _ _ _ (dropA (goneB (hs.map Hd.p) i) ((hs.getD k default).2.2.2.l.take (j + 1))).length _ (rows (dropA (goneB (hs.map Hd.p) i) ((hs.getD k default).2.2.2.l.take (j + 1)))) _; rw [hda, List.length_append]; exact hG'⟩ (by show (hs.getD k default).2.2.2.l.length - (j + 1) < (hs.getD k default).2.2.2.l.length - j; omega) ⟨rfl, rfl, rfl, rfl, rfl, rfl, rfl, rfl, rfl, rfl, rfl, trivial⟩ (by show List.Sublist ((g16, Obj.cells #[str (hs.getD k default).1, int (hs.getD k default).2.1, int z, .slice A' (dropA (goneB (hs.map Hd.p) i) ((hs.getD k default).2.2.2.l.take (j + 1))).length c'] T.api_Head (0, 0)) :: (g13, Obj.cells #[.slice xa cs.length xc, .slice yA ys.length yC] T.api_Trades (0, 0)) :: (gR, Obj.cells #[.slice none 0 0, .slice none 0 0] T.api_Trades (0, 0)) :: (og' ++ og)) _; rw [hl1]; exact List.Sublist.refl _) ⟨(by repeat constructor), (by repeat constructor), (by repeat constructor), (by repeat constructor), (by repeat constructor), (by repeat constructor), (by repeat constructor), trivial⟩
       ·have hb13' := hb13; try simp at hb13'
        have hge : (goneB (hs.map Hd.p) i) e = true := by rw [← hM2.2]; simpa using hb13
        rw [if_pos hge] at hda
        refine hc_skip ?_
        refine inb_n ?_
        refine then_n ?_
        refine hc_region ?_
        refine r_add _ rfl rfl rfl rfl (by unfold I64; omega) ?_
        refine r_move rfl rfl ?_
        refine hl_nil ?_
        exact again _ (j + 1, (dA, dC), og2) ⟨by show j + 1 ≤ (hs.getD k default).2.2.2.l.length; omega, by show Grow _ _ _ (dropA (goneB (hs.map Hd.p) i) ((hs.getD k default).2.2.2.l.take (j + 1))).length _ (rows (dropA (goneB (hs.map Hd.p) i) ((hs.getD k default).2.2.2.l.take (j + 1)))) _; rw [hda]; exact hG5⟩ (by show (hs.getD k default).2.2.2.l.length - (j + 1) < (hs.getD k default).2.2.2.l.length - j; omega) ⟨rfl, rfl, rfl, rfl, rfl, rfl, rfl, rfl, rfl, rfl, rfl, trivial⟩ (by show List.Sublist ((g16, Obj.cells #[str (hs.getD k default).1, int (hs.getD k default).2.1, int z, .slice dA (dropA (goneB (hs.map Hd.p) i) ((hs.getD k default).2.2.2.l.take (j + 1))).length dC] T.api_Head (0, 0)) :: (g13, Obj.cells #[.slice xa cs.length xc, .slice yA ys.length yC] T.api_Trades (0, 0)) :: (gR, Obj.cells #[.slice none 0 0, .slice none 0 0] T.api_Trades (0, 0)) :: (og2 ++ og)) _; rw [hda]; exact List.Sublist.refl _) ⟨(by repeat constructor), (by repeat constructor), (by repeat constructor), (by repeat constructor), (by repeat constructor), (by repeat constructor), (by repeat constructor), trivial⟩
      ·have hb12' := hb12; try simp at hb12'
       obtain rfl : j = (hs.getD k default).2.2.2.l.length := by omega
       rw [List.take_length] at hG5 hdl
       refine hc_exit ?_
       refine then_exit ?_
       refine then_exit ?_
       refine inb_hit ?_
       refine then_n ?_
       refine hc_perm (show List.Perm ((g16, Obj.cells #[str (hs.getD k default).1, int (hs.getD k default).2.1, int z, .slice dA (dropA (goneB (hs.map Hd.p) i) ((hs.getD k default).2.2.2.l.take (hs.getD k default).2.2.2.l.length)).length dC] T.api_Head (0, 0)) :: (g13, Obj.cells #[.slice xa cs.length xc, .slice yA ys.length yC] T.api_Trades (0, 0)) :: (gR, Obj.cells #[.slice none 0 0, .slice none 0 0] T.api_Trades (0, 0)) :: (og2 ++ og)) (og2 ++ ((g16, Obj.cells #[str (hs.getD k default).1, int (hs.getD k default).2.1, int z, .slice dA (dropA (goneB (hs.map Hd.p) i) ((hs.getD k default).2.2.2.l.take (hs.getD k default).2.2.2.l.length)).length dC] T.api_Head (0, 0)) :: (g13, Obj.cells #[.slice xa cs.length xc, .slice yA ys.length yC] T.api_Trades (0, 0)) :: (gR, Obj.cells #[.slice none 0 0, .slice none 0 0] T.api_Trades (0, 0)) :: og)) from (perm_of fun p => by simp only [List.countP_append, List.countP_cons, List.countP_nil]; omega)) ?_
       rw [List.take_length]
       refine hc_grown hG5 ?_
       refine hc_region ?_
       first | refine r_fieldAddr ⟨_, 1, none⟩ rfl rfl T.fa_api_Trades_1 rfl ?_ | refine r_fieldAddr _ rfl rfl T.fa_api_Trades_1 rfl ?_
       first | refine r_load rfl T.cell_L_api_Head rfl (cell_own (by repeat constructor) rfl) ?_ | refine r_load rfl T.cell_L_api_Head rfl (cell_blk (by repeat constructor) rfl) ?_ | refine r_load rfl T.cell_L_api_Head rfl (cell_row (by repeat constructor) (rows_get0 (by omega) rfl)) ?_ | refine r_load rfl T.cell_L_api_Head rfl (cell_row_f (by repeat constructor) (rows_get (by omega) rfl)) ?_ | refine r_load rfl T.cell_L_api_Head rfl (cell_rowg (by repeat constructor) rfl) ?_
       first | refine r_loadA rfl T.row_api_Head T.sz_api_Head rfl (by repeat constructor) (by rfl) ?_ | refine r_loadB rfl T.row_api_Head T.sz_api_Head rfl (by repeat constructor) (by rfl) ?_ | refine r_loadS rfl T.row_api_Head T.sz_api_Head rfl rfl (cells_row (by repeat constructor) (rows_all (by omega))) ?_
       refine r_buildSlice _ rfl rfl (fun _ => T.bs_L_api_Head_1 ..) fun gS => ?_
       refine hl_letgo (rows [(((hs.getD k default).1, (hs.getD k default).2.1, z, ⟨dA, dC, (dropA (goneB (hs.map Hd.p) i) (hs.getD k default).2.2.2.l)⟩) : Hd)]) (List.prefix_refl _) ?_
       refine r_append (hp' := [(g16, Obj.cells #[str (hs.getD k default).1, int (hs.getD k default).2.1, int z, .slice dA (dropA (goneB (hs.map Hd.p) i) (hs.getD k default).2.2.2.l).length dC] T.api_Head (0, 0)), (g13, Obj.cells #[.slice xa cs.length xc, .slice yA ys.length yC] T.api_Trades (0, 0)), (gR, Obj.cells #[.slice none 0 0, .slice none 0 0] T.api_Trades (0, 0))]) (ys.length + 1) (rows (ys ++ [(((hs.getD k default).1, (hs.getD k default).2.1, z, ⟨dA, dC, (dropA (goneB (hs.map Hd.p) i) (hs.getD k default).2.2.2.l)⟩) : Hd)])) T.el_L_api_Head rfl rfl rfl hG (show List.Perm ((g16, Obj.cells #[str (hs.getD k default).1, int (hs.getD k default).2.1, int z, .slice dA (dropA (goneB (hs.map Hd.p) i) (hs.getD k default).2.2.2.l).length dC] T.api_Head (0, 0)) :: (g13, Obj.cells #[.slice xa cs.length xc, .slice yA ys.length yC] T.api_Trades (0, 0)) :: (gR, Obj.cells #[.slice none 0 0, .slice none 0 0] T.api_Trades (0, 0)) :: og) (og ++ [(g16, Obj.cells #[str (hs.getD k default).1, int (hs.getD k default).2.1, int z, .slice dA (dropA (goneB (hs.map Hd.p) i) (hs.getD k default).2.2.2.l).length dC] T.api_Head (0, 0)), (g13, Obj.cells #[.slice xa cs.length xc, .slice yA ys.length yC] T.api_Trades (0, 0)), (gR, Obj.cells #[.slice none 0 0, .slice none 0 0] T.api_Trades (0, 0))]) from (perm_of fun p => by simp only [List.countP_append, List.countP_cons, List.countP_nil]; omega)) (Src.row (news := rows [(((hs.getD k default).1, (hs.getD k default).2.1, z, ⟨dA, dC, (dropA (goneB (hs.map Hd.p) i) (hs.getD k default).2.2.2.l)⟩) : Hd)]) (m := 1) m0 rfl (rows_one _) (by decide)) rfl (rows_append _ _).symm (by unfold maxLen; omega) (by omega) fun A' c' og' hG' => ?_
       first | refine r_fieldAddr ⟨_, 1, none⟩ rfl rfl T.fa_api_Trades_1 rfl ?_ | refine r_fieldAddr _ rfl rfl T.fa_api_Trades_1 rfl ?_
       refine r_store (hp' := og' ++ [(g16, Obj.cells #[str (hs.getD k default).1, int (hs.getD k default).2.1, int z, .slice dA (dropA (goneB (hs.map Hd.p) i) (hs.getD k default).2.2.2.l).length dC] T.api_Head (0, 0)), (gR, Obj.cells #[.slice none 0 0, .slice none 0 0] T.api_Trades (0, 0))]) rfl rfl (show List.Perm (og' ++ [(g16, Obj.cells #[str (hs.getD k default).1, int (hs.getD k default).2.1, int z, .slice dA (dropA (goneB (hs.map Hd.p) i) (hs.getD k default).2.2.2.l).length dC] T.api_Head (0, 0)), (g13, Obj.cells #[.slice xa cs.length xc, .slice yA ys.length yC] T.api_Trades (0, 0)), (gR, Obj.cells #[.slice none 0 0, .slice none 0 0] T.api_Trades (0, 0))]) ((g13, Obj.cells #[.slice xa cs.length xc, .slice yA ys.length yC] T.api_Trades (0, 0)) :: (og' ++ [(g16, Obj.cells #[str (hs.getD k default).1, int (hs.getD k default).2.1, int z, .slice dA (dropA (goneB (hs.map Hd.p) i) (hs.getD k default).2.2.2.l).length dC] T.api_Head (0, 0)), (gR, Obj.cells #[.slice none 0 0, .slice none 0 0] T.api_Trades (0, 0))])) from (perm_of fun p => by simp only [List.countP_append, List.countP_cons, List.countP_nil]; omega)) T.sz_L_api_Head (by rfl) (by rfl) ?_
       refine hl_facts (innerF_snoc (ps := ys) (f := Hd.row) (p := (((hs.getD k default).1, (hs.getD k default).2.1, z, ⟨dA, dC, (dropA (goneB (hs.map Hd.p) i) (hs.getD k default).2.2.2.l)⟩) : Hd)) (by repeat constructor) (by repeat constructor)) ?_
       refine hl_nil ?_
       refine inb_n ?_
       refine then_n ?_
       refine hc_region ?_
       refine r_add _ rfl rfl rfl rfl (by unfold I64; omega) ?_
       refine r_move rfl rfl ?_
       refine hl_nil ?_
       have hl1 : (ys ++ [(((hs.getD k default).1, (hs.getD k default).2.1, z, ⟨dA, dC, (dropA (goneB (hs.map Hd.p) i) (hs.getD k default).2.2.2.l)⟩) : Hd)]).length = ys.length + 1 := by simp
       refine hq_perm (show List.Perm ((g13, Obj.cells #[.slice xa cs.length xc, .slice A' (ys.length + 1) c'] T.api_Trades (0, 0)) :: (og' ++ [(g16, Obj.cells #[str (hs.getD k default).1, int (hs.getD k default).2.1, int z, .slice dA (dropA (goneB (hs.map Hd.p) i) (hs.getD k default).2.2.2.l).length dC] T.api_Head (0, 0)), (gR, Obj.cells #[.slice none 0 0, .slice none 0 0] T.api_Trades (0, 0))])) ((g16, Obj.cells #[str (hs.getD k default).1, int (hs.getD k default).2.1, int z, .slice dA (dropA (goneB (hs.map Hd.p) i) (hs.getD k default).2.2.2.l).length dC] T.api_Head (0, 0)) :: (g13, Obj.cells #[.slice xa cs.length xc, .slice A' (ys.length + 1) c'] T.api_Trades (0, 0)) :: (gR, Obj.cells #[.slice none 0 0, .slice none 0 0] T.api_Trades (0, 0)) :: og') from (perm_of fun p => by simp only [List.countP_append, List.countP_cons, List.countP_nil]; omega)) ?_
       exact again _ (k + 1, ys ++ [(((hs.getD k default).1, (hs.getD k default).2.1, z, ⟨dA, dC, (dropA (goneB (hs.map Hd.p) i) (hs.getD k default).2.2.2.l)⟩) : Hd)], (A', c'), og') ⟨by show k + 1 ≤ hs.length; omega, by show (ys ++ [_]).map Hd.p = _; rw [hds, List.map_append, hy]; congr 1; show [(_, _, z, _)] = [dropP _ _]; rw [hz]; rfl, by show Grow _ _ _ (ys ++ [_]).length _ _ _; rw [hl1]; exact hG'⟩ (by show hs.length - (k + 1) < hs.length - k; omega) ⟨rfl, rfl, rfl, rfl, rfl, rfl, rfl, trivial⟩ (by show List.Sublist ((g13, Obj.cells #[.slice xa cs.length xc, .slice A' (ys ++ [(((hs.getD k default).1, (hs.getD k default).2.1, z, ⟨dA, dC, (dropA (goneB (hs.map Hd.p) i) (hs.getD k default).2.2.2.l)⟩) : Hd)]).length c'] T.api_Trades (0, 0)) :: _) _; rw [hl1]; exact List.sublist_cons_self _ _) ⟨(by repeat constructor), (by repeat constructor), (by repeat constructor), (by repeat constructor), (by repeat constructor), (by repeat constructor), trivial⟩
   ·have hb9' := hb9; try simp at hb9'
    obtain rfl : k = hs.length := by omega
    refine hc_exit ?_
    refine then_exit ?_
    refine then_exit ?_
    refine inb_hit ?_
    refine then_n ?_
    refine hc_seq ?_
    refine hc_perm (show List.Perm ((g13, Obj.cells #[.slice xa cs.length xc, .slice yA ys.length yC] T.api_Trades (0, 0)) :: (gR, Obj.cells #[.slice none 0 0, .slice none 0 0] T.api_Trades (0, 0)) :: og) (og ++ [(g13, Obj.cells #[.slice xa cs.length xc, .slice yA ys.length yC] T.api_Trades (0, 0)), (gR, Obj.cells #[.slice none 0 0, .slice none 0 0] T.api_Trades (0, 0))]) from (perm_of fun p => by simp only [List.countP_append, List.countP_cons, List.countP_nil]; omega)) ?_
    have hGle := hG.le
    refine hc_grown hG ?_
    refine hc_rowsF (A := yA) (ps := ys) (f := Hd.row) (by repeat constructor) (by repeat constructor) ?_
    refine hc_region ?_
    first | refine r_loadA rfl T.row_api_Trades T.sz_api_Trades rfl (by repeat constructor) (by rfl) ?_ | refine r_loadB rfl T.row_api_Trades T.sz_api_Trades rfl (by repeat constructor) (by rfl) ?_ | refine r_loadS rfl T.row_api_Trades T.sz_api_Trades rfl rfl (cells_row (by repeat constructor) (rows_all (by omega))) ?_
    refine r_storeS (cs := #[.slice xa cs.length xc, .slice yA ys.length yC]) rfl rfl (.swap _ _ _) T.sz_api_Trades (by rfl) (by rfl) ?_
    refine hl_nil ?_
    refine then_n ?_
    refine hc_ret ?_
    refine ret_row (ys, (xa, xc), (yA, yC)) rfl rfl T.row_api_Trades T.sz_api_Trades rfl m0 rfl rfl ⟨by show ys.map Hd.p = dropHs (hs.map Hd.p) (goneB (hs.map Hd.p) i) (hs.map Hd.p).length; rw [hH]; exact hy, hxc, hGle⟩ (List.nil_sublist _) ⟨(by repeat constructor), (by repeat constructor), trivial⟩

theorem trade_Drop_meets {A B : Option Addr} {ca cb : Nat} (cs : List Cl) (hs : List Hd) (h : Int) (hca : cs.length ≤ ca) (hcb : hs.length ≤ cb) (ha : ∀ h ∈ hs, h.2.2.2.l.length ≤ 1000000) : Meets Try.prog F.trade_Drop [.agg #[.slice A cs.length ca, .slice B hs.length cb], int h] { LI := [Row A (rows cs), RowsF B hs Hd.row], inv := fun x : OutR => TrIs (dropE (trOf cs hs) h).1 x, val := fun x => .tuple #[.agg #[.slice x.2.1.1 (dropE (trOf cs hs) h).1.cs.length x.2.1.2, .slice x.2.2.1 x.1.length x.2.2.2], int (dropE (trOf cs hs) h).2], LO := fun x => [Row x.2.1.1 (rows (dropE (trOf cs hs) h).1.cs), RowsF x.2.2.1 x.1 Hd.row] } := by
 refine meets_intro F.trade_Drop_f rfl (Nat.le_of_ble_eq_true rfl) fun w0 => ?_
 refine hc_seq ?_
 refine hc_region ?_
 refine r_box rfl rfl fun gB => ?_
 refine r_alloc rfl (fun _ => T.al_api_Trades _) fun gR => ?_
 refine r_assign rfl rfl ?_
 refine hl_nil ?_
 refine then_n ?_
 refine hc_cut ⟨fun _ : Nat × OutC × OutC => True, fun x => [(1, int h), (2, .pointer (some ⟨gB, 0, none⟩)), (4, .pointer (some ⟨gR, 0, none⟩)), (6, if askE (trOf cs hs) [h] = 0 then .pointer (some ⟨x.1, 0, none⟩) else .pointer none), (7, int (askE (trOf cs hs) [h]))], fun _ => [(gR, Obj.cells #[.slice none 0 0, .slice none 0 0] T.api_Trades (0, 0)), (gB, .cells #[.slice A cs.length ca, .slice B hs.length cb] T.api_Trades (0, 0))], fun x => (if askE (trOf cs hs) [h] = 0 then beginL cs hs A ca B cb x else []) ++ [Row A (rows cs), RowsF B hs Hd.row]⟩ ?_ ?_
 ·skip
  refine hc_region ?_
  first | refine r_loadA rfl T.row_api_Trades T.sz_api_Trades rfl (by repeat constructor) (by rfl) ?_ | refine r_loadB rfl T.row_api_Trades T.sz_api_Trades rfl (by repeat constructor) (by rfl) ?_ | refine r_loadS rfl T.row_api_Trades T.sz_api_Trades rfl rfl (cells_row (by repeat constructor) (rows_all (by omega))) ?_
  refine r_move rfl rfl ?_
  refine r_buildSlice _ rfl rfl (fun _ => T.bs_ints_1 ..) fun gS => ?_
  refine hl_letgo (rows [h]) (List.prefix_refl _) ?_
  refine hl_call F.trade_ask_cb rfl rfl (trade_ask_meets cs hs [h] hca hcb ha (by simp)) (List.Perm.refl _) ⟨(by repeat constructor), (by repeat constructor), (by repeat constructor), trivial⟩ fun x _ => ?_
  refine r_move rfl rfl ?_
  refine r_extract rfl rfl rfl ?_
  refine r_extract rfl rfl rfl ?_
  refine r_assign rfl rfl ?_
  refine r_assign rfl rfl ?_
  refine hl_nil ?_
  exact cut_n _ x trivial ⟨rfl, rfl, rfl, rfl, rfl, trivial⟩ (List.Sublist.refl _) (LSub.of_mem fun F hF => (List.mem_append.1 hF).elim (fun h1 => List.mem_append_left _ h1) (fun h2 => List.mem_append_right _ (List.mem_cons_of_mem _ h2)))
 ·refine fun x _ => ?_
  dsimp only
  refine hc_seq ?_
  refine hc_seq ?_
  refine hc_region ?_
  refine r_move rfl rfl ?_
  refine r_neq rfl rfl rfl ?_
  refine hl_nil ?_
  refine then_n ?_
  first | refine c_dec rfl (fun hb1 => ?_) (fun hb1 => ?_) | refine hc_cond rfl (fun hb1 => ?_) (fun hb1 => ?_)
  ·have hb1' := hb1; try simp at hb1'
   have hE : (dropE (trOf cs hs) h) = (⟨[], []⟩, askE (trOf cs hs) [h]) := by rw [dropE, if_pos hb1]
   refine hc_seq ?_
   refine hc_region ?_
   refine r_build [] rfl rfl (fun _ => T.bd_api_Trades_ ..) ?_
   refine r_move rfl rfl ?_
   refine r_storeS (cs := #[.slice none 0 0, .slice none 0 0]) rfl rfl (.refl _) T.sz_api_Trades (by rfl) (by rfl) ?_
   refine r_assign rfl rfl ?_
   refine hl_nil ?_
   refine then_n ?_
   refine hc_ret ?_
   refine then_ret ?_
   refine hq_nilrow (α := Cl) ?_
   refine hq_nilrow (α := Hd) ?_
   refine hq_facts (Fs := ([] : List Hd).map Hd.row) (by intro F hF; simp at hF) ?_
   refine hq_rowsF (A := none) (ps := ([] : List Hd)) (f := Hd.row) (by repeat constructor) (by repeat constructor) ?_
   exact ret_row_tmp ([], (none, 0), (none, 0)) rfl rfl rfl T.row_api_Trades T.sz_api_Trades rfl m0 (by show Value.tuple #[.agg #[.slice none (dropE (trOf cs hs) h).1.cs.length 0, .slice none 0 0], int (dropE (trOf cs hs) h).2] = _; rw [hE]; rfl) rfl (by show TrIs (dropE (trOf cs hs) h).1 _; rw [hE]; exact ⟨rfl, Nat.le_refl _, Nat.le_refl _⟩) (List.nil_sublist _) (by show LSub _ [Row none (rows (dropE (trOf cs hs) h).1.cs), RowsF none [] Hd.row]; rw [hE]; exact ⟨(by repeat constructor), (by repeat constructor), trivial⟩)
  ·have hb1' := hb1; try simp at hb1'
   have h0 := Classical.not_not.1 hb1
   rw [if_pos h0, if_pos h0]
   have hch := ask_check h0
   have hin := ask_in h0 (List.mem_singleton.2 rfl)
   rw [hs_len] at hin
   obtain ⟨i, hi⟩ := Int.eq_ofNat_of_zero_le hin.1
   have hok := tr_ok hch
   have h6 : cs.length ≤ 6 := hok.c6
   have h6h := hok.h6
   rw [hs_len] at h6h
   have hcl : ∀ i, i < cs.length → ClsOK cs i := hok.c
   obtain ⟨gl, ⟨oa, oc⟩, ⟨ka, kc⟩⟩ := x
   have hln := hs_len cs hs
   have hE : (dropE (trOf cs hs) h) = (dropT (trOf cs hs) i, 0) := by rw [dropE, if_neg hb1, hi, Int.toNat_natCast]
   subst hi
   show HC _ _ _ _ _ [Row (some ⟨gl, 0, none⟩) [.slice A cs.length ca, .slice B hs.length cb, .slice oa cs.length oc, .slice ka hs.length kc], Row oa (rows (masksN cs cs.length)), Row ka (rows (kindsN hs hs.length)), Row A (rows cs), RowsF B hs Hd.row]
   refine hc_skip ?_
   refine then_n ?_
   refine hc_seq ?_
   refine hc_region ?_
   refine r_move rfl rfl ?_
   refine r_move rfl rfl ?_
   refine hl_call F.trade_list_drop_cb rfl rfl (trade_list_drop_meets (A := A) (B := B) (oa := oa) (ka := ka) (ca := ca) (cb := cb) (oc := oc) (kc := kc) (gl := gl) cs hs i hok (by omega) hca ha) (List.Perm.refl _) ⟨(by repeat constructor), (by repeat constructor), (by repeat constructor), (by repeat constructor), trivial⟩ fun y hy => ?_
   refine r_storeS (cs := #[.slice y.2.1.1 cs.length y.2.1.2, .slice y.2.2.1 y.1.length y.2.2.2]) rfl rfl (.refl _) T.sz_api_Trades (by rfl) (by rfl) ?_
   refine r_assign rfl rfl ?_
   refine hl_nil ?_
   refine then_n ?_
   refine hc_ret ?_
   exact ret_row_tmp y rfl rfl rfl T.row_api_Trades T.sz_api_Trades rfl m0 (by show Value.tuple #[.agg #[.slice y.2.1.1 (dropE (trOf cs hs) (i : Int)).1.cs.length y.2.1.2, .slice y.2.2.1 y.1.length y.2.2.2], int (dropE (trOf cs hs) (i : Int)).2] = _; rw [hE]) rfl (by show TrIs (dropE (trOf cs hs) (i : Int)).1 y; rw [hE]; exact hy) (List.nil_sublist _) (by show LSub _ [Row y.2.1.1 (rows (dropE (trOf cs hs) (i : Int)).1.cs), RowsF y.2.2.1 y.1 Hd.row]; rw [hE]; exact ⟨(by repeat constructor), (by repeat constructor), trivial⟩)

theorem trade_Check_meets {A B : Option Addr} {ca cb : Nat} (cs : List Cl) (hs : List Hd) (hca : cs.length ≤ ca) (hcb : hs.length ≤ cb) (ha : ∀ h ∈ hs, h.2.2.2.l.length ≤ 1000000) : Meets Try.prog F.trade_Check [.agg #[.slice A cs.length ca, .slice B hs.length cb]] { LI := [Row A (rows cs), RowsF B hs Hd.row], val := fun _ : Unit => int (checkT (trOf cs hs)) } := by
 refine meets_intro F.trade_Check_f rfl (Nat.le_of_ble_eq_true rfl) fun w0 => ?_
 refine hc_seq ?_
 refine hc_region ?_
 refine r_box rfl rfl fun gB => ?_
 refine r_assign rfl rfl ?_
 refine hl_nil ?_
 refine then_n ?_
 refine hc_seq ?_
 refine hc_region ?_
 first | refine r_loadA rfl T.row_api_Trades T.sz_api_Trades rfl (by repeat constructor) (by rfl) ?_ | refine r_loadB rfl T.row_api_Trades T.sz_api_Trades rfl (by repeat constructor) (by rfl) ?_ | refine r_loadS rfl T.row_api_Trades T.sz_api_Trades rfl rfl (cells_row (by repeat constructor) (rows_all (by omega))) ?_
 refine hl_call F.trade_check_cb rfl rfl (trade_check_meets cs hs hca hcb ha) (List.Perm.refl _) ⟨(by repeat constructor), (by repeat constructor), trivial⟩ fun _ _ => ?_
 refine r_assign rfl rfl ?_
 refine hl_nil ?_
 refine then_n ?_
 refine hc_ret ?_
 exact ret1 () rfl rfl rfl trivial (List.nil_sublist _) trivial

theorem drop_is {A B : Option Addr} {ca cb : Nat} (cs : List Cl) (hs : List Hd) (i : Nat) (hca : cs.length ≤ ca) (hcb : hs.length ≤ cb) (ha : ∀ h ∈ hs, h.2.2.2.l.length ≤ 1000000) (h0 : checkT (trOf cs hs) = 0) (hi : i < hs.length) : Meets Try.prog F.trade_Drop [.agg #[.slice A cs.length ca, .slice B hs.length cb], int i] { LI := [Row A (rows cs), RowsF B hs Hd.row], inv := fun x : OutR => TrIs (dropT (trOf cs hs) i) x, val := fun x => .tuple #[.agg #[.slice x.2.1.1 cs.length x.2.1.2, .slice x.2.2.1 x.1.length x.2.2.2], int 0], LO := fun x => [Row x.2.1.1 (rows cs), RowsF x.2.2.1 x.1 Hd.row] } := by
  have h := trade_Drop_meets (A := A) (B := B) (ca := ca) (cb := cb) cs hs (i : Int) hca hcb ha
  rw [show dropE (trOf cs hs) (i : Int) = (dropT (trOf cs hs) i, 0) by rw [dropE, if_neg (not_not_intro (ask_one h0 (by rw [hs_len]; omega))), Int.toNat_natCast]] at h
  exact h
theorem check_is {A B : Option Addr} {ca cb : Nat} (cs : List Cl) (hs : List Hd) (hca : cs.length ≤ ca) (hcb : hs.length ≤ cb) (ha : ∀ h ∈ hs, h.2.2.2.l.length ≤ 1000000) (h0 : checkT (trOf cs hs) = 0) : Meets Try.prog F.trade_Check [.agg #[.slice A cs.length ca, .slice B hs.length cb]] { LI := [Row A (rows cs), RowsF B hs Hd.row], val := fun _ : Unit => int 0 } := by
  have h := trade_Check_meets (A := A) (B := B) (ca := ca) (cb := cb) cs hs hca hcb ha
  rw [h0] at h
  exact h
/-- Where the word of a heading is in what remains. -/
def whN (g : Nat → Bool) (k : Nat) : Int := if g k = true then -1 else (numN g k : Int)
theorem wh_no {g : Nat → Bool} {k : Nat} (h : g k = true) : whN g k = -1 := by unfold whN; rw [if_pos h]
theorem wh_is {g : Nat → Bool} {k : Nat} (h : g k = false) : whN g k = (numN g k : Int) := by unfold whN; rw [if_neg (by rw [h]; decide)]
theorem wh_neg {g : Nat → Bool} {k : Nat} : whN g k < 0 ↔ g k = true := by
  unfold whN
  by_cases h : g k = true
  · rw [if_pos h]; exact ⟨fun _ => h, fun _ => by omega⟩
  · rw [if_neg h]; exact ⟨fun e => by omega, fun e => absurd e h⟩
theorem word_drop {A B : Option Addr} {ca cb : Nat} {cs : List Cl} {hs ys : List Hd} {i k : Nat} (hok : TrOK (trOf cs hs)) (hy : ys.map Hd.p = (dropT (trOf cs hs) i).hs) (hl : ys.length ≤ 1000000) (hk : k < hs.length) : Meets Try.prog F.law04_word [.agg #[.slice A cs.length ca, .slice B ys.length cb], str (hs.getD k default).1] { LI := [Row B (rows ys)], val := fun _ : Unit => int (whN (goneB (hs.map Hd.p) i) k) } := by
  have hkt : k < (trOf cs hs).hs.length := by rw [hs_len]; exact hk
  have hwk : ((trOf cs hs).hs.getD k default).1 = (hs.getD k default).1 := by rw [show (trOf cs hs).hs.getD k default = (hs.getD k default).p from hd_get hk]; rfl
  intro w hw
  refine (law04_word_meets (A := A) (B := B) (ca := ca) (cb := cb) cs ys (hs.getD k default).1 hl w hw).mono fun e w' h => ?_
  obtain ⟨z, h1, h2, h3⟩ := h
  refine ⟨(), ?_, trivial, h3⟩
  rw [h1]
  show Ending.returned (int z) = Ending.returned (int (whN (goneB (hs.map Hd.p) i) k))
  rcases h2 with ⟨p, hp, hpl, he⟩ | ⟨hz, hno⟩
  · have h4 := drop_word (p := p) hok hkt (by rw [← hy, List.length_map]; exact hpl) (by rw [← hy, hd_get hpl, hwk]; exact he)
    rw [wh_is h4.1, hp]
    rw [h4.2]
  · have h4 := drop_gone (i := i) hok hkt (by rw [← hy, List.map_map, hwk]; exact hno)
    rw [wh_no h4, hz]
theorem word_self {A B : Option Addr} {ca cb : Nat} {cs : List Cl} {hs ys : List Hd} {i : Nat} (hok : TrOK (trOf cs hs)) (hy : ys.map Hd.p = (dropT (trOf cs hs) i).hs) (hl : ys.length ≤ 1000000) (hk : i < hs.length) : Meets Try.prog F.law04_word [.agg #[.slice A cs.length ca, .slice B ys.length cb], str (hs.getD i default).1] { LI := [Row B (rows ys)], val := fun _ : Unit => int (-1) } := by
  have h := word_drop (A := A) (B := B) (ca := ca) (cb := cb) hok hy hl hk
  rw [wh_no (gone_self _ _)] at h
  exact h
def aloneK (t : Tr) (i k : Nat) : Bool := (List.range k).all fun q => !nextB t q i
theorem alone_succ (t : Tr) (i k : Nat) : aloneK t i (k + 1) = (aloneK t i k && !nextB t k i) := by
  unfold aloneK
  rw [List.range_succ, List.all_append]
  simp
theorem alone_no {t : Tr} {i k : Nat} (h : aloneK t i k = true) : ∀ q, q < k → nextB t q i = false := fun q hq => by
  unfold aloneK at h
  have := List.all_eq_true.1 h q (List.mem_range.2 hq)
  simpa using this

set_option maxHeartbeats 2000000 in
theorem law04_TradeDropped_meets {A : Option Addr} {c0 : Nat} (nums : List Int) (hn : nums.length ≤ 9223372036854775807) : Meets Try.prog F.law04_TradeDropped [.slice A nums.length c0] { LI := [Row A (rows nums)], val := fun _ : Unit => .bool true } := by
 refine meets_intro F.law04_TradeDropped_f rfl (Nat.le_of_ble_eq_true rfl) fun w0 => ?_
 refine hc_seq ?_
 refine hc_region ?_
 refine r_assign rfl rfl ?_
 refine hl_nil ?_
 refine then_n ?_
 refine hc_seq ?_
 refine hc_region ?_
 refine r_move rfl rfl ?_
 refine hl_call F.kit_NewDice_cb rfl rfl (kit_NewDice_meets nums) (List.Perm.refl _) ⟨(by repeat constructor), trivial⟩ fun g _ => ?_
 refine hl_call F.kit_TradesOf_cb rfl rfl (kit_TradesOf_meets 2 6 hn (dok0 nums) (by decide) (by decide)) (List.Perm.refl _) ⟨(by repeat constructor), trivial⟩ fun x hx => ?_
 obtain ⟨sd, cs, hs, ⟨CA, ca⟩, ⟨HB, cb⟩⟩ := x
 obtain ⟨hsd, hT⟩ := hx
 have hca : cs.length ≤ ca := hT.ca
 have hcb : hs.length ≤ cb := hT.cb
 have ha : ∀ h ∈ hs, h.2.2.2.l.length ≤ 1000000 := hT.ha
 have hT0 : checkT (trOf cs hs) = 0 := hT.ok
 have hok : TrOK (trOf cs hs) := tr_ok hT0
 clear hT
 have h6 : cs.length ≤ 6 := hok.c6
 have h6h := hok.h6
 have hln := hs_len cs hs
 rw [hln] at h6h
 have hcl : ∀ i, i < cs.length → ClsOK cs i := hok.c
 refine r_alloc rfl (fun _ => T.al_api_Trades _) fun gT => ?_
 refine r_storeS (cs := #[.slice CA cs.length ca, .slice HB hs.length cb]) rfl rfl (.refl _) T.sz_api_Trades (by rfl) (by rfl) ?_
 refine hl_nil ?_
 refine then_n ?_
 refine hc_seq ?_
 refine hc_seq ?_
 refine hc_letgoB ?_
 refine hc_outerF (ps := hs) (A := HB) (f := Hd.row) (by repeat constructor) ?_
 refine hc_region ?_
 refine r_assign rfl rfl ?_
 refine hl_nil ?_
 refine then_n ?_
 refine hc_block ?_
 refine hc_loop (β := Nat) ⟨fun i => i ≤ hs.length, fun i => [(3, .pointer (some ⟨gT, 0, none⟩)), (4, int i)], fun _ => [], fun _ => (Row HB (rows hs) :: [Blk gT (.cells #[.slice CA cs.length ca, .slice HB hs.length cb] T.api_Trades (0, 0)), Row CA (rows cs), RowsF HB hs Hd.row])⟩ (fun i => hs.length - i) 0 (Nat.zero_le _) ⟨rfl, rfl, trivial⟩ (List.nil_sublist _) ⟨(by repeat constructor), (by repeat constructor), (by repeat constructor), (by repeat constructor), trivial⟩ fun i hi => ?_
 simp only at hi
 refine hc_seq ?_
 refine hc_seq ?_
 refine hc_region ?_
 refine r_move rfl rfl ?_
 first | refine r_fieldAddr ⟨_, 1, none⟩ rfl rfl T.fa_api_Trades_1 rfl ?_ | refine r_fieldAddr _ rfl rfl T.fa_api_Trades_1 rfl ?_
 first | refine r_load rfl T.cell_L_api_Head rfl (cell_own (by repeat constructor) rfl) ?_ | refine r_load rfl T.cell_L_api_Head rfl (cell_blk (by repeat constructor) rfl) ?_ | refine r_load rfl T.cell_L_api_Head rfl (cell_row (by repeat constructor) (rows_get0 (by omega) rfl)) ?_ | refine r_load rfl T.cell_L_api_Head rfl (cell_row_f (by repeat constructor) (rows_get (by omega) rfl)) ?_ | refine r_load rfl T.cell_L_api_Head rfl (cell_rowg (by repeat constructor) rfl) ?_
 refine r_len_sl rfl T.u_L_api_Head rfl ?_
 refine r_lss rfl rfl rfl ?_
 refine hl_nil ?_
 refine then_n ?_
 first | refine c_dec rfl (fun hb1 => ?_) (fun hb1 => ?_) | refine hc_cond rfl (fun hb1 => ?_) (fun hb1 => ?_)
 ·have hb1' := hb1; try simp at hb1'
  have hi2 : i < hs.length := by omega
  have hit : i < (trOf cs hs).hs.length := by rw [hln]; exact hi2
  refine hc_skip ?_
  refine then_n ?_
  refine hc_seq ?_
  refine hc_block ?_
  refine hc_seq ?_
  refine hc_region ?_
  first | refine r_loadA rfl T.row_api_Trades T.sz_api_Trades rfl (by repeat constructor) (by rfl) ?_ | refine r_loadB rfl T.row_api_Trades T.sz_api_Trades rfl (by repeat constructor) (by rfl) ?_ | refine r_loadS rfl T.row_api_Trades T.sz_api_Trades rfl rfl (cells_row (by repeat constructor) (rows_all (by omega))) ?_
  refine r_move rfl rfl ?_
  refine hl_call F.trade_Drop_cb rfl rfl (drop_is cs hs i hca hcb ha hT0 hi2) (List.Perm.refl _) ⟨(by repeat constructor), (by repeat constructor), trivial⟩ fun x hx => ?_
  obtain ⟨ys, ⟨xa, xc⟩, ⟨ya, yc⟩⟩ := x
  have hyp : ys.map Hd.p = (dropT (trOf cs hs) i).hs := hx.p
  have hxc : cs.length ≤ xc := hx.a
  have hyc : ys.length ≤ yc := hx.b
  clear hx
  have hX : trOf cs ys = dropT (trOf cs hs) i := congrArg (Tr.mk cs) hyp
  have hXok : TrOK (trOf cs ys) := by rw [hX]; exact drop_ok hok hit
  have hX0 := tr_mk hXok
  have hya : ∀ h ∈ ys, h.2.2.2.l.length ≤ 1000000 := drop_ha (n := (hs.map Hd.p).length) ha (by rw [List.length_map]; exact Nat.le_refl _) hyp
  have hlt : ys.length < hs.length := by have h1 := drop_len hit; rw [← hyp, List.length_map, hln] at h1; exact h1
  have hgk := fun k => gone_kind (i := i) hok k
  have hnk := fun k (hk : k < hs.length) => num_le (goneB (hs.map Hd.p) i) k
  refine r_move rfl rfl ?_
  refine r_extract rfl rfl rfl ?_
  refine r_extract rfl rfl rfl ?_
  refine r_alloc rfl (fun _ => T.al_api_Trades _) fun gX => ?_
  refine r_storeS (cs := #[.slice xa cs.length xc, .slice ya ys.length yc]) rfl rfl (.refl _) T.sz_api_Trades (by rfl) (by rfl) ?_
  refine r_assign rfl rfl ?_
  refine hl_nil ?_
  refine then_n ?_
  refine hc_seq ?_
  refine hc_seq ?_
  refine hc_letgoB ?_
  refine hc_outerF (ps := ys) (A := ya) (f := Hd.row) (by repeat constructor) ?_
  refine hc_draw 25 mixed (by decide) (by decide) rfl rfl ?_
  apply hb_ex _ rfl rfl rfl
  ·intro w1
   refine r_move rfl rfl ?_
   refine hl_nil ?_
   exact qe_done rfl
  apply hb_ex _ rfl rfl rfl
  ·intro w1
   refine r_neq rfl rfl rfl ?_
   refine hl_nil ?_
   exact qe_done rfl
  apply hb_ex _ rfl rfl rfl
  ·intro w1
   refine r_move rfl rfl ?_
   refine hl_nil ?_
   exact qe_done rfl
  refine hb_split (t := 30) (want := false) rfl ?_ ?_
  ·intro hg1; have hg1' := hg1; try simp at hg1'
   apply hb_ex _ rfl rfl rfl
   ·intro w1
    refine g_yes rfl rfl hg1 ?_
    first | refine r_loadA rfl T.row_api_Trades T.sz_api_Trades rfl (by repeat constructor) (by rfl) ?_ | refine r_loadB rfl T.row_api_Trades T.sz_api_Trades rfl (by repeat constructor) (by rfl) ?_ | refine r_loadS rfl T.row_api_Trades T.sz_api_Trades rfl rfl (cells_row (by repeat constructor) (rows_all (by omega))) ?_
    refine hl_nil ?_
    exact qe_done rfl
   apply hb_ex _ rfl rfl rfl
   ·intro w1
    refine g_yes rfl rfl hg1 ?_
    refine hl_call F.trade_Check_cb rfl rfl (check_is (A := xa) (B := ya) (ca := xc) (cb := yc) cs ys hxc hyc hya hX0) (List.Perm.refl _) ⟨(by repeat constructor), (by repeat constructor), trivial⟩ fun _ _ => ?_
    refine hl_nil ?_
    exact qe_done rfl
   apply hb_ex _ rfl rfl rfl
   ·intro w1
    refine g_yes rfl rfl hg1 ?_
    refine r_neq rfl rfl rfl ?_
    refine hl_nil ?_
    exact qe_done rfl
   apply hb_ex _ rfl rfl rfl
   ·intro w1
    refine p_f rfl rfl (bf1 hg1) rfl ?_
    refine hl_nil ?_
    exact qe_done rfl
   apply hb_ex _ rfl rfl rfl
   ·intro w1
    refine r_move rfl rfl ?_
    refine hl_nil ?_
    exact qe_done rfl
   refine hb_split (t := 35) (want := false) rfl ?_ ?_
   ·intro hg2; have hg2' := hg2; try simp at hg2'
    apply hb_ex _ rfl rfl rfl
    ·intro w1
     refine g_yes rfl rfl hg2 ?_
     first | refine r_loadA rfl T.row_api_Trades T.sz_api_Trades rfl (by repeat constructor) (by rfl) ?_ | refine r_loadB rfl T.row_api_Trades T.sz_api_Trades rfl (by repeat constructor) (by rfl) ?_ | refine r_loadS rfl T.row_api_Trades T.sz_api_Trades rfl rfl (cells_row (by repeat constructor) (rows_all (by omega))) ?_
     refine hl_nil ?_
     exact qe_done rfl
    apply hb_ex _ rfl rfl rfl
    ·intro w1
     refine g_yes rfl rfl hg2 ?_
     first | refine r_fieldAddr ⟨_, 1, none⟩ rfl rfl T.fa_api_Trades_1 rfl ?_ | refine r_fieldAddr _ rfl rfl T.fa_api_Trades_1 rfl ?_
     refine hl_nil ?_
     exact qe_done rfl
    apply hb_ex _ rfl rfl rfl
    ·intro w1
     refine g_yes rfl rfl hg2 ?_
     first | refine r_load rfl T.cell_L_api_Head rfl (cell_blk (by repeat constructor) rfl) ?_ | refine r_load rfl T.cell_L_api_Head rfl (cell_own (by repeat constructor) rfl) ?_ | refine r_load rfl T.cell_L_api_Head rfl (cell_row (by repeat constructor) (rows_get0 (by omega) rfl)) ?_ | refine r_load rfl T.cell_L_api_Head rfl (cell_row_f (by repeat constructor) (rows_get (by omega) rfl)) ?_ | refine r_load rfl T.cell_L_api_Head rfl (cell_rowg (by repeat constructor) rfl) ?_
     refine hl_nil ?_
     exact qe_done rfl
    apply hb_ex _ rfl rfl rfl
    ·intro w1
     refine g_yes rfl rfl hg2 ?_
     refine r_move rfl rfl ?_
     refine hl_nil ?_
     exact qe_done rfl
    apply hb_ex _ rfl rfl rfl
    ·intro w1
     refine g_yes rfl rfl hg2 ?_
     refine r_elem (α := Hd) hs i rfl T.u_L_api_Head T.sz_api_Head rfl rfl rfl (by repeat constructor) rfl hi2 (by decide) ?_
     refine hl_nil ?_
     exact qe_done rfl
    apply hb_ex _ rfl rfl rfl
    ·intro w1
     refine g_yes rfl rfl hg2 ?_
     first | refine r_fieldAddr ⟨_, 0, none⟩ rfl rfl T.fa_api_Head_0 rfl ?_ | refine r_fieldAddr _ rfl rfl T.fa_api_Head_0 rfl ?_
     refine hl_nil ?_
     exact qe_done rfl
    apply hb_ex _ rfl rfl rfl
    ·intro w1
     refine g_yes rfl rfl hg2 ?_
     refine r_load (v := str (hs.getD i default).1) rfl T.cell_string rfl (cell_row_f (by repeat constructor) (rows_get hi2 rfl)) ?_
     refine hl_nil ?_
     exact qe_done rfl
    apply hb_ex _ rfl rfl rfl
    ·intro w1
     refine g_yes rfl rfl hg2 ?_
     refine hl_call F.law04_word_cb rfl rfl (word_self (A := xa) (B := ya) (ca := xc) (cb := yc) hok hyp (by omega) hi2) (List.Perm.refl _) ⟨(by repeat constructor), trivial⟩ fun _ _ => ?_
     refine hl_nil ?_
     exact qe_done rfl
    apply hb_ex _ rfl rfl rfl
    ·intro w1
     refine g_yes rfl rfl hg2 ?_
     refine r_geq rfl rfl rfl ?_
     refine hl_nil ?_
     exact qe_done rfl
    apply hb_ex _ rfl rfl rfl
    ·intro w1
     refine p_f rfl rfl (bf1 hg2) rfl ?_
     refine hl_nil ?_
     exact qe_done rfl
    apply hb_ex _ rfl rfl rfl
    ·intro w1
     refine r_move rfl rfl ?_
     refine hl_nil ?_
     exact qe_done rfl
    refine hb_split (t := 46) (want := false) rfl ?_ ?_
    ·intro hg3; have hg3' := hg3; try simp at hg3'
     apply hb_ex _ rfl rfl rfl
     ·intro w1
      refine g_yes rfl rfl hg3 ?_
      first | refine r_fieldAddr ⟨_, 1, none⟩ rfl rfl T.fa_api_Trades_1 rfl ?_ | refine r_fieldAddr _ rfl rfl T.fa_api_Trades_1 rfl ?_
      refine hl_nil ?_
      exact qe_done rfl
     apply hb_ex _ rfl rfl rfl
     ·intro w1
      refine g_yes rfl rfl hg3 ?_
      first | refine r_load rfl T.cell_L_api_Head rfl (cell_blk (by repeat constructor) rfl) ?_ | refine r_load rfl T.cell_L_api_Head rfl (cell_own (by repeat constructor) rfl) ?_ | refine r_load rfl T.cell_L_api_Head rfl (cell_row (by repeat constructor) (rows_get0 (by omega) rfl)) ?_ | refine r_load rfl T.cell_L_api_Head rfl (cell_row_f (by repeat constructor) (rows_get (by omega) rfl)) ?_ | refine r_load rfl T.cell_L_api_Head rfl (cell_rowg (by repeat constructor) rfl) ?_
      refine hl_nil ?_
      exact qe_done rfl
     apply hb_ex _ rfl rfl rfl
     ·intro w1
      refine g_yes rfl rfl hg3 ?_
      refine r_len_sl rfl T.u_L_api_Head rfl ?_
      refine hl_nil ?_
      exact qe_done rfl
     apply hb_ex _ rfl rfl rfl
     ·intro w1
      refine g_yes rfl rfl hg3 ?_
      first | refine r_fieldAddr ⟨_, 1, none⟩ rfl rfl T.fa_api_Trades_1 rfl ?_ | refine r_fieldAddr _ rfl rfl T.fa_api_Trades_1 rfl ?_
      refine hl_nil ?_
      exact qe_done rfl
     apply hb_ex _ rfl rfl rfl
     ·intro w1
      refine g_yes rfl rfl hg3 ?_
      first | refine r_load rfl T.cell_L_api_Head rfl (cell_blk (by repeat constructor) rfl) ?_ | refine r_load rfl T.cell_L_api_Head rfl (cell_own (by repeat constructor) rfl) ?_ | refine r_load rfl T.cell_L_api_Head rfl (cell_row (by repeat constructor) (rows_get0 (by omega) rfl)) ?_ | refine r_load rfl T.cell_L_api_Head rfl (cell_row_f (by repeat constructor) (rows_get (by omega) rfl)) ?_ | refine r_load rfl T.cell_L_api_Head rfl (cell_rowg (by repeat constructor) rfl) ?_
      refine hl_nil ?_
      exact qe_done rfl
     apply hb_ex _ rfl rfl rfl
     ·intro w1
      refine g_yes rfl rfl hg3 ?_
      refine r_len_sl rfl T.u_L_api_Head rfl ?_
      refine hl_nil ?_
      exact qe_done rfl
     refine hb_nil ⟨rfl, ?_⟩
     refine g_yes rfl rfl hg3 ?_
     refine r_geq rfl rfl rfl ?_
     refine p_f rfl rfl (bf1 hg3) rfl ?_
     refine hl_nil ?_
     refine then_n ?_
     first | refine c_dec rfl (fun hb2 => ?_) (fun hb2 => ?_) | refine hc_cond rfl (fun hb2 => ?_) (fun hb2 => ?_)
     ·exact absurd hb2 (by omega)
     ·have hb2' := hb2; try simp at hb2'
      refine hc_skip ?_
      refine then_n ?_
      refine hc_seq ?_
      refine hc_region ?_
      refine r_assign rfl rfl ?_
      refine hl_nil ?_
      refine then_n ?_
      refine hc_seq ?_
      refine hc_seq ?_
      refine hc_region ?_
      refine r_assign rfl rfl ?_
      refine hl_nil ?_
      refine then_n ?_
      refine hc_block ?_
      refine hc_loop (β := Nat) ⟨fun k => k ≤ hs.length, fun k => [(3, .pointer (some ⟨gT, 0, none⟩)), (4, int i), (5, .pointer (some ⟨gX, 0, none⟩)), (7, .bool (aloneK (trOf cs hs) i k)), (8, int k)], fun _ => [], fun _ => (Blk gX (.cells #[.slice xa cs.length xc, .slice ya ys.length yc] T.api_Trades (0, 0)) :: Row ya (rows ys) :: Row xa (rows cs) :: RowsF ya ys Hd.row :: (Row HB (rows hs) :: [Blk gT (.cells #[.slice CA cs.length ca, .slice HB hs.length cb] T.api_Trades (0, 0)), Row CA (rows cs), RowsF HB hs Hd.row]))⟩ (fun k => hs.length - k) 0 (Nat.zero_le _) ⟨rfl, rfl, rfl, rfl, rfl, trivial⟩ (List.nil_sublist _) ⟨(by repeat constructor), (by repeat constructor), (by repeat constructor), (by repeat constructor), (by repeat constructor), (by repeat constructor), (by repeat constructor), (by repeat constructor), trivial⟩ fun k hk => ?_
      simp only at hk
      refine hc_seq ?_
      refine hc_seq ?_
      refine hc_region ?_
      refine r_move rfl rfl ?_
      first | refine r_fieldAddr ⟨_, 1, none⟩ rfl rfl T.fa_api_Trades_1 rfl ?_ | refine r_fieldAddr _ rfl rfl T.fa_api_Trades_1 rfl ?_
      first | refine r_load rfl T.cell_L_api_Head rfl (cell_own (by repeat constructor) rfl) ?_ | refine r_load rfl T.cell_L_api_Head rfl (cell_blk (by repeat constructor) rfl) ?_ | refine r_load rfl T.cell_L_api_Head rfl (cell_row (by repeat constructor) (rows_get0 (by omega) rfl)) ?_ | refine r_load rfl T.cell_L_api_Head rfl (cell_row_f (by repeat constructor) (rows_get (by omega) rfl)) ?_ | refine r_load rfl T.cell_L_api_Head rfl (cell_rowg (by repeat constructor) rfl) ?_
      refine r_len_sl rfl T.u_L_api_Head rfl ?_
      refine r_lss rfl rfl rfl ?_
      refine hl_nil ?_
      refine then_n ?_
      first | refine c_dec rfl (fun hb3 => ?_) (fun hb3 => ?_) | refine hc_cond rfl (fun hb3 => ?_) (fun hb3 => ?_)
      ·have hb3' := hb3; try simp at hb3'
       have hk2 : k < hs.length := by omega
       have has := alone_succ (trOf cs hs) i k
       refine hc_skip ?_
       refine then_n ?_
       refine hc_seq ?_
       refine hc_block ?_
       refine hc_cut ⟨fun _ : Unit => True, fun _ => [(3, .pointer (some ⟨gT, 0, none⟩)), (4, int i), (5, .pointer (some ⟨gX, 0, none⟩)), (7, .bool (aloneK (trOf cs hs) i (k + 1))), (8, int k)], fun _ => [], fun _ => (Blk gX (.cells #[.slice xa cs.length xc, .slice ya ys.length yc] T.api_Trades (0, 0)) :: Row ya (rows ys) :: Row xa (rows cs) :: RowsF ya ys Hd.row :: (Row HB (rows hs) :: [Blk gT (.cells #[.slice CA cs.length ca, .slice HB hs.length cb] T.api_Trades (0, 0)), Row CA (rows cs), RowsF HB hs Hd.row]))⟩ ?_ ?_
       ·skip
        refine hc_region ?_
        refine r_move rfl rfl ?_
        refine r_move rfl rfl ?_
        refine g_split rfl rfl ?_ ?_
        ·intro hg4; have hg4' := hg4; try simp at hg4'
         have g2 : aloneK (trOf cs hs) i k = true := by simpa using hg4
         refine g_yes rfl rfl hg4 ?_
         first | refine r_loadA rfl T.row_api_Trades T.sz_api_Trades rfl (by repeat constructor) (by rfl) ?_ | refine r_loadB rfl T.row_api_Trades T.sz_api_Trades rfl (by repeat constructor) (by rfl) ?_ | refine r_loadS rfl T.row_api_Trades T.sz_api_Trades rfl rfl (cells_row (by repeat constructor) (rows_all (by omega))) ?_
         refine g_yes rfl rfl hg4 ?_
         refine r_move rfl rfl ?_
         refine g_yes rfl rfl hg4 ?_
         refine r_move rfl rfl ?_
         refine g_yes rfl rfl hg4 ?_
         refine hl_call F.law04_leads_cb rfl rfl (law04_leads_meets (A := CA) (B := HB) (ca := ca) (cb := cb) cs hs k i hk2 ha) (List.Perm.refl _) ⟨(by repeat constructor), trivial⟩ fun _ _ => ?_
         refine g_yes rfl rfl hg4 ?_
         refine r_not rfl rfl ?_
         refine p_t rfl rfl (bt1 hg4) rfl ?_
         refine r_assign rfl rfl ?_
         refine hl_nil ?_
         exact cut_n _ () trivial ⟨rfl, rfl, rfl, congrArg (fun b => some (Value.bool b)) (by rw [has, g2]; rfl), rfl, trivial⟩ (List.nil_sublist _) ⟨(by repeat constructor), (by repeat constructor), (by repeat constructor), (by repeat constructor), (by repeat constructor), (by repeat constructor), (by repeat constructor), (by repeat constructor), trivial⟩
        ·intro hg4; have hg4' := hg4; try simp at hg4'
         have g2 : aloneK (trOf cs hs) i k = false := by simpa using hg4
         refine g_no rfl rfl rfl rfl rfl hg4 ?_
         refine g_no rfl rfl rfl rfl rfl hg4 ?_
         refine g_no rfl rfl rfl rfl rfl hg4 ?_
         refine g_no rfl rfl rfl rfl rfl hg4 ?_
         refine g_no rfl rfl rfl rfl rfl hg4 ?_
         refine p_f rfl rfl (bf2 hg4) rfl ?_
         refine r_assign rfl rfl ?_
         refine hl_nil ?_
         exact cut_n _ () trivial ⟨rfl, rfl, rfl, congrArg (fun b => some (Value.bool b)) (by rw [has, g2]; rfl), rfl, trivial⟩ (List.nil_sublist _) ⟨(by repeat constructor), (by repeat constructor), (by repeat constructor), (by repeat constructor), (by repeat constructor), (by repeat constructor), (by repeat constructor), (by repeat constructor), trivial⟩
       ·refine fun _ _ => ?_
        refine hc_seq ?_
        refine hc_draw 7 mixed (by decide) (by decide) rfl rfl ?_
        apply hb_ex _ rfl rfl rfl
        ·intro w1
         first | refine r_loadA rfl T.row_api_Trades T.sz_api_Trades rfl (by repeat constructor) (by rfl) ?_ | refine r_loadB rfl T.row_api_Trades T.sz_api_Trades rfl (by repeat constructor) (by rfl) ?_ | refine r_loadS rfl T.row_api_Trades T.sz_api_Trades rfl rfl (cells_row (by repeat constructor) (rows_all (by omega))) ?_
         refine hl_nil ?_
         exact qe_done rfl
        apply hb_ex _ rfl rfl rfl
        ·intro w1
         first | refine r_fieldAddr ⟨_, 1, none⟩ rfl rfl T.fa_api_Trades_1 rfl ?_ | refine r_fieldAddr _ rfl rfl T.fa_api_Trades_1 rfl ?_
         refine hl_nil ?_
         exact qe_done rfl
        apply hb_ex _ rfl rfl rfl
        ·intro w1
         first | refine r_load rfl T.cell_L_api_Head rfl (cell_blk (by repeat constructor) rfl) ?_ | refine r_load rfl T.cell_L_api_Head rfl (cell_own (by repeat constructor) rfl) ?_ | refine r_load rfl T.cell_L_api_Head rfl (cell_row (by repeat constructor) (rows_get0 (by omega) rfl)) ?_ | refine r_load rfl T.cell_L_api_Head rfl (cell_row_f (by repeat constructor) (rows_get (by omega) rfl)) ?_ | refine r_load rfl T.cell_L_api_Head rfl (cell_rowg (by repeat constructor) rfl) ?_
         refine hl_nil ?_
         exact qe_done rfl
        apply hb_ex _ rfl rfl rfl
        ·intro w1
         refine r_move rfl rfl ?_
         refine hl_nil ?_
         exact qe_done rfl
        apply hb_ex _ rfl rfl rfl
        ·intro w1
         refine r_elem (α := Hd) hs k rfl T.u_L_api_Head T.sz_api_Head rfl rfl rfl (by repeat constructor) rfl hk2 (by decide) ?_
         refine hl_nil ?_
         exact qe_done rfl
        apply hb_ex _ rfl rfl rfl
        ·intro w1
         first | refine r_fieldAddr ⟨_, 0, none⟩ rfl rfl T.fa_api_Head_0 rfl ?_ | refine r_fieldAddr _ rfl rfl T.fa_api_Head_0 rfl ?_
         refine hl_nil ?_
         exact qe_done rfl
        apply hb_ex _ rfl rfl rfl
        ·intro w1
         refine r_load (v := str (hs.getD k default).1) rfl T.cell_string rfl (cell_row_f (by repeat constructor) (rows_get hk2 rfl)) ?_
         refine hl_nil ?_
         exact qe_done rfl
        refine hb_nil ⟨rfl, ?_⟩
        refine hl_call F.law04_word_cb rfl rfl (word_drop (A := xa) (B := ya) (ca := xc) (cb := yc) (k := k) hok hyp (by omega) hk2) (List.Perm.refl _) ⟨(by repeat constructor), trivial⟩ fun _ _ => ?_
        refine r_assign rfl rfl ?_
        refine hl_nil ?_
        refine then_n ?_
        refine hc_cut ⟨fun _ : Unit => True, fun _ => [(3, .pointer (some ⟨gT, 0, none⟩)), (4, int i), (5, .pointer (some ⟨gX, 0, none⟩)), (7, .bool (aloneK (trOf cs hs) i (k + 1))), (8, int k), (9, int (whN (goneB (hs.map Hd.p) i) k))], fun _ => [], fun _ => (Blk gX (.cells #[.slice xa cs.length xc, .slice ya ys.length yc] T.api_Trades (0, 0)) :: Row ya (rows ys) :: Row xa (rows cs) :: RowsF ya ys Hd.row :: (Row HB (rows hs) :: [Blk gT (.cells #[.slice CA cs.length ca, .slice HB hs.length cb] T.api_Trades (0, 0)), Row CA (rows cs), RowsF HB hs Hd.row]))⟩ ?_ ?_
        ·skip
         refine hc_seq ?_
         refine hc_region ?_
         refine r_move rfl rfl ?_
         refine r_move rfl rfl ?_
         refine r_neq rfl rfl rfl ?_
         refine r_move rfl rfl ?_
         refine g_split rfl rfl ?_ ?_
         ·intro hg5; have hg5' := hg5; try simp at hg5'
          have g4 : ¬ (k : Int) = (i : Int) := of_decide_eq_true (eq_of_beq hg5)
          refine g_yes rfl rfl hg5 ?_
          first | refine r_fieldAddr ⟨_, 1, none⟩ rfl rfl T.fa_api_Trades_1 rfl ?_ | refine r_fieldAddr _ rfl rfl T.fa_api_Trades_1 rfl ?_
          refine g_yes rfl rfl hg5 ?_
          first | refine r_load rfl T.cell_L_api_Head rfl (cell_own (by repeat constructor) rfl) ?_ | refine r_load rfl T.cell_L_api_Head rfl (cell_blk (by repeat constructor) rfl) ?_ | refine r_load rfl T.cell_L_api_Head rfl (cell_row (by repeat constructor) (rows_get0 (by omega) rfl)) ?_ | refine r_load rfl T.cell_L_api_Head rfl (cell_row_f (by repeat constructor) (rows_get (by omega) rfl)) ?_ | refine r_load rfl T.cell_L_api_Head rfl (cell_rowg (by repeat constructor) rfl) ?_
          refine g_yes rfl rfl hg5 ?_
          refine r_move rfl rfl ?_
          refine g_yes rfl rfl hg5 ?_
          refine r_elem (α := Hd) hs k rfl T.u_L_api_Head T.sz_api_Head rfl rfl rfl (by repeat constructor) rfl hk2 (by decide) ?_
          refine g_yes rfl rfl hg5 ?_
          first | refine r_fieldAddr ⟨_, 1, none⟩ rfl rfl T.fa_api_Head_1 rfl ?_ | refine r_fieldAddr _ rfl rfl T.fa_api_Head_1 rfl ?_
          refine g_yes rfl rfl hg5 ?_
          refine r_load (v := int (hs.getD k default).2.1) rfl T.cell_int rfl (cell_row_f (by repeat constructor) (rows_get hk2 rfl)) ?_
          refine g_yes rfl rfl hg5 ?_
          refine r_geq rfl rfl rfl ?_
          refine p_t rfl rfl (bt1 hg5) rfl ?_
          refine r_move rfl rfl ?_
          refine g_split rfl rfl ?_ ?_
          ·intro hg6; have hg6' := hg6; try simp at hg6'
           have g13 : 0 ≤ (hs.getD k default).2.1 := of_decide_eq_true (eq_of_beq hg6)
           refine g_yes rfl rfl hg6 ?_
           refine r_move rfl rfl ?_
           refine g_yes rfl rfl hg6 ?_
           refine r_lss rfl rfl rfl ?_
           refine p_t rfl rfl (bt1 hg6) rfl ?_
           refine hl_nil ?_
           refine then_n ?_
           first | refine c_dec rfl (fun hb4 => ?_) (fun hb4 => ?_) | refine hc_cond rfl (fun hb4 => ?_) (fun hb4 => ?_)
           ·exfalso; rcases hgk k (wh_neg.1 hb4) with h9 | h9
            · exact g4 (by omega)
            · have h8 : (hs.getD k default).2.1 = -1 := by
               rw [show (trOf cs hs).hs.getD k default = (hs.getD k default).p from hd_get hk2] at h9
               exact h9
              omega
           ·have hb4' := hb4; try simp at hb4'
            refine hc_skip ?_
            exact cut_n _ () trivial ⟨rfl, rfl, rfl, rfl, rfl, rfl, trivial⟩ (List.nil_sublist _) ⟨(by repeat constructor), (by repeat constructor), (by repeat constructor), (by repeat constructor), (by repeat constructor), (by repeat constructor), (by repeat constructor), (by repeat constructor), trivial⟩
          ·intro hg6; have hg6' := hg6; try simp at hg6'
           refine g_no rfl rfl rfl rfl rfl hg6 ?_
           refine g_no rfl rfl rfl rfl rfl hg6 ?_
           refine p_f rfl rfl (bf2 hg6) rfl ?_
           refine hl_nil ?_
           refine then_n ?_
           refine c_f rfl rfl ?_
           refine hc_skip ?_
           exact cut_n _ () trivial ⟨rfl, rfl, rfl, rfl, rfl, rfl, trivial⟩ (List.nil_sublist _) ⟨(by repeat constructor), (by repeat constructor), (by repeat constructor), (by repeat constructor), (by repeat constructor), (by repeat constructor), (by repeat constructor), (by repeat constructor), trivial⟩
         ·intro hg5; have hg5' := hg5; try simp at hg5'
          refine g_no rfl rfl rfl rfl rfl hg5 ?_
          refine g_no rfl rfl rfl rfl rfl hg5 ?_
          refine g_no rfl rfl rfl rfl rfl hg5 ?_
          refine g_no rfl rfl rfl rfl rfl hg5 ?_
          refine g_no rfl rfl rfl rfl rfl hg5 ?_
          refine g_no rfl rfl rfl rfl rfl hg5 ?_
          refine g_no rfl rfl rfl rfl rfl hg5 ?_
          refine p_f rfl rfl (bf2 hg5) rfl ?_
          refine r_move rfl rfl ?_
          refine g_no rfl rfl rfl rfl rfl rfl ?_
          refine g_no rfl rfl rfl rfl rfl rfl ?_
          refine p_f rfl rfl rfl rfl ?_
          refine hl_nil ?_
          refine then_n ?_
          refine c_f rfl rfl ?_
          refine hc_skip ?_
          exact cut_n _ () trivial ⟨rfl, rfl, rfl, rfl, rfl, rfl, trivial⟩ (List.nil_sublist _) ⟨(by repeat constructor), (by repeat constructor), (by repeat constructor), (by repeat constructor), (by repeat constructor), (by repeat constructor), (by repeat constructor), (by repeat constructor), trivial⟩
        ·refine fun _ _ => ?_
         refine hc_seq ?_
         refine hc_seq ?_
         refine hc_region ?_
         refine r_move rfl rfl ?_
         refine r_lss rfl rfl rfl ?_
         refine hl_nil ?_
         refine then_n ?_
         first | refine c_dec rfl (fun hb5 => ?_) (fun hb5 => ?_) | refine hc_cond rfl (fun hb5 => ?_) (fun hb5 => ?_)
         ·have hb5' := hb5; try simp at hb5'
          refine hc_exit ?_
          refine then_exit ?_
          refine inb_hit ?_
          refine then_n ?_
          refine hc_region ?_
          refine r_move rfl rfl ?_
          refine r_add _ rfl rfl rfl rfl (by unfold I64; omega) ?_
          refine r_assign rfl rfl ?_
          refine hl_nil ?_
          exact again _ (k + 1) (by show k + 1 ≤ hs.length; omega) (by show hs.length - (k + 1) < hs.length - k; omega) ⟨rfl, rfl, rfl, rfl, rfl, trivial⟩ (List.nil_sublist _) ⟨(by repeat constructor), (by repeat constructor), (by repeat constructor), (by repeat constructor), (by repeat constructor), (by repeat constructor), (by repeat constructor), (by repeat constructor), trivial⟩
         ·have hb5' := hb5; try simp at hb5'
          have hg : (goneB (hs.map Hd.p) i) k = false := by cases h9 : (goneB (hs.map Hd.p) i) k with
           | false => rfl
           | true => exact absurd (wh_neg.2 h9) hb5
          have hWk := wh_is hg
          have hnl : (numN (goneB (hs.map Hd.p) i) k) < ys.length := by
            have h1 := num_lt hg hk2
            have h2 : ys.length = (numN (goneB (hs.map Hd.p) i) hs.length) := by
              have h3 := congrArg List.length hyp
              rw [List.length_map] at h3
              rw [h3]
              show (dropHs _ _ _).length = _
              rw [dropHs_len, hln]
            omega
          have hyk : (ys.getD (numN (goneB (hs.map Hd.p) i) k) default).p = dropP (goneB (hs.map Hd.p) i) (hs.getD k default).p := by
            rw [← hd_get hnl, hyp, ← hd_get hk2]
            exact dropHs_at (by rw [hln]; exact hk2) hg
          refine hc_skip ?_
          refine then_n ?_
          refine hc_seq ?_
          refine hc_seq ?_
          refine hc_draw 12 mixed (by decide) (by decide) rfl rfl ?_
          apply hb_ex _ rfl rfl rfl
          ·intro w1
           first | refine r_fieldAddr ⟨_, 1, none⟩ rfl rfl T.fa_api_Trades_1 rfl ?_ | refine r_fieldAddr _ rfl rfl T.fa_api_Trades_1 rfl ?_
           refine hl_nil ?_
           exact qe_done rfl
          apply hb_ex _ rfl rfl rfl
          ·intro w1
           first | refine r_load rfl T.cell_L_api_Head rfl (cell_blk (by repeat constructor) rfl) ?_ | refine r_load rfl T.cell_L_api_Head rfl (cell_own (by repeat constructor) rfl) ?_ | refine r_load rfl T.cell_L_api_Head rfl (cell_row (by repeat constructor) (rows_get0 (by omega) rfl)) ?_ | refine r_load rfl T.cell_L_api_Head rfl (cell_row_f (by repeat constructor) (rows_get (by omega) rfl)) ?_ | refine r_load rfl T.cell_L_api_Head rfl (cell_rowg (by repeat constructor) rfl) ?_
           refine hl_nil ?_
           exact qe_done rfl
          apply hb_ex _ rfl rfl rfl
          ·intro w1
           refine r_move rfl rfl ?_
           refine hl_nil ?_
           exact qe_done rfl
          apply hb_ex _ rfl rfl rfl
          ·intro w1
           refine r_elem (α := Hd) ys (numN (goneB (hs.map Hd.p) i) k) rfl T.u_L_api_Head T.sz_api_Head rfl rfl hWk (by repeat constructor) rfl hnl (by decide) ?_
           refine hl_nil ?_
           exact qe_done rfl
          apply hb_ex _ rfl rfl rfl
          ·intro w1
           first | refine r_fieldAddr ⟨_, 1, none⟩ rfl rfl T.fa_api_Head_1 rfl ?_ | refine r_fieldAddr _ rfl rfl T.fa_api_Head_1 rfl ?_
           refine hl_nil ?_
           exact qe_done rfl
          apply hb_ex _ rfl rfl rfl
          ·intro w1
           refine r_load (v := int (ys.getD (numN (goneB (hs.map Hd.p) i) k) default).2.1) rfl T.cell_int rfl (cell_row_f (by repeat constructor) (rows_get hnl rfl)) ?_
           refine hl_nil ?_
           exact qe_done rfl
          apply hb_ex _ rfl rfl rfl
          ·intro w1
           first | refine r_fieldAddr ⟨_, 1, none⟩ rfl rfl T.fa_api_Trades_1 rfl ?_ | refine r_fieldAddr _ rfl rfl T.fa_api_Trades_1 rfl ?_
           refine hl_nil ?_
           exact qe_done rfl
          apply hb_ex _ rfl rfl rfl
          ·intro w1
           first | refine r_load rfl T.cell_L_api_Head rfl (cell_blk (by repeat constructor) rfl) ?_ | refine r_load rfl T.cell_L_api_Head rfl (cell_own (by repeat constructor) rfl) ?_ | refine r_load rfl T.cell_L_api_Head rfl (cell_row (by repeat constructor) (rows_get0 (by omega) rfl)) ?_ | refine r_load rfl T.cell_L_api_Head rfl (cell_row_f (by repeat constructor) (rows_get (by omega) rfl)) ?_ | refine r_load rfl T.cell_L_api_Head rfl (cell_rowg (by repeat constructor) rfl) ?_
           refine hl_nil ?_
           exact qe_done rfl
          apply hb_ex _ rfl rfl rfl
          ·intro w1
           refine r_move rfl rfl ?_
           refine hl_nil ?_
           exact qe_done rfl
          apply hb_ex _ rfl rfl rfl
          ·intro w1
           refine r_elem (α := Hd) hs k rfl T.u_L_api_Head T.sz_api_Head rfl rfl rfl (by repeat constructor) rfl hk2 (by decide) ?_
           refine hl_nil ?_
           exact qe_done rfl
          apply hb_ex _ rfl rfl rfl
          ·intro w1
           first | refine r_fieldAddr ⟨_, 1, none⟩ rfl rfl T.fa_api_Head_1 rfl ?_ | refine r_fieldAddr _ rfl rfl T.fa_api_Head_1 rfl ?_
           refine hl_nil ?_
           exact qe_done rfl
          apply hb_ex _ rfl rfl rfl
          ·intro w1
           refine r_load (v := int (hs.getD k default).2.1) rfl T.cell_int rfl (cell_row_f (by repeat constructor) (rows_get hk2 rfl)) ?_
           refine hl_nil ?_
           exact qe_done rfl
          refine hb_nil ⟨rfl, ?_⟩
          refine r_neq rfl rfl rfl ?_
          refine hl_nil ?_
          refine then_n ?_
          first | refine c_dec rfl (fun hb6 => ?_) (fun hb6 => ?_) | refine hc_cond rfl (fun hb6 => ?_) (fun hb6 => ?_)
          ·exact absurd (congrArg (fun q : PH => q.2.1) hyk) hb6
          ·have hb6' := hb6; try simp at hb6'
           refine hc_skip ?_
           refine then_n ?_
           refine hc_seq ?_
           refine hc_region ?_
           refine r_assign rfl rfl ?_
           refine hl_nil ?_
           refine then_n ?_
           refine hc_block ?_
           refine hc_loop (β := Nat) ⟨fun j => j ≤ hs.length, fun j => [(3, .pointer (some ⟨gT, 0, none⟩)), (4, int i), (5, .pointer (some ⟨gX, 0, none⟩)), (7, .bool (aloneK (trOf cs hs) i (k + 1))), (8, int k), (9, int (whN (goneB (hs.map Hd.p) i) k)), (10, int j)], fun _ => [], fun _ => (Blk gX (.cells #[.slice xa cs.length xc, .slice ya ys.length yc] T.api_Trades (0, 0)) :: Row ya (rows ys) :: Row xa (rows cs) :: RowsF ya ys Hd.row :: (Row HB (rows hs) :: [Blk gT (.cells #[.slice CA cs.length ca, .slice HB hs.length cb] T.api_Trades (0, 0)), Row CA (rows cs), RowsF HB hs Hd.row]))⟩ (fun j => hs.length - j) 0 (Nat.zero_le _) ⟨rfl, rfl, rfl, rfl, rfl, rfl, rfl, trivial⟩ (List.nil_sublist _) ⟨(by repeat constructor), (by repeat constructor), (by repeat constructor), (by repeat constructor), (by repeat constructor), (by repeat constructor), (by repeat constructor), (by repeat constructor), trivial⟩ fun j hj => ?_
           simp only at hj
           refine hc_seq ?_
           refine hc_seq ?_
           refine hc_region ?_
           refine r_move rfl rfl ?_
           first | refine r_fieldAddr ⟨_, 1, none⟩ rfl rfl T.fa_api_Trades_1 rfl ?_ | refine r_fieldAddr _ rfl rfl T.fa_api_Trades_1 rfl ?_
           first | refine r_load rfl T.cell_L_api_Head rfl (cell_own (by repeat constructor) rfl) ?_ | refine r_load rfl T.cell_L_api_Head rfl (cell_blk (by repeat constructor) rfl) ?_ | refine r_load rfl T.cell_L_api_Head rfl (cell_row (by repeat constructor) (rows_get0 (by omega) rfl)) ?_ | refine r_load rfl T.cell_L_api_Head rfl (cell_row_f (by repeat constructor) (rows_get (by omega) rfl)) ?_ | refine r_load rfl T.cell_L_api_Head rfl (cell_rowg (by repeat constructor) rfl) ?_
           refine r_len_sl rfl T.u_L_api_Head rfl ?_
           refine r_lss rfl rfl rfl ?_
           refine hl_nil ?_
           refine then_n ?_
           first | refine c_dec rfl (fun hb7 => ?_) (fun hb7 => ?_) | refine hc_cond rfl (fun hb7 => ?_) (fun hb7 => ?_)
           ·have hb7' := hb7; try simp at hb7'
            have hj2 : j < hs.length := by omega
            refine hc_skip ?_
            refine then_n ?_
            refine hc_seq ?_
            refine hc_block ?_
            refine hc_seq ?_
            refine hc_draw 7 mixed (by decide) (by decide) rfl rfl ?_
            apply hb_ex _ rfl rfl rfl
            ·intro w1
             first | refine r_loadA rfl T.row_api_Trades T.sz_api_Trades rfl (by repeat constructor) (by rfl) ?_ | refine r_loadB rfl T.row_api_Trades T.sz_api_Trades rfl (by repeat constructor) (by rfl) ?_ | refine r_loadS rfl T.row_api_Trades T.sz_api_Trades rfl rfl (cells_row (by repeat constructor) (rows_all (by omega))) ?_
             refine hl_nil ?_
             exact qe_done rfl
            apply hb_ex _ rfl rfl rfl
            ·intro w1
             first | refine r_fieldAddr ⟨_, 1, none⟩ rfl rfl T.fa_api_Trades_1 rfl ?_ | refine r_fieldAddr _ rfl rfl T.fa_api_Trades_1 rfl ?_
             refine hl_nil ?_
             exact qe_done rfl
            apply hb_ex _ rfl rfl rfl
            ·intro w1
             first | refine r_load rfl T.cell_L_api_Head rfl (cell_blk (by repeat constructor) rfl) ?_ | refine r_load rfl T.cell_L_api_Head rfl (cell_own (by repeat constructor) rfl) ?_ | refine r_load rfl T.cell_L_api_Head rfl (cell_row (by repeat constructor) (rows_get0 (by omega) rfl)) ?_ | refine r_load rfl T.cell_L_api_Head rfl (cell_row_f (by repeat constructor) (rows_get (by omega) rfl)) ?_ | refine r_load rfl T.cell_L_api_Head rfl (cell_rowg (by repeat constructor) rfl) ?_
             refine hl_nil ?_
             exact qe_done rfl
            apply hb_ex _ rfl rfl rfl
            ·intro w1
             refine r_move rfl rfl ?_
             refine hl_nil ?_
             exact qe_done rfl
            apply hb_ex _ rfl rfl rfl
            ·intro w1
             refine r_elem (α := Hd) hs j rfl T.u_L_api_Head T.sz_api_Head rfl rfl rfl (by repeat constructor) rfl hj2 (by decide) ?_
             refine hl_nil ?_
             exact qe_done rfl
            apply hb_ex _ rfl rfl rfl
            ·intro w1
             first | refine r_fieldAddr ⟨_, 0, none⟩ rfl rfl T.fa_api_Head_0 rfl ?_ | refine r_fieldAddr _ rfl rfl T.fa_api_Head_0 rfl ?_
             refine hl_nil ?_
             exact qe_done rfl
            apply hb_ex _ rfl rfl rfl
            ·intro w1
             refine r_load (v := str (hs.getD j default).1) rfl T.cell_string rfl (cell_row_f (by repeat constructor) (rows_get hj2 rfl)) ?_
             refine hl_nil ?_
             exact qe_done rfl
            refine hb_nil ⟨rfl, ?_⟩
            refine hl_call F.law04_word_cb rfl rfl (word_drop (A := xa) (B := ya) (ca := xc) (cb := yc) (k := j) hok hyp (by omega) hj2) (List.Perm.refl _) ⟨(by repeat constructor), trivial⟩ fun _ _ => ?_
            refine r_assign rfl rfl ?_
            refine hl_nil ?_
            refine then_n ?_
            refine hc_seq ?_
            refine hc_draw 10 mixed (by decide) (by decide) rfl rfl ?_
            apply hb_ex _ rfl rfl rfl
            ·intro w1
             refine r_move rfl rfl ?_
             refine hl_nil ?_
             exact qe_done rfl
            apply hb_ex _ rfl rfl rfl
            ·intro w1
             refine r_geq rfl rfl rfl ?_
             refine hl_nil ?_
             exact qe_done rfl
            apply hb_ex _ rfl rfl rfl
            ·intro w1
             refine r_move rfl rfl ?_
             refine hl_nil ?_
             exact qe_done rfl
            refine hb_split (t := 126) (want := true) rfl ?_ ?_
            ·intro hg7; have hg7' := hg7; try simp at hg7'
             have g3 : 0 ≤ (whN (goneB (hs.map Hd.p) i) j) := of_decide_eq_true (eq_of_beq hg7)
             have hgj : (goneB (hs.map Hd.p) i) j = false := by cases h9 : (goneB (hs.map Hd.p) i) j with
              | false => rfl
              | true => exact absurd (wh_neg.2 h9) (by omega)
             have hWj := wh_is hgj
             have hdn := drop_next hok hit (show k < (trOf cs hs).hs.length by rw [hln]; exact hk2) (show j < (trOf cs hs).hs.length by rw [hln]; exact hj2) hg hgj
             rw [← hX] at hdn
             change nextB (trOf cs ys) (numN (goneB (hs.map Hd.p) i) k) (numN (goneB (hs.map Hd.p) i) j) = nextB (trOf cs hs) k j at hdn
             apply hb_ex _ rfl rfl rfl
             ·intro w1
              refine g_yes rfl rfl hg7 ?_
              first | refine r_loadA rfl T.row_api_Trades T.sz_api_Trades rfl (by repeat constructor) (by rfl) ?_ | refine r_loadB rfl T.row_api_Trades T.sz_api_Trades rfl (by repeat constructor) (by rfl) ?_ | refine r_loadS rfl T.row_api_Trades T.sz_api_Trades rfl rfl (cells_row (by repeat constructor) (rows_all (by omega))) ?_
              refine hl_nil ?_
              exact qe_done rfl
             apply hb_ex _ rfl rfl rfl
             ·intro w1
              refine g_yes rfl rfl hg7 ?_
              refine r_move rfl rfl ?_
              refine hl_nil ?_
              exact qe_done rfl
             apply hb_ex _ rfl rfl rfl
             ·intro w1
              refine g_yes rfl rfl hg7 ?_
              refine r_move rfl rfl ?_
              refine hl_nil ?_
              exact qe_done rfl
             apply hb_ex _ rfl rfl rfl
             ·intro w1
              refine g_yes rfl rfl hg7 ?_
              refine hl_call F.law04_leads_cb rfl rfl (law04_leads_meets (A := CA) (B := HB) (ca := ca) (cb := cb) cs hs k j hk2 ha) (List.Perm.refl _) ⟨(by repeat constructor), trivial⟩ fun _ _ => ?_
              refine hl_nil ?_
              exact qe_done rfl
             apply hb_ex _ rfl rfl rfl
             ·intro w1
              refine g_yes rfl rfl hg7 ?_
              first | refine r_loadA rfl T.row_api_Trades T.sz_api_Trades rfl (by repeat constructor) (by rfl) ?_ | refine r_loadB rfl T.row_api_Trades T.sz_api_Trades rfl (by repeat constructor) (by rfl) ?_ | refine r_loadS rfl T.row_api_Trades T.sz_api_Trades rfl rfl (cells_row (by repeat constructor) (rows_all (by omega))) ?_
              refine hl_nil ?_
              exact qe_done rfl
             apply hb_ex _ rfl rfl rfl
             ·intro w1
              refine g_yes rfl rfl hg7 ?_
              refine r_move rfl rfl ?_
              refine hl_nil ?_
              exact qe_done rfl
             apply hb_ex _ rfl rfl rfl
             ·intro w1
              refine g_yes rfl rfl hg7 ?_
              refine r_move rfl rfl ?_
              refine hl_nil ?_
              exact qe_done rfl
             refine hb_nil ⟨rfl, ?_⟩
             refine g_yes rfl rfl hg7 ?_
             refine hl_call (vs := [.agg #[.slice xa cs.length xc, .slice ya ys.length yc], int ((numN (goneB (hs.map Hd.p) i) k) : Int), int ((numN (goneB (hs.map Hd.p) i) j) : Int)]) F.law04_leads_cb rfl (by rw [← hWk, ← hWj]; rfl) (law04_leads_meets (A := xa) (B := ya) (ca := xc) (cb := yc) cs ys (numN (goneB (hs.map Hd.p) i) k) (numN (goneB (hs.map Hd.p) i) j) hnl hya) (List.Perm.refl _) ⟨(by repeat constructor), trivial⟩ fun _ _ => ?_
             refine g_yes rfl rfl hg7 ?_
             refine r_bneq rfl T.u_bool rfl rfl ?_
             refine p_t rfl rfl (bt1 hg7) rfl ?_
             refine hl_nil ?_
             refine then_n ?_
             first | refine c_dec rfl (fun hb8 => ?_) (fun hb8 => ?_) | refine hc_cond rfl (fun hb8 => ?_) (fun hb8 => ?_)
             ·exfalso; rw [hdn] at hb8; simp at hb8
             ·have hb8' := hb8; try simp at hb8'
              refine hc_skip ?_
              refine inb_n ?_
              refine then_n ?_
              refine hc_region ?_
              refine r_move rfl rfl ?_
              refine r_add _ rfl rfl rfl rfl (by unfold I64; omega) ?_
              refine r_assign rfl rfl ?_
              refine hl_nil ?_
              exact again _ (j + 1) (by show j + 1 ≤ hs.length; omega) (by show hs.length - (j + 1) < hs.length - j; omega) ⟨rfl, rfl, rfl, rfl, rfl, rfl, rfl, trivial⟩ (List.nil_sublist _) ⟨(by repeat constructor), (by repeat constructor), (by repeat constructor), (by repeat constructor), (by repeat constructor), (by repeat constructor), (by repeat constructor), (by repeat constructor), trivial⟩
            ·intro hg7; have hg7' := hg7; try simp at hg7'
             apply hb_ex _ rfl rfl rfl
             ·intro w1
              refine g_no rfl rfl rfl rfl rfl hg7 ?_
              refine hl_nil ?_
              exact qe_done rfl
             apply hb_ex _ rfl rfl rfl
             ·intro w1
              refine g_no rfl rfl rfl rfl rfl hg7 ?_
              refine hl_nil ?_
              exact qe_done rfl
             apply hb_ex _ rfl rfl rfl
             ·intro w1
              refine g_no rfl rfl rfl rfl rfl hg7 ?_
              refine hl_nil ?_
              exact qe_done rfl
             apply hb_ex _ rfl rfl rfl
             ·intro w1
              refine g_no rfl rfl rfl rfl rfl hg7 ?_
              refine hl_nil ?_
              exact qe_done rfl
             apply hb_ex _ rfl rfl rfl
             ·intro w1
              refine g_no rfl rfl rfl rfl rfl hg7 ?_
              refine hl_nil ?_
              exact qe_done rfl
             apply hb_ex _ rfl rfl rfl
             ·intro w1
              refine g_no rfl rfl rfl rfl rfl hg7 ?_
              refine hl_nil ?_
              exact qe_done rfl
             apply hb_ex _ rfl rfl rfl
             ·intro w1
              refine g_no rfl rfl rfl rfl rfl hg7 ?_
              refine hl_nil ?_
              exact qe_done rfl
             refine hb_nil ⟨rfl, ?_⟩
             refine g_no rfl rfl rfl rfl rfl hg7 ?_
             refine g_no rfl rfl rfl rfl rfl hg7 ?_
             refine p_f rfl rfl (bf2 hg7) rfl ?_
             refine hl_nil ?_
             refine then_n ?_
             refine c_f rfl rfl ?_
             refine hc_skip ?_
             refine inb_n ?_
             refine then_n ?_
             refine hc_region ?_
             refine r_move rfl rfl ?_
             refine r_add _ rfl rfl rfl rfl (by unfold I64; omega) ?_
             refine r_assign rfl rfl ?_
             refine hl_nil ?_
             exact again _ (j + 1) (by show j + 1 ≤ hs.length; omega) (by show hs.length - (j + 1) < hs.length - j; omega) ⟨rfl, rfl, rfl, rfl, rfl, rfl, rfl, trivial⟩ (List.nil_sublist _) ⟨(by repeat constructor), (by repeat constructor), (by repeat constructor), (by repeat constructor), (by repeat constructor), (by repeat constructor), (by repeat constructor), (by repeat constructor), trivial⟩
           ·have hb7' := hb7; try simp at hb7'
            refine hc_exit ?_
            refine then_exit ?_
            refine then_exit ?_
            refine inb_hit ?_
            refine inb_n ?_
            refine then_n ?_
            refine hc_region ?_
            refine r_move rfl rfl ?_
            refine r_add _ rfl rfl rfl rfl (by unfold I64; omega) ?_
            refine r_assign rfl rfl ?_
            refine hl_nil ?_
            exact again _ (k + 1) (by show k + 1 ≤ hs.length; omega) (by show hs.length - (k + 1) < hs.length - k; omega) ⟨rfl, rfl, rfl, rfl, rfl, trivial⟩ (List.nil_sublist _) ⟨(by repeat constructor), (by repeat constructor), (by repeat constructor), (by repeat constructor), (by repeat constructor), (by repeat constructor), (by repeat constructor), (by repeat constructor), trivial⟩
      ·have hb3' := hb3; try simp at hb3'
       obtain rfl : k = hs.length := by omega
       refine hc_exit ?_
       refine then_exit ?_
       refine then_exit ?_
       refine inb_hit ?_
       refine then_n ?_
       refine hc_seq ?_
       refine hc_region ?_
       refine r_move rfl rfl ?_
       refine r_move rfl rfl ?_
       refine g_split rfl rfl ?_ ?_
       ·intro hg8; have hg8' := hg8; try simp at hg8'
        have g2 : aloneK (trOf cs hs) i hs.length = true := by simpa using hg8
        refine g_yes rfl rfl hg8 ?_
        first | refine r_fieldAddr ⟨_, 1, none⟩ rfl rfl T.fa_api_Trades_1 rfl ?_ | refine r_fieldAddr _ rfl rfl T.fa_api_Trades_1 rfl ?_
        refine g_yes rfl rfl hg8 ?_
        first | refine r_load rfl T.cell_L_api_Head rfl (cell_own (by repeat constructor) rfl) ?_ | refine r_load rfl T.cell_L_api_Head rfl (cell_blk (by repeat constructor) rfl) ?_ | refine r_load rfl T.cell_L_api_Head rfl (cell_row (by repeat constructor) (rows_get0 (by omega) rfl)) ?_ | refine r_load rfl T.cell_L_api_Head rfl (cell_row_f (by repeat constructor) (rows_get (by omega) rfl)) ?_ | refine r_load rfl T.cell_L_api_Head rfl (cell_rowg (by repeat constructor) rfl) ?_
        refine g_yes rfl rfl hg8 ?_
        refine r_len_sl rfl T.u_L_api_Head rfl ?_
        refine g_yes rfl rfl hg8 ?_
        first | refine r_fieldAddr ⟨_, 1, none⟩ rfl rfl T.fa_api_Trades_1 rfl ?_ | refine r_fieldAddr _ rfl rfl T.fa_api_Trades_1 rfl ?_
        refine g_yes rfl rfl hg8 ?_
        first | refine r_load rfl T.cell_L_api_Head rfl (cell_own (by repeat constructor) rfl) ?_ | refine r_load rfl T.cell_L_api_Head rfl (cell_blk (by repeat constructor) rfl) ?_ | refine r_load rfl T.cell_L_api_Head rfl (cell_row (by repeat constructor) (rows_get0 (by omega) rfl)) ?_ | refine r_load rfl T.cell_L_api_Head rfl (cell_row_f (by repeat constructor) (rows_get (by omega) rfl)) ?_ | refine r_load rfl T.cell_L_api_Head rfl (cell_rowg (by repeat constructor) rfl) ?_
        refine g_yes rfl rfl hg8 ?_
        refine r_len_sl rfl T.u_L_api_Head rfl ?_
        refine g_yes rfl rfl hg8 ?_
        refine r_sub _ rfl rfl rfl rfl (by unfold I64; omega) ?_
        refine g_yes rfl rfl hg8 ?_
        refine r_neq rfl rfl rfl ?_
        refine p_t rfl rfl (bt1 hg8) rfl ?_
        refine hl_nil ?_
        refine then_n ?_
        first | refine c_dec rfl (fun hb9 => ?_) (fun hb9 => ?_) | refine hc_cond rfl (fun hb9 => ?_) (fun hb9 => ?_)
        ·exact absurd (by have h1 := drop_one hok hit (by rw [hln]; exact alone_no g2); rw [← hX, hs_len, hln] at h1; omega) hb9
        ·have hb9' := hb9; try simp at hb9'
         refine hc_skip ?_
         refine inb_n ?_
         refine then_n ?_
         refine hc_region ?_
         refine r_move rfl rfl ?_
         refine r_add _ rfl rfl rfl rfl (by unfold I64; omega) ?_
         refine r_assign rfl rfl ?_
         refine hl_nil ?_
         exact again _ (i + 1) (by show i + 1 ≤ hs.length; omega) (by show hs.length - (i + 1) < hs.length - i; omega) ⟨rfl, rfl, trivial⟩ (List.nil_sublist _) ⟨(by repeat constructor), (by repeat constructor), (by repeat constructor), (by repeat constructor), trivial⟩
       ·intro hg8; have hg8' := hg8; try simp at hg8'
        refine g_no rfl rfl rfl rfl rfl hg8 ?_
        refine g_no rfl rfl rfl rfl rfl hg8 ?_
        refine g_no rfl rfl rfl rfl rfl hg8 ?_
        refine g_no rfl rfl rfl rfl rfl hg8 ?_
        refine g_no rfl rfl rfl rfl rfl hg8 ?_
        refine g_no rfl rfl rfl rfl rfl hg8 ?_
        refine g_no rfl rfl rfl rfl rfl hg8 ?_
        refine g_no rfl rfl rfl rfl rfl hg8 ?_
        refine p_f rfl rfl (bf2 hg8) rfl ?_
        refine hl_nil ?_
        refine then_n ?_
        refine c_f rfl rfl ?_
        refine hc_skip ?_
        refine inb_n ?_
        refine then_n ?_
        refine hc_region ?_
        refine r_move rfl rfl ?_
        refine r_add _ rfl rfl rfl rfl (by unfold I64; omega) ?_
        refine r_assign rfl rfl ?_
        refine hl_nil ?_
        exact again _ (i + 1) (by show i + 1 ≤ hs.length; omega) (by show hs.length - (i + 1) < hs.length - i; omega) ⟨rfl, rfl, trivial⟩ (List.nil_sublist _) ⟨(by repeat constructor), (by repeat constructor), (by repeat constructor), (by repeat constructor), trivial⟩
    ·intro hg3; have hg3' := hg3; try simp at hg3'
   ·intro hg2; have hg2' := hg2; try simp at hg2'
  ·intro hg1; have hg1' := hg1; try simp at hg1'
 ·have hb1' := hb1; try simp at hb1'
  refine hc_exit ?_
  refine then_exit ?_
  refine then_exit ?_
  refine inb_hit ?_
  refine then_n ?_
  refine hc_seq ?_
  refine hc_region ?_
  refine hl_call F.law04_indexed_cb rfl rfl (law04_indexed_meets) (List.Perm.refl _) trivial fun _ _ => ?_
  refine r_assign rfl rfl ?_
  refine hl_nil ?_
  refine then_n ?_
  refine hc_ret ?_
  exact ret1 () rfl rfl rfl trivial (List.nil_sublist _) trivial

end Go.Proofs.Ytlpgheniajdkfaa
