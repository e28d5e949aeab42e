/- Texts. -/

import Derived.Test.YtpfbbggmcbhboaaBAj
import Derived.Test.YtpfbbggmcbhboaaBAf
import Derived.Test.YtpfbbggmcbhboaaBAi
set_option linter.unusedVariables false
set_option linter.unusedSimpArgs false
section
namespace Go.Proofs.Ytpfbbggmcbhboaa
open Go Go.W
set_option maxRecDepth 20000
attribute [local irreducible] HL HC HQ HB Row Rows2 Blk Facts
def pressO (g : Nat) (o : OutC) (lines : List Str) (nx : Int) : Nat × Obj := (g, .cells #[.slice o.1 lines.length o.2, int nx] T.proof_press (0, 0))
def deedL (m : Mk) (lines : List Str) : List Str := if m.1 = 3 then lines else lines ++ [m.2.2]
def deedN (m : Mk) (nx : Int) : Int := if m.1 = 1 then nx else m.2.1 + 1
abbrev GrowS (o : OutC) (l : List Str) (og : Hp) : Prop := Grow T.string 1 o.1 l.length o.2 (rows l) og
def deedCon (g : Nat) (o : OutC) (og : Hp) (lines : List Str) (nx : Int) (m : Mk) : Con (OutC × Hp) :=
  { hpI := pressO g o lines nx :: og, inv := fun x => GrowS x.1 (deedL m lines) x.2, val := fun _ => .tuple #[], hpO := fun x => pressO g x.1 (deedL m lines) (deedN m nx) :: x.2 }
theorem perm_last2 {α : Type} (l : List α) (a b : α) : (l ++ [a, b]).Perm (b :: (l ++ [a])) := by
  have : l ++ [a, b] = (l ++ [a]) ++ [b] := by simp
  rw [this]; exact List.perm_append_comm
theorem perm_last1 {α : Type} (l : List α) (a : α) : (l ++ [a]).Perm (a :: l) := List.perm_append_comm
theorem len_snoc {α : Type} (l : List α) (a : α) : (l ++ [a]).length = l.length + 1 := by simp
theorem proof_deeds_1_meets {g : Nat} {o : OutC} {og : Hp} {lines : List Str} {nx : Int} (m : Mk) (hG : GrowS o lines og) (hl : lines.length ≤ 1000) (hk : m.1 = 1) : Meets Try.prog F.proof_deeds_1 [.pointer (some ⟨g, 0, none⟩), .agg #[int m.1, int m.2.1, str m.2.2]] (deedCon g o og lines nx m) := by
 have eL : deedL m lines = lines ++ [m.2.2] := by simp [deedL, hk]
 have eN : deedN m nx = nx := by simp [deedN, hk]
 unfold deedCon; rw [eL, eN]; unfold pressO GrowS; rw [len_snoc]; refine meets_intro F.proof_deeds_1_f rfl (Nat.le_of_ble_eq_true rfl) fun w0 => ?_; refine hc_seq (hc_region ?_); refine r_box rfl rfl fun gB => ?_; refine hl_nil (then_n ?_); refine hc_drawW (og) ([_, _]) (List.perm_append_comm (l₁ := [_, _])) 9 [8] mixed (by decide) (by decide) (by decide) rfl rfl rfl ?_; refine hb_ex _ rfl rfl rfl (fun w1 => r_move rfl rfl (hl_nil (qe_done rfl))) ?_; refine hb_ex _ rfl rfl rfl (fun w1 => r_move rfl rfl (hl_nil (qe_done rfl))) ?_; refine hb_ex _ rfl rfl rfl (fun w1 => r_nilCheck rfl rfl (hl_nil (qe_done rfl))) ?_
 apply hb_ex _ rfl rfl rfl
 ·intro w1
  first | refine r_fieldAddr ⟨_, 0, none⟩ rfl rfl T.fa_proof_press_0 rfl ?_ | refine r_fieldAddr _ rfl rfl T.fa_proof_press_0 rfl ?_
  refine hl_nil ?_; exact qe_done rfl
 apply hb_ex _ rfl rfl rfl
 ·intro w1
  first | refine r_load rfl T.cell_strs rfl (cell_blk mB rfl) ?_ | refine r_load rfl T.cell_strs rfl (cell_own mB rfl) ?_ | refine r_load rfl T.cell_strs rfl (cell_row mB (rows_get0 (by omega) rfl)) ?_ | refine r_load rfl T.cell_strs rfl (cell_row_f mB (rows_get (by omega) rfl)) ?_
  refine hl_nil ?_; exact qe_done rfl
 apply hb_ex _ rfl rfl rfl
 ·intro w1
  first | refine r_fieldAddr ⟨_, 2, none⟩ rfl rfl T.fa_api_Mark_2 rfl ?_ | refine r_fieldAddr _ rfl rfl T.fa_api_Mark_2 rfl ?_
  refine hl_nil ?_; exact qe_done rfl
 apply hb_ex _ rfl rfl rfl
 ·intro w1
  first | refine r_load rfl T.cell_string rfl (cell_blk mB rfl) ?_ | refine r_load rfl T.cell_string rfl (cell_own mB rfl) ?_ | refine r_load rfl T.cell_string rfl (cell_row mB (rows_get0 (by omega) rfl)) ?_ | refine r_load rfl T.cell_string rfl (cell_row_f mB (rows_get (by omega) rfl)) ?_
  refine hl_nil ?_; exact qe_done rfl
 refine hb_vs ⟨Nat, fun _ => True, fun g1 => .slice (some ⟨g1, 0, none⟩) 1 1, fun g1 => [Row (some ⟨g1, 0, none⟩) (rows [m.2.2])]⟩ rfl rfl rfl ?_ ?_
 ·intro w1; refine r_buildSlice _ rfl rfl (fun _ => T.bs_strs_1 ..) fun gS => ?_; refine hl_nil ?_; refine hq_letgo (rows [m.2.2]) (List.prefix_refl _) ?_; exact qv_done gS trivial rfl ⟨m0, trivial⟩
 refine hb_wr ⟨OutC × Hp, fun x => Grow T.string 1 x.1.1 (lines.length + 1) x.1.2 (rows (lines ++ [m.2.2])) x.2, fun x => .slice x.1.1 (lines.length + 1) x.1.2, fun _ => [], fun x => x.2⟩ rfl rfl rfl ?_ ?_
 ·intro g1 _; intro w1; refine r_append (lines.length + 1) (rows (lines ++ [m.2.2])) T.el_strs rfl rfl rfl hG (hp' := []) (by rw [List.append_nil]) (Src.row (news := rows [m.2.2]) (m := 1) m0 rfl (rows_one _) (by decide)) rfl (rows_append lines [m.2.2]).symm (by unfold maxLen; omega) (by omega) fun A' c' og' hG' => ?_; refine hl_nil ?_; exact qw_done ((A', c'), og') hG' (fun _ => rfl) (List.sublist_append_left _ _) trivial
 refine hb_nil ⟨rfl, ?_⟩; intro g1 _ x hx; refine r_nilCheck rfl rfl ?_
 first | refine r_fieldAddr ⟨_, 0, none⟩ rfl rfl T.fa_proof_press_0 rfl ?_ | refine r_fieldAddr _ rfl rfl T.fa_proof_press_0 rfl ?_
 refine r_store rfl rfl (perm_last2 _ _ _) T.sz_strs (by rfl) (by rfl) ?_; refine hl_nil ?_; exact ret0n x rfl rfl rfl hx ((List.sublist_append_left _ _).cons_cons _) trivial
theorem proof_deeds_2_meets {g : Nat} {o : OutC} {og : Hp} {lines : List Str} {nx : Int} (m : Mk) (hG : GrowS o lines og) (hl : lines.length ≤ 1000) (hk : m.1 = 2) (hat : 0 ≤ m.2.1 ∧ m.2.1 ≤ 1000000) : Meets Try.prog F.proof_deeds_2 [.pointer (some ⟨g, 0, none⟩), .agg #[int m.1, int m.2.1, str m.2.2]] (deedCon g o og lines nx m) := by
 have eL : deedL m lines = lines ++ [m.2.2] := by simp [deedL, hk]
 have eN : deedN m nx = m.2.1 + 1 := by simp [deedN, hk]
 unfold deedCon; rw [eL, eN]; unfold pressO GrowS; rw [len_snoc]; refine meets_intro F.proof_deeds_2_f rfl (Nat.le_of_ble_eq_true rfl) fun w0 => ?_; refine hc_seq (hc_region ?_); refine r_box rfl rfl fun gB => ?_; refine hl_nil (then_n ?_); refine hc_drawW (_ :: og) ([_]) (List.perm_append_comm (l₁ := [_])) 16 [15, 9, 5] mixed (by decide) (by decide) (by decide) rfl rfl rfl ?_; refine hb_ex _ rfl rfl rfl (fun w1 => r_move rfl rfl (hl_nil (qe_done rfl))) ?_; refine hb_ex _ rfl rfl rfl (fun w1 => r_move rfl rfl (hl_nil (qe_done rfl))) ?_; refine hb_ex _ rfl rfl rfl (fun w1 => r_move rfl rfl (hl_nil (qe_done rfl))) ?_; refine hb_ex _ rfl rfl rfl (fun w1 => r_nilCheck rfl rfl (hl_nil (qe_done rfl))) ?_
 apply hb_ex _ rfl rfl rfl
 ·intro w1
  first | refine r_fieldAddr ⟨_, 0, none⟩ rfl rfl T.fa_proof_press_0 rfl ?_ | refine r_fieldAddr _ rfl rfl T.fa_proof_press_0 rfl ?_
  refine hl_nil ?_; exact qe_done rfl
 refine hb_wr ⟨Unit, fun _ => True, fun _ => .slice o.1 lines.length o.2, fun _ => [], fun _ => (g, Obj.cells #[.slice o.1 lines.length o.2, int nx] T.proof_press (0, 0)) :: og⟩ rfl rfl rfl ?_ ?_
 ·intro w1
  first | refine r_load rfl T.cell_strs rfl (cell_own mB rfl) ?_ | refine r_load rfl T.cell_strs rfl (cell_blk mB rfl) ?_ | refine r_load rfl T.cell_strs rfl (cell_row mB (rows_get0 (by omega) rfl)) ?_ | refine r_load rfl T.cell_strs rfl (cell_row_f mB (rows_get (by omega) rfl)) ?_
  refine hl_nil ?_; exact qw_done () trivial (fun _ => rfl) (.refl _) trivial
 apply hb_ex _ rfl rfl rfl
 ·intro w1
  first | refine r_fieldAddr ⟨_, 2, none⟩ rfl rfl T.fa_api_Mark_2 rfl ?_ | refine r_fieldAddr _ rfl rfl T.fa_api_Mark_2 rfl ?_
  refine hl_nil ?_; exact qe_done rfl
 apply hb_ex _ rfl rfl rfl
 ·intro w1
  first | refine r_load rfl T.cell_string rfl (cell_blk mB rfl) ?_ | refine r_load rfl T.cell_string rfl (cell_own mB rfl) ?_ | refine r_load rfl T.cell_string rfl (cell_row mB (rows_get0 (by omega) rfl)) ?_ | refine r_load rfl T.cell_string rfl (cell_row_f mB (rows_get (by omega) rfl)) ?_
  refine hl_nil ?_; exact qe_done rfl
 refine hb_vs ⟨Nat, fun _ => True, fun g1 => .slice (some ⟨g1, 0, none⟩) 1 1, fun g1 => [Row (some ⟨g1, 0, none⟩) (rows [m.2.2])]⟩ rfl rfl rfl ?_ ?_
 ·intro w1; refine r_buildSlice _ rfl rfl (fun _ => T.bs_strs_1 ..) fun gS => ?_; refine hl_nil ?_; refine hq_letgo (rows [m.2.2]) (List.prefix_refl _) ?_; exact qv_done gS trivial rfl ⟨m0, trivial⟩
 refine hb_wr ⟨OutC × Hp, fun x => Grow T.string 1 x.1.1 (lines.length + 1) x.1.2 (rows (lines ++ [m.2.2])) x.2, fun x => .slice x.1.1 (lines.length + 1) x.1.2, fun _ => [], fun x => x.2 ++ [(g, Obj.cells #[.slice o.1 lines.length o.2, int nx] T.proof_press (0, 0))]⟩ rfl rfl rfl ?_ ?_
 ·intro g1 _ _ _; intro w1; refine r_append (lines.length + 1) (rows (lines ++ [m.2.2])) T.el_strs rfl rfl rfl hG (List.perm_append_comm (l₁ := [_])) (Src.row (news := rows [m.2.2]) (m := 1) m0 rfl (rows_one _) (by decide)) rfl (rows_append lines [m.2.2]).symm (by unfold maxLen; omega) (by omega) fun A' c' og' hG' => ?_; refine hl_nil ?_; exact qw_done ((A', c'), og') hG' (fun _ => rfl) (.refl _) trivial
 apply hb_ex _ rfl rfl rfl
 ·intro w1
  first | refine r_fieldAddr ⟨_, 1, none⟩ rfl rfl T.fa_api_Mark_1 rfl ?_ | refine r_fieldAddr _ rfl rfl T.fa_api_Mark_1 rfl ?_
  refine hl_nil ?_; exact qe_done rfl
 apply hb_ex _ rfl rfl rfl
 ·intro w1
  first | refine r_load rfl T.cell_int rfl (cell_blk mB rfl) ?_ | refine r_load rfl T.cell_int rfl (cell_own mB rfl) ?_ | refine r_load rfl T.cell_int rfl (cell_row mB (rows_get0 (by omega) rfl)) ?_ | refine r_load rfl T.cell_int rfl (cell_row_f mB (rows_get (by omega) rfl)) ?_
  refine hl_nil ?_; exact qe_done rfl
 refine hb_ex _ rfl rfl rfl (fun w1 => r_add _ rfl rfl rfl rfl (by unfold I64; omega) (hl_nil (qe_done rfl))) ?_; refine hb_ex _ rfl rfl rfl (fun w1 => r_nilCheck rfl rfl (hl_nil (qe_done rfl))) ?_
 apply hb_ex _ rfl rfl rfl
 ·intro w1
  first | refine r_fieldAddr ⟨_, 0, none⟩ rfl rfl T.fa_proof_press_0 rfl ?_ | refine r_fieldAddr _ rfl rfl T.fa_proof_press_0 rfl ?_
  refine hl_nil ?_; exact qe_done rfl
 refine hb_st ⟨OutC × Hp, fun x => Grow T.string 1 x.1.1 (lines.length + 1) x.1.2 (rows (lines ++ [m.2.2])) x.2, fun x => .tuple #[], fun _ => [], fun x => (g, Obj.cells #[.slice x.1.1 (lines.length + 1) x.1.2, int nx] T.proof_press (0, 0)) :: x.2⟩ rfl rfl ?_ ?_
 ·intro x hx; intro w1; refine r_store rfl rfl (perm_last1 _ _) T.sz_strs (by rfl) (by rfl) ?_; refine hl_nil ?_; exact qw_done x hx (fun h => by cases h) (.refl _) trivial
 refine hb_nil ⟨rfl, ?_⟩; intro _ _ g1 _ x0 hx0 x hx; refine r_nilCheck rfl rfl ?_
 first | refine r_fieldAddr ⟨_, 1, none⟩ rfl rfl T.fa_proof_press_1 rfl ?_ | refine r_fieldAddr _ rfl rfl T.fa_proof_press_1 rfl ?_
 refine r_store rfl rfl (.refl _) T.sz_int (by rfl) (by rfl) ?_; refine hl_nil ?_; exact ret0n x rfl rfl rfl hx ((List.sublist_append_left _ _).cons_cons _) trivial
theorem proof_deeds_3_meets {g : Nat} {o : OutC} {og : Hp} {lines : List Str} {nx : Int} (m : Mk) (hG : GrowS o lines og) (hl : lines.length ≤ 1000) (hk : m.1 = 3) (hat : 0 ≤ m.2.1 ∧ m.2.1 ≤ 1000000) : Meets Try.prog F.proof_deeds_3 [.pointer (some ⟨g, 0, none⟩), .agg #[int m.1, int m.2.1, str m.2.2]] (deedCon g o og lines nx m) := by
 have eL : deedL m lines = lines := by simp [deedL, hk]
 have eN : deedN m nx = m.2.1 + 1 := by simp [deedN, hk]
 unfold deedCon; rw [eL, eN]; unfold pressO; refine meets_intro F.proof_deeds_3_f rfl (Nat.le_of_ble_eq_true rfl) fun w0 => ?_; refine hc_seq (hc_region ?_); refine r_box rfl rfl fun gB => ?_; refine hl_nil (then_n (hc_region (r_move rfl rfl ?_)))
 first | refine r_fieldAddr ⟨_, 1, none⟩ rfl rfl T.fa_api_Mark_1 rfl ?_ | refine r_fieldAddr _ rfl rfl T.fa_api_Mark_1 rfl ?_
 first | refine r_load rfl T.cell_int rfl (cell_own mB rfl) ?_ | refine r_load rfl T.cell_int rfl (cell_blk mB rfl) ?_ | refine r_load rfl T.cell_int rfl (cell_row mB (rows_get0 (by omega) rfl)) ?_ | refine r_load rfl T.cell_int rfl (cell_row_f mB (rows_get (by omega) rfl)) ?_
 refine r_add _ rfl rfl rfl rfl (by unfold I64; omega) ?_; refine r_nilCheck rfl rfl ?_
 first | refine r_fieldAddr ⟨_, 1, none⟩ rfl rfl T.fa_proof_press_1 rfl ?_ | refine r_fieldAddr _ rfl rfl T.fa_proof_press_1 rfl ?_
 refine r_store rfl rfl (.swap _ _ _) T.sz_int (by rfl) (by rfl) ?_; refine hl_nil ?_; exact ret0n (o, og) rfl rfl rfl hG ((List.sublist_cons_self _ _).cons_cons _) trivial
def fnV (f : Nat) : Value := .func (.func f) #[] #[]
def deedsL : List (Ment Int) := [(1, fnV F.proof_deeds_1, 0), (2, fnV F.proof_deeds_2, 1), (3, fnV F.proof_deeds_3, 2)]
abbrev K3 : KeyC Try.prog T.int int := KeyC.int T.u_int
theorem proof_deeds_meets : Meets Try.prog F.proof_deeds [] { val := fun g : Nat => .map (some g), hpO := fun g => [(g, mapO int deedsL 3)] } := by
 refine meets_intro F.proof_deeds_f rfl (Nat.le_of_ble_eq_true rfl) fun w0 => ?_; refine hc_seq (hc_region (r_assign rfl rfl (hl_nil (then_n (hc_seq (hc_region ?_)))))); refine r_makeMapM int rfl fun gM => ?_; refine r_insert (k := 1) K3 (.inr rfl) T.u_map_int_func_P_proof_press_api_Mark rfl rfl rfl (.refl _) ?_; refine r_insert (k := 2) K3 (.inr rfl) T.u_map_int_func_P_proof_press_api_Mark rfl rfl rfl (.refl _) ?_; refine r_insert (k := 3) K3 (.inr rfl) T.u_map_int_func_P_proof_press_api_Mark rfl rfl rfl (.refl _) ?_; refine r_move rfl rfl (r_assign rfl rfl (hl_nil (then_n (hc_ret ?_)))); exact ret1 gM rfl rfl rfl trivial (.refl _) trivial
def deedV (k : Int) : Value := if k = 1 then fnV F.proof_deeds_1 else if k = 2 then fnV F.proof_deeds_2 else fnV F.proof_deeds_3
theorem deed_get {k : Int} (h : 1 ≤ k ∧ k ≤ 3) : getM deedsL k = some (deedV k) := by
  have : k = 1 ∨ k = 2 ∨ k = 3 := by omega
  rcases this with rfl | rfl | rfl <;> rfl
theorem hl_deed {n : Nat} {b : Bx} {Q : Exit → Act → World → Prop} {fr : Fr} {hp hpR : Hp} {L : List Fact} {ops : Array Oper} {rest : List Oper} {d : Tmp} {ty : TypeId} {pos : String} {af : Array Edge} {x : Operand} {args : Array Operand} {ats : Array TypeId}
    {g : Nat} {o : OutC} {og : Hp} {lines : List Str} {nx : Int} {m : Mk} (hd : Nat.blt d n = true) (hf : ev fr x = some (deedV m.1)) (hx : args.toList.mapM (ev fr) = some [.pointer (some ⟨g, 0, none⟩), .agg #[int m.1, int m.2.1, str m.2.2]])
    (hk : 1 ≤ m.1 ∧ m.1 ≤ 3) (hat : 0 ≤ m.2.1 ∧ m.2.1 ≤ 1000000) (hG : GrowS o lines og) (hl : lines.length ≤ 1000) (h1 : hp.Perm ((pressO g o lines nx :: og) ++ hpR))
    (kk : ∀ y : OutC × Hp, GrowS y.1 (deedL m lines) y.2 → HL ⟨Try.prog, n, b, [], none⟩ ops Q rest ((d, .tuple #[]) :: fr) ((pressO g y.1 (deedL m lines) (deedN m nx) :: y.2) ++ hpR) L) :
    HL ⟨Try.prog, n, b, [], none⟩ ops Q (⟨some d, .call ⟨.value x, args, ats⟩, ty, pos, af, none⟩ :: rest) fr hp L := by
  have : m.1 = 1 ∨ m.1 = 2 ∨ m.1 = 3 := by omega
  rcases this with h | h | h
  · exact hl_callv (cap := []) F.proof_deeds_1_cb hd (by rw [hf, h]; rfl) hx (proof_deeds_1_meets m hG hl h) h1 trivial (fun y hy => kk y hy)
  · exact hl_callv (cap := []) F.proof_deeds_2_cb hd (by rw [hf, h]; rfl) hx (proof_deeds_2_meets m hG hl h hat) h1 trivial (fun y hy => kk y hy)
  · exact hl_callv (cap := []) F.proof_deeds_3_cb hd (by rw [hf, h]; rfl) hx (proof_deeds_3_meets m hG hl h hat) h1 trivial (fun y hy => kk y hy)
def stepP (p : List Str) (st : List Str × Nat) (m : Mk) : List Str × Nat :=
  (deedL m (st.1 ++ (p.take (max st.2 m.2.1.toNat)).drop st.2), (deedN m (max st.2 m.2.1.toNat : Nat)).toNat)
def madeP (p : List Str) (l : List Mk) : List Str := (l.foldl (stepP p) ([], 0)).1 ++ p.drop (l.foldl (stepP p) ([], 0)).2
def MV (n : Nat) (l : List Mk) : Prop := ∀ m ∈ l, 1 ≤ m.1 ∧ m.1 ≤ 3 ∧ 0 ≤ m.2.1 ∧ m.2.1 ≤ n ∧ (m.1 = 1 ∨ m.2.1 < n)
theorem firstErr_zero {α : Type} {f : α → Int} : ∀ {l : List α}, firstErr f l = 0 → ∀ a ∈ l, f a = 0
  | [], _, a, h => by simp at h
  | b :: l, h, a, ha => by
    rw [firstErr] at h
    split at h
    · rename_i h0
      rcases List.mem_cons.1 ha with rfl | ha
      · exact h0
      · exact firstErr_zero h a ha
    · rename_i h0; exact absurd h h0
theorem marks_valid {n : Nat} {l : List Mk} (h : marksErr n l = 0) : l.length ≤ 12 ∧ MV n l := by
  unfold marksErr at h
  split at h
  · omega
  · rename_i h12
    refine ⟨by omega, fun m hm => ?_⟩; obtain ⟨i, hi, rfl⟩ := List.getElem_of_mem hm; have := firstErr_zero h i (by simpa using hi); unfold markErr mErr at this; rw [getD_at hi] at this; generalize l[i] = m at *
    split at this
    · omega
    · split at this
      · omega
      · rename_i h1 h2
        by_cases hk : m.1 = 1
        · simp only [hk, if_true] at h2; omega
        · simp only [hk, if_false] at h2; omega
theorem stepP_le {p : List Str} {st : List Str × Nat} {m : Mk} {k : Nat} (hp6 : p.length ≤ 6) (h1 : st.2 ≤ p.length) (h2 : st.1.length ≤ 7 * k) (hm : 1 ≤ m.1 ∧ m.1 ≤ 3 ∧ 0 ≤ m.2.1 ∧ m.2.1 ≤ p.length ∧ (m.1 = 1 ∨ m.2.1 < p.length)) : (stepP p st m).2 ≤ p.length ∧ (stepP p st m).1.length ≤ 7 * (k + 1) := by
  obtain ⟨ls, nx⟩ := st; simp only at h1 h2; unfold stepP deedL deedN; have h3 : ((p.take (max nx m.2.1.toNat)).drop nx).length ≤ 6 := by rw [List.length_drop, List.length_take]; omega
  by_cases k1 : m.1 = 1
  · simp only [k1, if_true]
    rw [if_neg (by decide)]; rw [List.length_append, List.length_append]; simp only [List.length_cons, List.length_nil, Int.toNat_natCast]; omega
  · by_cases k3 : m.1 = 3
    · simp only [k3, if_true]
      rw [if_neg (by decide), List.length_append]
      omega
    · simp only [k1, k3, if_false]
      rw [List.length_append, List.length_append]; simp only [List.length_cons, List.length_nil]; omega
theorem getD_mem {α : Type} [Inhabited α] {l : List α} {k : Nat} (h : k < l.length) : l.getD k default ∈ l := by rw [getD_at h]; exact List.getElem_mem h
theorem proof_made_meets {A B : Option Addr} {ca cb : Nat} (p : List Str) (l : List Mk) (hp6 : p.length ≤ 6) (hl : l.length ≤ 12) (hV : MV p.length l) (hc : p.length ≤ ca) :
    Meets Try.prog F.proof_made [.slice A p.length ca, .slice B l.length cb] { outSl (madeP p l) with LI := [Row A (rows p), Row B (rows l)] } := by
 refine meets_intro F.proof_made_f rfl (Nat.le_of_ble_eq_true rfl) fun w0 => ?_; refine hc_seq (hc_region (r_assign rfl rfl (hl_nil (then_n (hc_seq (hc_region ?_)))))); refine r_build _ rfl rfl (fun _ => T.bd_proof_press_ ..) ?_; refine r_box rfl rfl fun gB => ?_; refine r_assign rfl rfl (hl_nil (then_n (hc_seq (hc_region ?_)))); refine hl_call F.proof_deeds_cb rfl rfl (proof_deeds_meets) (List.Perm.refl _) trivial fun gM _ => ?_; refine r_assign rfl rfl (hl_nil (then_n (hc_seq (hc_seq ?_)))); refine hc_perm (.swap _ _ _) ?_; refine hc_region (r_move rfl rfl ?_); refine r_len_sl rfl T.u_L_api_Mark rfl ?_; refine r_move rfl rfl (hl_nil (then_n (hc_block ?_)))
 refine hc_loop (β := Nat × OutC × Hp × List Str × Nat) ⟨fun ⟨k, o, og, ls, nx⟩ => k ≤ l.length ∧ (l.take k).foldl (stepP p) ([], 0) = (ls, nx) ∧ GrowS o ls og ∧ nx ≤ p.length ∧ ls.length ≤ 7 * k,
   fun ⟨k, o, og, ls, nx⟩ => [(0, .slice A p.length ca), (5, .pointer (some ⟨gB, 0, none⟩)), (6, .map (some gM)), (12, .slice B l.length cb), (13, int l.length), (14, int k)], fun ⟨k, o, og, ls, nx⟩ => pressO gB o ls nx :: (og ++ [(gM, mapO int deedsL 3)]), fun _ => [Row A (rows p), Row B (rows l)]⟩
   (fun x => l.length - x.1) (0, (none, 0), [], [], 0) ⟨Nat.zero_le _, rfl, Grow.nil _ _, Nat.zero_le _, Nat.le_refl _⟩ ⟨rfl, rfl, rfl, rfl, rfl, rfl, trivial⟩ (.refl _) ⟨m0, m1, trivial⟩ fun x hx => ?_
 obtain ⟨k, o, og, ls, nx⟩ := x; obtain ⟨hk, hst, hG, hn, hlen⟩ := hx; refine hc_seq (hc_region (r_lss rfl rfl rfl (hl_nil (then_n (hc_seq ?_)))))
 first | refine c_dec rfl (fun hb1 => ?_) (fun hb1 => ?_) | refine hc_cond rfl (fun hb1 => ?_) (fun hb1 => ?_)
 ·have hb1' := hb1; try simp at hb1'
  have hk2 : k < l.length := by omega
  refine hc_skip (then_n (hc_seq (hc_block (hc_seq (hc_region ?_))))); refine r_elem (α := Mk) _ _ rfl T.u_L_api_Mark T.sz_api_Mark rfl rfl rfl mB rfl (by omega) (by decide) ?_; refine r_loadS rfl T.row_api_Mark T.sz_api_Mark rfl rfl (cells_row mB (rows_all (by omega))) ?_; refine r_alloc rfl (fun _ => T.al_api_Mark _) fun gA => ?_; refine r_storeS rfl rfl (by first | exact .refl _ | exact perm2 _ _ _ | exact perm3 _ _ _ _ | exact perm4 _ _ _ _ _) T.sz_api_Mark (by rfl) (by rfl) ?_; refine hl_nil (then_n (hc_seq ?_)); have hVm := hV _ (getD_mem hk2); have hst2 : (l.take (k + 1)).foldl (stepP p) ([], 0) = stepP p (ls, nx) (l.getD k default) := by rw [take_succ_getD l k hk2, List.foldl_append, hst]; rfl
  have hnext := stepP_le (st := (ls, nx)) (k := k) hp6 hn hlen hVm; generalize hm : l.getD k default = m at *; obtain ⟨kd, at0, t⟩ := m; simp only at hVm; obtain ⟨at1, rfl⟩ := Int.eq_ofNat_of_zero_le hVm.2.2.1; refine hc_perm (pm1 _ _ _ _) ?_; refine hc_drawW (og) ([_, _, _]) (.refl _) 19 [18] mixed (by decide) (by decide) (by decide) rfl rfl rfl ?_; refine hb_ex _ rfl rfl rfl (fun w1 => r_move rfl rfl (hl_nil (qe_done rfl))) ?_; refine hb_ex _ rfl rfl rfl (fun w1 => r_move rfl rfl (hl_nil (qe_done rfl))) ?_; refine hb_ex _ rfl rfl rfl (fun w1 => r_nilCheck rfl rfl (hl_nil (qe_done rfl))) ?_
  apply hb_ex _ rfl rfl rfl
  ·intro w1
   first | refine r_fieldAddr ⟨_, 0, none⟩ rfl rfl T.fa_proof_press_0 rfl ?_ | refine r_fieldAddr _ rfl rfl T.fa_proof_press_0 rfl ?_
   refine hl_nil ?_; exact qe_done rfl
  apply hb_ex _ rfl rfl rfl
  ·intro w1
   first | refine r_load rfl T.cell_strs rfl (cell_blk mB rfl) ?_ | refine r_load rfl T.cell_strs rfl (cell_own mB rfl) ?_ | refine r_load rfl T.cell_strs rfl (cell_row mB (rows_get0 (by omega) rfl)) ?_ | refine r_load rfl T.cell_strs rfl (cell_row_f mB (rows_get (by omega) rfl)) ?_
   refine hl_nil ?_; exact qe_done rfl
  refine hb_ex _ rfl rfl rfl (fun w1 => r_move rfl rfl (hl_nil (qe_done rfl))) ?_; refine hb_ex _ rfl rfl rfl (fun w1 => r_move rfl rfl (hl_nil (qe_done rfl))) ?_; refine hb_ex _ rfl rfl rfl (fun w1 => r_nilCheck rfl rfl (hl_nil (qe_done rfl))) ?_
  apply hb_ex _ rfl rfl rfl
  ·intro w1
   first | refine r_fieldAddr ⟨_, 1, none⟩ rfl rfl T.fa_proof_press_1 rfl ?_ | refine r_fieldAddr _ rfl rfl T.fa_proof_press_1 rfl ?_
   refine hl_nil ?_; exact qe_done rfl
  apply hb_ex _ rfl rfl rfl
  ·intro w1
   first | refine r_load rfl T.cell_int rfl (cell_blk mB rfl) ?_ | refine r_load rfl T.cell_int rfl (cell_own mB rfl) ?_ | refine r_load rfl T.cell_int rfl (cell_row mB (rows_get0 (by omega) rfl)) ?_ | refine r_load rfl T.cell_int rfl (cell_row_f mB (rows_get (by omega) rfl)) ?_
   refine hl_nil ?_; exact qe_done rfl
  refine hb_ex _ rfl rfl rfl (fun w1 => r_move rfl rfl (hl_nil (qe_done rfl))) ?_; refine hb_ex _ rfl rfl rfl (fun w1 => r_nilCheck rfl rfl (hl_nil (qe_done rfl))) ?_
  apply hb_ex _ rfl rfl rfl
  ·intro w1
   first | refine r_fieldAddr ⟨_, 1, none⟩ rfl rfl T.fa_proof_press_1 rfl ?_ | refine r_fieldAddr _ rfl rfl T.fa_proof_press_1 rfl ?_
   refine hl_nil ?_; exact qe_done rfl
  apply hb_ex _ rfl rfl rfl
  ·intro w1
   first | refine r_load rfl T.cell_int rfl (cell_blk mB rfl) ?_ | refine r_load rfl T.cell_int rfl (cell_own mB rfl) ?_ | refine r_load rfl T.cell_int rfl (cell_row mB (rows_get0 (by omega) rfl)) ?_ | refine r_load rfl T.cell_int rfl (cell_row_f mB (rows_get (by omega) rfl)) ?_
   refine hl_nil ?_; exact qe_done rfl
  apply hb_ex _ rfl rfl rfl
  ·intro w1
   first | refine r_fieldAddr ⟨_, 1, none⟩ rfl rfl T.fa_api_Mark_1 rfl ?_ | refine r_fieldAddr _ rfl rfl T.fa_api_Mark_1 rfl ?_
   refine hl_nil ?_; exact qe_done rfl
  apply hb_ex _ rfl rfl rfl
  ·intro w1
   first | refine r_load rfl T.cell_int rfl (cell_blk mB rfl) ?_ | refine r_load rfl T.cell_int rfl (cell_own mB rfl) ?_ | refine r_load rfl T.cell_int rfl (cell_row mB (rows_get0 (by omega) rfl)) ?_ | refine r_load rfl T.cell_int rfl (cell_row_f mB (rows_get (by omega) rfl)) ?_
   refine hl_nil ?_; exact qe_done rfl
  refine hb_ex _ rfl rfl rfl (fun w1 => r_max ((max nx at1 : Nat) : Int) rfl rfl rfl (by simp only; split <;> omega) (hl_nil (qe_done rfl))) ?_; refine hb_ex _ rfl rfl rfl (fun w1 => r_slice_lh nx (max nx at1) rfl T.u_strs T.sz_string rfl rfl rfl rfl rfl (Nat.le_max_left _ _) (by omega) (hl_nil (qe_done rfl))) ?_; refine hb_wr ⟨OutC × Hp, fun x => GrowS x.1 (ls ++ (p.take (max nx at1)).drop nx) x.2, fun x => .slice x.1.1 (ls ++ (p.take (max nx at1)).drop nx).length x.1.2, fun _ => [], fun x => x.2⟩ rfl rfl rfl ?_ ?_
  ·intro w1; refine hl_cut (p := p) (ca := ca) nx (max nx at1) m0 hc ?_; refine r_append (ls ++ (p.take (max nx at1)).drop nx).length (rows (ls ++ (p.take (max nx at1)).drop nx)) T.el_strs rfl rfl rfl hG (hp' := []) (by rw [List.append_nil]) (Src.row (news := rows ((p.take (max nx at1)).drop nx)) m0 (by rw [rows_len, List.length_drop, List.length_take, Nat.min_eq_left (by omega)]; rfl) (rows_one _) (by decide)) (by rw [List.length_append, List.length_drop, List.length_take]; omega) (rows_append _ _).symm (by unfold maxLen; rw [List.length_append, List.length_drop, List.length_take]; omega) (by rw [List.length_append, List.length_drop, List.length_take]; omega) fun A' c' og' hG' => ?_; refine hl_nil ?_; exact qw_done ((A', c'), og') hG' (fun _ => rfl) (List.sublist_append_left _ _) trivial
  refine hb_nil ⟨rfl, ?_⟩; intro x hx; obtain ⟨o1, og1⟩ := x; have hG1 : GrowS o1 (ls ++ (p.take (max nx at1)).drop nx) og1 := hx; generalize hl1 : ls ++ (p.take (max nx at1)).drop nx = l1 at *; refine r_nilCheck rfl rfl ?_
  first | refine r_fieldAddr ⟨_, 0, none⟩ rfl rfl T.fa_proof_press_0 rfl ?_ | refine r_fieldAddr _ rfl rfl T.fa_proof_press_0 rfl ?_
  refine r_store rfl rfl (pm2 _ _ _ _) T.sz_strs (by rfl) (by rfl) ?_; refine hl_nil (then_n (hc_seq ?_)); refine hc_perm (pm3 _ _ _ _) ?_; refine hc_drawW (og1) ([_, _, _]) (.refl _) 8 [] mixed (by decide) (by decide) (by decide) rfl rfl rfl ?_; refine hb_ex _ rfl rfl rfl (fun w1 => r_move rfl rfl (hl_nil (qe_done rfl))) ?_; refine hb_ex _ rfl rfl rfl (fun w1 => r_move rfl rfl (hl_nil (qe_done rfl))) ?_; refine hb_ex _ rfl rfl rfl (fun w1 => r_nilCheck rfl rfl (hl_nil (qe_done rfl))) ?_
  apply hb_ex _ rfl rfl rfl
  ·intro w1
   first | refine r_fieldAddr ⟨_, 1, none⟩ rfl rfl T.fa_proof_press_1 rfl ?_ | refine r_fieldAddr _ rfl rfl T.fa_proof_press_1 rfl ?_
   refine hl_nil ?_; exact qe_done rfl
  apply hb_ex _ rfl rfl rfl
  ·intro w1
   first | refine r_load rfl T.cell_int rfl (cell_blk mB rfl) ?_ | refine r_load rfl T.cell_int rfl (cell_own mB rfl) ?_ | refine r_load rfl T.cell_int rfl (cell_row mB (rows_get0 (by omega) rfl)) ?_ | refine r_load rfl T.cell_int rfl (cell_row_f mB (rows_get (by omega) rfl)) ?_
   refine hl_nil ?_; exact qe_done rfl
  apply hb_ex _ rfl rfl rfl
  ·intro w1
   first | refine r_fieldAddr ⟨_, 1, none⟩ rfl rfl T.fa_api_Mark_1 rfl ?_ | refine r_fieldAddr _ rfl rfl T.fa_api_Mark_1 rfl ?_
   refine hl_nil ?_; exact qe_done rfl
  apply hb_ex _ rfl rfl rfl
  ·intro w1
   first | refine r_load rfl T.cell_int rfl (cell_blk mB rfl) ?_ | refine r_load rfl T.cell_int rfl (cell_own mB rfl) ?_ | refine r_load rfl T.cell_int rfl (cell_row mB (rows_get0 (by omega) rfl)) ?_ | refine r_load rfl T.cell_int rfl (cell_row_f mB (rows_get (by omega) rfl)) ?_
   refine hl_nil ?_; exact qe_done rfl
  refine hb_ex _ rfl rfl rfl (fun w1 => r_max ((max nx at1 : Nat) : Int) rfl rfl rfl (by simp only; split <;> omega) (hl_nil (qe_done rfl))) ?_; refine hb_nil ⟨rfl, ?_⟩; refine r_nilCheck rfl rfl ?_
  first | refine r_fieldAddr ⟨_, 1, none⟩ rfl rfl T.fa_proof_press_1 rfl ?_ | refine r_fieldAddr _ rfl rfl T.fa_proof_press_1 rfl ?_
  refine r_store rfl rfl (pm4 _ _ _ _) T.sz_int (by rfl) (by rfl) ?_; refine hl_nil (then_n ?_); refine hc_perm (pm5 _ _ _ _) ?_; refine hc_region (r_move rfl rfl ?_)
  first | refine r_fieldAddr ⟨_, 0, none⟩ rfl rfl T.fa_api_Mark_0 rfl ?_ | refine r_fieldAddr _ rfl rfl T.fa_api_Mark_0 rfl ?_
  first | refine r_load rfl T.cell_int rfl (cell_own mB rfl) ?_ | refine r_load rfl T.cell_int rfl (cell_blk mB rfl) ?_ | refine r_load rfl T.cell_int rfl (cell_row mB (rows_get0 (by omega) rfl)) ?_ | refine r_load rfl T.cell_int rfl (cell_row_f mB (rows_get (by omega) rfl)) ?_
  refine r_look (k := kd) K3 rfl T.u_map_int_func_P_proof_press_api_Mark rfl rfl (map_own m1) (deed_get ⟨hVm.1, hVm.2.1⟩) ?_; refine r_move rfl rfl ?_
  first | refine r_loadA rfl T.row_api_Mark T.sz_api_Mark rfl mB (by rfl) ?_ | refine r_loadB rfl T.row_api_Mark T.sz_api_Mark rfl mB (by rfl) ?_ | refine r_loadS rfl T.row_api_Mark T.sz_api_Mark rfl rfl (cells_row mB (rows_all (by omega))) ?_
  have hl1n : l1.length ≤ 1000 := by rw [← hl1, List.length_append, List.length_drop, List.length_take]; omega
  refine hl_deed (m := (kd, (at1 : Int), t)) (o := o1) (og := og1) (lines := l1) (nx := (max nx at1 : Nat)) rfl rfl rfl ⟨hVm.1, hVm.2.1⟩ ⟨by simp only; omega, by simp only; omega⟩ hG1 hl1n (pm6 _ _ _ _) fun y hy => ?_; refine hl_nil (inb_n (then_n (hc_region ?_))); refine r_add _ rfl rfl rfl rfl (by unfold I64; omega) ?_; refine r_move rfl rfl (hl_nil ?_); have hs : stepP p (ls, nx) (kd, (at1 : Int), t) = (deedL (kd, (at1 : Int), t) l1, (deedN (kd, (at1 : Int), t) (max nx at1 : Nat)).toNat) := by rw [← hl1]; rfl
  rw [hs] at hst2 hnext; have hN : (((deedN (kd, (at1 : Int), t) (max nx at1 : Nat)).toNat : Nat) : Int) = deedN (kd, (at1 : Int), t) (max nx at1 : Nat) := Int.toNat_of_nonneg (by unfold deedN; simp only; split <;> omega); refine again _ (k + 1, y.1, y.2, deedL (kd, (at1 : Int), t) l1, (deedN (kd, (at1 : Int), t) (max nx at1 : Nat)).toNat) ?_ ?_ ?_ ?_ ?_
  · exact ⟨by omega, hst2, hy, hnext.1, hnext.2⟩
  · show l.length - (k + 1) < l.length - k
    omega
  · exact ⟨rfl, rfl, rfl, rfl, rfl, rfl, trivial⟩
  · show (pressO gB y.1 _ (((deedN (kd, (at1 : Int), t) (max nx at1 : Nat)).toNat : Nat) : Int) :: (y.2 ++ [_])).Sublist _
    rw [hN]; exact ((List.Sublist.refl _).append (.cons _ (.refl _))).cons_cons _
  · exact ⟨m0, m1, trivial⟩
 ·have hb1' := hb1; try simp at hb1'
  have hk2 : k = l.length := by omega
  refine hc_exit (then_exit (then_exit (inb_hit (then_n (hc_seq ?_))))); refine hc_draw 10 mixed (by decide) (by decide) rfl rfl ?_; refine hb_ex _ rfl rfl rfl (fun w1 => r_move rfl rfl (hl_nil (qe_done rfl))) ?_; refine hb_ex _ rfl rfl rfl (fun w1 => r_nilCheck rfl rfl (hl_nil (qe_done rfl))) ?_
  apply hb_ex _ rfl rfl rfl
  ·intro w1
   first | refine r_fieldAddr ⟨_, 0, none⟩ rfl rfl T.fa_proof_press_0 rfl ?_ | refine r_fieldAddr _ rfl rfl T.fa_proof_press_0 rfl ?_
   refine hl_nil ?_; exact qe_done rfl
  apply hb_ex _ rfl rfl rfl
  ·intro w1
   first | refine r_load rfl T.cell_strs rfl (cell_blk mB rfl) ?_ | refine r_load rfl T.cell_strs rfl (cell_own mB rfl) ?_ | refine r_load rfl T.cell_strs rfl (cell_row mB (rows_get0 (by omega) rfl)) ?_ | refine r_load rfl T.cell_strs rfl (cell_row_f mB (rows_get (by omega) rfl)) ?_
   refine hl_nil ?_; exact qe_done rfl
  refine hb_ex _ rfl rfl rfl (fun w1 => r_move rfl rfl (hl_nil (qe_done rfl))) ?_; refine hb_ex _ rfl rfl rfl (fun w1 => r_move rfl rfl (hl_nil (qe_done rfl))) ?_; refine hb_ex _ rfl rfl rfl (fun w1 => r_nilCheck rfl rfl (hl_nil (qe_done rfl))) ?_
  apply hb_ex _ rfl rfl rfl
  ·intro w1
   first | refine r_fieldAddr ⟨_, 1, none⟩ rfl rfl T.fa_proof_press_1 rfl ?_ | refine r_fieldAddr _ rfl rfl T.fa_proof_press_1 rfl ?_
   refine hl_nil ?_; exact qe_done rfl
  apply hb_ex _ rfl rfl rfl
  ·intro w1
   first | refine r_load rfl T.cell_int rfl (cell_blk mB rfl) ?_ | refine r_load rfl T.cell_int rfl (cell_own mB rfl) ?_ | refine r_load rfl T.cell_int rfl (cell_row mB (rows_get0 (by omega) rfl)) ?_ | refine r_load rfl T.cell_int rfl (cell_row_f mB (rows_get (by omega) rfl)) ?_
   refine hl_nil ?_; exact qe_done rfl
  refine hb_ex _ rfl rfl rfl (fun w1 => r_slice_lo nx rfl T.u_strs T.sz_string rfl rfl rfl hn (hl_nil (qe_done rfl))) ?_; refine hb_nil ⟨rfl, ?_⟩; refine hl_cut (p := p) (ca := ca) nx p.length m0 hc ?_; rw [List.take_length]; refine r_append (ls ++ p.drop nx).length (rows (ls ++ p.drop nx)) T.el_strs rfl rfl rfl hG (pm7 _ _ _) (Src.row (news := rows (p.drop nx)) m0 (by rw [rows_len, List.length_drop]; rfl) (rows_one _) (by decide)) (by rw [List.length_append, List.length_drop]) (rows_append _ _).symm (by unfold maxLen; rw [List.length_append, List.length_drop]; omega) (by rw [List.length_append, List.length_drop]; omega) fun A' c' og' hG' => ?_; refine r_assign rfl rfl (hl_nil (then_n (hc_ret ?_))); subst hk2; rw [List.take_length] at hst; have e : madeP p l = ls ++ p.drop nx := by unfold madeP; rw [hst]
  rw [e]; refine hq_grown hG' ?_; exact ret1 (A', c') rfl rfl rfl hG'.le (List.nil_sublist _) ⟨m0, trivial⟩
end Go.Proofs.Ytpfbbggmcbhboaa
end
section
namespace Go.Proofs.Ytpfbbggmcbhboaa
open Go Go.W
set_option maxRecDepth 20000
attribute [local irreducible] HL HC HQ HB Row Rows2 Blk Facts
def inR (i : Nat) (st : List Str × Str × Bool) (m : Mk) : List Str × Str × Bool :=
  if ¬ m.2.1 = (i : Int) then st else if m.1 = 1 then (st.1 ++ [m.2.2], st.2) else if m.1 = 2 then (st.1, m.2.2, st.2.2) else (st.1, st.2.1, false)
def lineR (p : List Str) (i : Nat) : Str := if i < p.length then p.getD i default else []
def outR (p : List Str) (l : List Mk) (out : List Str) (i : Nat) : List Str :=
  if (l.foldl (inR i) (out, lineR p i, decide (i < p.length))).2.2 = true then (l.foldl (inR i) (out, lineR p i, decide (i < p.length))).1 ++ [(l.foldl (inR i) (out, lineR p i, decide (i < p.length))).2.1]
  else (l.foldl (inR i) (out, lineR p i, decide (i < p.length))).1
def madeR (p : List Str) (l : List Mk) : List Str := (List.range (p.length + 1)).foldl (outR p l) []
def applyP (p : List Str) (l : List Mk) : List Str × Int := if ¬ checkErr p l = 0 then ([], checkErr p l) else if 6 < (madeP p l).length then ([], 6) else (madeP p l, 0)
def applyR (p : List Str) (l : List Mk) : List Str × Int := if ¬ checkErr p l = 0 then ([], checkErr p l) else if 6 < (madeR p l).length then ([], 6) else (madeR p l, 0)
def outErr {α : Type} [El α] (r : List α × Int) : Con OutC := { inv := fun x => r.1.length ≤ x.2, val := fun x => .tuple #[.slice x.1 r.1.length x.2, int r.2], LO := fun x => [Row x.1 (rows r.1)] }
theorem checkErr_zero {p : List Str} {l : List Mk} (h : checkErr p l = 0) : p.length ≤ 6 ∧ l.length ≤ 12 ∧ MV p.length l := by
  unfold checkErr at h
  split at h
  · rename_i h1
    refine ⟨?_, marks_valid h⟩; unfold pageErr at h1
    split at h1 <;> omega
  · rename_i h1; exact absurd h h1
def costM (l : List Mk) : Nat := (l.filter fun m => decide (¬ m.1 = 3)).length
theorem costM_take {l : List Mk} {k : Nat} (h : k < l.length) : costM (l.take (k + 1)) = costM (l.take k) + (if (l.getD k default).1 = 3 then 0 else 1) := by
  rw [take_succ_getD l k h]; unfold costM; rw [List.filter_append, List.length_append]
  congr 1
  by_cases h3 : (l.getD k default).1 = 3
  · rw [if_pos h3, List.filter_cons_of_neg (by simpa using h3)]; rfl
  · rw [if_neg h3, List.filter_cons_of_pos (by simpa using h3)]; rfl
theorem costM_le (l : List Mk) : costM l ≤ l.length := List.length_filter_le _ _
def costR (p : List Str) (l : List Mk) : Int × Int := if ¬ checkErr p l = 0 then (0, checkErr p l) else (costM l, 0)
theorem proof_Apply_meets {A B : Option Addr} {ca cb : Nat} (p : List Str) (l : List Mk) (hc : p.length ≤ ca) :
    Meets Try.prog F.proof_Apply [.slice A p.length ca, .slice B l.length cb] { outErr (applyP p l) with LI := [Row A (rows p), Row B (rows l)] } := by
 refine meets_intro F.proof_Apply_f rfl (Nat.le_of_ble_eq_true rfl) fun w0 => ?_; refine hc_seq (hc_region (r_assign rfl rfl (r_assign rfl rfl (hl_nil (then_n (hc_seq (hc_seq (hc_region (r_move rfl rfl (r_move rfl rfl ?_)))))))))); refine hl_call F.proof_checked_cb rfl rfl (proof_checked_meets p l) (.refl _) ⟨m0, m1, trivial⟩ fun _ _ => ?_; refine r_assign rfl rfl (hl_nil (then_n (hc_seq (hc_region (r_move rfl rfl (r_neq rfl rfl rfl (hl_nil (then_n ?_))))))))
 first | refine c_dec rfl (fun hb1 => ?_) (fun hb1 => ?_) | refine hc_cond rfl (fun hb1 => ?_) (fun hb1 => ?_)
 ·have hb1' := hb1; try simp at hb1'
  have e : applyP p l = ([], checkErr p l) := by rw [applyP, if_pos hb1]
  rw [e]; refine hc_seq (hc_region (r_move rfl rfl (r_assign rfl rfl (r_assign rfl rfl (hl_nil (then_n (hc_ret (then_ret (hq_nil0 ?_))))))))); exact ret2 (none, 0) rfl rfl rfl rfl rfl (Nat.le_refl _) (.refl _) ⟨m0, trivial⟩
 ·have hb1' := hb1; try simp at hb1'
  have h0 : checkErr p l = 0 := by omega
  obtain ⟨hp6, hl, hV⟩ := checkErr_zero h0; refine hc_skip (then_n (hc_seq (hc_region (r_move rfl rfl (r_move rfl rfl ?_))))); refine hl_call F.proof_made_cb rfl rfl (proof_made_meets p l hp6 hl hV hc) (.refl _) ⟨m0, m1, trivial⟩ fun x hx => ?_; refine r_assign rfl rfl (hl_nil (then_n (hc_seq (hc_seq (hc_region (r_move rfl rfl ?_)))))); refine r_len_sl rfl T.u_strs rfl ?_; refine r_gtr rfl rfl rfl (hl_nil (then_n ?_))
  first | refine c_dec rfl (fun hb2 => ?_) (fun hb2 => ?_) | refine hc_cond rfl (fun hb2 => ?_) (fun hb2 => ?_)
  ·have hb2' := hb2; try simp at hb2'
   have e : applyP p l = ([], 6) := by rw [applyP, if_neg hb1, if_pos (by omega)]
   rw [e]; refine hc_seq (hc_region (r_assign rfl rfl (r_assign rfl rfl (hl_nil (then_n (hc_ret (then_ret (hq_nil0 ?_)))))))); exact ret2 (none, 0) rfl rfl rfl rfl rfl (Nat.le_refl _) (.refl _) ⟨m0, trivial⟩
  ·have hb2' := hb2; try simp at hb2'
   have e : applyP p l = (madeP p l, 0) := by rw [applyP, if_neg hb1, if_neg (by omega)]
   rw [e]; refine hc_skip (then_n (hc_seq (hc_region (r_move rfl rfl (r_assign rfl rfl (r_assign rfl rfl (hl_nil (then_n (hc_ret ?_))))))))); exact ret2 x rfl rfl rfl rfl rfl hx (.refl _) ⟨m0, trivial⟩
theorem proof_Cost_meets {A B : Option Addr} {ca cb : Nat} (p : List Str) (l : List Mk) :
    Meets Try.prog F.proof_Cost [.slice A p.length ca, .slice B l.length cb] { LI := [Row A (rows p), Row B (rows l)], val := fun _ : Unit => .tuple #[int (costR p l).1, int (costR p l).2] } := by
 refine meets_intro F.proof_Cost_f rfl (Nat.le_of_ble_eq_true rfl) fun w0 => ?_; refine hc_seq (hc_region (r_assign rfl rfl (r_assign rfl rfl (hl_nil (then_n (hc_seq (hc_seq (hc_region (r_move rfl rfl (r_move rfl rfl ?_)))))))))); refine hl_call F.proof_checked_cb rfl rfl (proof_checked_meets p l) (.refl _) ⟨m0, m1, trivial⟩ fun _ _ => ?_; refine r_assign rfl rfl (hl_nil (then_n (hc_seq (hc_region (r_move rfl rfl (r_neq rfl rfl rfl (hl_nil (then_n ?_))))))))
 first | refine c_dec rfl (fun hb1 => ?_) (fun hb1 => ?_) | refine hc_cond rfl (fun hb1 => ?_) (fun hb1 => ?_)
 ·have hb1' := hb1; try simp at hb1'
  have e : costR p l = (0, checkErr p l) := by rw [costR, if_pos hb1]
  rw [e]; refine hc_seq (hc_region (r_move rfl rfl (r_assign rfl rfl (r_assign rfl rfl (hl_nil (then_n (hc_ret (then_ret ?_)))))))); exact ret2 () rfl rfl rfl rfl rfl trivial (.refl _) trivial
 ·have hb1' := hb1; try simp at hb1'
  have h0 : checkErr p l = 0 := by omega
  obtain ⟨hp6, hl, hV⟩ := checkErr_zero h0; have e : costR p l = ((costM l : Int), 0) := by rw [costR, if_neg hb1]
  rw [e]; refine hc_skip (then_n (hc_seq (hc_region (r_assign rfl rfl (hl_nil (then_n (hc_seq (hc_seq (hc_region (r_move rfl rfl ?_)))))))))); refine r_len_sl rfl T.u_L_api_Mark rfl ?_; refine r_move rfl rfl (hl_nil (then_n (hc_block ?_))); refine hc_loop (β := Nat) ⟨fun k => k ≤ l.length, fun k => [(7, int (costM (l.take k))), (16, .slice B l.length cb), (17, int l.length), (18, int k)], fun _ => [], fun _ => [Row B (rows l)]⟩ (fun k => l.length - k) 0 (Nat.zero_le _) ⟨rfl, rfl, rfl, rfl, trivial⟩ (List.nil_sublist _) ⟨m1, trivial⟩ fun k hk => ?_; simp only at hk; refine hc_seq (hc_region (r_lss rfl rfl rfl (hl_nil (then_n (hc_seq ?_)))))
  first | refine c_dec rfl (fun hb2 => ?_) (fun hb2 => ?_) | refine hc_cond rfl (fun hb2 => ?_) (fun hb2 => ?_)
  ·have hb2' := hb2; try simp at hb2'
   have hk2 : k < l.length := by omega
   have hct := costM_take hk2; have hcl := costM_le (l.take k); rw [List.length_take] at hcl; refine hc_skip (then_n (hc_seq (hc_block (hc_seq (hc_region ?_))))); refine r_elem (α := Mk) _ _ rfl T.u_L_api_Mark T.sz_api_Mark rfl rfl rfl mB rfl (by omega) (by decide) ?_; refine r_loadS rfl T.row_api_Mark T.sz_api_Mark rfl rfl (cells_row mB (rows_all (by omega))) ?_; refine r_alloc rfl (fun _ => T.al_api_Mark _) fun gA => ?_; refine r_storeS rfl rfl (by first | exact .refl _ | exact perm2 _ _ _ | exact perm3 _ _ _ _ | exact perm4 _ _ _ _ _) T.sz_api_Mark (by rfl) (by rfl) ?_; refine hl_nil (then_n (hc_seq (hc_region ?_)))
   first | refine r_fieldAddr ⟨_, 0, none⟩ rfl rfl T.fa_api_Mark_0 rfl ?_ | refine r_fieldAddr _ rfl rfl T.fa_api_Mark_0 rfl ?_
   first | refine r_load rfl T.cell_int rfl (cell_own mB rfl) ?_ | refine r_load rfl T.cell_int rfl (cell_blk mB rfl) ?_ | refine r_load rfl T.cell_int rfl (cell_row mB (rows_get0 (by omega) rfl)) ?_ | refine r_load rfl T.cell_int rfl (cell_row_f mB (rows_get (by omega) rfl)) ?_
   refine r_neq rfl rfl rfl (hl_nil (then_n ?_))
   first | refine c_dec rfl (fun hb3 => ?_) (fun hb3 => ?_) | refine hc_cond rfl (fun hb3 => ?_) (fun hb3 => ?_)
   ·have hb3' := hb3; try simp at hb3'
    rw [if_neg hb3] at hct; refine hc_region (r_move rfl rfl ?_); refine r_add _ rfl rfl rfl rfl (by unfold I64; omega) ?_; refine r_assign rfl rfl (hl_nil (inb_n (then_n (hc_region ?_)))); refine r_add _ rfl rfl rfl rfl (by unfold I64; omega) ?_; refine r_move rfl rfl (hl_nil ?_); refine again _ (k + 1) (by show k + 1 ≤ l.length; omega) (by show l.length - (k + 1) < l.length - k; omega) ⟨?_, rfl, rfl, rfl, trivial⟩ (List.nil_sublist _) ⟨m0, trivial⟩; show some (int ((costM (l.take k) : Int) + 1)) = some (int ((costM (l.take (k + 1)) : Nat) : Int)); rw [hct]; rfl
   ·have hb3' := hb3; try simp at hb3'
    rw [if_pos (Classical.not_not.1 hb3)] at hct; refine hc_skip (inb_n (then_n (hc_region ?_))); refine r_add _ rfl rfl rfl rfl (by unfold I64; omega) ?_; refine r_move rfl rfl (hl_nil ?_); refine again _ (k + 1) (by show k + 1 ≤ l.length; omega) (by show l.length - (k + 1) < l.length - k; omega) ⟨?_, rfl, rfl, rfl, trivial⟩ (List.nil_sublist _) ⟨m0, trivial⟩; show some (int (costM (l.take k) : Int)) = some (int ((costM (l.take (k + 1)) : Nat) : Int)); rw [hct]; rfl
  ·have hb2' := hb2; try simp at hb2'
   have hk2 : k = l.length := by omega
   subst hk2; refine hc_exit (then_exit (then_exit (inb_hit (then_n (hc_seq (hc_region (r_move rfl rfl (r_assign rfl rfl (r_assign rfl rfl (hl_nil (then_n ?_))))))))))); refine hc_ret ?_; exact ret2 () rfl (congrArg (fun s => some (int (costM s : Nat))) List.take_length) rfl rfl rfl trivial (.refl _) trivial
end Go.Proofs.Ytpfbbggmcbhboaa
end
section
namespace Go.Proofs.Ytpfbbggmcbhboaa
open Go Go.W
set_option maxRecDepth 20000
attribute [local irreducible] HL HC HQ HB Row Rows2 Blk Facts
def lineM (k : Int) (w : Str) : Mk := (1, k, w)
def clashA (xs ys : List Mk) (k : Int) : Bool := match lastAt xs k, lastAt ys k with | some m, some m' => !decide (m = m') | _, _ => false
def moreA (xs ys : List Mk) (k : Int) : List Str := (insAt ys k).filter fun w => !decide (w ∈ insAt xs k)
def lastL (xs ys : List Mk) (k : Int) : List Mk := match lastAt xs k with | some m => [m] | none => (lastAt ys k).toList
def lineA (xs ys : List Mk) (k : Int) : List Mk := (insAt xs k).map (lineM k) ++ (moreA xs ys k).map (lineM k) ++ lastL xs ys k
def mergeO (xs ys : List Mk) : Nat → Option (List Mk)
  | 0 => some []
  | n + 1 => match mergeO xs ys n with
    | none => none
    | some out => if clashA xs ys n = true then none else some (out ++ lineA xs ys n)
def mergeP (p : List Str) (xs ys : List Mk) : List Mk × Int :=
  if ¬ checkErr p xs = 0 then ([], checkErr p xs) else if ¬ marksErr p.length ys = 0 then ([], marksErr p.length ys)
  else match mergeO xs ys (p.length + 1) with
    | none => ([], 9)
    | some out => if 12 < out.length then ([], 6) else (out, 0)
theorem mergeO_none {xs ys : List Mk} : ∀ {n m : Nat}, n ≤ m → mergeO xs ys n = none → mergeO xs ys m = none
  | n, m, h, hn => by
    induction h with
    | refl => exact hn
    | step _ ih => rw [mergeO, ih]
theorem insAt_len (xs : List Mk) (k : Int) : (insAt xs k).length ≤ xs.length := by
  unfold insAt; rw [List.length_map]; exact List.length_filter_le _ _
theorem lineA_len (xs ys : List Mk) (k : Int) : (lineA xs ys k).length ≤ xs.length + ys.length + 1 := by
  have h1 := insAt_len xs k; have h2 := insAt_len ys k; have h3 : (moreA xs ys k).length ≤ (insAt ys k).length := List.length_filter_le _ _
  have h4 : (lastL xs ys k).length ≤ 1 := by
    unfold lastL
    split
    · simp
    · cases lastAt ys k <;> simp
  unfold lineA; simp only [List.length_append, List.length_map]
  omega
theorem mergeO_len {xs ys : List Mk} : ∀ {n : Nat} {out : List Mk}, mergeO xs ys n = some out → out.length ≤ n * (xs.length + ys.length + 1)
  | 0, out, h => by
    rw [mergeO] at h
    injection h with h
    rw [← h]; simp
  | n + 1, out, h => by
    rw [mergeO] at h
    cases hm : mergeO xs ys n with
    | none => rw [hm] at h; cases h
    | some o =>
      rw [hm] at h; simp only at h
      split at h
      · cases h
      · injection h with h
        rw [← h, List.length_append, Nat.add_mul, Nat.one_mul]; have := mergeO_len hm; have := lineA_len xs ys n
        omega
section
variable {c : Cx} {Q : Exit → Act → World → Prop} {fr : Fr} {hp : Hp} {L : List Fact} {ops : Array Oper} {rest : List Oper} {d : Tmp} {t ty : TypeId} {pos : String} {af : Array Edge} {x y : Operand}
theorem r_lookIn {g clk : Nat} {l : List (Ment Int)} {xs : List Mk} {Ls : List Fact} {k : Int} (hF : InF l xs Ls) (hLs : Facts Ls ∈ L) (hP : c.P = Try.prog) (hd : Nat.blt d c.n = true) (hx : ev fr x = some (.map (some g))) (hy : ev fr y = some (int k)) (hm : MapAt c.b hp L g (mapO int l clk))
    (kk : ∀ A cap, HL c ops Q rest ((d, .slice A (insAt xs k).length cap) :: fr) hp (Row A (rows (insAt xs k)) :: L)) : HL c ops Q (⟨some d, .lookup T.map_int_L_string x y false, ty, pos, af, none⟩ :: rest) fr hp L := by
  obtain ⟨P, n, b, D, rd⟩ := c; simp only at hP; subst hP
  rcases hF k with ⟨h1, h2⟩ | ⟨A, cap, h1, h2⟩
  · have hk := kk none 0
    rw [h2] at hk; exact r_look0 (k := k) (z := .slice none 0 0) (KeyC.int T.u_int) hd T.u_map_int_L_string hx hy hm (fun _ => by kernel_rfl) h1 (hl_row0 hk)
  · exact hl_pick hLs h2 (r_look (k := k) (KeyC.int T.u_int) hd T.u_map_int_L_string hx hy (fun w hw => hm w (hw.weak (.refl _) fun F hF => List.mem_cons_of_mem _ hF)) h1 (kk A cap))
theorem r_lookLast {g clk : Nat} {l : List (Ment Int)} {xs : List Mk} {k : Int} (hF : LaM l xs) (hP : c.P = Try.prog) (hd : Nat.blt d c.n = true) (hx : ev fr x = some (.map (some g))) (hy : ev fr y = some (int k)) (hm : MapAt c.b hp L g (mapO int l clk))
    (kk : HL c ops Q rest ((d, .tuple #[mkV ((lastAt xs k).getD default), .bool (lastAt xs k).isSome]) :: fr) hp L) : HL c ops Q (⟨some d, .lookup T.map_int_api_Mark x y true, ty, pos, af, none⟩ :: rest) fr hp L := by
  obtain ⟨P, n, b, D, rd⟩ := c; simp only at hP; subst hP; refine r_lookOkG (k := k) zM _ _ (KeyC.int T.u_int) hd T.u_map_int_api_Mark hx hy hm (fun _ => by kernel_rfl) ?_ ?_ kk
  · rw [hF k]; cases lastAt xs k <;> rfl
  · rw [hF k]; cases lastAt xs k <;> rfl
end
end Go.Proofs.Ytpfbbggmcbhboaa
end
section
namespace Go.Proofs.Ytpfbbggmcbhboaa
open Go Go.W
set_option maxRecDepth 20000
attribute [local irreducible] HL HC HQ HB Row Rows2 Blk Facts
def cmpI (a b : Int) : Int := if a < b then -1 else if b < a then 1 else 0
def cmpS (a b : Str) : Int := if Op.bytesLess a b = true then -1 else if (!(Op.bytesLess a b || a == b)) = true then 1 else 0
def orL : List Int → Int
  | [] => 0
  | a :: l => if ¬ a = 0 then a else orL l
def cmpMk (a b : Mk) : Int := orL [cmpI a.2.1 b.2.1, cmpI a.1 b.1, cmpS a.2.2 b.2.2]
def cmpMs : List Mk → List Mk → Int
  | [], [] => 0
  | [], _ :: _ => -1
  | _ :: _, [] => 1
  | a :: l, b :: l' => if ¬ cmpMk a b = 0 then cmpMk a b else cmpMs l l'
abbrev Lst := Int × List Mk
def cmpL (a b : Lst) : Int := orL [cmpI a.1 b.1, cmpI a.2.length b.2.length, cmpMs a.2 b.2]
theorem cmp_isNaN_int_meets (a : Int) : Meets Try.prog F.cmp_isNaN_int [int a] { val := fun _ : Unit => .bool false } := by
 refine meets_intro F.cmp_isNaN_int_f rfl (Nat.le_of_ble_eq_true rfl) fun w0 => ?_; refine hc_seq (hc_region (r_assign rfl rfl (hl_nil (then_n (hc_seq (hc_region (r_move rfl rfl (r_move rfl rfl (r_neq rfl rfl rfl (r_assign rfl rfl (hl_nil ?_))))))))))); refine then_n (hc_ret ?_); exact ret1 () rfl (congrArg (fun b => some (Value.bool b)) (by simp)) rfl trivial (.refl _) trivial
theorem cmp_isNaN_string_meets (a : Str) : Meets Try.prog F.cmp_isNaN_string [str a] { val := fun _ : Unit => .bool false } := by
 refine meets_intro F.cmp_isNaN_string_f rfl (Nat.le_of_ble_eq_true rfl) fun w0 => ?_; refine hc_seq (hc_region (r_assign rfl rfl (hl_nil (then_n (hc_seq (hc_region (r_move rfl rfl (r_move rfl rfl (r_sneq rfl rfl rfl (r_assign rfl rfl (hl_nil ?_))))))))))); refine then_n (hc_ret ?_); exact ret1 () rfl (congrArg (fun b => some (Value.bool b)) (by simp)) rfl trivial (.refl _) trivial
theorem cmp_Compare_int_meets (a b : Int) : Meets Try.prog F.cmp_Compare_int [int a, int b] { val := fun _ : Unit => int (cmpI a b) } := by
 refine meets_intro F.cmp_Compare_int_f rfl (Nat.le_of_ble_eq_true rfl) fun w0 => ?_; refine hc_seq (hc_region (r_assign rfl rfl (hl_nil (then_n (hc_seq (hc_region (r_move rfl rfl ?_))))))); refine hl_call F.cmp_isNaN_int_cb rfl rfl (cmp_isNaN_int_meets _) (.refl _) trivial fun _ _ => ?_; refine r_assign rfl rfl (hl_nil (then_n (hc_seq (hc_region (r_move rfl rfl ?_))))); refine hl_call F.cmp_isNaN_int_cb rfl rfl (cmp_isNaN_int_meets _) (.refl _) trivial fun _ _ => ?_; refine r_assign rfl rfl (hl_nil (then_n (hc_seq (hc_seq (hc_region (r_move rfl rfl (hl_nil (then_n ?_)))))))); refine c_f rfl (by first | rfl | assumption | exact bf1 (by assumption) | exact bf2 (by assumption)) ?_; refine hc_skip (then_n (hc_seq (hc_seq (hc_region (r_move rfl rfl (hl_nil (then_n ?_))))))); refine c_f rfl (by first | rfl | assumption | exact bf1 (by assumption) | exact bf2 (by assumption)) ?_; refine hc_skip (then_n (hc_seq (hc_seq (hc_region (r_move rfl rfl (r_move rfl rfl (r_lss rfl rfl rfl (hl_nil (then_n ?_)))))))))
 first | refine c_dec rfl (fun hb4 => ?_) (fun hb4 => ?_) | refine hc_cond rfl (fun hb4 => ?_) (fun hb4 => ?_)
 ·have hb4' := hb4; try simp at hb4'
  refine hc_seq (hc_region (r_assign rfl rfl (hl_nil (then_n (hc_ret (then_ret ?_)))))); exact ret1 () rfl (congrArg (fun n => some (int n)) (by rw [cmpI, if_pos hb4])) rfl trivial (List.nil_sublist _) trivial
 ·have hb4' := hb4; try simp at hb4'
  refine hc_skip (then_n (hc_seq (hc_seq (hc_region (r_move rfl rfl (r_move rfl rfl (r_gtr rfl rfl rfl (hl_nil (then_n ?_)))))))))
  first | refine c_dec rfl (fun hb5 => ?_) (fun hb5 => ?_) | refine hc_cond rfl (fun hb5 => ?_) (fun hb5 => ?_)
  ·have hb5' := hb5; try simp at hb5'
   refine hc_seq (hc_region (r_assign rfl rfl (hl_nil (then_n (hc_ret (then_ret ?_)))))); exact ret1 () rfl (congrArg (fun n => some (int n)) (by rw [cmpI, if_neg hb4, if_pos hb5])) rfl trivial (List.nil_sublist _) trivial
  ·have hb5' := hb5; try simp at hb5'
   refine hc_skip (then_n (hc_seq (hc_region (r_assign rfl rfl (hl_nil (then_n (hc_ret ?_))))))); exact ret1 () rfl (congrArg (fun n => some (int n)) (by rw [cmpI, if_neg hb4, if_neg hb5])) rfl trivial (List.nil_sublist _) trivial
theorem cmp_Compare_string_meets (a b : Str) : Meets Try.prog F.cmp_Compare_string [str a, str b] { val := fun _ : Unit => int (cmpS a b) } := by
 refine meets_intro F.cmp_Compare_string_f rfl (Nat.le_of_ble_eq_true rfl) fun w0 => ?_; refine hc_seq (hc_region (r_assign rfl rfl (hl_nil (then_n (hc_seq (hc_region (r_move rfl rfl ?_))))))); refine hl_call F.cmp_isNaN_string_cb rfl rfl (cmp_isNaN_string_meets _) (.refl _) trivial fun _ _ => ?_; refine r_assign rfl rfl (hl_nil (then_n (hc_seq (hc_region (r_move rfl rfl ?_))))); refine hl_call F.cmp_isNaN_string_cb rfl rfl (cmp_isNaN_string_meets _) (.refl _) trivial fun _ _ => ?_; refine r_assign rfl rfl (hl_nil (then_n (hc_seq (hc_seq (hc_region (r_move rfl rfl (hl_nil (then_n ?_)))))))); refine c_f rfl (by first | rfl | assumption | exact bf1 (by assumption) | exact bf2 (by assumption)) ?_; refine hc_skip (then_n (hc_seq (hc_seq (hc_region (r_move rfl rfl (hl_nil (then_n ?_))))))); refine c_f rfl (by first | rfl | assumption | exact bf1 (by assumption) | exact bf2 (by assumption)) ?_; refine hc_skip (then_n (hc_seq (hc_seq (hc_region (r_move rfl rfl (r_move rfl rfl (r_slss rfl rfl rfl (hl_nil (then_n ?_)))))))))
 first | refine c_dec rfl (fun hb4 => ?_) (fun hb4 => ?_) | refine hc_cond rfl (fun hb4 => ?_) (fun hb4 => ?_)
 ·have hb4' := hb4; try simp at hb4'
  refine hc_seq (hc_region (r_assign rfl rfl (hl_nil (then_n (hc_ret (then_ret ?_)))))); exact ret1 () rfl (congrArg (fun n => some (int n)) (by rw [cmpS, if_pos hb4])) rfl trivial (List.nil_sublist _) trivial
 ·have hb4' := hb4; try simp at hb4'
  refine hc_skip (then_n (hc_seq (hc_seq (hc_region (r_move rfl rfl (r_move rfl rfl (r_sgtr rfl rfl rfl (hl_nil (then_n ?_)))))))))
  first | refine c_dec rfl (fun hb5 => ?_) (fun hb5 => ?_) | refine hc_cond rfl (fun hb5 => ?_) (fun hb5 => ?_)
  ·have hb5' := hb5; try simp at hb5'
   refine hc_seq (hc_region (r_assign rfl rfl (hl_nil (then_n (hc_ret (then_ret ?_)))))); exact ret1 () rfl (congrArg (fun n => some (int n)) (by rw [cmpS, if_neg (by rw [hb4]; decide), if_pos hb5])) rfl trivial (List.nil_sublist _) trivial
  ·have hb5' := hb5; try simp at hb5'
   refine hc_skip (then_n (hc_seq (hc_region (r_assign rfl rfl (hl_nil (then_n (hc_ret ?_))))))); exact ret1 () rfl (congrArg (fun n => some (int n)) (by rw [cmpS, if_neg (by rw [hb4]; decide), if_neg (by rw [hb5]; decide)])) rfl trivial (List.nil_sublist _) trivial
theorem orL_drop {l : List Int} {k : Nat} (hk : k < l.length) : orL (l.drop k) = if ¬ l.getD k default = 0 then l.getD k default else orL (l.drop (k + 1)) := by
  rw [List.drop_eq_getElem_cons hk, orL, getD_at hk]
theorem cmp_Or_int_meets {A : Option Addr} {c : Nat} (l : List Int) (hl : l.length ≤ 1000000) : Meets Try.prog F.cmp_Or_int [.slice A l.length c] { LI := [Row A (rows l)], val := fun _ : Unit => int (orL l) } := by
 refine meets_intro F.cmp_Or_int_f rfl (Nat.le_of_ble_eq_true rfl) fun w0 => ?_; refine hc_seq (hc_region (r_assign rfl rfl (hl_nil (then_n (hc_seq (hc_region (r_assign rfl rfl (hl_nil (then_n (hc_seq (hc_seq ?_))))))))))); refine hc_region (r_move rfl rfl ?_); refine r_len_sl rfl T.u_ints rfl ?_; refine r_move rfl rfl (hl_nil (then_n (hc_block ?_))); refine hc_loop (β := Nat) ⟨fun k => k ≤ l.length ∧ orL l = orL (l.drop k), fun k => [(3, int 0), (6, .slice A l.length c), (7, int l.length), (8, int k)], fun _ => [], fun _ => [Row A (rows l)]⟩ (fun k => l.length - k) 0 ⟨Nat.zero_le _, rfl⟩ ⟨rfl, rfl, rfl, rfl, trivial⟩ (.refl _) ⟨m0, trivial⟩ fun k hk => ?_; obtain ⟨hk, ht⟩ := hk; refine hc_seq (hc_region (r_lss rfl rfl rfl (hl_nil (then_n (hc_seq ?_)))))
 first | refine c_dec rfl (fun hb1 => ?_) (fun hb1 => ?_) | refine hc_cond rfl (fun hb1 => ?_) (fun hb1 => ?_)
 ·have hb1' := hb1; try simp at hb1'
  have hk2 : k < l.length := by omega
  rw [orL_drop hk2] at ht; refine hc_skip (then_n (hc_seq (hc_block (hc_seq (hc_region ?_))))); refine r_elem (α := Int) _ _ rfl T.u_ints T.sz_int rfl rfl rfl mB rfl (by omega) (by decide) ?_; refine r_load rfl T.cell_int rfl (cell_row mB (rows_get0 (by omega) rfl)) ?_; refine r_assign rfl rfl (hl_nil (then_n (hc_seq (hc_region (r_move rfl rfl (r_move rfl rfl (r_neq rfl rfl rfl (hl_nil (then_n ?_)))))))))
  first | refine c_dec rfl (fun hb2 => ?_) (fun hb2 => ?_) | refine hc_cond rfl (fun hb2 => ?_) (fun hb2 => ?_)
  ·have hb2' := hb2; try simp at hb2'
   rw [if_pos hb2] at ht; refine hc_seq (hc_region (r_move rfl rfl (r_assign rfl rfl (hl_nil (then_n (hc_ret (inb_ret (then_ret (then_ret (inb_ret (then_ret ?_))))))))))); exact ret1 () rfl (congrArg (fun n => some (int n)) (by rw [ht])) rfl trivial (List.nil_sublist _) trivial
  ·have hb2' := hb2; try simp at hb2'
   rw [if_neg hb2] at ht; refine hc_skip (inb_n (then_n (hc_region ?_))); refine r_add _ rfl rfl rfl rfl (by unfold I64; omega) ?_; refine r_move rfl rfl (hl_nil ?_); exact again _ (k + 1) ⟨by omega, ht⟩ (by show l.length - (k + 1) < l.length - k; omega) ⟨rfl, rfl, rfl, rfl, trivial⟩ (.refl _) ⟨m0, trivial⟩
 ·have hb1' := hb1; try simp at hb1'
  have hk2 : k = l.length := by omega
  refine hc_exit (then_exit (then_exit (inb_hit (then_n (hc_seq (hc_region (r_move rfl rfl (r_assign rfl rfl (hl_nil (then_n (hc_ret ?_))))))))))); exact ret1 () rfl (congrArg (fun n => some (int n)) (by rw [ht, hk2, List.drop_length]; rfl)) rfl trivial (List.nil_sublist _) trivial
theorem proof_compareMarks_meets (a b : Mk) : Meets Try.prog F.proof_compareMarks [.agg #[int a.1, int a.2.1, str a.2.2], .agg #[int b.1, int b.2.1, str b.2.2]] { val := fun _ : Unit => int (cmpMk a b) } := by
 refine meets_intro F.proof_compareMarks_f rfl (Nat.le_of_ble_eq_true rfl) fun w0 => ?_; refine hc_seq (hc_region ?_); refine r_box rfl rfl fun gB => ?_; refine r_box rfl rfl fun gB => ?_; refine r_assign rfl rfl (hl_nil (then_n (hc_seq ?_))); refine hc_draw 14 mixed (by decide) (by decide) rfl rfl ?_
 apply hb_ex _ rfl rfl rfl
 ·intro w1
  first | refine r_fieldAddr ⟨_, 1, none⟩ rfl rfl T.fa_api_Mark_1 rfl ?_ | refine r_fieldAddr _ rfl rfl T.fa_api_Mark_1 rfl ?_
  refine hl_nil ?_; exact qe_done rfl
 apply hb_ex _ rfl rfl rfl
 ·intro w1
  first | refine r_load rfl T.cell_int rfl (cell_blk mB rfl) ?_ | refine r_load rfl T.cell_int rfl (cell_own mB rfl) ?_ | refine r_load rfl T.cell_int rfl (cell_row mB (rows_get0 (by omega) rfl)) ?_ | refine r_load rfl T.cell_int rfl (cell_row_f mB (rows_get (by omega) rfl)) ?_
  refine hl_nil ?_; exact qe_done rfl
 apply hb_ex _ rfl rfl rfl
 ·intro w1
  first | refine r_fieldAddr ⟨_, 1, none⟩ rfl rfl T.fa_api_Mark_1 rfl ?_ | refine r_fieldAddr _ rfl rfl T.fa_api_Mark_1 rfl ?_
  refine hl_nil ?_; exact qe_done rfl
 apply hb_ex _ rfl rfl rfl
 ·intro w1
  first | refine r_load rfl T.cell_int rfl (cell_blk mB rfl) ?_ | refine r_load rfl T.cell_int rfl (cell_own mB rfl) ?_ | refine r_load rfl T.cell_int rfl (cell_row mB (rows_get0 (by omega) rfl)) ?_ | refine r_load rfl T.cell_int rfl (cell_row_f mB (rows_get (by omega) rfl)) ?_
  refine hl_nil ?_; exact qe_done rfl
 refine hb_ex _ rfl rfl rfl (fun w1 => hl_call F.cmp_Compare_int_cb rfl rfl (cmp_Compare_int_meets _ _) (.refl _) trivial fun _ _ => (hl_nil (qe_done rfl))) ?_
 apply hb_ex _ rfl rfl rfl
 ·intro w1
  first | refine r_fieldAddr ⟨_, 0, none⟩ rfl rfl T.fa_api_Mark_0 rfl ?_ | refine r_fieldAddr _ rfl rfl T.fa_api_Mark_0 rfl ?_
  refine hl_nil ?_; exact qe_done rfl
 apply hb_ex _ rfl rfl rfl
 ·intro w1
  first | refine r_load rfl T.cell_int rfl (cell_blk mB rfl) ?_ | refine r_load rfl T.cell_int rfl (cell_own mB rfl) ?_ | refine r_load rfl T.cell_int rfl (cell_row mB (rows_get0 (by omega) rfl)) ?_ | refine r_load rfl T.cell_int rfl (cell_row_f mB (rows_get (by omega) rfl)) ?_
  refine hl_nil ?_; exact qe_done rfl
 apply hb_ex _ rfl rfl rfl
 ·intro w1
  first | refine r_fieldAddr ⟨_, 0, none⟩ rfl rfl T.fa_api_Mark_0 rfl ?_ | refine r_fieldAddr _ rfl rfl T.fa_api_Mark_0 rfl ?_
  refine hl_nil ?_; exact qe_done rfl
 apply hb_ex _ rfl rfl rfl
 ·intro w1
  first | refine r_load rfl T.cell_int rfl (cell_blk mB rfl) ?_ | refine r_load rfl T.cell_int rfl (cell_own mB rfl) ?_ | refine r_load rfl T.cell_int rfl (cell_row mB (rows_get0 (by omega) rfl)) ?_ | refine r_load rfl T.cell_int rfl (cell_row_f mB (rows_get (by omega) rfl)) ?_
  refine hl_nil ?_; exact qe_done rfl
 refine hb_ex _ rfl rfl rfl (fun w1 => hl_call F.cmp_Compare_int_cb rfl rfl (cmp_Compare_int_meets _ _) (.refl _) trivial fun _ _ => (hl_nil (qe_done rfl))) ?_
 apply hb_ex _ rfl rfl rfl
 ·intro w1
  first | refine r_fieldAddr ⟨_, 2, none⟩ rfl rfl T.fa_api_Mark_2 rfl ?_ | refine r_fieldAddr _ rfl rfl T.fa_api_Mark_2 rfl ?_
  refine hl_nil ?_; exact qe_done rfl
 apply hb_ex _ rfl rfl rfl
 ·intro w1
  first | refine r_load rfl T.cell_string rfl (cell_blk mB rfl) ?_ | refine r_load rfl T.cell_string rfl (cell_own mB rfl) ?_ | refine r_load rfl T.cell_string rfl (cell_row mB (rows_get0 (by omega) rfl)) ?_ | refine r_load rfl T.cell_string rfl (cell_row_f mB (rows_get (by omega) rfl)) ?_
  refine hl_nil ?_; exact qe_done rfl
 apply hb_ex _ rfl rfl rfl
 ·intro w1
  first | refine r_fieldAddr ⟨_, 2, none⟩ rfl rfl T.fa_api_Mark_2 rfl ?_ | refine r_fieldAddr _ rfl rfl T.fa_api_Mark_2 rfl ?_
  refine hl_nil ?_; exact qe_done rfl
 apply hb_ex _ rfl rfl rfl
 ·intro w1
  first | refine r_load rfl T.cell_string rfl (cell_blk mB rfl) ?_ | refine r_load rfl T.cell_string rfl (cell_own mB rfl) ?_ | refine r_load rfl T.cell_string rfl (cell_row mB (rows_get0 (by omega) rfl)) ?_ | refine r_load rfl T.cell_string rfl (cell_row_f mB (rows_get (by omega) rfl)) ?_
  refine hl_nil ?_; exact qe_done rfl
 refine hb_nil ⟨rfl, ?_⟩; refine hl_call F.cmp_Compare_string_cb rfl rfl (cmp_Compare_string_meets _ _) (.refl _) trivial fun _ _ => ?_; refine r_buildSlice _ rfl rfl (fun _ => T.bs_ints_3 ..) fun gS => ?_; refine hl_letgo (rows [cmpI a.2.1 b.2.1, cmpI a.1 b.1, cmpS a.2.2 b.2.2]) ⟨[], List.append_nil _⟩ ?_; refine hl_call F.cmp_Or_int_cb rfl rfl (cmp_Or_int_meets [cmpI a.2.1 b.2.1, cmpI a.1 b.1, cmpS a.2.2 b.2.2] (by simp)) (List.Perm.refl _) ⟨m0, trivial⟩ fun _ _ => ?_; refine r_assign rfl rfl (hl_nil (then_n (hc_ret ?_))); exact ret1 () rfl rfl rfl trivial (List.nil_sublist _) trivial
theorem drop_getD {α : Type} [Inhabited α] {l : List α} {k : Nat} (hk : k < l.length) : l.drop k = l.getD k default :: l.drop (k + 1) := by rw [List.drop_eq_getElem_cons hk, getD_at hk]
theorem slices_CompareFunc_meets {A B : Option Addr} {ca cb : Nat} (a b : List Mk) (ha : a.length ≤ 1000000) : Meets Try.prog F.slices_CompareFunc [.slice A a.length ca, .slice B b.length cb, fnV F.proof_compareMarks] { LI := [Row A (rows a), Row B (rows b)], val := fun _ : Unit => int (cmpMs a b) } := by
 refine meets_intro F.slices_CompareFunc_f rfl (Nat.le_of_ble_eq_true rfl) fun w0 => ?_; refine hc_seq (hc_region (r_assign rfl rfl (hl_nil (then_n (hc_seq (hc_seq (hc_region (r_move rfl rfl ?_)))))))); refine r_len_sl rfl T.u_L_api_Mark rfl ?_; refine r_move rfl rfl (hl_nil (then_n (hc_block ?_))); refine hc_loop (β := Nat) ⟨fun k => k ≤ a.length ∧ k ≤ b.length ∧ cmpMs a b = cmpMs (a.drop k) (b.drop k), fun k => [(0, .slice A a.length ca), (1, .slice B b.length cb), (2, fnV F.proof_compareMarks), (11, .slice A a.length ca), (12, int a.length), (13, int k)], fun _ => [], fun _ => [Row A (rows a), Row B (rows b)]⟩ (fun k => a.length - k) 0 ⟨Nat.zero_le _, Nat.zero_le _, rfl⟩ ⟨rfl, rfl, rfl, rfl, rfl, rfl, trivial⟩ (.refl _) ⟨m0, m1, trivial⟩ fun k hk => ?_; obtain ⟨hka, hkb, ht⟩ := hk; refine hc_seq (hc_region (r_lss rfl rfl rfl (hl_nil (then_n (hc_seq ?_)))))
 first | refine c_dec rfl (fun hb1 => ?_) (fun hb1 => ?_) | refine hc_cond rfl (fun hb1 => ?_) (fun hb1 => ?_)
 ·have hb1' := hb1; try simp at hb1'
  have hk2 : k < a.length := by omega
  rw [drop_getD hk2] at ht; refine hc_skip (then_n (hc_seq (hc_block (hc_seq (hc_region (r_move rfl rfl ?_)))))); refine r_elem (α := Mk) _ _ rfl T.u_L_api_Mark T.sz_api_Mark rfl rfl rfl mB rfl (by omega) (by decide) ?_; refine r_loadS rfl T.row_api_Mark T.sz_api_Mark rfl rfl (cells_row mB (rows_all (by omega))) ?_; refine r_alloc rfl (fun _ => T.al_api_Mark _) fun gA => ?_; refine r_assign rfl rfl ?_; refine r_storeS rfl rfl (by first | exact .refl _ | exact perm2 _ _ _ | exact perm3 _ _ _ _ | exact perm4 _ _ _ _ _) T.sz_api_Mark (by rfl) (by rfl) ?_; refine hl_nil (then_n (hc_seq (hc_seq (hc_region (r_move rfl rfl (r_move rfl rfl ?_)))))); refine r_len_sl rfl T.u_L_api_Mark rfl ?_; refine r_geq rfl rfl rfl (hl_nil (then_n ?_))
  first | refine c_dec rfl (fun hb2 => ?_) (fun hb2 => ?_) | refine hc_cond rfl (fun hb2 => ?_) (fun hb2 => ?_)
  ·have hb2' := hb2; try simp at hb2'
   have hk3 : k = b.length := by omega
   refine hc_seq (hc_region (r_assign rfl rfl (hl_nil (then_n (hc_ret (then_ret (inb_ret (then_ret (then_ret (inb_ret (then_ret ?_))))))))))); exact ret1 () rfl (congrArg (fun n => some (int n)) (by rw [ht, hk3, List.drop_length]; rfl)) rfl trivial (List.nil_sublist _) trivial
  ·have hb2' := hb2; try simp at hb2'
   have hk3 : k < b.length := by omega
   rw [drop_getD hk3, cmpMs] at ht; refine hc_skip (then_n (hc_seq (hc_region (r_move rfl rfl (r_move rfl rfl ?_))))); refine r_elem (α := Mk) _ _ rfl T.u_L_api_Mark T.sz_api_Mark rfl rfl rfl mB rfl (by omega) (by decide) ?_; refine r_loadS rfl T.row_api_Mark T.sz_api_Mark rfl rfl (cells_row mB (rows_all (by omega))) ?_; refine r_alloc rfl (fun _ => T.al_api_Mark _) fun gA => ?_; refine r_storeS rfl rfl (by first | exact .refl _ | exact perm2 _ _ _ | exact perm3 _ _ _ _ | exact perm4 _ _ _ _ _) T.sz_api_Mark (by rfl) (by rfl) ?_; refine hl_nil (then_n (hc_seq (hc_region (r_move rfl rfl ?_))))
   first | refine r_loadA rfl T.row_api_Mark T.sz_api_Mark rfl mB (by rfl) ?_ | refine r_loadB rfl T.row_api_Mark T.sz_api_Mark rfl mB (by rfl) ?_ | refine r_loadS rfl T.row_api_Mark T.sz_api_Mark rfl rfl (cells_row mB (rows_all (by omega))) ?_
   first | refine r_loadA rfl T.row_api_Mark T.sz_api_Mark rfl mB (by rfl) ?_ | refine r_loadB rfl T.row_api_Mark T.sz_api_Mark rfl mB (by rfl) ?_ | refine r_loadS rfl T.row_api_Mark T.sz_api_Mark rfl rfl (cells_row mB (rows_all (by omega))) ?_
   refine hl_callv (cap := []) F.proof_compareMarks_cb rfl rfl rfl (proof_compareMarks_meets (a.getD k default) (b.getD k default)) (List.Perm.refl _) trivial fun _ _ => ?_; refine r_assign rfl rfl (hl_nil (then_n (hc_seq (hc_region (r_move rfl rfl (r_neq rfl rfl rfl (hl_nil (then_n ?_))))))))
   first | refine c_dec rfl (fun hb3 => ?_) (fun hb3 => ?_) | refine hc_cond rfl (fun hb3 => ?_) (fun hb3 => ?_)
   ·have hb3' := hb3; try simp at hb3'
    rw [if_pos hb3] at ht; refine hc_seq (hc_region (r_move rfl rfl (r_assign rfl rfl (hl_nil (then_n (hc_ret (inb_ret (then_ret (then_ret (inb_ret (then_ret ?_))))))))))); exact ret1 () rfl (congrArg (fun n => some (int n)) (by rw [ht])) rfl trivial (List.nil_sublist _) trivial
   ·have hb3' := hb3; try simp at hb3'
    rw [if_neg hb3] at ht; refine hc_skip (inb_n (then_n (hc_region ?_))); refine r_add _ rfl rfl rfl rfl (by unfold I64; omega) ?_; refine r_move rfl rfl (hl_nil ?_); exact again _ (k + 1) ⟨by omega, by omega, ht⟩ (by show a.length - (k + 1) < a.length - k; omega) ⟨rfl, rfl, rfl, rfl, rfl, rfl, trivial⟩ (List.nil_sublist _) ⟨m0, m1, trivial⟩
 ·have hb1' := hb1; try simp at hb1'
  have hk2 : k = a.length := by omega
  refine hc_exit (then_exit (then_exit (inb_hit (then_n (hc_seq (hc_seq (hc_region (r_move rfl rfl ?_)))))))); refine r_len_sl rfl T.u_L_api_Mark rfl ?_; refine r_move rfl rfl ?_; refine r_len_sl rfl T.u_L_api_Mark rfl ?_; refine r_lss rfl rfl rfl (hl_nil (then_n ?_))
  first | refine c_dec rfl (fun hb4 => ?_) (fun hb4 => ?_) | refine hc_cond rfl (fun hb4 => ?_) (fun hb4 => ?_)
  ·have hb4' := hb4; try simp at hb4'
   have h4 : k < b.length := by omega
   rw [hk2, List.drop_length, drop_getD (by omega)] at ht; refine hc_seq (hc_region (r_assign rfl rfl (hl_nil (then_n (hc_ret (then_ret ?_)))))); exact ret1 () rfl (congrArg (fun n => some (int n)) (by rw [ht]; rfl)) rfl trivial (List.nil_sublist _) trivial
  ·have hb4' := hb4; try simp at hb4'
   have h4 : k = b.length := by omega
   rw [hk2, List.drop_length, ← hk2, h4, List.drop_length] at ht; refine hc_skip (then_n (hc_seq (hc_region (r_assign rfl rfl (hl_nil (then_n (hc_ret ?_))))))); exact ret1 () rfl (congrArg (fun n => some (int n)) (by rw [ht]; rfl)) rfl trivial (List.nil_sublist _) trivial
theorem proof_compareLists_meets {A B : Option Addr} {ca cb : Nat} (x y : Lst) (ha : x.2.length ≤ 1000000) (hb : y.2.length ≤ 1000000) : Meets Try.prog F.proof_compareLists [.agg #[int x.1, .slice A x.2.length ca], .agg #[int y.1, .slice B y.2.length cb]] { LI := [Row A (rows x.2), Row B (rows y.2)], val := fun _ : Unit => int (cmpL x y) } := by
 refine meets_intro F.proof_compareLists_f rfl (Nat.le_of_ble_eq_true rfl) fun w0 => ?_; refine hc_seq (hc_region ?_); refine r_box rfl rfl fun gB => ?_; refine r_box rfl rfl fun gB => ?_; refine r_assign rfl rfl (hl_nil (then_n (hc_seq ?_))); refine hc_draw 16 mixed (by decide) (by decide) rfl rfl ?_
 apply hb_ex _ rfl rfl rfl
 ·intro w1
  first | refine r_fieldAddr ⟨_, 0, none⟩ rfl rfl T.fa_proof_list_0 rfl ?_ | refine r_fieldAddr _ rfl rfl T.fa_proof_list_0 rfl ?_
  refine hl_nil ?_; exact qe_done rfl
 apply hb_ex _ rfl rfl rfl
 ·intro w1
  first | refine r_load rfl T.cell_int rfl (cell_blk mB rfl) ?_ | refine r_load rfl T.cell_int rfl (cell_own mB rfl) ?_ | refine r_load rfl T.cell_int rfl (cell_row mB (rows_get0 (by omega) rfl)) ?_ | refine r_load rfl T.cell_int rfl (cell_row_f mB (rows_get (by omega) rfl)) ?_
  refine hl_nil ?_; exact qe_done rfl
 apply hb_ex _ rfl rfl rfl
 ·intro w1
  first | refine r_fieldAddr ⟨_, 0, none⟩ rfl rfl T.fa_proof_list_0 rfl ?_ | refine r_fieldAddr _ rfl rfl T.fa_proof_list_0 rfl ?_
  refine hl_nil ?_; exact qe_done rfl
 apply hb_ex _ rfl rfl rfl
 ·intro w1
  first | refine r_load rfl T.cell_int rfl (cell_blk mB rfl) ?_ | refine r_load rfl T.cell_int rfl (cell_own mB rfl) ?_ | refine r_load rfl T.cell_int rfl (cell_row mB (rows_get0 (by omega) rfl)) ?_ | refine r_load rfl T.cell_int rfl (cell_row_f mB (rows_get (by omega) rfl)) ?_
  refine hl_nil ?_; exact qe_done rfl
 refine hb_ex _ rfl rfl rfl (fun w1 => hl_call F.cmp_Compare_int_cb rfl rfl (cmp_Compare_int_meets _ _) (.refl _) trivial fun _ _ => (hl_nil (qe_done rfl))) ?_
 apply hb_ex _ rfl rfl rfl
 ·intro w1
  first | refine r_fieldAddr ⟨_, 1, none⟩ rfl rfl T.fa_proof_list_1 rfl ?_ | refine r_fieldAddr _ rfl rfl T.fa_proof_list_1 rfl ?_
  refine hl_nil ?_; exact qe_done rfl
 apply hb_ex _ rfl rfl rfl
 ·intro w1
  first | refine r_load rfl T.cell_L_api_Mark rfl (cell_blk mB rfl) ?_ | refine r_load rfl T.cell_L_api_Mark rfl (cell_own mB rfl) ?_ | refine r_load rfl T.cell_L_api_Mark rfl (cell_row mB (rows_get0 (by omega) rfl)) ?_ | refine r_load rfl T.cell_L_api_Mark rfl (cell_row_f mB (rows_get (by omega) rfl)) ?_
  refine hl_nil ?_; exact qe_done rfl
 refine hb_ex _ rfl rfl rfl (fun w1 => r_len_sl rfl T.u_L_api_Mark rfl (hl_nil (qe_done rfl))) ?_
 apply hb_ex _ rfl rfl rfl
 ·intro w1
  first | refine r_fieldAddr ⟨_, 1, none⟩ rfl rfl T.fa_proof_list_1 rfl ?_ | refine r_fieldAddr _ rfl rfl T.fa_proof_list_1 rfl ?_
  refine hl_nil ?_; exact qe_done rfl
 apply hb_ex _ rfl rfl rfl
 ·intro w1
  first | refine r_load rfl T.cell_L_api_Mark rfl (cell_blk mB rfl) ?_ | refine r_load rfl T.cell_L_api_Mark rfl (cell_own mB rfl) ?_ | refine r_load rfl T.cell_L_api_Mark rfl (cell_row mB (rows_get0 (by omega) rfl)) ?_ | refine r_load rfl T.cell_L_api_Mark rfl (cell_row_f mB (rows_get (by omega) rfl)) ?_
  refine hl_nil ?_; exact qe_done rfl
 refine hb_ex _ rfl rfl rfl (fun w1 => r_len_sl rfl T.u_L_api_Mark rfl (hl_nil (qe_done rfl))) ?_; refine hb_ex _ rfl rfl rfl (fun w1 => hl_call F.cmp_Compare_int_cb rfl rfl (cmp_Compare_int_meets _ _) (.refl _) trivial fun _ _ => (hl_nil (qe_done rfl))) ?_
 apply hb_ex _ rfl rfl rfl
 ·intro w1
  first | refine r_fieldAddr ⟨_, 1, none⟩ rfl rfl T.fa_proof_list_1 rfl ?_ | refine r_fieldAddr _ rfl rfl T.fa_proof_list_1 rfl ?_
  refine hl_nil ?_; exact qe_done rfl
 apply hb_ex _ rfl rfl rfl
 ·intro w1
  first | refine r_load rfl T.cell_L_api_Mark rfl (cell_blk mB rfl) ?_ | refine r_load rfl T.cell_L_api_Mark rfl (cell_own mB rfl) ?_ | refine r_load rfl T.cell_L_api_Mark rfl (cell_row mB (rows_get0 (by omega) rfl)) ?_ | refine r_load rfl T.cell_L_api_Mark rfl (cell_row_f mB (rows_get (by omega) rfl)) ?_
  refine hl_nil ?_; exact qe_done rfl
 apply hb_ex _ rfl rfl rfl
 ·intro w1
  first | refine r_fieldAddr ⟨_, 1, none⟩ rfl rfl T.fa_proof_list_1 rfl ?_ | refine r_fieldAddr _ rfl rfl T.fa_proof_list_1 rfl ?_
  refine hl_nil ?_; exact qe_done rfl
 apply hb_ex _ rfl rfl rfl
 ·intro w1
  first | refine r_load rfl T.cell_L_api_Mark rfl (cell_blk mB rfl) ?_ | refine r_load rfl T.cell_L_api_Mark rfl (cell_own mB rfl) ?_ | refine r_load rfl T.cell_L_api_Mark rfl (cell_row mB (rows_get0 (by omega) rfl)) ?_ | refine r_load rfl T.cell_L_api_Mark rfl (cell_row_f mB (rows_get (by omega) rfl)) ?_
  refine hl_nil ?_; exact qe_done rfl
 refine hb_nil ⟨rfl, ?_⟩; refine hl_call F.slices_CompareFunc_cb rfl rfl (slices_CompareFunc_meets x.2 y.2 ha) (.refl _) ⟨m0, m1, trivial⟩ fun _ _ => ?_; refine r_buildSlice _ rfl rfl (fun _ => T.bs_ints_3 ..) fun gS => ?_; refine hl_letgo (rows [cmpI x.1 y.1, cmpI x.2.length y.2.length, cmpMs x.2 y.2]) ⟨[], List.append_nil _⟩ ?_; refine hl_call F.cmp_Or_int_cb rfl rfl (cmp_Or_int_meets [cmpI x.1 y.1, cmpI x.2.length y.2.length, cmpMs x.2 y.2] (by simp)) (List.Perm.refl _) ⟨m0, trivial⟩ fun _ _ => ?_; refine r_assign rfl rfl (hl_nil (then_n (hc_ret ?_))); exact ret1 () rfl rfl rfl trivial (List.nil_sublist _) trivial
abbrev LstV := Int × Sl Mk
instance : El LstV where
  default := (0, ⟨none, 0, []⟩)
  cells x := [int x.1, .slice x.2.a x.2.l.length x.2.c]
  sz := 2
  len _ := rfl
  one a u h := by simp at h; rcases h with h | h <;> subst h <;> rfl
def LstV.dat (x : LstV) : Lst := (x.1, x.2.l)
def LstV.row (x : LstV) : Fact := Row x.2.a (rows x.2.l)
def LstV.v (x : LstV) : Value := .agg #[int x.1, .slice x.2.a x.2.l.length x.2.c]
theorem proof_compareLists_meets2 (x y : LstV) (ha : x.2.l.length ≤ 1000000) (hb : y.2.l.length ≤ 1000000) : Meets Try.prog F.proof_compareLists [x.v, y.v] { LI := [x.row, y.row], val := fun _ : Unit => int (cmpL x.dat y.dat) } :=
  proof_compareLists_meets (A := x.2.a) (B := y.2.a) (ca := x.2.c) (cb := y.2.c) (x.1, x.2.l) (y.1, y.2.l) ha hb
def leastV (f : LstV) (l : List LstV) : LstV := l.foldl (fun f x => if cmpL x.dat f.dat < 0 then x else f) f
theorem leastV_mem (f : LstV) (l : List LstV) : leastV f l ∈ f :: l := by
  unfold leastV
  induction l generalizing f with
  | nil => simp
  | cons x l ih =>
    rw [List.foldl_cons]; have := ih (if cmpL x.dat f.dat < 0 then x else f)
    rcases List.mem_cons.1 this with h | h
    · rw [h]; split <;> simp
    · simp [h]
theorem leastV_take {f : LstV} {l : List LstV} {k : Nat} (hk : k < l.length) : leastV f (l.take (k + 1)) = if cmpL (l.getD k default).dat (leastV f (l.take k)).dat < 0 then l.getD k default else leastV f (l.take k) := by
  rw [take_succ_getD l k hk]; unfold leastV; rw [List.foldl_append]
  rfl
theorem proof_least_meets {B : Option Addr} {cb : Nat} (f : LstV) (l : List LstV) (hl : l.length ≤ 1000) (hs : ∀ x ∈ f :: l, x.2.l.length ≤ 1000000) :
    Meets Try.prog F.proof_least [fnV F.proof_compareLists, f.v, .slice B l.length cb] { LI := [Row B (rows l), Facts ((f :: l).map LstV.row)], val := fun _ : Unit => (leastV f l).v } := by
 unfold LstV.v; refine meets_intro F.proof_least_f rfl (Nat.le_of_ble_eq_true rfl) fun w0 => ?_; refine hc_seq (hc_region ?_); refine r_box rfl rfl fun gB => ?_; refine r_alloc rfl (fun _ => T.al_proof_list _) fun gA => ?_; refine hl_nil (then_n (hc_seq (hc_seq ?_))); refine hc_perm (.swap _ _ _) ?_; refine hc_region (r_move rfl rfl ?_); refine r_len_sl rfl T.u_L_proof_list rfl ?_; refine r_move rfl rfl (hl_nil (then_n (hc_block ?_))); refine hc_loop (β := Nat) ⟨fun k => k ≤ l.length, fun k => [(0, fnV F.proof_compareLists), (4, .pointer (some ⟨gB, 0, none⟩)), (6, .pointer (some ⟨gA, 0, none⟩)), (9, .slice B l.length cb), (10, int l.length), (11, int k)], fun k => [(gB, .cells (El.cells (leastV f (l.take k))).toArray T.proof_list (0, 0)), (gA, .cells #[int 0, .slice none 0 0] T.proof_list (0, 0))], fun _ => [Row B (rows l), Facts ((f :: l).map LstV.row)]⟩ (fun k => l.length - k) 0 (Nat.zero_le _) ⟨rfl, rfl, rfl, rfl, rfl, rfl, trivial⟩ (.refl _) ⟨m0, m1, trivial⟩ fun k hk => ?_; simp only at hk; refine hc_seq (hc_region (r_lss rfl rfl rfl (hl_nil (then_n (hc_seq ?_)))))
 first | refine c_dec rfl (fun hb1 => ?_) (fun hb1 => ?_) | refine hc_cond rfl (fun hb1 => ?_) (fun hb1 => ?_)
 ·have hb1' := hb1; try simp at hb1'
  have hk2 : k < l.length := by omega
  have hlt := leastV_take (f := f) hk2
  have hmem : leastV f (l.take k) ∈ f :: l := by
    rcases List.mem_cons.1 (leastV_mem f (l.take k)) with h | h
    · simp [h]
    · exact List.mem_cons_of_mem _ (List.mem_of_mem_take h)
  refine hc_skip (then_n (hc_seq (hc_block (hc_seq (hc_region ?_))))); refine r_elem (α := _) _ _ rfl T.u_L_proof_list T.sz_proof_list rfl rfl rfl mB rfl (by omega) (by decide) ?_; refine r_loadS rfl T.row_proof_list T.sz_proof_list rfl rfl (cells_row mB (rows_all (by omega))) ?_; refine r_alloc rfl (fun _ => T.al_proof_list _) fun gA => ?_; refine r_storeS rfl rfl (by first | exact .refl _ | exact perm2 _ _ _ | exact perm3 _ _ _ _ | exact perm4 _ _ _ _ _) T.sz_proof_list (by rfl) (by rfl) ?_; refine hl_nil (then_n (hc_seq ?_)); have hx := List.mem_cons_of_mem f (getD_mem hk2); generalize hm : l.getD k default = x at *; refine hc_region (r_move rfl rfl ?_)
  first | refine r_loadA rfl T.row_proof_list T.sz_proof_list rfl mB (by rfl) ?_ | refine r_loadB rfl T.row_proof_list T.sz_proof_list rfl mB (by rfl) ?_ | refine r_loadS rfl T.row_proof_list T.sz_proof_list rfl rfl (cells_row mB (rows_all (by omega))) ?_
  first | refine r_loadA rfl T.row_proof_list T.sz_proof_list rfl mB (by rfl) ?_ | refine r_loadB rfl T.row_proof_list T.sz_proof_list rfl mB (by rfl) ?_ | refine r_loadS rfl T.row_proof_list T.sz_proof_list rfl rfl (cells_row mB (rows_all (by omega))) ?_
  refine hl_pick (F := LstV.row x) m1 (List.mem_map.2 ⟨x, hx, rfl⟩) ?_; refine hl_pick (F := LstV.row (leastV f (l.take k))) m2 (List.mem_map.2 ⟨_, hmem, rfl⟩) ?_; refine hl_callv (vs := [x.v, (leastV f (l.take k)).v]) (cap := []) F.proof_compareLists_cb rfl rfl rfl (proof_compareLists_meets2 x (leastV f (l.take k)) (hs x hx) (hs _ hmem)) (List.Perm.refl _) ⟨m1, m0, trivial⟩ fun _ _ => ?_; refine r_lss rfl rfl rfl (hl_nil (then_n ?_))
  first | refine c_dec rfl (fun hb2 => ?_) (fun hb2 => ?_) | refine hc_cond rfl (fun hb2 => ?_) (fun hb2 => ?_)
  ·have hb2' := hb2; try simp at hb2'
   rw [if_pos hb2] at hlt; refine hc_region ?_
   first | refine r_loadA rfl T.row_proof_list T.sz_proof_list rfl mB (by rfl) ?_ | refine r_loadB rfl T.row_proof_list T.sz_proof_list rfl mB (by rfl) ?_ | refine r_loadS rfl T.row_proof_list T.sz_proof_list rfl rfl (cells_row mB (rows_all (by omega))) ?_
   refine r_storeS rfl rfl (.swap _ _ _) T.sz_proof_list (by rfl) (by rfl) ?_; refine hl_nil (inb_n (then_n (hc_region ?_))); refine r_add _ rfl rfl rfl rfl (by unfold I64; omega) ?_; refine r_move rfl rfl (hl_nil ?_); refine again _ (k + 1) (by show k + 1 ≤ l.length; omega) (by show l.length - (k + 1) < l.length - k; omega) ⟨rfl, rfl, rfl, rfl, rfl, rfl, trivial⟩ ?_ ⟨m2, m3, trivial⟩; show [(gB, Obj.cells (El.cells (leastV f (l.take (k + 1)))).toArray T.proof_list (0, 0)), _].Sublist _; rw [hlt]; exact (List.sublist_cons_self _ _).cons_cons _
  ·have hb2' := hb2; try simp at hb2'
   rw [if_neg hb2] at hlt; refine hc_skip (inb_n (then_n (hc_region ?_))); refine r_add _ rfl rfl rfl rfl (by unfold I64; omega) ?_; refine r_move rfl rfl (hl_nil ?_); refine again _ (k + 1) (by show k + 1 ≤ l.length; omega) (by show l.length - (k + 1) < l.length - k; omega) ⟨rfl, rfl, rfl, rfl, rfl, rfl, trivial⟩ ?_ ⟨m2, m3, trivial⟩; show [(gB, Obj.cells (El.cells (leastV f (l.take (k + 1)))).toArray T.proof_list (0, 0)), _].Sublist _; rw [hlt]; exact List.sublist_cons_self _ _
 ·have hb1' := hb1; try simp at hb1'
  have hk2 : k = l.length := by omega
  subst hk2; refine hc_exit (then_exit (then_exit (inb_hit (then_n (hc_seq (hc_region ?_))))))
  first | refine r_loadA rfl T.row_proof_list T.sz_proof_list rfl mB (by rfl) ?_ | refine r_loadB rfl T.row_proof_list T.sz_proof_list rfl mB (by rfl) ?_ | refine r_loadS rfl T.row_proof_list T.sz_proof_list rfl rfl (cells_row mB (rows_all (by omega))) ?_
  refine r_storeS rfl rfl (by first | exact .refl _ | exact perm2 _ _ _ | exact perm3 _ _ _ _ | exact perm4 _ _ _ _ _) T.sz_proof_list (by rfl) (by rfl) ?_; refine hl_nil (then_n (hc_ret ?_)); refine ret_row () rfl rfl T.row_proof_list T.sz_proof_list rfl m0 (by rw [List.take_length]; rfl) rfl trivial (List.nil_sublist _) trivial
theorem proof_list_behind_meets (x : LstV) (m : Mk) (hc : 0 ≤ x.1 ∧ x.1 ≤ 1000000) (hl : x.2.l.length ≤ 1000000) :
    Meets Try.prog F.proof_list_behind [x.v, .agg #[int m.1, int m.2.1, str m.2.2]] { LI := [x.row], inv := fun o : OutC => (m :: x.2.l).length ≤ o.2, val := fun o => LstV.v (if m.1 = 3 then x.1 else x.1 + 1, ⟨o.1, o.2, m :: x.2.l⟩), LO := fun o => [Row o.1 (rows (m :: x.2.l))] } := by
 unfold LstV.v LstV.row; refine meets_intro F.proof_list_behind_f rfl (Nat.le_of_ble_eq_true rfl) fun w0 => ?_; refine hc_seq (hc_region ?_); refine r_box rfl rfl fun gB => ?_; refine r_box rfl rfl fun gB => ?_; refine r_alloc rfl (fun _ => T.al_proof_list _) fun gA => ?_; refine hl_nil (then_n (hc_seq ?_)); refine hc_drawW ([]) (_) (List.Perm.refl _) 9 [8] mixed (by decide) (by decide) (by decide) rfl rfl rfl ?_
 apply hb_ex _ rfl rfl rfl
 ·intro w1
  first | refine r_fieldAddr ⟨_, 0, none⟩ rfl rfl T.fa_proof_list_0 rfl ?_ | refine r_fieldAddr _ rfl rfl T.fa_proof_list_0 rfl ?_
  refine hl_nil ?_; exact qe_done rfl
 apply hb_ex _ rfl rfl rfl
 ·intro w1
  first | refine r_load rfl T.cell_int rfl (cell_blk mB rfl) ?_ | refine r_load rfl T.cell_int rfl (cell_own mB rfl) ?_ | refine r_load rfl T.cell_int rfl (cell_row mB (rows_get0 (by omega) rfl)) ?_ | refine r_load rfl T.cell_int rfl (cell_row_f mB (rows_get (by omega) rfl)) ?_
  refine hl_nil ?_; exact qe_done rfl
 apply hb_ex _ rfl rfl rfl
 ·intro w1
  first | refine r_loadA rfl T.row_api_Mark T.sz_api_Mark rfl mB (by rfl) ?_ | refine r_loadB rfl T.row_api_Mark T.sz_api_Mark rfl mB (by rfl) ?_ | refine r_loadS rfl T.row_api_Mark T.sz_api_Mark rfl rfl (cells_row mB (rows_all (by omega))) ?_
  refine hl_nil ?_; exact qe_done rfl
 refine hb_vs ⟨Nat, fun _ => True, fun g => .slice (some ⟨g, 0, none⟩) 1 1, fun g => [Row (some ⟨g, 0, none⟩) (rows [m])]⟩ rfl rfl rfl ?_ ?_
 ·intro w1; refine r_buildSlice _ rfl rfl (fun _ => T.bs_L_api_Mark_1 ..) fun gS => ?_; refine hl_nil ?_; refine hq_letgo (rows [m]) ⟨[], List.append_nil _⟩ ?_; exact qv_done gS trivial rfl ⟨m0, trivial⟩
 apply hb_ex _ rfl rfl rfl
 ·intro w1
  first | refine r_fieldAddr ⟨_, 1, none⟩ rfl rfl T.fa_proof_list_1 rfl ?_ | refine r_fieldAddr _ rfl rfl T.fa_proof_list_1 rfl ?_
  refine hl_nil ?_; exact qe_done rfl
 apply hb_ex _ rfl rfl rfl
 ·intro w1
  first | refine r_load rfl T.cell_L_api_Mark rfl (cell_blk mB rfl) ?_ | refine r_load rfl T.cell_L_api_Mark rfl (cell_own mB rfl) ?_ | refine r_load rfl T.cell_L_api_Mark rfl (cell_row mB (rows_get0 (by omega) rfl)) ?_ | refine r_load rfl T.cell_L_api_Mark rfl (cell_row_f mB (rows_get (by omega) rfl)) ?_
  refine hl_nil ?_; exact qe_done rfl
 refine hb_vs ⟨OutC, fun o => x.2.l.length + 1 ≤ o.2, fun o => .slice o.1 (x.2.l.length + 1) o.2, fun o => [Row o.1 (rows (m :: x.2.l))]⟩ rfl rfl rfl ?_ ?_
 ·intro g1 _; intro w1; refine r_append_full (x.2.l.length + 1) (rows (m :: x.2.l)) T.el_L_api_Mark rfl rfl rfl m0 (rows_len [m]) (Src.row (news := rows x.2.l) m1 (rows_len _) (rows_one _) (by decide)) (by omega) rfl (by unfold maxLen; omega) (by omega) fun A' c' hc' => ?_; refine hl_nil ?_; exact qv_done (A', c') hc' rfl ⟨m0, trivial⟩
 refine hb_vs ⟨OutC, fun o => x.2.l.length + 1 ≤ o.2, fun o => .agg #[int x.1, .slice o.1 (x.2.l.length + 1) o.2], fun o => [Row o.1 (rows (m :: x.2.l))]⟩ rfl rfl rfl ?_ ?_
 ·intro o ho; intro w1; refine r_build [(0, int x.1), (1, .slice o.1 (x.2.l.length + 1) o.2)] rfl rfl (fun _ => T.bd_proof_list_0_1 ..) ?_; refine hl_nil ?_; exact qv_done o ho rfl ⟨m0, trivial⟩
 refine hb_wr ⟨Nat, fun _ => True, fun g => .pointer (some ⟨g, 0, none⟩), fun _ => [], fun g => [(g, Obj.cells #[int 0, .slice none 0 0] T.proof_list (0, 0))]⟩ rfl rfl rfl ?_ ?_
 ·intro w1; refine r_alloc rfl (fun _ => T.al_proof_list _) fun gA => ?_; refine hl_nil ?_; exact qw_done gA trivial (fun _ => rfl) (.refl _) trivial
 refine hb_nil ⟨rfl, ?_⟩; intro g1 _ o1 ho1 o ho g5 _; refine r_storeS rfl rfl (by first | exact .refl _ | exact perm2 _ _ _ | exact perm3 _ _ _ _ | exact perm4 _ _ _ _ _) T.sz_proof_list (by rfl) (by rfl) ?_; refine hl_nil (then_n (hc_seq (hc_seq (hc_region ?_))))
 first | refine r_fieldAddr ⟨_, 0, none⟩ rfl rfl T.fa_api_Mark_0 rfl ?_ | refine r_fieldAddr _ rfl rfl T.fa_api_Mark_0 rfl ?_
 first | refine r_load rfl T.cell_int rfl (cell_own mB rfl) ?_ | refine r_load rfl T.cell_int rfl (cell_blk mB rfl) ?_ | refine r_load rfl T.cell_int rfl (cell_row mB (rows_get0 (by omega) rfl)) ?_ | refine r_load rfl T.cell_int rfl (cell_row_f mB (rows_get (by omega) rfl)) ?_
 refine r_neq rfl rfl rfl (hl_nil (then_n ?_))
 first | refine c_dec rfl (fun hb1 => ?_) (fun hb1 => ?_) | refine hc_cond rfl (fun hb1 => ?_) (fun hb1 => ?_)
 ·have hb1' := hb1; try simp at hb1'
  rw [if_neg hb1]; refine hc_region ?_
  first | refine r_fieldAddr ⟨_, 0, none⟩ rfl rfl T.fa_proof_list_0 rfl ?_ | refine r_fieldAddr _ rfl rfl T.fa_proof_list_0 rfl ?_
  first | refine r_load rfl T.cell_int rfl (cell_own mB rfl) ?_ | refine r_load rfl T.cell_int rfl (cell_blk mB rfl) ?_ | refine r_load rfl T.cell_int rfl (cell_row mB (rows_get0 (by omega) rfl)) ?_ | refine r_load rfl T.cell_int rfl (cell_row_f mB (rows_get (by omega) rfl)) ?_
  refine r_add _ rfl rfl rfl rfl (by unfold I64; omega) ?_
  first | refine r_fieldAddr ⟨_, 0, none⟩ rfl rfl T.fa_proof_list_0 rfl ?_ | refine r_fieldAddr _ rfl rfl T.fa_proof_list_0 rfl ?_
  refine r_store rfl rfl (by first | exact .refl _ | exact perm2 _ _ _ | exact perm3 _ _ _ _ | exact perm4 _ _ _ _ _) T.sz_int (by rfl) (by rfl) ?_; refine hl_nil (then_n (hc_seq (hc_region ?_)))
  first | refine r_loadA rfl T.row_proof_list T.sz_proof_list rfl mB (by rfl) ?_ | refine r_loadB rfl T.row_proof_list T.sz_proof_list rfl mB (by rfl) ?_ | refine r_loadS rfl T.row_proof_list T.sz_proof_list rfl rfl (cells_row mB (rows_all (by omega))) ?_
  refine r_storeS rfl rfl (.swap _ _ _) T.sz_proof_list (by rfl) (by rfl) ?_; refine hl_nil (then_n (hc_ret ?_)); refine ret_row o rfl rfl T.row_proof_list T.sz_proof_list rfl m0 rfl rfl ho (List.nil_sublist _) ⟨m0, trivial⟩
 ·have hb1' := hb1; try simp at hb1'
  rw [if_pos (Classical.not_not.1 hb1)]; refine hc_skip (then_n (hc_seq (hc_region ?_)))
  first | refine r_loadA rfl T.row_proof_list T.sz_proof_list rfl mB (by rfl) ?_ | refine r_loadB rfl T.row_proof_list T.sz_proof_list rfl mB (by rfl) ?_ | refine r_loadS rfl T.row_proof_list T.sz_proof_list rfl rfl (cells_row mB (rows_all (by omega))) ?_
  refine r_storeS rfl rfl (.swap _ _ _) T.sz_proof_list (by rfl) (by rfl) ?_; refine hl_nil (then_n (hc_ret ?_)); refine ret_row o rfl rfl T.row_proof_list T.sz_proof_list rfl m0 rfl rfl ho (List.nil_sublist _) ⟨m0, trivial⟩
end Go.Proofs.Ytpfbbggmcbhboaa
end
