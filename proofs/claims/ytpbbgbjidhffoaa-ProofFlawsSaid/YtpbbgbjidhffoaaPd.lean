/- Walks of what marks make of a page: the program's. -/
import Derived.Test.YtpbbgbjidhffoaaPc
import Derived.Test.YtpbbgbjidhffoaaWi
namespace Go.Proofs.Ytpbbgbjidhffoaa
open Go Go.W
set_option linter.unusedVariables false
set_option linter.unusedSimpArgs false
set_option maxRecDepth 20000
attribute [local irreducible] HL HC HQ HB Row Rows2 Blk Facts

def pressO (g : Nat) (o : OutC) (lines : List Str) (nx : Int) : Nat × Obj := (g, .cells #[.slice o.1 lines.length o.2, int nx] T.proof_press (0, 0))
/-- What a deed does: with the lines, with the number of the next old one. -/
def deedL (m : Mk) (lines : List Str) : List Str := if m.1 = 3 then lines else lines ++ [m.2.2]
def deedN (m : Mk) (nx : Int) : Int := if m.1 = 1 then nx else m.2.1 + 1
abbrev GrowS (o : OutC) (l : List Str) (og : Hp) : Prop := Grow T.string 1 o.1 l.length o.2 (rows l) og
def deedCon (g : Nat) (o : OutC) (og : Hp) (lines : List Str) (nx : Int) (m : Mk) : Con (OutC × Hp) :=
  { hpI := pressO g o lines nx :: og, inv := fun x => GrowS x.1 (deedL m lines) x.2, val := fun _ => .tuple #[], hpO := fun x => pressO g x.1 (deedL m lines) (deedN m nx) :: x.2 }
theorem perm_last2 {α : Type} (l : List α) (a b : α) : (l ++ [a, b]).Perm (b :: (l ++ [a])) := by
  have : l ++ [a, b] = (l ++ [a]) ++ [b] := by simp
  rw [this]
  exact List.perm_append_comm
theorem perm_last1 {α : Type} (l : List α) (a : α) : (l ++ [a]).Perm (a :: l) := List.perm_append_comm
theorem len_snoc {α : Type} (l : List α) (a : α) : (l ++ [a]).length = l.length + 1 := by simp


theorem proof_deeds_1_meets {g : Nat} {o : OutC} {og : Hp} {lines : List Str} {nx : Int} (m : Mk) (hG : GrowS o lines og) (hl : lines.length ≤ 1000) (hk : m.1 = 1) : Meets Try.prog F.proof_deeds_1 [.pointer (some ⟨g, 0, none⟩), .agg #[int m.1, int m.2.1, str m.2.2]] (deedCon g o og lines nx m) := by
 have eL : deedL m lines = lines ++ [m.2.2] := by simp [deedL, hk]
 have eN : deedN m nx = nx := by simp [deedN, hk]
 unfold deedCon
 rw [eL, eN]
 unfold pressO GrowS
 rw [len_snoc]
 refine meets_intro F.proof_deeds_1_f rfl (Nat.le_of_ble_eq_true rfl) fun w0 => ?_
 refine hc_seq ?_
 refine hc_region ?_
 refine r_box rfl rfl fun gB => ?_
 refine hl_nil ?_
 refine then_n ?_
 refine hc_drawW (og) ([_, _]) (List.perm_append_comm (l₁ := [_, _])) 9 [8] mixed (by decide) (by decide) (by decide) rfl rfl rfl ?_
 apply hb_ex _ rfl rfl rfl
 ·intro w1
  refine r_move rfl rfl ?_
  refine hl_nil ?_
  exact qe_done rfl
 apply hb_ex _ rfl rfl rfl
 ·intro w1
  refine r_move rfl rfl ?_
  refine hl_nil ?_
  exact qe_done rfl
 apply hb_ex _ rfl rfl rfl
 ·intro w1
  refine r_nilCheck rfl rfl ?_
  refine hl_nil ?_
  exact qe_done rfl
 apply hb_ex _ rfl rfl rfl
 ·intro w1
  first | refine r_fieldAddr ⟨_, 0, none⟩ rfl rfl T.fa_proof_press_0 rfl ?_ | refine r_fieldAddr _ rfl rfl T.fa_proof_press_0 rfl ?_
  refine hl_nil ?_
  exact qe_done rfl
 apply hb_ex _ rfl rfl rfl
 ·intro w1
  first | refine r_load rfl T.cell_strs rfl (cell_blk (by repeat constructor) rfl) ?_ | refine r_load rfl T.cell_strs rfl (cell_own (by repeat constructor) rfl) ?_ | refine r_load rfl T.cell_strs rfl (cell_row (by repeat constructor) (rows_get0 (by omega) rfl)) ?_ | refine r_load rfl T.cell_strs rfl (cell_row_f (by repeat constructor) (rows_get (by omega) rfl)) ?_
  refine hl_nil ?_
  exact qe_done rfl
 apply hb_ex _ rfl rfl rfl
 ·intro w1
  first | refine r_fieldAddr ⟨_, 2, none⟩ rfl rfl T.fa_api_Mark_2 rfl ?_ | refine r_fieldAddr _ rfl rfl T.fa_api_Mark_2 rfl ?_
  refine hl_nil ?_
  exact qe_done rfl
 apply hb_ex _ rfl rfl rfl
 ·intro w1
  first | refine r_load rfl T.cell_string rfl (cell_blk (by repeat constructor) rfl) ?_ | refine r_load rfl T.cell_string rfl (cell_own (by repeat constructor) rfl) ?_ | refine r_load rfl T.cell_string rfl (cell_row (by repeat constructor) (rows_get0 (by omega) rfl)) ?_ | refine r_load rfl T.cell_string rfl (cell_row_f (by repeat constructor) (rows_get (by omega) rfl)) ?_
  refine hl_nil ?_
  exact qe_done rfl
 refine hb_vs ⟨Nat, fun _ => True, fun g1 => .slice (some ⟨g1, 0, none⟩) 1 1, fun g1 => [Row (some ⟨g1, 0, none⟩) (rows [m.2.2])]⟩ rfl rfl rfl ?_ ?_
 ·intro w1
  refine r_buildSlice _ rfl rfl (fun _ => T.bs_strs_1 ..) fun gS => ?_
  refine hl_nil ?_
  refine hq_letgo (rows [m.2.2]) (List.prefix_refl _) ?_
  exact qv_done gS trivial rfl ⟨m0, trivial⟩
 refine hb_wr ⟨OutC × Hp, fun x => Grow T.string 1 x.1.1 (lines.length + 1) x.1.2 (rows (lines ++ [m.2.2])) x.2, fun x => .slice x.1.1 (lines.length + 1) x.1.2, fun _ => [], fun x => x.2⟩ rfl rfl rfl ?_ ?_
 ·intro g1 _; intro w1
  refine r_append (lines.length + 1) (rows (lines ++ [m.2.2])) T.el_strs rfl rfl rfl hG (hp' := []) (by rw [List.append_nil]) (Src.row (news := rows [m.2.2]) (m := 1) m0 rfl (rows_one _) (by decide)) rfl (rows_append lines [m.2.2]).symm (by unfold maxLen; omega) (by omega) fun A' c' og' hG' => ?_
  refine hl_nil ?_
  exact qw_done ((A', c'), og') hG' (fun _ => rfl) (List.sublist_append_left _ _) trivial
 refine hb_nil ⟨rfl, ?_⟩
 intro g1 _ x hx
 refine r_nilCheck rfl rfl ?_
 first | refine r_fieldAddr ⟨_, 0, none⟩ rfl rfl T.fa_proof_press_0 rfl ?_ | refine r_fieldAddr _ rfl rfl T.fa_proof_press_0 rfl ?_
 refine r_store rfl rfl (perm_last2 _ _ _) T.sz_strs (by rfl) (by rfl) ?_
 refine hl_nil ?_
 exact ret0n x rfl rfl rfl hx ((List.sublist_append_left _ _).cons_cons _) trivial

theorem proof_deeds_2_meets {g : Nat} {o : OutC} {og : Hp} {lines : List Str} {nx : Int} (m : Mk) (hG : GrowS o lines og) (hl : lines.length ≤ 1000) (hk : m.1 = 2) (hat : 0 ≤ m.2.1 ∧ m.2.1 ≤ 1000000) : Meets Try.prog F.proof_deeds_2 [.pointer (some ⟨g, 0, none⟩), .agg #[int m.1, int m.2.1, str m.2.2]] (deedCon g o og lines nx m) := by
 have eL : deedL m lines = lines ++ [m.2.2] := by simp [deedL, hk]
 have eN : deedN m nx = m.2.1 + 1 := by simp [deedN, hk]
 unfold deedCon
 rw [eL, eN]
 unfold pressO GrowS
 rw [len_snoc]
 refine meets_intro F.proof_deeds_2_f rfl (Nat.le_of_ble_eq_true rfl) fun w0 => ?_
 refine hc_seq ?_
 refine hc_region ?_
 refine r_box rfl rfl fun gB => ?_
 refine hl_nil ?_
 refine then_n ?_
 refine hc_drawW (_ :: og) ([_]) (List.perm_append_comm (l₁ := [_])) 16 [15, 9, 5] mixed (by decide) (by decide) (by decide) rfl rfl rfl ?_
 apply hb_ex _ rfl rfl rfl
 ·intro w1
  refine r_move rfl rfl ?_
  refine hl_nil ?_
  exact qe_done rfl
 apply hb_ex _ rfl rfl rfl
 ·intro w1
  refine r_move rfl rfl ?_
  refine hl_nil ?_
  exact qe_done rfl
 apply hb_ex _ rfl rfl rfl
 ·intro w1
  refine r_move rfl rfl ?_
  refine hl_nil ?_
  exact qe_done rfl
 apply hb_ex _ rfl rfl rfl
 ·intro w1
  refine r_nilCheck rfl rfl ?_
  refine hl_nil ?_
  exact qe_done rfl
 apply hb_ex _ rfl rfl rfl
 ·intro w1
  first | refine r_fieldAddr ⟨_, 0, none⟩ rfl rfl T.fa_proof_press_0 rfl ?_ | refine r_fieldAddr _ rfl rfl T.fa_proof_press_0 rfl ?_
  refine hl_nil ?_
  exact qe_done rfl
 refine hb_wr ⟨Unit, fun _ => True, fun _ => .slice o.1 lines.length o.2, fun _ => [], fun _ => (g, Obj.cells #[.slice o.1 lines.length o.2, int nx] T.proof_press (0, 0)) :: og⟩ rfl rfl rfl ?_ ?_
 ·intro w1
  first | refine r_load rfl T.cell_strs rfl (cell_own (by repeat constructor) rfl) ?_ | refine r_load rfl T.cell_strs rfl (cell_blk (by repeat constructor) rfl) ?_ | refine r_load rfl T.cell_strs rfl (cell_row (by repeat constructor) (rows_get0 (by omega) rfl)) ?_ | refine r_load rfl T.cell_strs rfl (cell_row_f (by repeat constructor) (rows_get (by omega) rfl)) ?_
  refine hl_nil ?_
  exact qw_done () trivial (fun _ => rfl) (.refl _) trivial
 apply hb_ex _ rfl rfl rfl
 ·intro w1
  first | refine r_fieldAddr ⟨_, 2, none⟩ rfl rfl T.fa_api_Mark_2 rfl ?_ | refine r_fieldAddr _ rfl rfl T.fa_api_Mark_2 rfl ?_
  refine hl_nil ?_
  exact qe_done rfl
 apply hb_ex _ rfl rfl rfl
 ·intro w1
  first | refine r_load rfl T.cell_string rfl (cell_blk (by repeat constructor) rfl) ?_ | refine r_load rfl T.cell_string rfl (cell_own (by repeat constructor) rfl) ?_ | refine r_load rfl T.cell_string rfl (cell_row (by repeat constructor) (rows_get0 (by omega) rfl)) ?_ | refine r_load rfl T.cell_string rfl (cell_row_f (by repeat constructor) (rows_get (by omega) rfl)) ?_
  refine hl_nil ?_
  exact qe_done rfl
 refine hb_vs ⟨Nat, fun _ => True, fun g1 => .slice (some ⟨g1, 0, none⟩) 1 1, fun g1 => [Row (some ⟨g1, 0, none⟩) (rows [m.2.2])]⟩ rfl rfl rfl ?_ ?_
 ·intro w1
  refine r_buildSlice _ rfl rfl (fun _ => T.bs_strs_1 ..) fun gS => ?_
  refine hl_nil ?_
  refine hq_letgo (rows [m.2.2]) (List.prefix_refl _) ?_
  exact qv_done gS trivial rfl ⟨m0, trivial⟩
 refine hb_wr ⟨OutC × Hp, fun x => Grow T.string 1 x.1.1 (lines.length + 1) x.1.2 (rows (lines ++ [m.2.2])) x.2, fun x => .slice x.1.1 (lines.length + 1) x.1.2, fun _ => [], fun x => x.2 ++ [(g, Obj.cells #[.slice o.1 lines.length o.2, int nx] T.proof_press (0, 0))]⟩ rfl rfl rfl ?_ ?_
 ·intro g1 _ _ _; intro w1
  refine r_append (lines.length + 1) (rows (lines ++ [m.2.2])) T.el_strs rfl rfl rfl hG (List.perm_append_comm (l₁ := [_])) (Src.row (news := rows [m.2.2]) (m := 1) m0 rfl (rows_one _) (by decide)) rfl (rows_append lines [m.2.2]).symm (by unfold maxLen; omega) (by omega) fun A' c' og' hG' => ?_
  refine hl_nil ?_
  exact qw_done ((A', c'), og') hG' (fun _ => rfl) (.refl _) trivial
 apply hb_ex _ rfl rfl rfl
 ·intro w1
  first | refine r_fieldAddr ⟨_, 1, none⟩ rfl rfl T.fa_api_Mark_1 rfl ?_ | refine r_fieldAddr _ rfl rfl T.fa_api_Mark_1 rfl ?_
  refine hl_nil ?_
  exact qe_done rfl
 apply hb_ex _ rfl rfl rfl
 ·intro w1
  first | refine r_load rfl T.cell_int rfl (cell_blk (by repeat constructor) rfl) ?_ | refine r_load rfl T.cell_int rfl (cell_own (by repeat constructor) rfl) ?_ | refine r_load rfl T.cell_int rfl (cell_row (by repeat constructor) (rows_get0 (by omega) rfl)) ?_ | refine r_load rfl T.cell_int rfl (cell_row_f (by repeat constructor) (rows_get (by omega) rfl)) ?_
  refine hl_nil ?_
  exact qe_done rfl
 apply hb_ex _ rfl rfl rfl
 ·intro w1
  refine r_add _ rfl rfl rfl rfl (by unfold I64; omega) ?_
  refine hl_nil ?_
  exact qe_done rfl
 apply hb_ex _ rfl rfl rfl
 ·intro w1
  refine r_nilCheck rfl rfl ?_
  refine hl_nil ?_
  exact qe_done rfl
 apply hb_ex _ rfl rfl rfl
 ·intro w1
  first | refine r_fieldAddr ⟨_, 0, none⟩ rfl rfl T.fa_proof_press_0 rfl ?_ | refine r_fieldAddr _ rfl rfl T.fa_proof_press_0 rfl ?_
  refine hl_nil ?_
  exact qe_done rfl
 refine hb_st ⟨OutC × Hp, fun x => Grow T.string 1 x.1.1 (lines.length + 1) x.1.2 (rows (lines ++ [m.2.2])) x.2, fun x => .tuple #[], fun _ => [], fun x => (g, Obj.cells #[.slice x.1.1 (lines.length + 1) x.1.2, int nx] T.proof_press (0, 0)) :: x.2⟩ rfl rfl ?_ ?_
 ·intro x hx; intro w1
  refine r_store rfl rfl (perm_last1 _ _) T.sz_strs (by rfl) (by rfl) ?_
  refine hl_nil ?_
  exact qw_done x hx (fun h => by cases h) (.refl _) trivial
 refine hb_nil ⟨rfl, ?_⟩
 intro _ _ g1 _ x0 hx0 x hx
 refine r_nilCheck rfl rfl ?_
 first | refine r_fieldAddr ⟨_, 1, none⟩ rfl rfl T.fa_proof_press_1 rfl ?_ | refine r_fieldAddr _ rfl rfl T.fa_proof_press_1 rfl ?_
 refine r_store rfl rfl (.refl _) T.sz_int (by rfl) (by rfl) ?_
 refine hl_nil ?_
 exact ret0n x rfl rfl rfl hx ((List.sublist_append_left _ _).cons_cons _) trivial

theorem proof_deeds_3_meets {g : Nat} {o : OutC} {og : Hp} {lines : List Str} {nx : Int} (m : Mk) (hG : GrowS o lines og) (hl : lines.length ≤ 1000) (hk : m.1 = 3) (hat : 0 ≤ m.2.1 ∧ m.2.1 ≤ 1000000) : Meets Try.prog F.proof_deeds_3 [.pointer (some ⟨g, 0, none⟩), .agg #[int m.1, int m.2.1, str m.2.2]] (deedCon g o og lines nx m) := by
 have eL : deedL m lines = lines := by simp [deedL, hk]
 have eN : deedN m nx = m.2.1 + 1 := by simp [deedN, hk]
 unfold deedCon
 rw [eL, eN]
 unfold pressO
 refine meets_intro F.proof_deeds_3_f rfl (Nat.le_of_ble_eq_true rfl) fun w0 => ?_
 refine hc_seq ?_
 refine hc_region ?_
 refine r_box rfl rfl fun gB => ?_
 refine hl_nil ?_
 refine then_n ?_
 refine hc_region ?_
 refine r_move rfl rfl ?_
 first | refine r_fieldAddr ⟨_, 1, none⟩ rfl rfl T.fa_api_Mark_1 rfl ?_ | refine r_fieldAddr _ rfl rfl T.fa_api_Mark_1 rfl ?_
 first | refine r_load rfl T.cell_int rfl (cell_own (by repeat constructor) rfl) ?_ | refine r_load rfl T.cell_int rfl (cell_blk (by repeat constructor) rfl) ?_ | refine r_load rfl T.cell_int rfl (cell_row (by repeat constructor) (rows_get0 (by omega) rfl)) ?_ | refine r_load rfl T.cell_int rfl (cell_row_f (by repeat constructor) (rows_get (by omega) rfl)) ?_
 refine r_add _ rfl rfl rfl rfl (by unfold I64; omega) ?_
 refine r_nilCheck rfl rfl ?_
 first | refine r_fieldAddr ⟨_, 1, none⟩ rfl rfl T.fa_proof_press_1 rfl ?_ | refine r_fieldAddr _ rfl rfl T.fa_proof_press_1 rfl ?_
 refine r_store rfl rfl (.swap _ _ _) T.sz_int (by rfl) (by rfl) ?_
 refine hl_nil ?_
 exact ret0n (o, og) rfl rfl rfl hG ((List.sublist_cons_self _ _).cons_cons _) trivial

def fnV (f : Nat) : Value := .func (.func f) #[] #[]
def deedsL : List (Ment Int) := [(1, fnV F.proof_deeds_1, 0), (2, fnV F.proof_deeds_2, 1), (3, fnV F.proof_deeds_3, 2)]
abbrev K3 : KeyC Try.prog T.int int := KeyC.int T.u_int

theorem proof_deeds_meets : Meets Try.prog F.proof_deeds [] { val := fun g : Nat => .map (some g), hpO := fun g => [(g, mapO int deedsL 3)] } := by
 refine meets_intro F.proof_deeds_f rfl (Nat.le_of_ble_eq_true rfl) fun w0 => ?_
 refine hc_seq ?_
 refine hc_region ?_
 refine r_assign rfl rfl ?_
 refine hl_nil ?_
 refine then_n ?_
 refine hc_seq ?_
 refine hc_region ?_
 refine r_makeMapM int rfl fun gM => ?_
 refine r_insert (k := 1) K3 (.inr rfl) T.u_map_int_func_P_proof_press_api_Mark rfl rfl rfl (.refl _) ?_
 refine r_insert (k := 2) K3 (.inr rfl) T.u_map_int_func_P_proof_press_api_Mark rfl rfl rfl (.refl _) ?_
 refine r_insert (k := 3) K3 (.inr rfl) T.u_map_int_func_P_proof_press_api_Mark rfl rfl rfl (.refl _) ?_
 refine r_move rfl rfl ?_
 refine r_assign rfl rfl ?_
 refine hl_nil ?_
 refine then_n ?_
 refine hc_ret ?_
 exact ret1 gM rfl rfl rfl trivial (.refl _) trivial

def deedV (k : Int) : Value := if k = 1 then fnV F.proof_deeds_1 else if k = 2 then fnV F.proof_deeds_2 else fnV F.proof_deeds_3
theorem deed_get {k : Int} (h : 1 ≤ k ∧ k ≤ 3) : getM deedsL k = some (deedV k) := by
  have : k = 1 ∨ k = 2 ∨ k = 3 := by omega
  rcases this with rfl | rfl | rfl <;> rfl
theorem hl_deed {n : Nat} {b : Bx} {Q : Exit → Act → World → Prop} {fr : Fr} {hp hpR : Hp} {L : List Fact} {ops : Array Oper} {rest : List Oper} {d : Tmp} {ty : TypeId} {pos : String} {af : Array Edge} {x : Operand} {args : Array Operand} {ats : Array TypeId}
    {g : Nat} {o : OutC} {og : Hp} {lines : List Str} {nx : Int} {m : Mk} (hd : Nat.blt d n = true) (hf : ev fr x = some (deedV m.1)) (hx : args.toList.mapM (ev fr) = some [.pointer (some ⟨g, 0, none⟩), .agg #[int m.1, int m.2.1, str m.2.2]])
    (hk : 1 ≤ m.1 ∧ m.1 ≤ 3) (hat : 0 ≤ m.2.1 ∧ m.2.1 ≤ 1000000) (hG : GrowS o lines og) (hl : lines.length ≤ 1000) (h1 : hp.Perm ((pressO g o lines nx :: og) ++ hpR))
    (kk : ∀ y : OutC × Hp, GrowS y.1 (deedL m lines) y.2 → HL ⟨Try.prog, n, b, [], none⟩ ops Q rest ((d, .tuple #[]) :: fr) ((pressO g y.1 (deedL m lines) (deedN m nx) :: y.2) ++ hpR) L) :
    HL ⟨Try.prog, n, b, [], none⟩ ops Q (⟨some d, .call ⟨.value x, args, ats⟩, ty, pos, af, none⟩ :: rest) fr hp L := by
  have : m.1 = 1 ∨ m.1 = 2 ∨ m.1 = 3 := by omega
  rcases this with h | h | h
  · exact hl_callv (cap := []) F.proof_deeds_1_cb hd (by rw [hf, h]; rfl) hx (proof_deeds_1_meets m hG hl h) h1 trivial (fun y hy => kk y hy)
  · exact hl_callv (cap := []) F.proof_deeds_2_cb hd (by rw [hf, h]; rfl) hx (proof_deeds_2_meets m hG hl h hat) h1 trivial (fun y hy => kk y hy)
  · exact hl_callv (cap := []) F.proof_deeds_3_cb hd (by rw [hf, h]; rfl) hx (proof_deeds_3_meets m hG hl h hat) h1 trivial (fun y hy => kk y hy)
/-- What valid marks make of a page, as the program has it. -/
def stepP (p : List Str) (st : List Str × Nat) (m : Mk) : List Str × Nat :=
  (deedL m (st.1 ++ (p.take (max st.2 m.2.1.toNat)).drop st.2), (deedN m (max st.2 m.2.1.toNat : Nat)).toNat)
def madeP (p : List Str) (l : List Mk) : List Str := (l.foldl (stepP p) ([], 0)).1 ++ p.drop (l.foldl (stepP p) ([], 0)).2
/-- Valid marks for a page of n lines. -/
def MV (n : Nat) (l : List Mk) : Prop := ∀ m ∈ l, 1 ≤ m.1 ∧ m.1 ≤ 3 ∧ 0 ≤ m.2.1 ∧ m.2.1 ≤ n ∧ (m.1 = 1 ∨ m.2.1 < n)
theorem firstErr_zero {α : Type} {f : α → Int} : ∀ {l : List α}, firstErr f l = 0 → ∀ a ∈ l, f a = 0
  | [], _, a, h => by simp at h
  | b :: l, h, a, ha => by
    rw [firstErr] at h
    split at h
    · rename_i h0
      rcases List.mem_cons.1 ha with rfl | ha
      · exact h0
      · exact firstErr_zero h a ha
    · rename_i h0; exact absurd h h0
theorem marks_valid {n : Nat} {l : List Mk} (h : marksErr n l = 0) : l.length ≤ 12 ∧ MV n l := by
  unfold marksErr at h
  split at h
  · omega
  · rename_i h12
    refine ⟨by omega, fun m hm => ?_⟩
    obtain ⟨i, hi, rfl⟩ := List.getElem_of_mem hm
    have := firstErr_zero h i (by simpa using hi)
    unfold markErr mErr at this
    rw [getD_at hi] at this
    generalize l[i] = m at *
    split at this
    · omega
    · split at this
      · omega
      · rename_i h1 h2
        by_cases hk : m.1 = 1
        · simp only [hk, if_true] at h2; omega
        · simp only [hk, if_false] at h2; omega
theorem stepP_le {p : List Str} {st : List Str × Nat} {m : Mk} {k : Nat} (hp6 : p.length ≤ 6) (h1 : st.2 ≤ p.length) (h2 : st.1.length ≤ 7 * k) (hm : 1 ≤ m.1 ∧ m.1 ≤ 3 ∧ 0 ≤ m.2.1 ∧ m.2.1 ≤ p.length ∧ (m.1 = 1 ∨ m.2.1 < p.length)) : (stepP p st m).2 ≤ p.length ∧ (stepP p st m).1.length ≤ 7 * (k + 1) := by
  obtain ⟨ls, nx⟩ := st
  simp only at h1 h2
  unfold stepP deedL deedN
  have h3 : ((p.take (max nx m.2.1.toNat)).drop nx).length ≤ 6 := by rw [List.length_drop, List.length_take]; omega
  by_cases k1 : m.1 = 1
  · simp only [k1, if_true]
    rw [if_neg (by decide)]
    rw [List.length_append, List.length_append]
    simp only [List.length_cons, List.length_nil, Int.toNat_natCast]; omega
  · by_cases k3 : m.1 = 3
    · simp only [k3, if_true]
      rw [if_neg (by decide), List.length_append]
      omega
    · simp only [k1, k3, if_false]
      rw [List.length_append, List.length_append]
      simp only [List.length_cons, List.length_nil]; omega
theorem getD_mem {α : Type} [Inhabited α] {l : List α} {k : Nat} (h : k < l.length) : l.getD k default ∈ l := by rw [getD_at h]; exact List.getElem_mem h


theorem proof_made_meets {A B : Option Addr} {ca cb : Nat} (p : List Str) (l : List Mk) (hp6 : p.length ≤ 6) (hl : l.length ≤ 12) (hV : MV p.length l) (hc : p.length ≤ ca) :
    Meets Try.prog F.proof_made [.slice A p.length ca, .slice B l.length cb] { outSl (madeP p l) with LI := [Row A (rows p), Row B (rows l)] } := by
 refine meets_intro F.proof_made_f rfl (Nat.le_of_ble_eq_true rfl) fun w0 => ?_
 refine hc_seq ?_
 refine hc_region ?_
 refine r_assign rfl rfl ?_
 refine hl_nil ?_
 refine then_n ?_
 refine hc_seq ?_
 refine hc_region ?_
 refine r_build _ rfl rfl (fun _ => T.bd_proof_press_ ..) ?_
 refine r_box rfl rfl fun gB => ?_
 refine r_assign rfl rfl ?_
 refine hl_nil ?_
 refine then_n ?_
 refine hc_seq ?_
 refine hc_region ?_
 refine hl_call F.proof_deeds_cb rfl rfl (proof_deeds_meets) (List.Perm.refl _) trivial fun gM _ => ?_
 refine r_assign rfl rfl ?_
 refine hl_nil ?_
 refine then_n ?_
 refine hc_seq ?_
 refine hc_seq ?_
 refine hc_perm (.swap _ _ _) ?_
 refine hc_region ?_
 refine r_move rfl rfl ?_
 refine r_len_sl rfl T.u_L_api_Mark rfl ?_
 refine r_move rfl rfl ?_
 refine hl_nil ?_
 refine then_n ?_
 refine hc_block ?_
 refine hc_loop (β := Nat × OutC × Hp × List Str × Nat) ⟨fun ⟨k, o, og, ls, nx⟩ => k ≤ l.length ∧ (l.take k).foldl (stepP p) ([], 0) = (ls, nx) ∧ GrowS o ls og ∧ nx ≤ p.length ∧ ls.length ≤ 7 * k,
   fun ⟨k, o, og, ls, nx⟩ => [(0, .slice A p.length ca), (5, .pointer (some ⟨gB, 0, none⟩)), (6, .map (some gM)), (12, .slice B l.length cb), (13, int l.length), (14, int k)], fun ⟨k, o, og, ls, nx⟩ => pressO gB o ls nx :: (og ++ [(gM, mapO int deedsL 3)]), fun _ => [Row A (rows p), Row B (rows l)]⟩
   (fun x => l.length - x.1) (0, (none, 0), [], [], 0) ⟨Nat.zero_le _, rfl, Grow.nil _ _, Nat.zero_le _, Nat.le_refl _⟩ ⟨rfl, rfl, rfl, rfl, rfl, rfl, trivial⟩ (.refl _) ⟨m0, m1, trivial⟩ fun x hx => ?_
 obtain ⟨k, o, og, ls, nx⟩ := x
 obtain ⟨hk, hst, hG, hn, hlen⟩ := hx
 refine hc_seq ?_
 refine hc_region ?_
 refine r_lss rfl rfl rfl ?_
 refine hl_nil ?_
 refine then_n ?_
 refine hc_seq ?_
 first | refine c_dec rfl (fun hb1 => ?_) (fun hb1 => ?_) | refine hc_cond rfl (fun hb1 => ?_) (fun hb1 => ?_)
 ·have hb1' := hb1; try simp at hb1'
  have hk2 : k < l.length := by omega
  refine hc_skip ?_
  refine then_n ?_
  refine hc_seq ?_
  refine hc_block ?_
  refine hc_seq ?_
  refine hc_region ?_
  refine r_elem (α := Mk) _ _ rfl T.u_L_api_Mark T.sz_api_Mark rfl rfl rfl (by repeat constructor) rfl (by omega) (by decide) ?_
  refine r_loadS rfl T.row_api_Mark T.sz_api_Mark rfl rfl (cells_row (by repeat constructor) (rows_all (by omega))) ?_
  refine r_alloc rfl (fun _ => T.al_api_Mark _) fun gA => ?_
  refine r_storeS rfl rfl (by first | exact .refl _ | exact perm2 _ _ _ | exact perm3 _ _ _ _ | exact perm4 _ _ _ _ _) T.sz_api_Mark (by rfl) (by rfl) ?_
  refine hl_nil ?_
  refine then_n ?_
  refine hc_seq ?_
  have hVm := hV _ (getD_mem hk2)
  have hst2 : (l.take (k + 1)).foldl (stepP p) ([], 0) = stepP p (ls, nx) (l.getD k default) := by rw [take_succ_getD l k hk2, List.foldl_append, hst]; rfl
  have hnext := stepP_le (st := (ls, nx)) (k := k) hp6 hn hlen hVm
  generalize hm : l.getD k default = m at *
  obtain ⟨kd, at0, t⟩ := m
  simp only at hVm
  obtain ⟨at1, rfl⟩ := Int.eq_ofNat_of_zero_le hVm.2.2.1
  refine hc_perm (pm1 _ _ _ _) ?_
  refine hc_drawW (og) ([_, _, _]) (.refl _) 19 [18] mixed (by decide) (by decide) (by decide) rfl rfl rfl ?_
  apply hb_ex _ rfl rfl rfl
  ·intro w1
   refine r_move rfl rfl ?_
   refine hl_nil ?_
   exact qe_done rfl
  apply hb_ex _ rfl rfl rfl
  ·intro w1
   refine r_move rfl rfl ?_
   refine hl_nil ?_
   exact qe_done rfl
  apply hb_ex _ rfl rfl rfl
  ·intro w1
   refine r_nilCheck rfl rfl ?_
   refine hl_nil ?_
   exact qe_done rfl
  apply hb_ex _ rfl rfl rfl
  ·intro w1
   first | refine r_fieldAddr ⟨_, 0, none⟩ rfl rfl T.fa_proof_press_0 rfl ?_ | refine r_fieldAddr _ rfl rfl T.fa_proof_press_0 rfl ?_
   refine hl_nil ?_
   exact qe_done rfl
  apply hb_ex _ rfl rfl rfl
  ·intro w1
   first | refine r_load rfl T.cell_strs rfl (cell_blk (by repeat constructor) rfl) ?_ | refine r_load rfl T.cell_strs rfl (cell_own (by repeat constructor) rfl) ?_ | refine r_load rfl T.cell_strs rfl (cell_row (by repeat constructor) (rows_get0 (by omega) rfl)) ?_ | refine r_load rfl T.cell_strs rfl (cell_row_f (by repeat constructor) (rows_get (by omega) rfl)) ?_
   refine hl_nil ?_
   exact qe_done rfl
  apply hb_ex _ rfl rfl rfl
  ·intro w1
   refine r_move rfl rfl ?_
   refine hl_nil ?_
   exact qe_done rfl
  apply hb_ex _ rfl rfl rfl
  ·intro w1
   refine r_move rfl rfl ?_
   refine hl_nil ?_
   exact qe_done rfl
  apply hb_ex _ rfl rfl rfl
  ·intro w1
   refine r_nilCheck rfl rfl ?_
   refine hl_nil ?_
   exact qe_done rfl
  apply hb_ex _ rfl rfl rfl
  ·intro w1
   first | refine r_fieldAddr ⟨_, 1, none⟩ rfl rfl T.fa_proof_press_1 rfl ?_ | refine r_fieldAddr _ rfl rfl T.fa_proof_press_1 rfl ?_
   refine hl_nil ?_
   exact qe_done rfl
  apply hb_ex _ rfl rfl rfl
  ·intro w1
   first | refine r_load rfl T.cell_int rfl (cell_blk (by repeat constructor) rfl) ?_ | refine r_load rfl T.cell_int rfl (cell_own (by repeat constructor) rfl) ?_ | refine r_load rfl T.cell_int rfl (cell_row (by repeat constructor) (rows_get0 (by omega) rfl)) ?_ | refine r_load rfl T.cell_int rfl (cell_row_f (by repeat constructor) (rows_get (by omega) rfl)) ?_
   refine hl_nil ?_
   exact qe_done rfl
  apply hb_ex _ rfl rfl rfl
  ·intro w1
   refine r_move rfl rfl ?_
   refine hl_nil ?_
   exact qe_done rfl
  apply hb_ex _ rfl rfl rfl
  ·intro w1
   refine r_nilCheck rfl rfl ?_
   refine hl_nil ?_
   exact qe_done rfl
  apply hb_ex _ rfl rfl rfl
  ·intro w1
   first | refine r_fieldAddr ⟨_, 1, none⟩ rfl rfl T.fa_proof_press_1 rfl ?_ | refine r_fieldAddr _ rfl rfl T.fa_proof_press_1 rfl ?_
   refine hl_nil ?_
   exact qe_done rfl
  apply hb_ex _ rfl rfl rfl
  ·intro w1
   first | refine r_load rfl T.cell_int rfl (cell_blk (by repeat constructor) rfl) ?_ | refine r_load rfl T.cell_int rfl (cell_own (by repeat constructor) rfl) ?_ | refine r_load rfl T.cell_int rfl (cell_row (by repeat constructor) (rows_get0 (by omega) rfl)) ?_ | refine r_load rfl T.cell_int rfl (cell_row_f (by repeat constructor) (rows_get (by omega) rfl)) ?_
   refine hl_nil ?_
   exact qe_done rfl
  apply hb_ex _ rfl rfl rfl
  ·intro w1
   first | refine r_fieldAddr ⟨_, 1, none⟩ rfl rfl T.fa_api_Mark_1 rfl ?_ | refine r_fieldAddr _ rfl rfl T.fa_api_Mark_1 rfl ?_
   refine hl_nil ?_
   exact qe_done rfl
  apply hb_ex _ rfl rfl rfl
  ·intro w1
   first | refine r_load rfl T.cell_int rfl (cell_blk (by repeat constructor) rfl) ?_ | refine r_load rfl T.cell_int rfl (cell_own (by repeat constructor) rfl) ?_ | refine r_load rfl T.cell_int rfl (cell_row (by repeat constructor) (rows_get0 (by omega) rfl)) ?_ | refine r_load rfl T.cell_int rfl (cell_row_f (by repeat constructor) (rows_get (by omega) rfl)) ?_
   refine hl_nil ?_
   exact qe_done rfl
  apply hb_ex _ rfl rfl rfl
  ·intro w1
   refine r_max ((max nx at1 : Nat) : Int) rfl rfl rfl (by simp only; split <;> omega) ?_
   refine hl_nil ?_
   exact qe_done rfl
  apply hb_ex _ rfl rfl rfl
  ·intro w1
   refine r_slice_lh nx (max nx at1) rfl T.u_strs T.sz_string rfl rfl rfl rfl rfl (Nat.le_max_left _ _) (by omega) ?_
   refine hl_nil ?_
   exact qe_done rfl
  refine hb_wr ⟨OutC × Hp, fun x => GrowS x.1 (ls ++ (p.take (max nx at1)).drop nx) x.2, fun x => .slice x.1.1 (ls ++ (p.take (max nx at1)).drop nx).length x.1.2, fun _ => [], fun x => x.2⟩ rfl rfl rfl ?_ ?_
  ·intro w1
   refine hl_cut (p := p) (ca := ca) nx (max nx at1) m0 hc ?_
   refine r_append (ls ++ (p.take (max nx at1)).drop nx).length (rows (ls ++ (p.take (max nx at1)).drop nx)) T.el_strs rfl rfl rfl hG (hp' := []) (by rw [List.append_nil]) (Src.row (news := rows ((p.take (max nx at1)).drop nx)) m0 (by rw [rows_len, List.length_drop, List.length_take, Nat.min_eq_left (by omega)]; rfl) (rows_one _) (by decide)) (by rw [List.length_append, List.length_drop, List.length_take]; omega) (rows_append _ _).symm (by unfold maxLen; rw [List.length_append, List.length_drop, List.length_take]; omega) (by rw [List.length_append, List.length_drop, List.length_take]; omega) fun A' c' og' hG' => ?_
   refine hl_nil ?_
   exact qw_done ((A', c'), og') hG' (fun _ => rfl) (List.sublist_append_left _ _) trivial
  refine hb_nil ⟨rfl, ?_⟩
  intro x hx
  obtain ⟨o1, og1⟩ := x
  have hG1 : GrowS o1 (ls ++ (p.take (max nx at1)).drop nx) og1 := hx
  generalize hl1 : ls ++ (p.take (max nx at1)).drop nx = l1 at *
  refine r_nilCheck rfl rfl ?_
  first | refine r_fieldAddr ⟨_, 0, none⟩ rfl rfl T.fa_proof_press_0 rfl ?_ | refine r_fieldAddr _ rfl rfl T.fa_proof_press_0 rfl ?_
  refine r_store rfl rfl (pm2 _ _ _ _) T.sz_strs (by rfl) (by rfl) ?_
  refine hl_nil ?_
  refine then_n ?_
  refine hc_seq ?_
  refine hc_perm (pm3 _ _ _ _) ?_
  refine hc_drawW (og1) ([_, _, _]) (.refl _) 8 [] mixed (by decide) (by decide) (by decide) rfl rfl rfl ?_
  apply hb_ex _ rfl rfl rfl
  ·intro w1
   refine r_move rfl rfl ?_
   refine hl_nil ?_
   exact qe_done rfl
  apply hb_ex _ rfl rfl rfl
  ·intro w1
   refine r_move rfl rfl ?_
   refine hl_nil ?_
   exact qe_done rfl
  apply hb_ex _ rfl rfl rfl
  ·intro w1
   refine r_nilCheck rfl rfl ?_
   refine hl_nil ?_
   exact qe_done rfl
  apply hb_ex _ rfl rfl rfl
  ·intro w1
   first | refine r_fieldAddr ⟨_, 1, none⟩ rfl rfl T.fa_proof_press_1 rfl ?_ | refine r_fieldAddr _ rfl rfl T.fa_proof_press_1 rfl ?_
   refine hl_nil ?_
   exact qe_done rfl
  apply hb_ex _ rfl rfl rfl
  ·intro w1
   first | refine r_load rfl T.cell_int rfl (cell_blk (by repeat constructor) rfl) ?_ | refine r_load rfl T.cell_int rfl (cell_own (by repeat constructor) rfl) ?_ | refine r_load rfl T.cell_int rfl (cell_row (by repeat constructor) (rows_get0 (by omega) rfl)) ?_ | refine r_load rfl T.cell_int rfl (cell_row_f (by repeat constructor) (rows_get (by omega) rfl)) ?_
   refine hl_nil ?_
   exact qe_done rfl
  apply hb_ex _ rfl rfl rfl
  ·intro w1
   first | refine r_fieldAddr ⟨_, 1, none⟩ rfl rfl T.fa_api_Mark_1 rfl ?_ | refine r_fieldAddr _ rfl rfl T.fa_api_Mark_1 rfl ?_
   refine hl_nil ?_
   exact qe_done rfl
  apply hb_ex _ rfl rfl rfl
  ·intro w1
   first | refine r_load rfl T.cell_int rfl (cell_blk (by repeat constructor) rfl) ?_ | refine r_load rfl T.cell_int rfl (cell_own (by repeat constructor) rfl) ?_ | refine r_load rfl T.cell_int rfl (cell_row (by repeat constructor) (rows_get0 (by omega) rfl)) ?_ | refine r_load rfl T.cell_int rfl (cell_row_f (by repeat constructor) (rows_get (by omega) rfl)) ?_
   refine hl_nil ?_
   exact qe_done rfl
  apply hb_ex _ rfl rfl rfl
  ·intro w1
   refine r_max ((max nx at1 : Nat) : Int) rfl rfl rfl (by simp only; split <;> omega) ?_
   refine hl_nil ?_
   exact qe_done rfl
  refine hb_nil ⟨rfl, ?_⟩
  refine r_nilCheck rfl rfl ?_
  first | refine r_fieldAddr ⟨_, 1, none⟩ rfl rfl T.fa_proof_press_1 rfl ?_ | refine r_fieldAddr _ rfl rfl T.fa_proof_press_1 rfl ?_
  refine r_store rfl rfl (pm4 _ _ _ _) T.sz_int (by rfl) (by rfl) ?_
  refine hl_nil ?_
  refine then_n ?_
  refine hc_perm (pm5 _ _ _ _) ?_
  refine hc_region ?_
  refine r_move rfl rfl ?_
  first | refine r_fieldAddr ⟨_, 0, none⟩ rfl rfl T.fa_api_Mark_0 rfl ?_ | refine r_fieldAddr _ rfl rfl T.fa_api_Mark_0 rfl ?_
  first | refine r_load rfl T.cell_int rfl (cell_own (by repeat constructor) rfl) ?_ | refine r_load rfl T.cell_int rfl (cell_blk (by repeat constructor) rfl) ?_ | refine r_load rfl T.cell_int rfl (cell_row (by repeat constructor) (rows_get0 (by omega) rfl)) ?_ | refine r_load rfl T.cell_int rfl (cell_row_f (by repeat constructor) (rows_get (by omega) rfl)) ?_
  refine r_look (k := kd) K3 rfl T.u_map_int_func_P_proof_press_api_Mark rfl rfl (map_own m1) (deed_get ⟨hVm.1, hVm.2.1⟩) ?_
  refine r_move rfl rfl ?_
  first | refine r_loadA rfl T.row_api_Mark T.sz_api_Mark rfl (by repeat constructor) (by rfl) ?_ | refine r_loadB rfl T.row_api_Mark T.sz_api_Mark rfl (by repeat constructor) (by rfl) ?_ | refine r_loadS rfl T.row_api_Mark T.sz_api_Mark rfl rfl (cells_row (by repeat constructor) (rows_all (by omega))) ?_
  have hl1n : l1.length ≤ 1000 := by rw [← hl1, List.length_append, List.length_drop, List.length_take]; omega
  refine hl_deed (m := (kd, (at1 : Int), t)) (o := o1) (og := og1) (lines := l1) (nx := (max nx at1 : Nat)) rfl rfl rfl ⟨hVm.1, hVm.2.1⟩ ⟨by simp only; omega, by simp only; omega⟩ hG1 hl1n (pm6 _ _ _ _) fun y hy => ?_
  refine hl_nil ?_
  refine inb_n ?_
  refine then_n ?_
  refine hc_region ?_
  refine r_add _ rfl rfl rfl rfl (by unfold I64; omega) ?_
  refine r_move rfl rfl ?_
  refine hl_nil ?_
  have hs : stepP p (ls, nx) (kd, (at1 : Int), t) = (deedL (kd, (at1 : Int), t) l1, (deedN (kd, (at1 : Int), t) (max nx at1 : Nat)).toNat) := by rw [← hl1]; rfl
  rw [hs] at hst2 hnext
  have hN : (((deedN (kd, (at1 : Int), t) (max nx at1 : Nat)).toNat : Nat) : Int) = deedN (kd, (at1 : Int), t) (max nx at1 : Nat) := Int.toNat_of_nonneg (by unfold deedN; simp only; split <;> omega)
  refine again _ (k + 1, y.1, y.2, deedL (kd, (at1 : Int), t) l1, (deedN (kd, (at1 : Int), t) (max nx at1 : Nat)).toNat) ?_ ?_ ?_ ?_ ?_
  · exact ⟨by omega, hst2, hy, hnext.1, hnext.2⟩
  · show l.length - (k + 1) < l.length - k
    omega
  · exact ⟨rfl, rfl, rfl, rfl, rfl, rfl, trivial⟩
  · show (pressO gB y.1 _ (((deedN (kd, (at1 : Int), t) (max nx at1 : Nat)).toNat : Nat) : Int) :: (y.2 ++ [_])).Sublist _
    rw [hN]
    exact ((List.Sublist.refl _).append (.cons _ (.refl _))).cons_cons _
  · exact ⟨m0, m1, trivial⟩
 ·have hb1' := hb1; try simp at hb1'
  have hk2 : k = l.length := by omega
  refine hc_exit ?_
  refine then_exit ?_
  refine then_exit ?_
  refine inb_hit ?_
  refine then_n ?_
  refine hc_seq ?_
  refine hc_draw 10 mixed (by decide) (by decide) rfl rfl ?_
  apply hb_ex _ rfl rfl rfl
  ·intro w1
   refine r_move rfl rfl ?_
   refine hl_nil ?_
   exact qe_done rfl
  apply hb_ex _ rfl rfl rfl
  ·intro w1
   refine r_nilCheck rfl rfl ?_
   refine hl_nil ?_
   exact qe_done rfl
  apply hb_ex _ rfl rfl rfl
  ·intro w1
   first | refine r_fieldAddr ⟨_, 0, none⟩ rfl rfl T.fa_proof_press_0 rfl ?_ | refine r_fieldAddr _ rfl rfl T.fa_proof_press_0 rfl ?_
   refine hl_nil ?_
   exact qe_done rfl
  apply hb_ex _ rfl rfl rfl
  ·intro w1
   first | refine r_load rfl T.cell_strs rfl (cell_blk (by repeat constructor) rfl) ?_ | refine r_load rfl T.cell_strs rfl (cell_own (by repeat constructor) rfl) ?_ | refine r_load rfl T.cell_strs rfl (cell_row (by repeat constructor) (rows_get0 (by omega) rfl)) ?_ | refine r_load rfl T.cell_strs rfl (cell_row_f (by repeat constructor) (rows_get (by omega) rfl)) ?_
   refine hl_nil ?_
   exact qe_done rfl
  apply hb_ex _ rfl rfl rfl
  ·intro w1
   refine r_move rfl rfl ?_
   refine hl_nil ?_
   exact qe_done rfl
  apply hb_ex _ rfl rfl rfl
  ·intro w1
   refine r_move rfl rfl ?_
   refine hl_nil ?_
   exact qe_done rfl
  apply hb_ex _ rfl rfl rfl
  ·intro w1
   refine r_nilCheck rfl rfl ?_
   refine hl_nil ?_
   exact qe_done rfl
  apply hb_ex _ rfl rfl rfl
  ·intro w1
   first | refine r_fieldAddr ⟨_, 1, none⟩ rfl rfl T.fa_proof_press_1 rfl ?_ | refine r_fieldAddr _ rfl rfl T.fa_proof_press_1 rfl ?_
   refine hl_nil ?_
   exact qe_done rfl
  apply hb_ex _ rfl rfl rfl
  ·intro w1
   first | refine r_load rfl T.cell_int rfl (cell_blk (by repeat constructor) rfl) ?_ | refine r_load rfl T.cell_int rfl (cell_own (by repeat constructor) rfl) ?_ | refine r_load rfl T.cell_int rfl (cell_row (by repeat constructor) (rows_get0 (by omega) rfl)) ?_ | refine r_load rfl T.cell_int rfl (cell_row_f (by repeat constructor) (rows_get (by omega) rfl)) ?_
   refine hl_nil ?_
   exact qe_done rfl
  apply hb_ex _ rfl rfl rfl
  ·intro w1
   refine r_slice_lo nx rfl T.u_strs T.sz_string rfl rfl rfl hn ?_
   refine hl_nil ?_
   exact qe_done rfl
  refine hb_nil ⟨rfl, ?_⟩
  refine hl_cut (p := p) (ca := ca) nx p.length m0 hc ?_
  rw [List.take_length]
  refine r_append (ls ++ p.drop nx).length (rows (ls ++ p.drop nx)) T.el_strs rfl rfl rfl hG (pm7 _ _ _) (Src.row (news := rows (p.drop nx)) m0 (by rw [rows_len, List.length_drop]; rfl) (rows_one _) (by decide)) (by rw [List.length_append, List.length_drop]) (rows_append _ _).symm (by unfold maxLen; rw [List.length_append, List.length_drop]; omega) (by rw [List.length_append, List.length_drop]; omega) fun A' c' og' hG' => ?_
  refine r_assign rfl rfl ?_
  refine hl_nil ?_
  refine then_n ?_
  refine hc_ret ?_
  subst hk2
  rw [List.take_length] at hst
  have e : madeP p l = ls ++ p.drop nx := by unfold madeP; rw [hst]
  rw [e]
  refine hq_grown hG' ?_
  exact ret1 (A', c') rfl rfl rfl hG'.le (List.nil_sublist _) ⟨m0, trivial⟩

end Go.Proofs.Ytpbbgbjidhffoaa
