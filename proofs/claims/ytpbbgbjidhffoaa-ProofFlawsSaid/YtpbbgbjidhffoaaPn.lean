/- Walks of the kit's makers of marks and years, and of small functions of the statements. -/
import Derived.Test.YtpbbgbjidhffoaaPm
namespace Go.Proofs.Ytpbbgbjidhffoaa
open Go Go.W
set_option linter.unusedVariables false
set_option linter.unusedSimpArgs false
set_option maxRecDepth 20000
attribute [local irreducible] HL HC HQ HB Row Rows2 Blk Facts

def okNext (b m : Mk) : Prop := b.2.1 < m.2.1 ∨ (b.2.1 = m.2.1 ∧ b.1 = 1)
def textOK (m : Mk) : Prop := (m.1 = 3 ∧ m.2.2 = []) ∨ (¬ m.1 = 3 ∧ m.2.2 ∈ lineWords)
/-- Marks as the kit makes them: valid for a page of n lines. -/
structure MarksOK (n : Nat) (l : List Mk) : Prop where
  ch : ∀ k, k + 1 < l.length → okNext (l.getD k default) (l.getD (k + 1) default)
  v : MV n l
  t : ∀ m ∈ l, textOK m
theorem MarksOK.nil (n : Nat) : MarksOK n [] := ⟨fun k h => by simp at h, fun m h => by simp at h, fun m h => by simp at h⟩
/-- What stands at last. -/
def LastI (i : Nat) (l : List Mk) : Prop := ∀ b ∈ l, b.2.1 < (i : Int) ∨ (b.2.1 = (i : Int) ∧ b.1 = 1)
def LastB (i : Nat) (l : List Mk) : Prop := ∀ b ∈ l, b.2.1 < (i : Int)
theorem LastB.i {i : Nat} {l : List Mk} (h : LastB i l) : LastI i l := fun b hb => .inl (h b hb)
theorem LastI.b {i : Nat} {l : List Mk} (h : LastI i l) : LastB (i + 1) l := fun b hb => by rcases h b hb with h | h <;> omega
theorem LastI.snoc {i : Nat} {l : List Mk} (h : LastI i l) (t : Str) : LastI i (l ++ [(1, (i : Int), t)]) := fun b hb => by
  rcases List.mem_append.1 hb with hb | hb
  · exact h b hb
  · simp at hb; subst hb; exact .inr ⟨rfl, rfl⟩
theorem LastI.any {i : Nat} {l : List Mk} (h : LastI i l) (k : Int) (t : Str) : LastB (i + 1) (l ++ [(k, (i : Int), t)]) := fun b hb => by
  rcases List.mem_append.1 hb with hb | hb
  · exact h.b b hb
  · simp at hb; subst hb; simp only; omega
theorem MarksOK.snoc {n i : Nat} {l : List Mk} {k : Int} {t : Str} (h : MarksOK n l) (hl : LastI i l) (hk : 1 ≤ k ∧ k ≤ 3) (hi : i ≤ n) (hi2 : k = 1 ∨ i < n) (ht : textOK (k, (i : Int), t)) : MarksOK n (l ++ [(k, (i : Int), t)]) := by
  refine ⟨fun j hj => ?_, fun m hm => ?_, fun m hm => ?_⟩
  · rw [List.length_append, List.length_cons, List.length_nil] at hj
    by_cases hj2 : j + 1 < l.length
    · have := h.ch j hj2
      rw [getD_at (by omega), getD_at hj2] at this
      rw [getD_at (by simp; omega), getD_at (by simp; omega), List.getElem_append_left (by omega), List.getElem_append_left hj2]
      exact this
    · have hje : j + 1 = l.length := by omega
      rw [getD_at (by simp; omega), getD_at (by simp; omega), List.getElem_append_left (by omega), List.getElem_append_right (by omega)]
      have := hl l[j] (List.getElem_mem _)
      simp only [hje, Nat.sub_self, List.getElem_cons_zero]
      exact this
  · rcases List.mem_append.1 hm with hm | hm
    · exact h.v m hm
    · simp at hm; subst hm; simp only; omega
  · rcases List.mem_append.1 hm with hm | hm
    · exact h.t m hm
    · simp at hm; subst hm; exact ht
abbrev GrowM (o : OutC) (l : List Mk) (og : Hp) : Prop := Grow T.api_Mark 3 o.1 l.length o.2 (rows l) og


theorem kit_NewDice_meets {A : Option Addr} {c : Nat} (nums : List Int) : Meets Try.prog F.kit_NewDice [.slice A nums.length c] { LI := [Row A (rows nums)], val := fun g : Nat => .pointer (some ⟨g, 0, none⟩), hpO := fun g => [dice g A c nums (0, 11400714819323198485)] } := by
 refine meets_intro F.kit_NewDice_f rfl (Nat.le_of_ble_eq_true rfl) fun w0 => ?_
 refine hc_seq ?_
 refine hc_region ?_
 refine r_assign rfl rfl ?_
 refine hl_nil ?_
 refine then_n ?_
 refine hc_seq ?_
 refine hc_region ?_
 refine r_move rfl rfl ?_
 refine r_build _ rfl rfl (fun _ => T.bd_wayzgoosekit_Dice_0_2 ..) ?_
 refine r_box rfl rfl fun gB => ?_
 refine r_assign rfl rfl ?_
 refine hl_nil ?_
 refine then_n ?_
 refine hc_ret ?_
 exact ret1 gB rfl rfl rfl trivial (.refl _) trivial

theorem kit_MarksOf_meets {g : Nat} {A : Option Addr} {c : Nat} {nums : List Int} {s : Int × Int} (n most : Nat) (hn : nums.length ≤ 9223372036854775807) (hs : DOK nums s) (hI : n ≤ 100 ∧ most ≤ 100) :
    Meets Try.prog F.kit_MarksOf [.pointer (some ⟨g, 0, none⟩), int n, int most] (diceCon g A c nums s (fun x : List Mk × OutC => x.1.length ≤ most ∧ MarksOK n x.1 ∧ x.1.length ≤ x.2.2) (fun x => .slice x.2.1 x.1.length x.2.2) (fun x => [Row x.2.1 (rows x.1)])) := by
 refine meets_intro F.kit_MarksOf_f rfl (Nat.le_of_ble_eq_true rfl) fun w0 => ?_
 refine hc_seq ?_
 refine hc_region ?_
 refine r_assign rfl rfl ?_
 refine hl_nil ?_
 refine then_n ?_
 refine hc_seq ?_
 refine hc_region ?_
 refine r_assign rfl rfl ?_
 refine hl_nil ?_
 refine then_n ?_
 refine hc_seq ?_
 refine hc_seq ?_
 refine hc_region ?_
 refine r_assign rfl rfl ?_
 refine hl_nil ?_
 refine then_n ?_
 refine hc_block ?_
 refine hc_loop (β := List Mk × OutC × Hp × (Int × Int) × Nat) ⟨fun ⟨l, o, og, s, i⟩ => (GrowM o l og ∧ l.length ≤ most ∧ MarksOK n l ∧ DOK nums s) ∧ LastB i l ∧ i ≤ n + 1,
   fun ⟨l, o, og, s, i⟩ => [(0, .pointer (some ⟨g, 0, none⟩)), (1, int n), (2, int most), (7, .slice o.1 l.length o.2), (8, int i)], fun ⟨l, o, og, s, i⟩ => og ++ [dice g A c nums s], fun _ => [Row A (rows nums)]⟩
   (fun x => n + 1 - x.2.2.2.2) ([], (none, 0), [], s, 0) ⟨⟨Grow.nil _ _, Nat.zero_le _, MarksOK.nil n, hs⟩, by intro b h; simp at h, Nat.zero_le _⟩ ⟨rfl, rfl, rfl, rfl, rfl, trivial⟩ (.refl _) ⟨m0, trivial⟩ fun x hx => ?_
 obtain ⟨l, o, og, s, i⟩ := x
 obtain ⟨⟨hG, hlen, hOK, hs⟩, hLB, hi⟩ := hx
 have hLast := hLB.i
 refine hc_seq ?_
 refine hc_seq ?_
 refine hc_region ?_
 refine r_move rfl rfl ?_
 refine r_move rfl rfl ?_
 refine r_leq rfl rfl rfl ?_
 refine hl_nil ?_
 refine then_n ?_
 first | refine c_dec rfl (fun hb1 => ?_) (fun hb1 => ?_) | refine hc_cond rfl (fun hb1 => ?_) (fun hb1 => ?_)
 ·have hb1' := hb1; try simp at hb1'
  have hi2 : i ≤ n := by omega
  refine hc_skip ?_
  refine then_n ?_
  refine hc_seq ?_
  refine hc_block ?_
  refine hc_cut (⟨fun ⟨l, o, og, s⟩ => GrowM o l og ∧ l.length ≤ most ∧ MarksOK n l ∧ LastI i l ∧ DOK nums s, fun ⟨l, o, og, s⟩ => [(0, .pointer (some ⟨g, 0, none⟩)), (1, int n), (2, int most), (7, .slice o.1 l.length o.2), (8, int i)], fun ⟨l, o, og, s⟩ => og ++ [dice g A c nums s], fun _ => [Row A (rows nums)]⟩ : Sta (List Mk × OutC × Hp × (Int × Int))) ?_ ?_
  ·skip
   refine hc_block ?_
   refine hc_loop (β := List Mk × OutC × Hp × (Int × Int)) ⟨fun ⟨l, o, og, s⟩ => GrowM o l og ∧ l.length ≤ most ∧ MarksOK n l ∧ LastI i l ∧ DOK nums s,
     fun ⟨l, o, og, s⟩ => [(0, .pointer (some ⟨g, 0, none⟩)), (1, int n), (2, int most), (7, .slice o.1 l.length o.2), (8, int i)], fun ⟨l, o, og, s⟩ => og ++ [dice g A c nums s], fun _ => [Row A (rows nums)]⟩
     (fun x => most - x.1.length) (l, o, og, s) ⟨hG, hlen, hOK, hLast, hs⟩ ⟨rfl, rfl, rfl, rfl, rfl, trivial⟩ (.refl _) ⟨m0, trivial⟩ fun x hx => ?_
   clear hG hlen hOK hs hLB hLast
   obtain ⟨l, o, og, s⟩ := x
   obtain ⟨hG, hlen, hOK, hLast, hs⟩ := hx
   refine hc_seq ?_
   refine hc_seq ?_
   refine hc_region ?_
   refine r_move rfl rfl ?_
   refine hl_call F.kit_Dice_Once_cb rfl rfl (kit_Dice_Once_meets (4) hn hs (by omega)) (List.perm_append_comm) ⟨m0, trivial⟩ fun x hx => ?_
   obtain ⟨s1, z⟩ := x
   obtain ⟨hs1, _⟩ := hx
   refine r_move rfl rfl ?_
   refine g_split rfl rfl ?_ ?_
   ·intro hg1; have hg1' := hg1; try simp at hg1'
    refine g_yes rfl rfl hg1 ?_
    refine r_move rfl rfl ?_
    refine g_yes rfl rfl hg1 ?_
    refine r_len_sl rfl T.u_L_api_Mark rfl ?_
    refine g_yes rfl rfl hg1 ?_
    refine r_move rfl rfl ?_
    refine g_yes rfl rfl hg1 ?_
    refine r_lss rfl rfl rfl ?_
    refine p_t rfl rfl (bt1 hg1) rfl ?_
    refine hl_nil ?_
    refine then_n ?_
    first | refine c_dec rfl (fun hb2 => ?_) (fun hb2 => ?_) | refine hc_cond rfl (fun hb2 => ?_) (fun hb2 => ?_)
    ·have hb2' := hb2; try simp at hb2'
     have hlt : l.length < most := by omega
     refine hc_skip ?_
     refine then_n ?_
     refine hc_block ?_
     refine hc_region ?_
     refine r_move rfl rfl ?_
     refine r_move rfl rfl ?_
     refine r_move rfl rfl ?_
     refine hl_call F.kit_LineOf_cb rfl rfl (kit_LineOf_meets hn hs1) (List.Perm.refl _) ⟨m0, trivial⟩ fun x hx => ?_
     obtain ⟨s2, t⟩ := x
     obtain ⟨hs2, ht⟩ := hx
     refine r_build _ rfl rfl (fun _ => T.bd_api_Mark_0_1_2 ..) ?_
     refine r_buildSlice _ rfl rfl (fun _ => T.bs_L_api_Mark_1 ..) fun gS => ?_
     refine r_append (l.length + 1) (rows (l ++ [(1, (i : Int), t)])) T.el_L_api_Mark rfl rfl rfl hG (List.perm_append_comm (l₁ := [_, _])) (Src.own (cs := #[int 1, int i, str t]) (m := 1) (List.mem_append_right _ m0) rfl rfl) rfl (rows_append l [(1, (i : Int), t)]).symm (by unfold maxLen; omega) (by omega) fun A' c' og' hG' => ?_
     refine r_assign rfl rfl ?_
     refine hl_nil ?_
     refine inb_n ?_
     refine again _ (l ++ [(1, (i : Int), t)], (A', c'), og', s2) ⟨by unfold GrowM; rw [len_snoc]; exact hG', by rw [len_snoc]; omega, hOK.snoc hLast (by omega) (by omega) (by omega) (.inr ⟨by simp, ht⟩), hLast.snoc t, hs2⟩ (by show most - (l ++ [_]).length < most - l.length; rw [len_snoc]; omega) ?_ ((List.Sublist.refl og').append (.cons _ (.refl _))) ⟨m0, trivial⟩
     exact ⟨rfl, rfl, rfl, by rw [len_snoc]; rfl, rfl, trivial⟩
    ·have hb2' := hb2; try simp at hb2'
     refine hc_exit ?_
     refine then_exit ?_
     refine then_exit ?_
     refine inb_hit ?_
     refine hq_perm (List.perm_append_comm (l₁ := [_])) ?_
     exact cut_n _ (l, o, og, s1) ⟨hG, hlen, hOK, hLast, hs1⟩ ⟨rfl, rfl, rfl, rfl, rfl, trivial⟩ (.refl _) ⟨m0, trivial⟩
   ·intro hg1; have hg1' := hg1; try simp at hg1'
    refine g_no rfl rfl rfl rfl rfl hg1 ?_
    refine g_no rfl rfl rfl rfl rfl hg1 ?_
    refine g_no rfl rfl rfl rfl rfl hg1 ?_
    refine g_no rfl rfl rfl rfl rfl hg1 ?_
    refine p_f rfl rfl (bf2 hg1) rfl ?_
    refine hl_nil ?_
    refine then_n ?_
    refine c_f rfl rfl ?_
    refine hc_exit ?_
    refine then_exit ?_
    refine then_exit ?_
    refine inb_hit ?_
    refine hq_perm (List.perm_append_comm (l₁ := [_])) ?_
    exact cut_n _ (l, o, og, s1) ⟨hG, hlen, hOK, hLast, hs1⟩ ⟨rfl, rfl, rfl, rfl, rfl, trivial⟩ (.refl _) ⟨m0, trivial⟩
  ·intro x hx
   clear hG hlen hOK hs hLB hLast
   obtain ⟨l, o, og, s⟩ := x
   obtain ⟨hG, hlen, hOK, hLast, hs⟩ := hx
   refine hc_seq ?_
   refine hc_seq ?_
   refine hc_region ?_
   refine r_move rfl rfl ?_
   refine r_move rfl rfl ?_
   refine r_eql rfl rfl rfl ?_
   refine r_move rfl rfl ?_
   refine g_split rfl rfl ?_ ?_
   ·intro hg2; have hg2' := hg2; try simp at hg2'
    have hne : ¬ i = n := fun e => by subst e; simp at hg2
    refine g_yes rfl rfl hg2 ?_
    refine r_move rfl rfl ?_
    refine g_yes rfl rfl hg2 ?_
    refine r_len_sl rfl T.u_L_api_Mark rfl ?_
    refine g_yes rfl rfl hg2 ?_
    refine r_move rfl rfl ?_
    refine g_yes rfl rfl hg2 ?_
    refine r_eql rfl rfl rfl ?_
    refine p_f rfl rfl (bf1 hg2) rfl ?_
    refine hl_nil ?_
    refine then_n ?_
    first | refine c_dec rfl (fun hb3 => ?_) (fun hb3 => ?_) | refine hc_cond rfl (fun hb3 => ?_) (fun hb3 => ?_)
    ·have hb3' := hb3; try simp at hb3'
     refine hc_exit ?_
     refine then_exit ?_
     refine inb_hit ?_
     refine then_n ?_
     refine hc_region ?_
     refine r_move rfl rfl ?_
     refine r_add _ rfl rfl rfl rfl (by unfold I64; omega) ?_
     refine r_assign rfl rfl ?_
     refine hl_nil ?_
     refine again _ (l, o, og, s, i + 1) ⟨⟨hG, hlen, hOK, hs⟩, hLast.b, by omega⟩ (by show n + 1 - (i + 1) < n + 1 - i; omega) ?_ (.refl _) ⟨m0, trivial⟩
     exact ⟨rfl, rfl, rfl, rfl, rfl, trivial⟩
    ·have hb3' := hb3; try simp at hb3'
     have hlt : l.length < most := by have : ¬ (l.length : Int) = most := hb3; omega
     refine hc_skip ?_
     refine then_n ?_
     refine hc_seq ?_
     refine hc_region ?_
     refine r_move rfl rfl ?_
     refine hl_call F.kit_Dice_To_cb rfl rfl (kit_Dice_To_meets 4 hn hs (by omega)) (List.perm_append_comm) ⟨m0, trivial⟩ fun x hx => ?_
     obtain ⟨s1, z⟩ := x
     obtain ⟨hs1, hz⟩ := hx
     refine hl_nil ?_
     refine then_n ?_
     refine hc_block ?_
     refine hc_seq ?_
     refine hc_region ?_
     refine r_eql rfl rfl rfl ?_
     refine r_assign rfl rfl ?_
     refine hl_nil ?_
     refine then_n ?_
     first | refine c_dec rfl (fun hb4 => ?_) (fun hb4 => ?_) | refine hc_cond rfl (fun hb4 => ?_) (fun hb4 => ?_)
     ·have hb4' := hb4; try simp at hb4'
      refine hc_region ?_
      refine r_move rfl rfl ?_
      refine r_move rfl rfl ?_
      refine r_move rfl rfl ?_
      refine hl_call F.kit_LineOf_cb rfl rfl (kit_LineOf_meets hn hs1) (List.Perm.refl _) ⟨m0, trivial⟩ fun x hx => ?_
      obtain ⟨s2, t⟩ := x
      obtain ⟨hs2, ht⟩ := hx
      refine r_build _ rfl rfl (fun _ => T.bd_api_Mark_0_1_2 ..) ?_
      refine r_buildSlice _ rfl rfl (fun _ => T.bs_L_api_Mark_1 ..) fun gS => ?_
      refine r_append (l.length + 1) (rows (l ++ [(2, (i : Int), t)])) T.el_L_api_Mark rfl rfl rfl hG (List.perm_append_comm (l₁ := [_, _])) (Src.own (cs := #[int 2, int i, str t]) (m := 1) (List.mem_append_right _ m0) rfl rfl) rfl (rows_append l [(2, (i : Int), t)]).symm (by unfold maxLen; omega) (by omega) fun A' c' og' hG' => ?_
      refine r_assign rfl rfl ?_
      refine hl_nil ?_
      refine inb_n ?_
      refine inb_n ?_
      refine then_n ?_
      refine hc_region ?_
      refine r_move rfl rfl ?_
      refine r_add _ rfl rfl rfl rfl (by unfold I64; omega) ?_
      refine r_assign rfl rfl ?_
      refine hl_nil ?_
      refine again _ (l ++ [(2, (i : Int), t)], (A', c'), og', s2, i + 1) ⟨⟨by unfold GrowM; rw [len_snoc]; exact hG', by rw [len_snoc]; omega, hOK.snoc hLast (by omega) (by omega) (by omega) (.inr ⟨by simp, ht⟩), hs2⟩, hLast.any 2 t, by omega⟩ (by show n + 1 - (i + 1) < n + 1 - i; omega) ?_ ((List.Sublist.refl og').append (.cons _ (.refl _))) ⟨m0, trivial⟩
      exact ⟨rfl, rfl, rfl, by rw [len_snoc]; rfl, rfl, trivial⟩
     ·have hb4' := hb4; try simp at hb4'
      refine hc_seq ?_
      refine hc_region ?_
      refine r_eql rfl rfl rfl ?_
      refine r_assign rfl rfl ?_
      refine hl_nil ?_
      refine then_n ?_
      first | refine c_dec rfl (fun hb5 => ?_) (fun hb5 => ?_) | refine hc_cond rfl (fun hb5 => ?_) (fun hb5 => ?_)
      ·have hb5' := hb5; try simp at hb5'
       refine hc_region ?_
       refine r_move rfl rfl ?_
       refine r_move rfl rfl ?_
       refine r_build _ rfl rfl (fun _ => T.bd_api_Mark_0_1 ..) ?_
       refine r_buildSlice _ rfl rfl (fun _ => T.bs_L_api_Mark_1 ..) fun gS => ?_
       refine r_append (l.length + 1) (rows (l ++ [(3, (i : Int), [])])) T.el_L_api_Mark rfl rfl rfl hG (List.perm_append_comm (l₁ := [_, _])) (Src.own (cs := #[int 3, int i, str []]) (m := 1) (List.mem_append_right _ m0) rfl rfl) rfl (rows_append l [(3, (i : Int), [])]).symm (by unfold maxLen; omega) (by omega) fun A' c' og' hG' => ?_
       refine r_assign rfl rfl ?_
       refine hl_nil ?_
       refine inb_n ?_
       refine inb_n ?_
       refine then_n ?_
       refine hc_region ?_
       refine r_move rfl rfl ?_
       refine r_add _ rfl rfl rfl rfl (by unfold I64; omega) ?_
       refine r_assign rfl rfl ?_
       refine hl_nil ?_
       refine again _ (l ++ [(3, (i : Int), [])], (A', c'), og', s1, i + 1) ⟨⟨by unfold GrowM; rw [len_snoc]; exact hG', by rw [len_snoc]; omega, hOK.snoc hLast (by omega) (by omega) (by omega) (.inl ⟨rfl, rfl⟩), hs1⟩, hLast.any 3 [], by omega⟩ (by show n + 1 - (i + 1) < n + 1 - i; omega) ?_ ((List.Sublist.refl og').append (.cons _ (.refl _))) ⟨m0, trivial⟩
       exact ⟨rfl, rfl, rfl, by rw [len_snoc]; rfl, rfl, trivial⟩
      ·have hb5' := hb5; try simp at hb5'
       refine hc_skip ?_
       refine inb_n ?_
       refine inb_n ?_
       refine then_n ?_
       refine hc_region ?_
       refine r_move rfl rfl ?_
       refine r_add _ rfl rfl rfl rfl (by unfold I64; omega) ?_
       refine r_assign rfl rfl ?_
       refine hl_nil ?_
       refine hq_perm (List.perm_append_comm (l₁ := [_])) ?_
       refine again _ (l, o, og, s1, i + 1) ⟨⟨hG, hlen, hOK, hs1⟩, hLast.b, by omega⟩ (by show n + 1 - (i + 1) < n + 1 - i; omega) ?_ (.refl _) ⟨m0, trivial⟩
       exact ⟨rfl, rfl, rfl, rfl, rfl, trivial⟩
   ·intro hg2; have hg2' := hg2; try simp at hg2'
    have hne : i = n := by have h : (i : Int) = n := (by simpa using hg2); omega
    refine g_no rfl rfl rfl rfl rfl hg2 ?_
    refine g_no rfl rfl rfl rfl rfl hg2 ?_
    refine g_no rfl rfl rfl rfl rfl hg2 ?_
    refine g_no rfl rfl rfl rfl rfl hg2 ?_
    refine p_t rfl rfl (bt2 hg2) rfl ?_
    refine hl_nil ?_
    refine then_n ?_
    refine c_t rfl rfl ?_
    refine hc_exit ?_
    refine then_exit ?_
    refine inb_hit ?_
    refine then_n ?_
    refine hc_region ?_
    refine r_move rfl rfl ?_
    refine r_add _ rfl rfl rfl rfl (by unfold I64; omega) ?_
    refine r_assign rfl rfl ?_
    refine hl_nil ?_
    refine again _ (l, o, og, s, i + 1) ⟨⟨hG, hlen, hOK, hs⟩, hLast.b, by omega⟩ (by show n + 1 - (i + 1) < n + 1 - i; omega) ?_ (.refl _) ⟨m0, trivial⟩
    exact ⟨rfl, rfl, rfl, rfl, rfl, trivial⟩
 ·have hb1' := hb1; try simp at hb1'
  have hi2 : i = n + 1 := by omega
  refine hc_exit ?_
  refine then_exit ?_
  refine then_exit ?_
  refine inb_hit ?_
  refine then_n ?_
  refine hc_seq ?_
  refine hc_region ?_
  refine r_move rfl rfl ?_
  refine r_assign rfl rfl ?_
  refine hl_nil ?_
  refine then_n ?_
  refine hc_ret ?_
  refine hq_grown hG ?_
  exact ret1 (s, l, o) rfl rfl rfl ⟨hs, hlen, hOK, hG.le⟩ (.refl _) ⟨m0, trivial⟩

abbrev GrowS2 (o : OutC) (ps : List (Sl Str)) (og : Hp) : Prop := Grow T.strs 1 o.1 ps.length o.2 (rows ps) og
def inner (ps : List (Sl Str)) : Fact := Facts (ps.map fun p => Row p.a (rows p.l))
theorem inner_snoc {L : List Fact} {ps : List (Sl Str)} {p : Sl Str} (h : inner ps ∈ L) (h2 : Row p.a (rows p.l) ∈ L) : ∀ F ∈ (ps ++ [p]).map (fun p => Row p.a (rows p.l)), F ∈ L ∨ ∃ Gs, Facts Gs ∈ L ∧ F ∈ Gs := by
  intro F hF
  rw [List.map_append] at hF
  rcases List.mem_append.1 hF with hF | hF
  · exact .inr ⟨_, h, hF⟩
  · simp at hF; subst hF; exact .inl h2
/-- Pages as the kit makes them. -/
def PagesOK (ps : List (Sl Str)) : Prop := ∀ p ∈ ps, PageOK p.l ∧ p.l.length ≤ 6 ∧ p.l.length ≤ p.c
theorem PagesOK.snoc {ps : List (Sl Str)} {p : Sl Str} (h : PagesOK ps) (hp : PageOK p.l ∧ p.l.length ≤ 6 ∧ p.l.length ≤ p.c) : PagesOK (ps ++ [p]) := fun q hq => by
  rcases List.mem_append.1 hq with hq | hq
  · exact h q hq
  · simp at hq; subst hq; exact hp

theorem kit_DupStrings_own {A : Option Addr} {c : Nat} (l : List Str) (hl : l.length ≤ 1000000) : Meets Try.prog F.kit_DupStrings [.slice A l.length c] { LI := [Row A (rows l)], inv := fun x : OutC × Hp => GrowS x.1 l x.2, val := fun x => .slice x.1.1 l.length x.1.2, hpO := fun x => x.2 } := by
 refine meets_intro F.kit_DupStrings_f rfl (Nat.le_of_ble_eq_true rfl) fun w0 => ?_
 refine hc_seq ?_
 refine hc_region ?_
 refine r_assign rfl rfl ?_
 refine hl_nil ?_
 refine then_n ?_
 refine hc_seq ?_
 refine hc_region ?_
 refine r_buildSlice _ rfl rfl (fun _ => T.bs_strs_0 ..) fun gS => ?_
 refine r_move rfl rfl ?_
 refine r_append l.length (rows l) T.el_strs rfl rfl rfl (Grow.new (cs := #[]) (n := 0) rfl (Nat.zero_le _)) (.refl _) (Src.row m0 (rows_len l) (rows_one l) (by decide)) (by omega) rfl (by unfold maxLen; omega) (by omega) fun A' c' og' hG => ?_
 refine r_assign rfl rfl ?_
 refine hl_nil ?_
 refine then_n ?_
 refine hc_ret ?_
 exact ret1 ((A', c'), og') rfl rfl rfl hG (List.sublist_append_left _ _) trivial

theorem PageOK.set {l : List Str} {k : Nat} {t : Str} (h : PageOK l) (ht : t ∈ lineWords) : PageOK (l.set k t) := fun s hs => by
  rcases List.mem_or_eq_of_mem_set hs with h1 | h1
  · exact h s h1
  · exact h1 ▸ ht
theorem PageOK.drop {l : List Str} {k : Nat} (h : PageOK l) : PageOK (l.drop k) := fun s hs => h s (List.mem_of_mem_drop hs)
theorem PageOK.snoc {l : List Str} {t : Str} (h : PageOK l) (ht : t ∈ lineWords) : PageOK (l ++ [t]) := fun s hs => by
  rcases List.mem_append.1 hs with h1 | h1
  · exact h s h1
  · simp at h1; subst h1; exact ht

set_option maxHeartbeats 1000000 in
theorem kit_YearsOf_meets {g : Nat} {A : Option Addr} {c : Nat} {nums : List Int} {s : Int × Int} (most : Nat) (hn : nums.length ≤ 9223372036854775807) (hs : DOK nums s) (hI : most ≤ 100) :
    Meets Try.prog F.kit_YearsOf [.pointer (some ⟨g, 0, none⟩), int most] (diceCon g A c nums s (fun x : List (Sl Str) × OutC => x.1.length ≤ most ∧ PagesOK x.1 ∧ x.1.length ≤ x.2.2) (fun x => .slice x.2.1 x.1.length x.2.2) (fun x => [Rows2 x.2.1 x.1])) := by
 refine meets_intro F.kit_YearsOf_f rfl (Nat.le_of_ble_eq_true rfl) fun w0 => ?_
 refine hc_seq ?_
 refine hc_region ?_
 refine r_assign rfl rfl ?_
 refine hl_nil ?_
 refine then_n ?_
 refine hc_seq ?_
 refine hc_region ?_
 refine r_assign rfl rfl ?_
 refine hl_nil ?_
 refine then_n ?_
 refine hc_seq ?_
 refine hc_region ?_
 refine r_move rfl rfl ?_
 refine hl_call F.kit_PageOf_cb rfl rfl (kit_PageOf_meets 4 hn hs (by omega)) (.refl _) ⟨m0, trivial⟩ fun x hx => ?_
 obtain ⟨s1, pg, po⟩ := x
 obtain ⟨hs1, hp4, hP, hpc⟩ := hx
 simp only at hp4 hP hpc
 refine r_assign rfl rfl ?_
 refine hl_nil ?_
 refine then_n ?_
 refine hc_seq ?_
 refine hc_seq ?_
 refine hc_region ?_
 refine r_move rfl rfl ?_
 refine r_move rfl rfl ?_
 refine hl_call F.kit_Dice_To_cb rfl rfl (kit_Dice_To_meets most hn hs1 (by omega)) (.refl _) ⟨(by repeat constructor), trivial⟩ fun x hx => ?_
 obtain ⟨s2, z⟩ := x
 obtain ⟨hs2, hz⟩ := hx
 simp only [ToInv] at hz
 obtain ⟨zn, rfl⟩ := Int.eq_ofNat_of_zero_le hz.1
 have hzl : zn ≤ most := by
   by_cases h1 : 1 ≤ (most : Int)
   · have := hz.2.1 h1; omega
   · have := hz.2.2 (by omega); omega
 refine hl_facts (Fs := ([] : List (Sl Str)).map fun p => Row p.a (rows p.l)) (by intro F hF; simp at hF) ?_
 refine r_assign rfl rfl ?_
 refine hl_nil ?_
 refine then_n ?_
 refine hc_block ?_
 refine hc_loop (β := List (Sl Str) × OutC × Hp × List Str × OutC × (Int × Int) × Nat) ⟨fun ⟨ps, o, og, pg, po, s, i⟩ => GrowS2 o ps og ∧ ps.length + i ≤ most ∧ PagesOK ps ∧ PageOK pg ∧ pg.length ≤ 6 ∧ pg.length ≤ po.2 ∧ DOK nums s, fun ⟨ps, o, og, pg, po, s, i⟩ => [(0, .pointer (some ⟨g, 0, none⟩)), (5, .slice o.1 ps.length o.2), (6, .slice po.1 pg.length po.2), (7, int i)], fun ⟨ps, o, og, pg, po, s, i⟩ => og ++ [dice g A c nums s], fun ⟨ps, o, og, pg, po, s, i⟩ => [Row A (rows nums), Row po.1 (rows pg), inner ps]⟩
   (fun x => x.2.2.2.2.2.2) ([], (none, 0), [], pg, po, s2, zn) ⟨Grow.nil _ _, by simpa using hzl, by intro p hp; simp at hp, hP, by omega, hpc, hs2⟩ ⟨rfl, rfl, rfl, rfl, trivial⟩ (.refl _) ⟨(by repeat constructor), (by repeat constructor), (by repeat constructor), trivial⟩ fun x hx => ?_
 clear hP hpc hs hs1 hs2 hp4
 obtain ⟨ps, o, og, pg, po, s, i⟩ := x
 obtain ⟨hG, hlen0, hPs, hP, hp6, hpc, hs⟩ := hx
 refine hc_seq ?_
 refine hc_seq ?_
 refine hc_region ?_
 refine r_move rfl rfl ?_
 refine r_gtr rfl rfl rfl ?_
 refine hl_nil ?_
 refine then_n ?_
 first | refine c_dec rfl (fun hb1 => ?_) (fun hb1 => ?_) | refine hc_cond rfl (fun hb1 => ?_) (fun hb1 => ?_)
 ·have hb1' := hb1; try simp at hb1'
  have hi : 0 < i := by omega
  have hlen : ps.length + i ≤ most + 1 := by omega
  refine hc_skip ?_
  refine then_n ?_
  refine hc_cut (⟨fun ⟨ps, o, og, pg, po, s⟩ => GrowS2 o ps og ∧ ps.length + i ≤ most + 1 ∧ PagesOK ps ∧ PageOK pg ∧ pg.length ≤ 6 ∧ pg.length ≤ po.2 ∧ DOK nums s, fun ⟨ps, o, og, pg, po, s⟩ => [(0, .pointer (some ⟨g, 0, none⟩)), (5, .slice o.1 ps.length o.2), (6, .slice po.1 pg.length po.2), (7, int i)], fun ⟨ps, o, og, pg, po, s⟩ => og ++ [dice g A c nums s], fun ⟨ps, o, og, pg, po, s⟩ => [Row A (rows nums), Row po.1 (rows pg), inner ps]⟩ : Sta (List (Sl Str) × OutC × Hp × List Str × OutC × (Int × Int))) ?_ ?_
  ·skip
   refine hc_block ?_
   refine hc_cut (⟨fun ⟨ps, o, og, pg, po, s⟩ => GrowS2 o ps og ∧ ps.length + i ≤ most + 1 ∧ PagesOK ps ∧ PageOK pg ∧ pg.length ≤ 6 ∧ pg.length ≤ po.2 ∧ DOK nums s, fun ⟨ps, o, og, pg, po, s⟩ => [(0, .pointer (some ⟨g, 0, none⟩)), (5, .slice o.1 ps.length o.2), (6, .slice po.1 pg.length po.2), (7, int i)], fun ⟨ps, o, og, pg, po, s⟩ => og ++ [dice g A c nums s], fun ⟨ps, o, og, pg, po, s⟩ => [Row A (rows nums), Row po.1 (rows pg), inner ps]⟩ : Sta (List (Sl Str) × OutC × Hp × List Str × OutC × (Int × Int))) ?_ ?_
   ·skip
    refine hc_region ?_
    refine r_move rfl rfl ?_
    refine r_move rfl rfl ?_
    refine hl_call F.kit_DupStrings_cb rfl rfl (kit_DupStrings_meets pg (by omega)) (.refl _) ⟨m1, trivial⟩ fun x hx => ?_
    have hx : pg.length ≤ x.2 := hx
    refine r_buildSlice _ rfl rfl (fun _ => T.bs_pages_1 ..) fun gS => ?_
    refine r_append (ps.length + 1) (rows (ps ++ [(⟨x.1, x.2, pg⟩ : Sl Str)])) T.el_pages rfl rfl rfl hG (pm7 _ _ _) (Src.own (cs := #[.slice x.1 pg.length x.2]) (m := 1) (List.mem_append_right _ m0) rfl rfl) rfl (rows_append ps [(⟨x.1, x.2, pg⟩ : Sl Str)]).symm (by unfold maxLen; omega) (by omega) fun A' c' og' hG' => ?_
    refine r_assign rfl rfl ?_
    refine hl_facts (inner_snoc (ps := ps) (p := (⟨x.1, x.2, pg⟩ : Sl Str)) (by repeat constructor) (by repeat constructor)) ?_
    refine hl_nil ?_
    exact cut_c _ (ps ++ [(⟨x.1, x.2, pg⟩ : Sl Str)], (A', c'), og', pg, po, s) ⟨by unfold GrowS2; rw [len_snoc]; exact hG', by rw [len_snoc]; omega, hPs.snoc ⟨hP, hp6, hx⟩, hP, hp6, hpc, hs⟩ ⟨rfl, by rw [len_snoc]; rfl, rfl, rfl, trivial⟩ (fun p => by show List.countP p (og' ++ [dice g A c nums s]) ≤ List.countP p (og' ++ [(gS, _), dice g A c nums s]); simp only [List.countP_append, List.countP_cons, List.countP_nil]; omega) ⟨(by repeat constructor), (by repeat constructor), (by repeat constructor), trivial⟩
   ·intro x hx
    clear hG hlen hPs hP hp6 hpc hs
    obtain ⟨ps, o, og, pg, po, s⟩ := x
    obtain ⟨hG, hlen, hPs, hP, hp6, hpc, hs⟩ := hx
    refine hc_cut (⟨fun ⟨ps, o, og, pg, po, s⟩ => GrowS2 o ps og ∧ ps.length + i ≤ most + 1 ∧ PagesOK ps ∧ PageOK pg ∧ pg.length ≤ 6 ∧ pg.length ≤ po.2 ∧ DOK nums s, fun ⟨ps, o, og, pg, po, s⟩ => [(0, .pointer (some ⟨g, 0, none⟩)), (5, .slice o.1 ps.length o.2), (6, .slice po.1 pg.length po.2), (7, int i)], fun ⟨ps, o, og, pg, po, s⟩ => og ++ [dice g A c nums s], fun ⟨ps, o, og, pg, po, s⟩ => [Row A (rows nums), Row po.1 (rows pg), inner ps]⟩ : Sta (List (Sl Str) × OutC × Hp × List Str × OutC × (Int × Int))) ?_ ?_
    ·skip
     refine hc_seq ?_
     refine hc_region ?_
     refine r_move rfl rfl ?_
     refine hl_call F.kit_Dice_Once_cb rfl rfl (kit_Dice_Once_meets (4) hn hs (by omega)) (List.perm_append_comm) ⟨(by repeat constructor), trivial⟩ fun x hx => ?_
     obtain ⟨s1, z⟩ := x
     obtain ⟨hs1, _⟩ := hx
     refine hl_nil ?_
     refine then_n ?_
     first | refine c_dec rfl (fun hb2 => ?_) (fun hb2 => ?_) | refine hc_cond rfl (fun hb2 => ?_) (fun hb2 => ?_)
     ·have hb2' := hb2; try simp at hb2'
      refine hc_region ?_
      refine r_move rfl rfl ?_
      refine hl_call F.kit_PageOf_cb rfl rfl (kit_PageOf_meets 4 hn hs1 (by omega)) (.refl _) ⟨(by repeat constructor), trivial⟩ fun x hx => ?_
      obtain ⟨s2, pg2, po2⟩ := x
      obtain ⟨hs2, hp4, hP2, hpc2⟩ := hx
      simp only at hp4 hP2 hpc2
      refine r_assign rfl rfl ?_
      refine hl_nil ?_
      exact cut_c _ (ps, o, og, pg2, po2, s2) ⟨hG, hlen, hPs, hP2, by omega, hpc2, hs2⟩ ⟨rfl, rfl, rfl, rfl, trivial⟩ (fun p => by show List.countP p (og ++ [dice g A c nums s2]) ≤ List.countP p ([dice g A c nums s2] ++ og); simp only [List.countP_append, List.countP_cons, List.countP_nil]; omega) ⟨(by repeat constructor), (by repeat constructor), (by repeat constructor), trivial⟩
     ·have hb2' := hb2; try simp at hb2'
      refine hc_skip ?_
      exact cut_c _ (ps, o, og, pg, po, s1) ⟨hG, hlen, hPs, hP, hp6, hpc, hs1⟩ ⟨rfl, rfl, rfl, rfl, trivial⟩ (fun p => by show List.countP p (og ++ [dice g A c nums s1]) ≤ List.countP p ([dice g A c nums s1] ++ og); simp only [List.countP_append, List.countP_cons, List.countP_nil]; omega) ⟨(by repeat constructor), (by repeat constructor), (by repeat constructor), trivial⟩
    ·intro x hx
     clear hG hlen hPs hP hp6 hpc hs
     obtain ⟨ps, o, og, pg, po, s⟩ := x
     obtain ⟨hG, hlen, hPs, hP, hp6, hpc, hs⟩ := hx
     refine hc_cut (⟨fun ⟨ps, o, og, pg, po, s⟩ => GrowS2 o ps og ∧ ps.length + i ≤ most + 1 ∧ PagesOK ps ∧ PageOK pg ∧ pg.length ≤ 6 ∧ pg.length ≤ po.2 ∧ DOK nums s, fun ⟨ps, o, og, pg, po, s⟩ => [(0, .pointer (some ⟨g, 0, none⟩)), (5, .slice o.1 ps.length o.2), (6, .slice po.1 pg.length po.2), (7, int i)], fun ⟨ps, o, og, pg, po, s⟩ => og ++ [dice g A c nums s], fun ⟨ps, o, og, pg, po, s⟩ => [Row A (rows nums), Row po.1 (rows pg), inner ps]⟩ : Sta (List (Sl Str) × OutC × Hp × List Str × OutC × (Int × Int))) ?_ ?_
     ·skip
      refine hc_seq ?_
      refine hc_region ?_
      refine r_move rfl rfl ?_
      refine r_len_sl rfl T.u_strs rfl ?_
      refine r_gtr rfl rfl rfl ?_
      refine r_move rfl rfl ?_
      refine g_split rfl rfl ?_ ?_
      ·intro hg1; have hg1' := hg1; try simp at hg1'
       have hpos : 0 < pg.length := by simpa using hg1
       refine g_yes rfl rfl hg1 ?_
       refine r_move rfl rfl ?_
       refine g_yes rfl rfl hg1 ?_
       refine hl_call F.kit_Dice_Once_cb rfl rfl (kit_Dice_Once_meets (2) hn hs (by omega)) (List.perm_append_comm) ⟨(by repeat constructor), trivial⟩ fun x hx => ?_
       obtain ⟨s1, z⟩ := x
       obtain ⟨hs1, _⟩ := hx
       refine p_t rfl rfl (bt1 hg1) rfl ?_
       refine hl_nil ?_
       refine then_n ?_
       first | refine c_dec rfl (fun hb3 => ?_) (fun hb3 => ?_) | refine hc_cond rfl (fun hb3 => ?_) (fun hb3 => ?_)
       ·have hb3' := hb3; try simp at hb3'
        refine hc_seq ?_
        refine hc_region ?_
        refine r_move rfl rfl ?_
        refine hl_call F.kit_DupStrings_cb rfl rfl (kit_DupStrings_own pg (by omega)) (.refl _) ⟨(by repeat constructor), trivial⟩ fun x hx => ?_
        obtain ⟨gp, cur, e1, e2, h3, h4, h5, h6, _⟩ := hx.open_ hpos
        obtain ⟨⟨pa, pc⟩, pog⟩ := x
        simp only at e1 e2 h3 h4 h5
        subst e1
        subst e2
        refine r_assign rfl rfl ?_
        refine hl_nil ?_
        refine then_n ?_
        refine hc_region ?_
        refine r_move rfl rfl ?_
        refine r_move rfl rfl ?_
        refine r_move rfl rfl ?_
        refine r_len_sl rfl T.u_strs rfl ?_
        refine r_sub ((pg.length - 1 : Nat) : Int) rfl rfl rfl (by omega) (by unfold I64; omega) ?_
        refine hl_call F.kit_Dice_To_cb rfl rfl (kit_Dice_To_meets ((pg.length - 1 : Nat) : Int) hn hs1 (by omega)) (.swap _ _ _) ⟨(by repeat constructor), trivial⟩ fun x hx => ?_
        obtain ⟨s2, z⟩ := x
        obtain ⟨hs2, hz⟩ := hx
        simp only [ToInv] at hz
        obtain ⟨zn, rfl⟩ := Int.eq_ofNat_of_zero_le hz.1
        have hzl : zn < pg.length := by
          by_cases h1 : 1 ≤ ((pg.length - 1 : Nat) : Int)
          · have := hz.2.1 h1; omega
          · have := hz.2.2 (by omega); omega
        refine r_move rfl rfl ?_
        refine hl_call F.kit_LineOf_cb rfl rfl (kit_LineOf_meets hn hs2) (.refl _) ⟨(by repeat constructor), trivial⟩ fun x hx => ?_
        obtain ⟨s3, t⟩ := x
        obtain ⟨hs3, ht⟩ := hx
        refine r_indexAddr_own zn zn rfl T.u_strs T.sz_string rfl rfl rfl hzl (by omega) ?_
        refine r_store (u := cur[zn]) rfl rfl (.swap _ _ _) T.sz_string (Array.getElem?_eq_getElem (by omega)) rfl ?_
        refine hl_nil ?_
        refine hq_grown (og := [_]) (Grow.set (l := pg) (k := zn) (a := t) rfl rfl h3 h4 h5 h6) ?_
        exact cut_c _ (ps, o, og, pg.set zn t, (some ⟨gp, 0, none⟩, pc), s3) ⟨hG, hlen, hPs, hP.set ht, by rw [List.length_set]; exact hp6, by rw [List.length_set]; exact h3, hs3⟩ ⟨rfl, rfl, by rw [List.length_set]; rfl, rfl, trivial⟩ (fun p => by show List.countP p (og ++ [dice g A c nums s3]) ≤ List.countP p (dice g A c nums s3 :: og); simp only [List.countP_append, List.countP_cons, List.countP_nil]; omega) ⟨(by repeat constructor), (by repeat constructor), (by repeat constructor), trivial⟩
       ·have hb3' := hb3; try simp at hb3'
        refine hc_skip ?_
        exact cut_c _ (ps, o, og, pg, po, s1) ⟨hG, hlen, hPs, hP, hp6, hpc, hs1⟩ ⟨rfl, rfl, rfl, rfl, trivial⟩ (fun p => by show List.countP p (og ++ [dice g A c nums s1]) ≤ List.countP p ([dice g A c nums s1] ++ og); simp only [List.countP_append, List.countP_cons, List.countP_nil]; omega) ⟨(by repeat constructor), (by repeat constructor), (by repeat constructor), trivial⟩
      ·intro hg1; have hg1' := hg1; try simp at hg1'
       refine g_no rfl rfl rfl rfl rfl hg1 ?_
       refine g_no rfl rfl rfl rfl rfl hg1 ?_
       refine p_f rfl rfl (bf2 hg1) rfl ?_
       refine hl_nil ?_
       refine then_n ?_
       refine c_f rfl rfl ?_
       refine hc_skip ?_
       exact cut_c _ (ps, o, og, pg, po, s) ⟨hG, hlen, hPs, hP, hp6, hpc, hs⟩ ⟨rfl, rfl, rfl, rfl, trivial⟩ (fun p => by show List.countP p (og ++ [dice g A c nums s]) ≤ List.countP p (og ++ [dice g A c nums s]); simp only [List.countP_append, List.countP_cons, List.countP_nil]; omega) ⟨(by repeat constructor), (by repeat constructor), (by repeat constructor), trivial⟩
     ·intro x hx
      clear hG hlen hPs hP hp6 hpc hs
      obtain ⟨ps, o, og, pg, po, s⟩ := x
      obtain ⟨hG, hlen, hPs, hP, hp6, hpc, hs⟩ := hx
      refine hc_cut (⟨fun ⟨ps, o, og, pg, po, s⟩ => GrowS2 o ps og ∧ ps.length + i ≤ most + 1 ∧ PagesOK ps ∧ PageOK pg ∧ pg.length ≤ 6 ∧ pg.length ≤ po.2 ∧ DOK nums s, fun ⟨ps, o, og, pg, po, s⟩ => [(0, .pointer (some ⟨g, 0, none⟩)), (5, .slice o.1 ps.length o.2), (6, .slice po.1 pg.length po.2), (7, int i)], fun ⟨ps, o, og, pg, po, s⟩ => og ++ [dice g A c nums s], fun ⟨ps, o, og, pg, po, s⟩ => [Row A (rows nums), Row po.1 (rows pg), inner ps]⟩ : Sta (List (Sl Str) × OutC × Hp × List Str × OutC × (Int × Int))) ?_ ?_
      ·skip
       refine hc_seq ?_
       refine hc_region ?_
       refine r_move rfl rfl ?_
       refine r_len_sl rfl T.u_strs rfl ?_
       refine r_gtr rfl rfl rfl ?_
       refine r_move rfl rfl ?_
       refine g_split rfl rfl ?_ ?_
       ·intro hg2; have hg2' := hg2; try simp at hg2'
        have hpos : 0 < pg.length := by simpa using hg2
        refine g_yes rfl rfl hg2 ?_
        refine r_move rfl rfl ?_
        refine g_yes rfl rfl hg2 ?_
        refine hl_call F.kit_Dice_Once_cb rfl rfl (kit_Dice_Once_meets (3) hn hs (by omega)) (List.perm_append_comm) ⟨(by repeat constructor), trivial⟩ fun x hx => ?_
        obtain ⟨s1, z⟩ := x
        obtain ⟨hs1, _⟩ := hx
        refine p_t rfl rfl (bt1 hg2) rfl ?_
        refine hl_nil ?_
        refine then_n ?_
        first | refine c_dec rfl (fun hb4 => ?_) (fun hb4 => ?_) | refine hc_cond rfl (fun hb4 => ?_) (fun hb4 => ?_)
        ·have hb4' := hb4; try simp at hb4'
         refine hc_region ?_
         refine r_move rfl rfl ?_
         refine r_slice_lo 1 rfl T.u_strs T.sz_string rfl rfl rfl (by omega) ?_
         refine r_assign rfl rfl ?_
         refine hl_nil ?_
         refine hq_cut (p := pg) (ca := po.2) 1 pg.length (by repeat constructor) hpc ?_
         rw [List.take_length]
         exact cut_c _ (ps, o, og, pg.drop 1, (cutA po.1 po.2 1 1, po.2 - 1), s1) ⟨hG, hlen, hPs, hP.drop, by rw [List.length_drop]; omega, by rw [List.length_drop]; simp only; omega, hs1⟩ ⟨rfl, rfl, by rw [List.length_drop]; rfl, rfl, trivial⟩ (fun p => by show List.countP p (og ++ [dice g A c nums s1]) ≤ List.countP p ([dice g A c nums s1] ++ og); simp only [List.countP_append, List.countP_cons, List.countP_nil]; omega) ⟨(by repeat constructor), (by repeat constructor), (by repeat constructor), trivial⟩
        ·have hb4' := hb4; try simp at hb4'
         refine hc_skip ?_
         exact cut_c _ (ps, o, og, pg, po, s1) ⟨hG, hlen, hPs, hP, hp6, hpc, hs1⟩ ⟨rfl, rfl, rfl, rfl, trivial⟩ (fun p => by show List.countP p (og ++ [dice g A c nums s1]) ≤ List.countP p ([dice g A c nums s1] ++ og); simp only [List.countP_append, List.countP_cons, List.countP_nil]; omega) ⟨(by repeat constructor), (by repeat constructor), (by repeat constructor), trivial⟩
       ·intro hg2; have hg2' := hg2; try simp at hg2'
        refine g_no rfl rfl rfl rfl rfl hg2 ?_
        refine g_no rfl rfl rfl rfl rfl hg2 ?_
        refine p_f rfl rfl (bf2 hg2) rfl ?_
        refine hl_nil ?_
        refine then_n ?_
        refine c_f rfl rfl ?_
        refine hc_skip ?_
        exact cut_c _ (ps, o, og, pg, po, s) ⟨hG, hlen, hPs, hP, hp6, hpc, hs⟩ ⟨rfl, rfl, rfl, rfl, trivial⟩ (fun p => by show List.countP p (og ++ [dice g A c nums s]) ≤ List.countP p (og ++ [dice g A c nums s]); simp only [List.countP_append, List.countP_cons, List.countP_nil]; omega) ⟨(by repeat constructor), (by repeat constructor), (by repeat constructor), trivial⟩
      ·intro x hx
       clear hG hlen hPs hP hp6 hpc hs
       obtain ⟨ps, o, og, pg, po, s⟩ := x
       obtain ⟨hG, hlen, hPs, hP, hp6, hpc, hs⟩ := hx
       refine hc_seq ?_
       refine hc_region ?_
       refine r_move rfl rfl ?_
       refine r_len_sl rfl T.u_strs rfl ?_
       refine r_lss rfl rfl rfl ?_
       refine r_move rfl rfl ?_
       refine g_split rfl rfl ?_ ?_
       ·intro hg3; have hg3' := hg3; try simp at hg3'
        have hlt6 : pg.length < 6 := by have h : (pg.length : Int) < 6 := (by simpa using hg3); omega
        refine g_yes rfl rfl hg3 ?_
        refine r_move rfl rfl ?_
        refine g_yes rfl rfl hg3 ?_
        refine hl_call F.kit_Dice_Once_cb rfl rfl (kit_Dice_Once_meets (3) hn hs (by omega)) (List.perm_append_comm) ⟨(by repeat constructor), trivial⟩ fun x hx => ?_
        obtain ⟨s1, z⟩ := x
        obtain ⟨hs1, _⟩ := hx
        refine p_t rfl rfl (bt1 hg3) rfl ?_
        refine hl_nil ?_
        refine then_n ?_
        first | refine c_dec rfl (fun hb5 => ?_) (fun hb5 => ?_) | refine hc_cond rfl (fun hb5 => ?_) (fun hb5 => ?_)
        ·have hb5' := hb5; try simp at hb5'
         refine hc_region ?_
         refine r_move rfl rfl ?_
         refine hl_call F.kit_DupStrings_cb rfl rfl (kit_DupStrings_own pg (by omega)) (.refl _) ⟨(by repeat constructor), trivial⟩ fun x hx => ?_
         have hx : GrowS x.1 pg x.2 := hx
         refine r_move rfl rfl ?_
         refine hl_call F.kit_LineOf_cb rfl rfl (kit_LineOf_meets hn hs1) (perm_of fun p => by show List.countP p (x.2 ++ ([dice g A c nums s1] ++ og)) = List.countP p ([dice g A c nums s1] ++ (x.2 ++ og)); simp only [List.countP_append, List.countP_cons, List.countP_nil]; omega) ⟨(by repeat constructor), trivial⟩ fun y hy => ?_
         obtain ⟨s2, t⟩ := y
         obtain ⟨hs2, ht⟩ := hy
         refine r_buildSlice _ rfl rfl (fun _ => T.bs_strs_1 ..) fun gS => ?_
         refine r_append (hp' := [(gS, Obj.cells #[str t] T.string (0, 0)), dice g A c nums s2] ++ og) (pg.length + 1) (rows (pg ++ [t])) T.el_strs rfl rfl rfl hx (perm_of fun p => by show List.countP p ((gS, Obj.cells #[str t] T.string (0, 0)) :: ([dice g A c nums s2] ++ (x.2 ++ og))) = List.countP p (x.2 ++ ([(gS, Obj.cells #[str t] T.string (0, 0)), dice g A c nums s2] ++ og)); simp only [List.countP_append, List.countP_cons, List.countP_nil]; omega) (Src.own (g := gS) (cs := #[str t]) (m := 1) (List.mem_append_right _ m0) rfl rfl) rfl (rows_append pg [t]).symm (by unfold maxLen; omega) (by omega) fun A' c' og' hG' => ?_
         refine r_assign rfl rfl ?_
         refine hl_nil ?_
         refine inb_n ?_
         refine hq_grown hG' ?_
         exact cut_c _ (ps, o, og, pg ++ [t], (A', c'), s2) ⟨hG, hlen, hPs, hP.snoc ht, by rw [len_snoc]; omega, by rw [len_snoc]; exact hG'.le, hs2⟩ ⟨rfl, rfl, by rw [len_snoc]; rfl, rfl, trivial⟩ (fun p => by show List.countP p (og ++ [dice g A c nums s2]) ≤ List.countP p ([(gS, _), dice g A c nums s2] ++ og); simp only [List.countP_append, List.countP_cons, List.countP_nil]; omega) ⟨(by repeat constructor), (by repeat constructor), (by repeat constructor), trivial⟩
        ·have hb5' := hb5; try simp at hb5'
         refine hc_skip ?_
         refine inb_n ?_
         exact cut_c _ (ps, o, og, pg, po, s1) ⟨hG, hlen, hPs, hP, hp6, hpc, hs1⟩ ⟨rfl, rfl, rfl, rfl, trivial⟩ (fun p => by show List.countP p (og ++ [dice g A c nums s1]) ≤ List.countP p ([dice g A c nums s1] ++ og); simp only [List.countP_append, List.countP_cons, List.countP_nil]; omega) ⟨(by repeat constructor), (by repeat constructor), (by repeat constructor), trivial⟩
       ·intro hg3; have hg3' := hg3; try simp at hg3'
        refine g_no rfl rfl rfl rfl rfl hg3 ?_
        refine g_no rfl rfl rfl rfl rfl hg3 ?_
        refine p_f rfl rfl (bf2 hg3) rfl ?_
        refine hl_nil ?_
        refine then_n ?_
        refine c_f rfl rfl ?_
        refine hc_skip ?_
        refine inb_n ?_
        exact cut_c _ (ps, o, og, pg, po, s) ⟨hG, hlen, hPs, hP, hp6, hpc, hs⟩ ⟨rfl, rfl, rfl, rfl, trivial⟩ (fun p => by show List.countP p (og ++ [dice g A c nums s]) ≤ List.countP p (og ++ [dice g A c nums s]); simp only [List.countP_append, List.countP_cons, List.countP_nil]; omega) ⟨(by repeat constructor), (by repeat constructor), (by repeat constructor), trivial⟩
  ·intro x hx
   clear hG hlen hPs hP hp6 hpc hs
   obtain ⟨ps, o, og, pg, po, s⟩ := x
   obtain ⟨hG, hlen, hPs, hP, hp6, hpc, hs⟩ := hx
   refine hc_region ?_
   refine r_move rfl rfl ?_
   refine r_sub ((i - 1 : Nat) : Int) rfl rfl rfl (by omega) (by unfold I64; omega) ?_
   refine r_assign rfl rfl ?_
   refine hl_nil ?_
   exact again _ (ps, o, og, pg, po, s, i - 1) ⟨hG, by omega, hPs, hP, hp6, hpc, hs⟩ (by show i - 1 < i; omega) ⟨rfl, rfl, rfl, rfl, trivial⟩ (.refl _) ⟨m0, m1, m2, trivial⟩
 ·have hb1' := hb1; try simp at hb1'
  refine hc_exit ?_
  refine then_exit ?_
  refine then_exit ?_
  refine inb_hit ?_
  refine then_n ?_
  refine hc_seq ?_
  refine hc_region ?_
  refine r_move rfl rfl ?_
  refine r_assign rfl rfl ?_
  refine hl_nil ?_
  refine then_n ?_
  refine hc_ret ?_
  refine hq_grown hG ?_
  refine hq_rows2F (by repeat constructor) (by repeat constructor) ?_
  exact ret1 (s, ps, o) rfl rfl rfl ⟨hs, by simp only; omega, hPs, hG.le⟩ (.refl _) ⟨m0, trivial⟩

end Go.Proofs.Ytpbbgbjidhffoaa
