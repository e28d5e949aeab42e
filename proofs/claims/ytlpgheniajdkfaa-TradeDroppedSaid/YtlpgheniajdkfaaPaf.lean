/- Where a heading leads: asked, followed. -/
import Derived.Test.YtlpgheniajdkfaaPae
namespace Go.Proofs.Ytlpgheniajdkfaa
open Go Go.W
set_option linter.unusedVariables false
set_option linter.unusedSimpArgs false
set_option maxRecDepth 20000
attribute [local irreducible] HL HC HQ HB Row Rows2 Blk Facts

theorem zv_ptr (w : World) : (zeroValue T.trade_pointer).run Try.prog w = .ok (.agg #[int 0]) w := by kernel_rfl
theorem zv_art (w : World) : (zeroValue T.trade_article).run Try.prog w = .ok (.agg #[int 0, .slice none 0 0]) w := by kernel_rfl
def Kd.isP : Kd → Bool | .ptr _ => true | _ => false
def Kd.isA : Kd → Bool | .art _ _ => true | _ => false
def Kd.see : Kd → Int | .ptr s => s | _ => 0
def Kd.cls : Kd → Int | .art c _ => c | _ => 0
def Kd.als : Kd → Sl Int | .art _ a => a | _ => ⟨none, 0, []⟩
section
variable {c : Cx} {Q : Exit → Act → World → Prop} {fr : Fr} {hp : Hp} {L : List Fact} {ops : Array Oper} {rest : List Oper} {d : Tmp} {ty : TypeId} {pos : String} {af : Array Edge}
theorem r_asP {xt : TypeId} {x : Operand} {kd : Kd} (hd : Nat.blt d c.n = true) (hP : c.P = Try.prog) (hx : ev fr x = some kd.v) (k : HL c ops Q rest ((d, .tuple #[.agg #[int kd.see], .bool kd.isP]) :: fr) hp L) : HL c ops Q (⟨some d, .typeAssert x xt T.trade_pointer true, ty, pos, af, none⟩ :: rest) fr hp L := by
  have ht : NoI c.P T.trade_pointer := by rw [hP]; exact ⟨_, Try.underlying113, rfl⟩
  have hz : ∀ w, (zeroValue T.trade_pointer).run c.P w = .ok (.agg #[int 0]) w := by rw [hP]; exact zv_ptr
  cases kd with
  | ptr s => exact r_assertY hd ht hx k
  | art a b => exact r_assertN hd ht hx rfl hz k
  | idx b => exact r_assertN hd ht hx rfl hz k
theorem r_asA {xt : TypeId} {x : Operand} {kd : Kd} (hd : Nat.blt d c.n = true) (hP : c.P = Try.prog) (hx : ev fr x = some kd.v) (k : HL c ops Q rest ((d, .tuple #[.agg #[int kd.cls, .slice kd.als.a kd.als.l.length kd.als.c], .bool kd.isA]) :: fr) hp L) : HL c ops Q (⟨some d, .typeAssert x xt T.trade_article true, ty, pos, af, none⟩ :: rest) fr hp L := by
  have ht : NoI c.P T.trade_article := by rw [hP]; exact ⟨_, Try.underlying103, rfl⟩
  have hz : ∀ w, (zeroValue T.trade_article).run c.P w = .ok (.agg #[int 0, .slice none 0 0]) w := by rw [hP]; exact zv_art
  cases kd with
  | art a b => exact r_assertY hd ht hx k
  | ptr s => exact r_assertN hd ht hx rfl hz k
  | idx b => exact r_assertN hd ht hx rfl hz k
end
theorem kind_get {hs : List Hd} {i : Nat} (h : i < hs.length) : (kindsN hs hs.length).getD i default = kindOf (hs.getD i default) := by
  rw [getD_at (by rw [kinds_len (Nat.le_refl _)]; exact h), getD_at h]
  simp [kindsN]
theorem isP_of (h : Hd) : (kindOf h).isP = decide (¬ h.2.2.1 = -1) := by
  unfold kindOf
  split
  · rename_i e; simp [Kd.isP, e]
  · rename_i e; split <;> simp [Kd.isP, Classical.not_not.1 e]
theorem see_of {h : Hd} (e : ¬ h.2.2.1 = -1) : (kindOf h).see = h.2.2.1 := by unfold kindOf; rw [if_pos e]; rfl
theorem isA_of (h : Hd) : (kindOf h).isA = (decide (h.2.2.1 = -1) && decide (¬ h.2.1 = -1)) := by
  unfold kindOf
  split
  · rename_i e; simp [Kd.isA, e]
  · rename_i e
    split
    · rename_i e2; simp [Kd.isA, Classical.not_not.1 e, e2]
    · rename_i e2; simp [Kd.isA, Classical.not_not.1 e2]
theorem isTr_at (cs : List Cl) {hs : List Hd} {i : Int} (h0 : 0 ≤ i) (h : i < (hs.length : Int)) : (kindOf (hs.getD i.toNat default)).isA = isTrB (trOf cs hs) i := by
  rw [isA_of, isTrB]
  simp only [trOf, hd_get (show i.toNat < hs.length by omega)]
  rfl
abbrev folR (o : Option (Int × Int)) : Value := .tuple #[int (o.getD (0, 0)).1, int (o.getD (0, 0)).2, .bool o.isSome]
/-- References that lead somewhere. -/
def SeesOK (hs : List Hd) : Prop := ∀ i, i < hs.length → -1 ≤ (hs.getD i default).2.2.1 ∧ (hs.getD i default).2.2.1 < (hs.length : Int)
theorem sees_ok {cs : List Cl} {hs : List Hd} (h : TrOK (trOf cs hs)) : SeesOK hs := fun i hi => by
  have h1 := (h.h i (by rw [hs_len]; exact hi)).s
  simp only [trOf, hd_get hi] at h1
  have h2 := h1.2.1
  rw [List.length_map] at h2
  exact ⟨h1.1, h2⟩
theorem p_see (h : Hd) : h.p.2.2.1 = h.2.2.1 := rfl


theorem trade_list_isTrade_meets {A B oa ka : Option Addr} {ca cb oc kc gl : Nat} (cs : List Cl) (hs : List Hd) (i : Int) (h0 : 0 ≤ i) (h : i < (hs.length : Int)) (hl : hs.length ≤ 6) : Meets Try.prog F.trade_list_isTrade [.pointer (some ⟨gl, 0, none⟩), int i] { LI := [Row (some ⟨gl, 0, none⟩) [.slice A cs.length ca, .slice B hs.length cb, .slice oa cs.length oc, .slice ka hs.length kc], Row ka (rows (kindsN hs hs.length))], val := fun _ : Unit => .bool (isTrB (trOf cs hs) i) } := by
 refine meets_intro F.trade_list_isTrade_f rfl (Nat.le_of_ble_eq_true rfl) fun w0 => ?_
 refine hc_seq ?_
 refine hc_region ?_
 refine r_assign rfl rfl ?_
 refine hl_nil ?_
 refine then_n ?_
 refine hc_seq ?_
 refine hc_region ?_
 refine r_move rfl rfl ?_
 refine r_nilCheck rfl rfl ?_
 first | refine r_fieldAddr ⟨_, 3, none⟩ rfl rfl T.fa_trade_list_2 rfl ?_ | refine r_fieldAddr _ rfl rfl T.fa_trade_list_2 rfl ?_
 first | refine r_load rfl T.cell_L_trade_kind rfl (cell_own (by repeat constructor) rfl) ?_ | refine r_load rfl T.cell_L_trade_kind rfl (cell_blk (by repeat constructor) rfl) ?_ | refine r_load rfl T.cell_L_trade_kind rfl (cell_row (by repeat constructor) (rows_get0 (by omega) rfl)) ?_ | refine r_load rfl T.cell_L_trade_kind rfl (cell_row_f (by repeat constructor) (rows_get (by omega) rfl)) ?_ | refine r_load rfl T.cell_L_trade_kind rfl (cell_rowg (by repeat constructor) rfl) ?_
 refine r_move rfl rfl ?_
 refine r_elem (α := Kd) (kindsN hs hs.length) i.toNat rfl T.u_L_trade_kind T.sz_trade_kind rfl rfl (Int.toNat_of_nonneg h0).symm (by repeat constructor) (kinds_len (Nat.le_refl _)).symm (by rw [kinds_len (Nat.le_refl _)]; omega) (by decide) ?_
 refine r_load (v := Kd.v (kindOf (hs.getD i.toNat default))) rfl T.cell_trade_kind rfl (cell_row (by repeat constructor) (rows_get0 (by rw [kinds_len (Nat.le_refl _)]; omega) (by rw [kind_get (by omega)]; rfl))) ?_
 refine r_asA rfl rfl rfl ?_
 refine r_move rfl rfl ?_
 refine r_extract rfl rfl rfl ?_
 refine r_extract rfl rfl rfl ?_
 refine r_alloc rfl (fun _ => T.al_trade_article _) fun gA => ?_
 refine r_storeS rfl rfl (by first | exact .refl _ | exact perm2 _ _ _ | exact perm3 _ _ _ _ | exact perm4 _ _ _ _ _) T.sz_trade_article (by rfl) (by rfl) ?_
 refine r_assign rfl rfl ?_
 refine hl_nil ?_
 refine then_n ?_
 refine hc_seq ?_
 refine hc_region ?_
 refine r_move rfl rfl ?_
 refine r_assign rfl rfl ?_
 refine hl_nil ?_
 refine then_n ?_
 refine hc_ret ?_
 exact ret1 () rfl (congrArg (fun b => some (Value.bool b)) (by exact isTr_at cs h0 h)) rfl trivial (List.nil_sublist _) trivial

theorem trade_list_follow_meets {A B oa ka : Option Addr} {ca cb oc kc gl : Nat} (cs : List Cl) (hs : List Hd) (h : Int) (h0 : 0 ≤ h) (hh : h < (hs.length : Int)) (hl : hs.length ≤ 6) (hS : SeesOK hs) : Meets Try.prog F.trade_list_follow [.pointer (some ⟨gl, 0, none⟩), int h] { LI := [Row (some ⟨gl, 0, none⟩) [.slice A cs.length ca, .slice B hs.length cb, .slice oa cs.length oc, .slice ka hs.length kc], Row ka (rows (kindsN hs hs.length))], val := fun _ : Unit => folR (followT (trOf cs hs) h) } := by
 refine meets_intro F.trade_list_follow_f rfl (Nat.le_of_ble_eq_true rfl) fun w0 => ?_
 refine hc_seq ?_
 refine hc_region ?_
 refine r_assign rfl rfl ?_
 refine r_assign rfl rfl ?_
 refine r_assign rfl rfl ?_
 refine hl_nil ?_
 refine then_n ?_
 refine hc_seq ?_
 refine hc_seq ?_
 refine hc_region ?_
 refine r_move rfl rfl ?_
 refine r_nilCheck rfl rfl ?_
 first | refine r_fieldAddr ⟨_, 3, none⟩ rfl rfl T.fa_trade_list_2 rfl ?_ | refine r_fieldAddr _ rfl rfl T.fa_trade_list_2 rfl ?_
 first | refine r_load rfl T.cell_L_trade_kind rfl (cell_own (by repeat constructor) rfl) ?_ | refine r_load rfl T.cell_L_trade_kind rfl (cell_blk (by repeat constructor) rfl) ?_ | refine r_load rfl T.cell_L_trade_kind rfl (cell_row (by repeat constructor) (rows_get0 (by omega) rfl)) ?_ | refine r_load rfl T.cell_L_trade_kind rfl (cell_row_f (by repeat constructor) (rows_get (by omega) rfl)) ?_ | refine r_load rfl T.cell_L_trade_kind rfl (cell_rowg (by repeat constructor) rfl) ?_
 refine r_len_sl rfl T.u_L_trade_kind rfl ?_
 refine r_add _ rfl rfl rfl rfl (by unfold I64; omega) ?_
 refine r_move rfl rfl ?_
 refine hl_nil ?_
 refine then_n ?_
 refine hc_block ?_
 refine hc_loop (β := Nat × Int) ⟨fun x => x.1 ≤ hs.length + 1 ∧ 0 ≤ x.2 ∧ x.2 < (hs.length : Int) ∧ followT (trOf cs hs) h = followN (hs.map Hd.p) (hs.length + 1 - x.1) x.2 (x.1 : Int), fun x => [(0, .pointer (some ⟨gl, 0, none⟩)), (1, int x.2), (15, int ((hs.length : Int) + 1)), (16, int x.1)], fun _ => [], fun _ => [Row (some ⟨gl, 0, none⟩) [.slice A cs.length ca, .slice B hs.length cb, .slice oa cs.length oc, .slice ka hs.length kc], Row ka (rows (kindsN hs hs.length))]⟩ (fun x => hs.length + 1 - x.1) (0, h) ⟨Nat.zero_le _, h0, hh, by rw [followT, hs_len]; rfl⟩ ⟨rfl, rfl, rfl, rfl, trivial⟩ (List.Sublist.refl _) ⟨(by repeat constructor), (by repeat constructor), trivial⟩ fun x hx => ?_
 obtain ⟨k, y⟩ := x
 obtain ⟨hk, h0, hy, ht⟩ := hx
 simp only at hk h0 hy ht
 refine hc_seq ?_
 refine hc_region ?_
 refine r_lss rfl rfl rfl ?_
 refine hl_nil ?_
 refine then_n ?_
 refine hc_seq ?_
 first | refine c_dec rfl (fun hb1 => ?_) (fun hb1 => ?_) | refine hc_cond rfl (fun hb1 => ?_) (fun hb1 => ?_)
 ·have hb1' := hb1; try simp at hb1'
  have hk2 : k < hs.length + 1 := by omega
  rw [show hs.length + 1 - k = (hs.length - k) + 1 by omega, followN, hd_get (show y.toNat < hs.length by omega), p_see] at ht
  have hsy := hS y.toNat (by omega)
  refine hc_skip ?_
  refine then_n ?_
  refine hc_seq ?_
  refine hc_block ?_
  refine hc_seq ?_
  refine hc_region ?_
  refine r_move rfl rfl ?_
  refine r_assign rfl rfl ?_
  refine hl_nil ?_
  refine then_n ?_
  refine hc_seq ?_
  refine hc_region ?_
  refine r_move rfl rfl ?_
  refine r_nilCheck rfl rfl ?_
  first | refine r_fieldAddr ⟨_, 3, none⟩ rfl rfl T.fa_trade_list_2 rfl ?_ | refine r_fieldAddr _ rfl rfl T.fa_trade_list_2 rfl ?_
  first | refine r_load rfl T.cell_L_trade_kind rfl (cell_own (by repeat constructor) rfl) ?_ | refine r_load rfl T.cell_L_trade_kind rfl (cell_blk (by repeat constructor) rfl) ?_ | refine r_load rfl T.cell_L_trade_kind rfl (cell_row (by repeat constructor) (rows_get0 (by omega) rfl)) ?_ | refine r_load rfl T.cell_L_trade_kind rfl (cell_row_f (by repeat constructor) (rows_get (by omega) rfl)) ?_ | refine r_load rfl T.cell_L_trade_kind rfl (cell_rowg (by repeat constructor) rfl) ?_
  refine r_move rfl rfl ?_
  refine r_elem (α := Kd) (kindsN hs hs.length) y.toNat rfl T.u_L_trade_kind T.sz_trade_kind rfl rfl (Int.toNat_of_nonneg h0).symm (by repeat constructor) (kinds_len (Nat.le_refl _)).symm (by rw [kinds_len (Nat.le_refl _)]; omega) (by decide) ?_
  refine r_load (v := Kd.v (kindOf (hs.getD y.toNat default))) rfl T.cell_trade_kind rfl (cell_row (by repeat constructor) (rows_get0 (by rw [kinds_len (Nat.le_refl _)]; omega) (by rw [kind_get (by omega)]; rfl))) ?_
  refine hl_nil ?_
  refine then_n ?_
  refine hc_block ?_
  refine hc_seq ?_
  refine hc_region ?_
  refine r_asP rfl rfl rfl ?_
  refine r_extract rfl rfl rfl ?_
  refine r_extract rfl rfl rfl ?_
  refine hl_nil ?_
  refine then_n ?_
  first | refine c_dec rfl (fun hb2 => ?_) (fun hb2 => ?_) | refine hc_cond rfl (fun hb2 => ?_) (fun hb2 => ?_)
  ·have hb2' := hb2; try simp at hb2'
   rw [isP_of, decide_eq_true_eq] at hb2
   rw [see_of hb2]
   rw [if_neg (by exact hb2)] at ht
   refine hc_seq ?_
   refine hc_region ?_
   refine r_alloc rfl (fun _ => T.al_trade_pointer _) fun gA => ?_
   refine r_storeS rfl rfl (by first | exact .refl _ | exact perm2 _ _ _ | exact perm3 _ _ _ _ | exact perm4 _ _ _ _ _) T.sz_trade_pointer (by rfl) (by rfl) ?_
   refine hl_nil ?_
   refine then_n ?_
   refine hc_region ?_
   first | refine r_fieldAddr ⟨_, 0, none⟩ rfl rfl T.fa_trade_pointer_0 rfl ?_ | refine r_fieldAddr _ rfl rfl T.fa_trade_pointer_0 rfl ?_
   first | refine r_load rfl T.cell_int rfl (cell_own (by repeat constructor) rfl) ?_ | refine r_load rfl T.cell_int rfl (cell_blk (by repeat constructor) rfl) ?_ | refine r_load rfl T.cell_int rfl (cell_row (by repeat constructor) (rows_get0 (by omega) rfl)) ?_ | refine r_load rfl T.cell_int rfl (cell_row_f (by repeat constructor) (rows_get (by omega) rfl)) ?_ | refine r_load rfl T.cell_int rfl (cell_rowg (by repeat constructor) rfl) ?_
   refine r_assign rfl rfl ?_
   refine hl_nil ?_
   refine inb_n ?_
   refine inb_n ?_
   refine then_n ?_
   refine hc_region ?_
   refine r_add _ rfl rfl rfl rfl (by unfold I64; omega) ?_
   refine r_move rfl rfl ?_
   refine hl_nil ?_
   exact again _ (k + 1, (hs.getD y.toNat default).2.2.1) ⟨by show k + 1 ≤ hs.length + 1; omega, by show 0 ≤ (hs.getD y.toNat default).2.2.1; omega, hsy.2, by show _ = followN _ (hs.length + 1 - (k + 1)) _ _; rw [ht, Nat.add_sub_add_right]; rfl⟩ (by show hs.length + 1 - (k + 1) < hs.length + 1 - k; omega) ⟨rfl, rfl, rfl, rfl, trivial⟩ (List.nil_sublist _) ⟨(by repeat constructor), (by repeat constructor), trivial⟩
  ·have hb2' := hb2; try simp at hb2'
   rw [isP_of, decide_eq_false_iff_not] at hb2
   rw [if_pos (Classical.not_not.1 hb2)] at ht
   refine hc_seq ?_
   refine hc_region ?_
   refine r_assign rfl rfl ?_
   refine hl_nil ?_
   refine then_n ?_
   refine hc_seq ?_
   refine hc_region ?_
   refine r_move rfl rfl ?_
   refine r_move rfl rfl ?_
   refine r_assign rfl rfl ?_
   refine r_assign rfl rfl ?_
   refine r_assign rfl rfl ?_
   refine hl_nil ?_
   refine then_n ?_
   refine hc_ret ?_
   refine inb_ret ?_
   refine inb_ret ?_
   refine then_ret ?_
   refine then_ret ?_
   refine inb_ret ?_
   refine then_ret ?_
   exact ret3 () rfl rfl rfl rfl (by show folR (followT (trOf cs hs) h) = _; rw [ht]; rfl) rfl trivial (List.nil_sublist _) trivial
 ·have hb1' := hb1; try simp at hb1'
  have hk2 : k = hs.length + 1 := by omega
  rw [hk2, Nat.sub_self, followN] at ht
  refine hc_exit ?_
  refine then_exit ?_
  refine then_exit ?_
  refine inb_hit ?_
  refine then_n ?_
  refine hc_seq ?_
  refine hc_region ?_
  refine r_assign rfl rfl ?_
  refine r_assign rfl rfl ?_
  refine r_assign rfl rfl ?_
  refine hl_nil ?_
  refine then_n ?_
  refine hc_ret ?_
  exact ret3 () rfl rfl rfl rfl (by show folR (followT (trOf cs hs) h) = _; rw [ht]; rfl) rfl trivial (List.nil_sublist _) trivial

/-- The first error of a question. -/
def askE (t : Tr) (l : List Int) : Int := if ¬ checkT t = 0 then checkT t else if l.all (fun x => decide (0 ≤ x ∧ x ≤ (t.hs.length : Int) - 1)) then 0 else 3
theorem ask_bad {t : Tr} {l : List Int} {k : Nat} (h0 : checkT t = 0) (hk : k < l.length) (h : ¬ (0 ≤ l.getD k default ∧ l.getD k default ≤ (t.hs.length : Int) - 1)) : askE t l = 3 := by
  rw [askE, if_neg (not_not_intro h0), if_neg]
  intro e
  exact h (of_decide_eq_true (List.all_eq_true.1 e _ (getD_mem hk)))
theorem ask_ok {t : Tr} {l : List Int} (h0 : checkT t = 0) (h : ∀ i, i < l.length → 0 ≤ l.getD i default ∧ l.getD i default ≤ (t.hs.length : Int) - 1) : askE t l = 0 := by
  rw [askE, if_neg (not_not_intro h0), if_pos]
  rw [List.all_eq_true]
  intro x hx
  obtain ⟨i, hi, rfl⟩ := List.getElem_of_mem hx
  rw [decide_eq_true_eq, ← getD_at hi]
  exact h i hi
theorem ask_check {t : Tr} {l : List Int} (h : askE t l = 0) : checkT t = 0 := by
  unfold askE at h
  split at h
  · exact h
  · rename_i h1; exact Classical.not_not.1 h1
theorem ask_in {t : Tr} {l : List Int} (h : askE t l = 0) {x : Int} (hx : x ∈ l) : 0 ≤ x ∧ x ≤ (t.hs.length : Int) - 1 := by
  have h0 := ask_check h
  rw [askE, if_neg (not_not_intro h0)] at h
  split at h
  · rename_i h1; exact of_decide_eq_true (List.all_eq_true.1 h1 x hx)
  · omega

set_option maxHeartbeats 1000000 in
theorem trade_ask_meets {C : Option Addr} {cc : Nat} {A B : Option Addr} {ca cb : Nat} (cs : List Cl) (hs : List Hd) (l : List Int) (hca : cs.length ≤ ca) (hcb : hs.length ≤ cb) (ha : ∀ h ∈ hs, h.2.2.2.l.length ≤ 1000000) (hl : l.length ≤ 1000000) : Meets Try.prog F.trade_ask [.agg #[.slice A cs.length ca, .slice B hs.length cb], .slice C l.length cc] { LI := [Row A (rows cs), RowsF B hs Hd.row, Row C (rows l)], val := fun x : Nat × OutC × OutC => .tuple #[if askE (trOf cs hs) l = 0 then .pointer (some ⟨x.1, 0, none⟩) else .pointer none, int (askE (trOf cs hs) l)], LO := fun x => if askE (trOf cs hs) l = 0 then beginL cs hs A ca B cb x else [] } := by
 refine meets_intro F.trade_ask_f rfl (Nat.le_of_ble_eq_true rfl) fun w0 => ?_
 refine hc_seq ?_
 refine hc_region ?_
 refine r_box rfl rfl fun gB => ?_
 refine r_assign rfl rfl ?_
 refine r_assign rfl rfl ?_
 refine hl_nil ?_
 refine then_n ?_
 refine hc_cut ⟨fun _ : Nat × OutC × OutC => True, fun x => [(1, .slice C l.length cc), (2, .pointer (some ⟨gB, 0, none⟩)), (6, if checkT (trOf cs hs) = 0 then .pointer (some ⟨x.1, 0, none⟩) else .pointer none), (7, int (checkT (trOf cs hs)))], fun _ => [(gB, .cells #[.slice A cs.length ca, .slice B hs.length cb] T.api_Trades (0, 0))], fun x => (if checkT (trOf cs hs) = 0 then beginL cs hs A ca B cb x else []) ++ [Row A (rows cs), RowsF B hs Hd.row, Row C (rows l)]⟩ ?_ ?_
 ·skip
  refine hc_region ?_
  first | refine r_loadA rfl T.row_api_Trades T.sz_api_Trades rfl (by repeat constructor) (by rfl) ?_ | refine r_loadB rfl T.row_api_Trades T.sz_api_Trades rfl (by repeat constructor) (by rfl) ?_ | refine r_loadS rfl T.row_api_Trades T.sz_api_Trades rfl rfl (cells_row (by repeat constructor) (rows_all (by omega))) ?_
  refine hl_call F.trade_begin_cb rfl rfl (trade_begin_meets cs hs hca hcb ha) (List.Perm.refl _) ⟨(by repeat constructor), (by repeat constructor), trivial⟩ fun x _ => ?_
  refine r_move rfl rfl ?_
  refine r_extract rfl rfl rfl ?_
  refine r_extract rfl rfl rfl ?_
  refine r_assign rfl rfl ?_
  refine r_assign rfl rfl ?_
  refine hl_nil ?_
  exact cut_n _ x trivial ⟨rfl, rfl, rfl, rfl, trivial⟩ (List.Sublist.refl _) (LSub.of_mem fun F h => h)
 ·refine fun x _ => ?_
  dsimp only
  refine hc_seq ?_
  refine hc_seq ?_
  refine hc_region ?_
  refine r_move rfl rfl ?_
  refine r_neq rfl rfl rfl ?_
  refine hl_nil ?_
  refine then_n ?_
  first | refine c_dec rfl (fun hb1 => ?_) (fun hb1 => ?_) | refine hc_cond rfl (fun hb1 => ?_) (fun hb1 => ?_)
  ·have hb1' := hb1; try simp at hb1'
   have hE : askE (trOf cs hs) l = checkT (trOf cs hs) := by rw [askE, if_pos hb1]
   have hnz : ¬ askE (trOf cs hs) l = 0 := by rw [hE]; exact hb1
   refine hc_seq ?_
   refine hc_region ?_
   refine r_move rfl rfl ?_
   refine r_assign rfl rfl ?_
   refine r_assign rfl rfl ?_
   refine hl_nil ?_
   refine then_n ?_
   refine hc_ret ?_
   refine then_ret ?_
   exact ret2 (0, (none, 0), (none, 0)) rfl rfl rfl (by show Value.tuple #[if askE (trOf cs hs) l = 0 then _ else _, int (askE (trOf cs hs) l)] = _; rw [if_neg hnz, hE]) rfl trivial (List.nil_sublist _) (by show LSub _ (if askE (trOf cs hs) l = 0 then _ else []); rw [if_neg hnz]; trivial)
  ·have hb1' := hb1; try simp at hb1'
   have h0 := Classical.not_not.1 hb1
   rw [if_pos h0, if_pos h0]
   have hln := hs_len cs hs
   have hok := tr_ok h0
   have h6 : cs.length ≤ 6 := hok.c6
   have h6h := hok.h6
   rw [hs_len] at h6h
   have hcl : ∀ i, i < cs.length → ClsOK cs i := hok.c
   obtain ⟨gl, ⟨oa, oc⟩, ⟨ka, kc⟩⟩ := x
   show HC _ _ _ _ _ [Row (some ⟨gl, 0, none⟩) [.slice A cs.length ca, .slice B hs.length cb, .slice oa cs.length oc, .slice ka hs.length kc], Row oa (rows (masksN cs cs.length)), Row ka (rows (kindsN hs hs.length)), Row A (rows cs), RowsF B hs Hd.row, Row C (rows l)]
   refine hc_skip ?_
   refine then_n ?_
   refine hc_seq ?_
   refine hc_seq ?_
   refine hc_region ?_
   refine r_move rfl rfl ?_
   refine r_len_sl rfl T.u_ints rfl ?_
   refine r_move rfl rfl ?_
   refine hl_nil ?_
   refine then_n ?_
   refine hc_block ?_
   refine hc_loop (β := Nat) ⟨fun k => k ≤ l.length ∧ ∀ i, i < k → 0 ≤ l.getD i default ∧ l.getD i default ≤ (hs.length : Int) - 1, fun k => [(2, .pointer (some ⟨gB, 0, none⟩)), (6, .pointer (some ⟨gl, 0, none⟩)), (18, .slice C l.length cc), (19, int l.length), (20, int k)], fun _ => [(gB, .cells #[.slice A cs.length ca, .slice B hs.length cb] T.api_Trades (0, 0))], fun _ => [Row (some ⟨gl, 0, none⟩) [.slice A cs.length ca, .slice B hs.length cb, .slice oa cs.length oc, .slice ka hs.length kc], Row oa (rows (masksN cs cs.length)), Row ka (rows (kindsN hs hs.length)), Row A (rows cs), RowsF B hs Hd.row, Row C (rows l)]⟩ (fun k => l.length - k) 0 ⟨Nat.zero_le _, fun i hi => by omega⟩ ⟨rfl, rfl, rfl, rfl, rfl, trivial⟩ (List.Sublist.refl _) ⟨(by repeat constructor), (by repeat constructor), (by repeat constructor), (by repeat constructor), (by repeat constructor), (by repeat constructor), trivial⟩ fun k hk => ?_
   obtain ⟨hk, ht⟩ := hk
   refine hc_seq ?_
   refine hc_region ?_
   refine r_lss rfl rfl rfl ?_
   refine hl_nil ?_
   refine then_n ?_
   refine hc_seq ?_
   first | refine c_dec rfl (fun hb2 => ?_) (fun hb2 => ?_) | refine hc_cond rfl (fun hb2 => ?_) (fun hb2 => ?_)
   ·have hb2' := hb2; try simp at hb2'
    have hk2 : k < l.length := by omega
    refine hc_skip ?_
    refine then_n ?_
    refine hc_seq ?_
    refine hc_block ?_
    refine hc_seq ?_
    refine hc_region ?_
    refine r_elem (α := Int) _ _ rfl T.u_ints T.sz_int rfl rfl rfl (by repeat constructor) rfl (by omega) (by decide) ?_
    refine r_load rfl T.cell_int rfl (cell_row (by repeat constructor) (rows_get0 (by omega) rfl)) ?_
    refine r_assign rfl rfl ?_
    refine hl_nil ?_
    refine then_n ?_
    refine hc_seq ?_
    refine hc_region ?_
    refine r_move rfl rfl ?_
    first | refine r_fieldAddr ⟨_, 1, none⟩ rfl rfl T.fa_api_Trades_1 rfl ?_ | refine r_fieldAddr _ rfl rfl T.fa_api_Trades_1 rfl ?_
    first | refine r_load rfl T.cell_L_api_Head rfl (cell_own (by repeat constructor) rfl) ?_ | refine r_load rfl T.cell_L_api_Head rfl (cell_blk (by repeat constructor) rfl) ?_ | refine r_load rfl T.cell_L_api_Head rfl (cell_row (by repeat constructor) (rows_get0 (by omega) rfl)) ?_ | refine r_load rfl T.cell_L_api_Head rfl (cell_row_f (by repeat constructor) (rows_get (by omega) rfl)) ?_ | refine r_load rfl T.cell_L_api_Head rfl (cell_rowg (by repeat constructor) rfl) ?_
    refine r_len_sl rfl T.u_L_api_Head rfl ?_
    refine r_sub _ rfl rfl rfl rfl (by unfold I64; omega) ?_
    refine hl_call F.trade_between_cb rfl rfl (trade_between_meets _ _ _) (List.Perm.refl _) trivial fun _ _ => ?_
    refine r_not rfl rfl ?_
    refine hl_nil ?_
    refine then_n ?_
    first | refine c_dec rfl (fun hb3 => ?_) (fun hb3 => ?_) | refine hc_cond rfl (fun hb3 => ?_) (fun hb3 => ?_)
    ·have hb3' := hb3; try simp at hb3'
     have hE : askE (trOf cs hs) l = 3 := ask_bad h0 hk2 (by rw [hln]; exact nbw hb3)
     have hnz : ¬ askE (trOf cs hs) l = 0 := by rw [hE]; decide
     refine hc_seq ?_
     refine hc_region ?_
     refine r_assign rfl rfl ?_
     refine r_assign rfl rfl ?_
     refine hl_nil ?_
     refine then_n ?_
     refine hc_ret ?_
     refine inb_ret ?_
     refine then_ret ?_
     refine then_ret ?_
     refine inb_ret ?_
     refine then_ret ?_
     exact ret2 (0, (none, 0), (none, 0)) rfl rfl rfl (by show Value.tuple #[if askE (trOf cs hs) l = 0 then _ else _, int (askE (trOf cs hs) l)] = _; rw [if_neg hnz, hE]) rfl trivial (List.nil_sublist _) (by show LSub _ (if askE (trOf cs hs) l = 0 then _ else []); rw [if_neg hnz]; trivial)
    ·have hb3' := hb3; try simp at hb3'
     refine hc_skip ?_
     refine inb_n ?_
     refine then_n ?_
     refine hc_region ?_
     refine r_add _ rfl rfl rfl rfl (by unfold I64; omega) ?_
     refine r_move rfl rfl ?_
     refine hl_nil ?_
     have hin := bw hb3
     exact again _ (k + 1) ⟨by omega, fun i hi => by rcases Nat.lt_or_ge i k with h | h; exact ht i h; rw [show i = k by omega]; exact hin⟩ (by show l.length - (k + 1) < l.length - k; omega) ⟨rfl, rfl, rfl, rfl, rfl, trivial⟩ (List.Sublist.refl _) ⟨(by repeat constructor), (by repeat constructor), (by repeat constructor), (by repeat constructor), (by repeat constructor), (by repeat constructor), trivial⟩
   ·have hb2' := hb2; try simp at hb2'
    have hk2 : k = l.length := by omega
    subst hk2
    have hE : askE (trOf cs hs) l = 0 := ask_ok h0 (by rw [hln]; exact ht)
    refine hc_exit ?_
    refine then_exit ?_
    refine then_exit ?_
    refine inb_hit ?_
    refine then_n ?_
    refine hc_seq ?_
    refine hc_region ?_
    refine r_move rfl rfl ?_
    refine r_assign rfl rfl ?_
    refine r_assign rfl rfl ?_
    refine hl_nil ?_
    refine then_n ?_
    refine hc_ret ?_
    exact ret2 (gl, (oa, oc), (ka, kc)) rfl rfl rfl (by show Value.tuple #[if askE (trOf cs hs) l = 0 then _ else _, int (askE (trOf cs hs) l)] = _; rw [if_pos hE, hE]) rfl trivial (List.nil_sublist _) (by show LSub _ (if askE (trOf cs hs) l = 0 then _ else []); rw [if_pos hE]; exact ⟨(by repeat constructor), (by repeat constructor), (by repeat constructor), trivial⟩)

end Go.Proofs.Ytlpgheniajdkfaa
