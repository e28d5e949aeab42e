/- Texts of this claim, one behind another. -/

import Derived.Test.YtdlbbfcfahahdaaUAn
set_option linter.unusedVariables false
set_option linter.unusedSimpArgs false
section
namespace Go.Proofs.Ytdlbbfcfahahdaa
open Go Go.W
set_option maxRecDepth 20000
attribute [local irreducible] HL HC HQ HB Row Rows2 Blk Facts
instance : El Bool where
  default := false
  cells b := [.bool b]
  sz := 1
  len _ := rfl
  one a u h := by simp at h; subst h; rfl
def rdK (p : Int) (l : List Int) : List Bool := l.map fun v => decide (0 ≤ v ∧ v ≤ p)
theorem rdK_succ {p : Int} {l : List Int} {k : Nat} (hk : k < l.length) : rdK p (l.take (k + 1)) = rdK p (l.take k) ++ [decide (0 ≤ l.getD k default ∧ l.getD k default ≤ p)] := by
  unfold rdK
  rw [List.take_succ_eq_append_getElem hk, getD_at hk, List.map_append]; rfl
theorem rdK_len (p : Int) (l : List Int) : (rdK p l).length = l.length := by simp [rdK]
def reachK (t : Tr) (p : Int) (k : Nat) : List (List Bool) := (List.range k).map fun i : Nat => rdK p (stepsE t (i : Int)).1
theorem reachK_succ (t : Tr) (p : Int) (k : Nat) : reachK t p (k + 1) = reachK t p k ++ [rdK p (stepsE t (k : Int)).1] := by
  unfold reachK
  rw [List.range_succ, List.map_append]; rfl
abbrev N0 : Sl Bool := ⟨none, 0, []⟩
theorem at_cur {ps r : List (Sl Bool)} {x : Sl Bool} {i : Nat} (h : ps.length = i) : (ps ++ x :: r).getD i default = x := by
  subst h; simp [List.getD_eq_getElem?_getD]
theorem set_cur {ps r : List (Sl Bool)} {x y : Sl Bool} {i : Nat} (h : ps.length = i) : (ps ++ x :: r).set i y = ps ++ y :: r := by
  subst h; simp
theorem bold_reached_meets {A B : Option Addr} {ca cb : Nat} (cs : List Cl) (hs : List Hd) (p : Int) (hca : cs.length ≤ ca) (hcb : hs.length ≤ cb) (ha : ∀ h ∈ hs, h.2.2.2.l.length ≤ 1000000) (hn : hs.length ≤ 1000000) (hst : ∀ i : Nat, (stepsE (trOf cs hs) (i : Int)).1.length ≤ 1000000) : Meets Try.prog F.bold_reached [.agg #[.slice A cs.length ca, .slice B hs.length cb], int p] { LI := [Row A (rows cs), RowsF B hs Hd.row], inv := fun x : Nat × List (Sl Bool) => x.2.length = hs.length ∧ x.2.map (·.l) = reachK (trOf cs hs) p hs.length, val := fun x => .slice (some ⟨x.1, 0, none⟩) hs.length hs.length, LO := fun x => [Row (some ⟨x.1, 0, none⟩) (rows x.2), innerF x.2] } := by
 refine meets_intro F.bold_reached_f rfl (Nat.le_of_ble_eq_true rfl) fun w0 => ?_
 refine hc_seq (hc_region ?_)
 refine r_box rfl rfl fun gB => ?_
 refine r_assign rfl rfl (hl_nil (then_n (hc_seq (hc_letgoB (hc_region ?_)))))
 refine r_fieldAddr ⟨_, 1, none⟩ rfl rfl T.fa_api_Trades_1 rfl ?_
 refine r_load (v := .slice B hs.length cb) rfl T.cell_L_api_Head rfl (cell_blk mB rfl) ?_
 refine r_len_sl rfl T.u_L_api_Head rfl ?_
 refine r_makeR (α := Sl Bool) (n := hs.length) (bytes := 24) (z := .slice none 0 0) N0 rfl T.u_L_L_bool (by kernel_rfl) rfl rfl rfl rfl (by omega) (by omega) fun go => ?_
 refine r_assign rfl rfl (hl_nil (then_n (hc_seq (hc_seq (hc_region (r_move rfl rfl ?_))))))
 refine r_len_sl rfl T.u_L_L_bool rfl ?_
 refine r_move rfl rfl (hl_nil (then_n (hc_block ?_)))
 refine hc_facts (Fs := ([] : List (Sl Bool)).map fun p => Row p.a (rows p.l)) (by intro F hF; cases hF) ?_
 refine hc_loop (β := Nat × List (Sl Bool)) ⟨fun x => x.1 ≤ hs.length ∧ x.2.length = x.1 ∧ x.2.map (·.l) = reachK (trOf cs hs) p x.1, fun x => [(1, int p), (2, .pointer (some ⟨gB, 0, none⟩)), (5, .slice (some ⟨go, 0, none⟩) hs.length hs.length), (16, int hs.length), (17, int x.1)], fun x => [(go, Obj.cells (rows (x.2 ++ List.replicate (hs.length - x.1) N0)).toArray T.L_bool (0, 0))], fun x => [Blk gB (Obj.cells #[.slice A cs.length ca, .slice B hs.length cb] T.api_Trades (0, 0)), Row A (rows cs), RowsF B hs Hd.row, innerF x.2]⟩ (fun x => hs.length - x.1) (0, []) ⟨Nat.zero_le _, rfl, rfl⟩ ⟨rfl, rfl, rfl, rfl, rfl, trivial⟩ (.refl _) ⟨mB, mB, mB, mB, trivial⟩ fun x hx => ?_
 obtain ⟨i, ps⟩ := x
 obtain ⟨hi, hpl, hpm⟩ := hx
 simp only at hi hpl hpm
 have hs1 := hst i
 refine hc_seq (hc_region (r_lss rfl rfl rfl (hl_nil (then_n (hc_seq ?_)))))
 refine c_dec rfl (fun hb1 => ?_) (fun hb1 => ?_)
 ·have hb1' := hb1; try simp at hb1'
  have hi2 : i < hs.length := by omega
  obtain ⟨q, hq⟩ : ∃ q, hs.length - i = q + 1 := ⟨hs.length - i - 1, by omega⟩
  refine hc_skip (then_n (hc_seq (hc_block (hc_seq (hc_region (r_move rfl rfl (r_assign rfl rfl (hl_nil (then_n (hc_seq (hc_region ?_)))))))))))
  refine r_loadB (cs := #[.slice A cs.length ca, .slice B hs.length cb]) rfl T.row_api_Trades T.sz_api_Trades rfl mB rfl ?_
  refine r_move rfl rfl ?_
  refine hl_call F.trade_Steps_cb rfl rfl (trade_Steps_meets cs hs (i : Int) hca hcb ha) (List.Perm.refl _) ⟨mB, mB, trivial⟩ fun x hx => ?_
  obtain ⟨xa, xc⟩ := x
  refine r_move rfl rfl (r_extract rfl rfl rfl (r_extract rfl rfl rfl (r_assign rfl rfl (r_assign rfl rfl (hl_nil (then_n (hc_seq (hc_region (r_move rfl rfl ?_)))))))))
  refine r_len_sl rfl T.u_ints rfl ?_
  refine r_move rfl rfl (hl_nil (then_n (hc_block ?_)))
  refine hc_perm (hp' := [(go, Obj.cells (rows (ps ++ N0 :: List.replicate q N0)).toArray T.L_bool (0, 0))]) (by show List.Perm [(go, Obj.cells (rows (ps ++ List.replicate (hs.length - i) N0)).toArray T.L_bool (0, 0))] _; rw [hq]; exact .refl _) ?_
  refine hc_loop (β := Nat × OutC × Hp) ⟨fun x => x.1 ≤ (stepsE (trOf cs hs) (i : Int)).1.length ∧ Grow T.bool 1 x.2.1.1 (rdK p ((stepsE (trOf cs hs) (i : Int)).1.take (x.1))).length x.2.1.2 (rows (rdK p ((stepsE (trOf cs hs) (i : Int)).1.take (x.1)))) x.2.2, fun x => [(1, int p), (2, .pointer (some ⟨gB, 0, none⟩)), (5, .slice (some ⟨go, 0, none⟩) hs.length hs.length), (6, int i), (16, int hs.length), (17, int i), (26, .slice xa (stepsE (trOf cs hs) (i : Int)).1.length xc), (27, int (stepsE (trOf cs hs) (i : Int)).1.length), (28, int x.1)], fun x => (go, Obj.cells (rows (ps ++ ⟨x.2.1.1, x.2.1.2, (rdK p ((stepsE (trOf cs hs) (i : Int)).1.take (x.1)))⟩ :: List.replicate q N0)).toArray T.L_bool (0, 0)) :: x.2.2, fun _ => [Row xa (rows (stepsE (trOf cs hs) (i : Int)).1), Blk gB (Obj.cells #[.slice A cs.length ca, .slice B hs.length cb] T.api_Trades (0, 0)), Row A (rows cs), RowsF B hs Hd.row, innerF ps]⟩ (fun x => (stepsE (trOf cs hs) (i : Int)).1.length - x.1) (0, (none, 0), []) ⟨Nat.zero_le _, Grow.nil _ _⟩ ⟨rfl, rfl, rfl, rfl, rfl, rfl, rfl, rfl, rfl, trivial⟩ (.refl _) ⟨mB, mB, mB, mB, mB, trivial⟩ fun x hx => ?_
  obtain ⟨j, ⟨na, nc⟩, og⟩ := x
  obtain ⟨hj, hG⟩ := hx
  simp only at hj hG
  have hlen : (rdK p ((stepsE (trOf cs hs) (i : Int)).1.take (j))).length ≤ j := by rw [rdK_len, List.length_take]; exact Nat.min_le_left _ _
  refine hc_seq (hc_region (r_lss rfl rfl rfl (hl_nil (then_n (hc_seq ?_)))))
  refine c_dec rfl (fun hb2 => ?_) (fun hb2 => ?_)
  ·have hb2' := hb2; try simp at hb2'
   have hj2 : j < (stepsE (trOf cs hs) (i : Int)).1.length := by omega
   have hbs := rdK_succ (p := p) hj2
   refine hc_skip (then_n (hc_seq (hc_block (hc_seq (hc_region ?_)))))
   refine r_elem (α := Int) _ _ rfl T.u_ints T.sz_int rfl rfl rfl mB rfl (by omega) (by decide) ?_
   refine r_load rfl T.cell_int rfl (cell_row mB (rows_get0 (by omega) rfl)) ?_
   refine r_assign rfl rfl (hl_nil (then_n ?_))
   refine hc_drawW (og) ([(go, Obj.cells (rows (ps ++ ⟨na, nc, (rdK p ((stepsE (trOf cs hs) (i : Int)).1.take (j)))⟩ :: List.replicate q N0)).toArray T.L_bool (0, 0))]) (List.perm_append_comm (l₁ := [_]) (l₂ := og)) 11 [10] mixed (by decide) (by decide) (by decide) rfl rfl rfl ?_
   refine hb_ex _ rfl rfl rfl (fun w1 => r_move rfl rfl (hl_nil (qe_done rfl))) ?_
   refine hb_ex _ rfl rfl rfl (fun w1 => r_move rfl rfl (hl_nil (qe_done rfl))) ?_
   refine hb_ex _ rfl rfl rfl (fun w1 => r_move rfl rfl (hl_nil (qe_done rfl))) ?_
   refine hb_ex _ rfl rfl rfl (fun w1 => r_move rfl rfl (hl_nil (qe_done rfl))) ?_
   refine hb_ex _ rfl rfl rfl (fun w1 => r_indexAddr_own i (0 + i * 1) rfl T.u_L_L_bool T.sz_L_bool rfl rfl rfl (by omega) rfl (hl_nil (qe_done rfl))) ?_
   refine hb_ex _ rfl rfl rfl (fun w1 => r_load (v := .slice na (rdK p ((stepsE (trOf cs hs) (i : Int)).1.take (j))).length nc) rfl T.cell_L_bool rfl (cell_blkf (α := Sl Bool) (k := i) (f := 0) mB (by show 0 + i * 1 = i * 1 + 0; omega) (by rw [List.length_append, hpl]; simp) (by rw [at_cur hpl]; rfl)) (hl_nil (qe_done rfl))) ?_
   refine hb_ex _ rfl rfl rfl (fun w1 => r_move rfl rfl (hl_nil (qe_done rfl))) ?_
   refine hb_ex _ rfl rfl rfl (fun w1 => r_move rfl rfl (hl_nil (qe_done rfl))) ?_
   refine hb_ex _ rfl rfl rfl (fun w1 => hl_call F.bold_between_cb rfl rfl (bold_between_meets _ _ _) (List.Perm.refl _) trivial fun _ _ => (hl_nil (qe_done rfl))) ?_
   refine hb_vs ⟨Nat, fun _ => True, fun g1 => .slice (some ⟨g1, 0, none⟩) 1 1, fun g1 => [Row (some ⟨g1, 0, none⟩) (rows [(decide (0 ≤ (stepsE (trOf cs hs) (i : Int)).1.getD j default ∧ (stepsE (trOf cs hs) (i : Int)).1.getD j default ≤ p))])]⟩ rfl rfl rfl ?_ ?_
   ·intro w1
    refine r_buildSlice _ rfl rfl (fun _ => T.bs_L_bool_1 ..) fun gS => ?_
    refine hl_nil ?_
    refine hq_letgo (rows [(decide (0 ≤ (stepsE (trOf cs hs) (i : Int)).1.getD j default ∧ (stepsE (trOf cs hs) (i : Int)).1.getD j default ≤ p))]) (List.prefix_refl _) ?_
    exact qv_done gS trivial rfl ⟨m0, trivial⟩
   refine hb_wr ⟨OutC × Hp, fun x => Grow T.bool 1 x.1.1 ((rdK p ((stepsE (trOf cs hs) (i : Int)).1.take (j))).length + 1) x.1.2 (rows ((rdK p ((stepsE (trOf cs hs) (i : Int)).1.take (j))) ++ [(decide (0 ≤ (stepsE (trOf cs hs) (i : Int)).1.getD j default ∧ (stepsE (trOf cs hs) (i : Int)).1.getD j default ≤ p))])) x.2, fun x => .slice x.1.1 ((rdK p ((stepsE (trOf cs hs) (i : Int)).1.take (j))).length + 1) x.1.2, fun _ => [], fun x => x.2⟩ rfl rfl rfl ?_ ?_
   ·intro g1 _; intro w1
    refine r_append (hp' := []) ((rdK p ((stepsE (trOf cs hs) (i : Int)).1.take (j))).length + 1) (rows ((rdK p ((stepsE (trOf cs hs) (i : Int)).1.take (j))) ++ [(decide (0 ≤ (stepsE (trOf cs hs) (i : Int)).1.getD j default ∧ (stepsE (trOf cs hs) (i : Int)).1.getD j default ≤ p))])) T.el_L_bool rfl rfl rfl hG (by rw [List.append_nil]) (Src.row (news := rows [(decide (0 ≤ (stepsE (trOf cs hs) (i : Int)).1.getD j default ∧ (stepsE (trOf cs hs) (i : Int)).1.getD j default ≤ p))]) (m := 1) mB rfl (rows_one _) (by decide)) rfl (rows_append _ _).symm (by unfold maxLen; omega) (by omega) fun A' c' og' hG' => ?_
    refine hl_nil ?_
    exact qw_done ((A', c'), og') hG' (fun _ => rfl) (List.sublist_append_left _ _) trivial
   refine hb_nil ⟨rfl, ?_⟩
   intro g1 _ y hy
   obtain ⟨⟨A', c'⟩, og'⟩ := y
   refine r_indexAddr_own i (0 + i * 1) rfl T.u_L_L_bool T.sz_L_bool rfl rfl rfl (by omega) rfl ?_
   refine r_storef (α := Sl Bool) (k := i) (f := 0) (hp' := og') ⟨A', c', (rdK p ((stepsE (trOf cs hs) (i : Int)).1.take (j))) ++ [(decide (0 ≤ (stepsE (trOf cs hs) (i : Int)).1.getD j default ∧ (stepsE (trOf cs hs) (i : Int)).1.getD j default ≤ p))]⟩ rfl (by show 0 + i * 1 = i * 1 + 0; omega) rfl (List.perm_append_comm (l₁ := og') (l₂ := [_])) T.sz_L_bool (by rw [List.length_append, hpl]; simp) (by decide) (by rw [at_cur hpl]; show [_] = [_]; rw [List.length_append]; rfl) rfl ?_
   rw [set_cur hpl]
   refine hl_nil (inb_n (then_n (hc_region ?_)))
   refine r_add _ rfl rfl rfl rfl (by unfold I64; omega) ?_
   refine r_move rfl rfl (hl_nil ?_)
   exact again _ (j + 1, (A', c'), og') ⟨by show j + 1 ≤ _; omega, by show Grow T.bool 1 A' (rdK p ((stepsE (trOf cs hs) (i : Int)).1.take (j + 1))).length c' (rows (rdK p ((stepsE (trOf cs hs) (i : Int)).1.take (j + 1)))) og'; rw [hbs, List.length_append]; exact hy⟩ (by show (stepsE (trOf cs hs) (i : Int)).1.length - (j + 1) < (stepsE (trOf cs hs) (i : Int)).1.length - j; omega) ⟨rfl, rfl, rfl, rfl, rfl, rfl, rfl, rfl, rfl, trivial⟩ (by show List.Sublist ((go, Obj.cells (rows (ps ++ ⟨A', c', (rdK p ((stepsE (trOf cs hs) (i : Int)).1.take (j + 1)))⟩ :: List.replicate q N0)).toArray T.L_bool (0, 0)) :: og') _; rw [hbs]; exact .refl _) ⟨mB, mB, mB, mB, mB, trivial⟩
  ·have hb2' := hb2; try simp at hb2'
   have hj2 : j = (stepsE (trOf cs hs) (i : Int)).1.length := by omega
   subst hj2
   refine hc_exit (then_exit (then_exit (inb_hit (inb_n (then_n (hc_region ?_))))))
   refine r_add _ rfl rfl rfl rfl (by unfold I64; omega) ?_
   refine r_move rfl rfl (hl_nil ?_)
   refine hq_perm (hp' := og ++ [(go, Obj.cells (rows (ps ++ ⟨na, nc, (rdK p ((stepsE (trOf cs hs) (i : Int)).1.take ((stepsE (trOf cs hs) (i : Int)).1.length)))⟩ :: List.replicate q N0)).toArray T.L_bool (0, 0))]) (List.perm_append_comm (l₁ := [_]) (l₂ := og)) ?_
   refine hq_grown hG ?_
   refine hq_facts (innerF_snoc (p := ((⟨na, nc, (rdK p ((stepsE (trOf cs hs) (i : Int)).1.take ((stepsE (trOf cs hs) (i : Int)).1.length)))⟩) : Sl Bool)) (ps := ps) (f := fun p => Row p.a (rows p.l)) mB mB) ?_
   exact again _ (i + 1, ps ++ [⟨na, nc, (rdK p ((stepsE (trOf cs hs) (i : Int)).1.take ((stepsE (trOf cs hs) (i : Int)).1.length)))⟩]) ⟨by show i + 1 ≤ hs.length; omega, by show (ps ++ [_]).length = i + 1; simp [hpl], by show (ps ++ [_]).map (fun x : Sl Bool => x.l) = _; rw [reachK_succ, List.map_append, hpm]; show _ ++ [rdK p (List.take _ _)] = _; rw [List.take_length]⟩ (by show hs.length - (i + 1) < hs.length - i; omega) ⟨rfl, rfl, rfl, rfl, rfl, trivial⟩ (by show List.Sublist [(go, Obj.cells (rows ((ps ++ [⟨na, nc, (rdK p ((stepsE (trOf cs hs) (i : Int)).1.take ((stepsE (trOf cs hs) (i : Int)).1.length)))⟩]) ++ List.replicate (hs.length - (i + 1)) N0)).toArray T.L_bool (0, 0))] _; rw [List.append_assoc, show hs.length - (i + 1) = q by omega]; exact .refl _) ⟨mB, mB, mB, mB, trivial⟩
 ·have hb1' := hb1; try simp at hb1'
  have hi2 : i = hs.length := by omega
  refine hc_exit (then_exit (then_exit (inb_hit (then_n (hc_seq (hc_region (r_move rfl rfl (r_assign rfl rfl (hl_nil (then_n (hc_ret ?_)))))))))))
  refine hq_letgo (rows ps) (by show rows ps <+: rows (ps ++ _); rw [rows_append]; exact List.prefix_append ..) ?_
  exact ret1 (go, ps) rfl rfl rfl ⟨hpl.trans hi2, by show ps.map _ = _; rw [hpm, hi2]⟩ (List.nil_sublist _) ⟨mB, mB, trivial⟩
end Go.Proofs.Ytdlbbfcfahahdaa
end
section
namespace Go.Proofs.Ytdlbbfcfahahdaa
open Go Go.W
set_option maxRecDepth 20000
attribute [local irreducible] HL HC HQ HB Row Rows2 Blk Facts
theorem any_take {l : List Int} {b : Int → Bool} {k : Nat} (hk : k < l.length) (h : (l.take k).any b = false) (h2 : b (l.getD k default) = false) : (l.take (k + 1)).any b = false := by
  rw [List.take_succ_eq_append_getElem hk, ← getD_at hk, List.any_append, h]
  simpa using h2
theorem slices_IndexFunc_ints_meets {A : Option Addr} {cp f : Nat} {cap : List Value} {L0 : List Fact} (l : List Int) (b : Int → Bool) (hl : l.length ≤ 1000000) (hcb : Callable Try.prog f) (hm : ∀ x ∈ l, Meets Try.prog f ([int x] ++ cap) { LI := L0, val := fun _ : Unit => .bool (b x) }) : Meets Try.prog F.slices_IndexFunc_ints [.slice A l.length cp, .func (.func f) #[] cap.toArray] { LI := Row A (rows l) :: L0, inv := fun z : Int => (0 ≤ z ↔ l.any b = true), val := fun z => int z } := by
 refine meets_intro F.slices_IndexFunc_ints_f rfl (Nat.le_of_ble_eq_true rfl) fun w0 => ?_
 refine hc_seq (hc_region (r_assign rfl rfl (hl_nil (then_n (hc_seq (hc_seq (hc_region (r_move rfl rfl ?_))))))))
 refine r_len_sl rfl T.u_ints rfl ?_
 refine r_move rfl rfl (hl_nil (then_n (hc_block ?_)))
 refine hc_loop (β := Nat) ⟨fun k => k ≤ l.length ∧ (l.take k).any b = false, fun k => [(0, .slice A l.length cp), (1, .func (.func f) #[] cap.toArray), (7, int l.length), (8, int k)], fun _ => [], fun _ => Row A (rows l) :: L0⟩ (fun k => l.length - k) 0 ⟨Nat.zero_le _, rfl⟩ ⟨rfl, rfl, rfl, rfl, trivial⟩ (.refl _) ⟨m0, (LSub.of_mem fun F hF => List.mem_cons_of_mem _ hF)⟩ fun k hk => ?_
 obtain ⟨hk, ht⟩ := hk
 refine hc_seq (hc_region (r_lss rfl rfl rfl (hl_nil (then_n (hc_seq ?_)))))
 first | refine c_dec rfl (fun hb1 => ?_) (fun hb1 => ?_) | refine hc_cond rfl (fun hb1 => ?_) (fun hb1 => ?_)
 ·have hb1' := hb1; try simp at hb1'
  have hk2 : k < l.length := by omega
  refine hc_skip (then_n (hc_seq (hc_block (hc_seq (hc_region (r_move rfl rfl (r_assign rfl rfl (hl_nil (then_n (hc_seq (hc_region ?_)))))))))))
  refine r_move rfl rfl (r_move rfl rfl (r_move rfl rfl ?_))
  refine r_elem (α := Int) _ _ rfl T.u_ints T.sz_int rfl rfl rfl mB rfl (by omega) (by decide) ?_
  refine r_load rfl T.cell_int rfl (cell_row mB (rows_get0 (by omega) rfl)) ?_
  refine hl_callv (vs := [int (l.getD k default)]) (cap := cap) hcb rfl rfl rfl (hm _ (getD_mem hk2)) (List.Perm.refl _) (LSub.of_mem fun F hF => List.mem_cons_of_mem _ hF) fun _ _ => ?_
  refine hl_nil (then_n ?_)
  first | refine c_dec rfl (fun hb2 => ?_) (fun hb2 => ?_) | refine hc_cond rfl (fun hb2 => ?_) (fun hb2 => ?_)
  ·have hb2' := hb2; try simp at hb2'
   refine hc_seq (hc_region (r_move rfl rfl (r_assign rfl rfl (hl_nil (then_n (hc_ret (inb_ret (then_ret (then_ret (inb_ret (then_ret ?_)))))))))))
   exact ret1 (k : Int) rfl rfl rfl ⟨fun _ => List.any_eq_true.2 ⟨_, getD_mem hk2, hb2⟩, fun _ => by omega⟩ (List.nil_sublist _) trivial
  ·have hb2' := hb2; try simp at hb2'
   refine hc_skip (inb_n (then_n (hc_region ?_)))
   refine r_add _ rfl rfl rfl rfl (by unfold I64; omega) ?_
   refine r_move rfl rfl (hl_nil ?_)
   exact again _ (k + 1) ⟨by show k + 1 ≤ l.length; omega, any_take hk2 ht (by simpa using hb2)⟩ (by show l.length - (k + 1) < l.length - k; omega) ⟨rfl, rfl, rfl, rfl, trivial⟩ (List.nil_sublist _) ⟨by first | exact m0 | exact List.mem_cons_self .., LSub.of_mem fun F hF => by first | exact List.mem_cons_of_mem _ hF | exact List.mem_append_right _ (List.mem_cons_of_mem _ hF)⟩
 ·have hb1' := hb1; try simp at hb1'
  have hk2 : k = l.length := by omega
  rw [hk2, List.take_length] at ht
  refine hc_exit (then_exit (then_exit (inb_hit (then_n (hc_seq (hc_region (r_assign rfl rfl (hl_nil (then_n (hc_ret ?_))))))))))
  exact ret1 (-1) rfl rfl rfl ⟨fun h => by omega, fun h => by rw [ht] at h; cases h⟩ (.refl _) trivial
theorem slices_ContainsFunc_ints_meets {A : Option Addr} {cp f : Nat} {cap : List Value} {L0 : List Fact} (l : List Int) (b : Int → Bool) (hl : l.length ≤ 1000000) (hcb : Callable Try.prog f) (hm : ∀ x ∈ l, Meets Try.prog f ([int x] ++ cap) { LI := L0, val := fun _ : Unit => .bool (b x) }) : Meets Try.prog F.slices_ContainsFunc_ints [.slice A l.length cp, .func (.func f) #[] cap.toArray] { LI := Row A (rows l) :: L0, val := fun _ : Unit => .bool (l.any b) } := by
 refine meets_intro F.slices_ContainsFunc_ints_f rfl (Nat.le_of_ble_eq_true rfl) fun w0 => ?_
 refine hc_seq (hc_region (r_assign rfl rfl (hl_nil (then_n (hc_seq (hc_region (r_move rfl rfl (r_move rfl rfl ?_))))))))
 refine hl_call F.slices_IndexFunc_ints_cb rfl rfl (slices_IndexFunc_ints_meets l b hl hcb hm) (List.Perm.refl _) ⟨m0, (LSub.of_mem fun F hF => List.mem_cons_of_mem _ hF)⟩ fun z hz => ?_
 refine r_geq rfl rfl rfl (r_assign rfl rfl (hl_nil (then_n (hc_ret ?_))))
 exact ret1 () rfl (congrArg (fun b => some (Value.bool b)) (by have hz : (0 ≤ z ↔ l.any b = true) := hz; cases e : l.any b <;> simp_all)) rfl trivial (List.nil_sublist _) trivial
theorem bold_Found_2_meets {g1 g2 : Nat} {A : Option Addr} {c : Nat} (ps : List (Sl Bool)) (v x : Nat) (hv : v < ps.length) (hx : x < (ps.getD v default).l.length) : Meets Try.prog F.bold_Found_2 [int x, .pointer (some ⟨g1, 0, none⟩), .pointer (some ⟨g2, 0, none⟩)] { LI := [Row (some ⟨g1, 0, none⟩) (rows [(⟨A, c, ps⟩ : Sl (Sl Bool))]), Row (some ⟨g2, 0, none⟩) (rows [(v : Int)]), Row A (rows ps), innerF ps], val := fun _ : Unit => .bool ((ps.getD v default).l.getD x default) } := by
 refine meets_intro F.bold_Found_2_f rfl (Nat.le_of_ble_eq_true rfl) fun w0 => ?_
 refine hc_seq (hc_region (r_assign rfl rfl (hl_nil (then_n (hc_seq (hc_region ?_))))))
 refine r_load (v := .slice A ps.length c) rfl T.cell_L_L_bool rfl (cell_row (A := some ⟨g1, 0, none⟩) mB (rows_get0 (l := [(⟨A, c, ps⟩ : Sl (Sl Bool))]) (i := 0) Nat.zero_lt_one rfl)) ?_
 refine r_load (v := int v) rfl T.cell_int rfl (cell_row (A := some ⟨g2, 0, none⟩) mB (rows_get0 (l := [(v : Int)]) (i := 0) Nat.zero_lt_one rfl)) ?_
 refine r_elem (α := Sl Bool) ps v rfl T.u_L_L_bool T.sz_L_bool rfl rfl rfl mB rfl hv (by decide) ?_
 refine r_load (v := .slice (ps.getD v default).a (ps.getD v default).l.length (ps.getD v default).c) rfl T.cell_L_bool rfl (cell_row mB (rows_get0 hv rfl)) ?_
 refine hl_pick (F := Row (ps.getD v default).a (rows (ps.getD v default).l)) (Fs := ps.map fun p => Row p.a (rows p.l)) mB (List.mem_map.2 ⟨_, getD_mem hv, rfl⟩) ?_
 refine r_move rfl rfl ?_
 refine r_elem (α := Bool) (ps.getD v default).l x rfl T.u_L_bool T.sz_bool rfl rfl rfl mB rfl hx (by decide) ?_
 refine r_load (v := .bool ((ps.getD v default).l.getD x default)) rfl T.cell_bool rfl (cell_row mB (rows_get0 hx rfl)) ?_
 refine r_assign rfl rfl (hl_nil (then_n (hc_ret ?_)))
 exact ret1 () rfl rfl rfl trivial (List.nil_sublist _) trivial
end Go.Proofs.Ytdlbbfcfahahdaa
end
section
namespace Go.Proofs.Ytdlbbfcfahahdaa
open Go Go.W
set_option maxRecDepth 20000
attribute [local irreducible] HL HC HQ HB Row Rows2 Blk Facts
theorem trade_Check_meets {A B : Option Addr} {ca cb : Nat} (cs : List Cl) (hs : List Hd) (hca : cs.length ≤ ca) (hcb : hs.length ≤ cb) (ha : ∀ h ∈ hs, h.2.2.2.l.length ≤ 1000000) : Meets Try.prog F.trade_Check [.agg #[.slice A cs.length ca, .slice B hs.length cb]] { LI := [Row A (rows cs), RowsF B hs Hd.row], val := fun _ : Unit => int (checkT (trOf cs hs)) } := by
 refine meets_intro F.trade_Check_f rfl (Nat.le_of_ble_eq_true rfl) fun w0 => ?_
 refine hc_seq (hc_region ?_)
 refine r_box rfl rfl fun gB => ?_
 refine r_assign rfl rfl (hl_nil (then_n (hc_seq (hc_region ?_))))
 first | refine r_loadA rfl T.row_api_Trades T.sz_api_Trades rfl mB (by rfl) ?_ | refine r_loadB rfl T.row_api_Trades T.sz_api_Trades rfl mB (by rfl) ?_ | refine r_loadS rfl T.row_api_Trades T.sz_api_Trades rfl rfl (cells_row mB (rows_all (by omega))) ?_
 refine hl_call F.trade_check_cb rfl rfl (trade_check_meets cs hs hca hcb ha) (List.Perm.refl _) ⟨mB, mB, trivial⟩ fun _ _ => ?_
 refine r_assign rfl rfl (hl_nil (then_n (hc_ret ?_)))
 exact ret1 () rfl rfl rfl trivial (List.nil_sublist _) trivial
theorem reach_len {cs : List Cl} {hs : List Hd} (h0 : checkT (trOf cs hs) = 0) {i : Nat} (hi : i < hs.length) : (stepsE (trOf cs hs) (i : Int)).1.length = hs.length := by
  have hl := hs_len cs hs
  have hh : 0 ≤ (i : Int) ∧ (i : Int) ≤ ((trOf cs hs).hs.length : Int) - 1 := by omega
  rw [show stepsE (trOf cs hs) i = (stepsT (trOf cs hs) i, 0) by rw [stepsE, if_neg (not_not_intro (ask_one h0 hh))]]
  show (stepsT (trOf cs hs) i).length = _
  rw [steps_len, hl]
theorem steps_bd (cs : List Cl) (hs : List Hd) (hn : hs.length ≤ 1000000) (i : Nat) : (stepsE (trOf cs hs) (i : Int)).1.length ≤ 1000000 := by
  unfold stepsE
  split
  · simp
  · show (stepsT (trOf cs hs) i).length ≤ _
    rw [steps_len, hs_len]; exact hn
def fndOK (hs : List Hd) (rs : List (List Bool)) (ws : List Int) (s : List Int) : Bool := (s.all fun k => decide (0 ≤ (hs.getD k.toNat default).2.1)) && ws.all fun w => s.any fun k => (rs.getD w.toNat default).getD k.toNat default
def fndH (pr : List Int) (s : List Int) : Hn := (s, 0, (s.map fun k => pr.getD k.toNat default).sum)
def fndL (hs : List Hd) (rs : List (List Bool)) (pr ws : List Int) (k : Nat) : List Hn := (((List.range k).map fun s => pickK s hs.length).filter (fndOK hs rs ws)).map (fndH pr)
def fndB (t : Tr) (hs : List Hd) (pr ws : List Int) (p : Int) : Hn × Bool := bestL ordP (fndL hs (reachK t p hs.length) pr ws (2 ^ hs.length))
def prB (x : Int) : Prop := 0 ≤ x ∧ x ≤ 999
instance (x : Int) : Decidable (prB x) := by unfold prB; infer_instance
def foundE (cs : List Cl) (hs : List Hd) (pr ws : List Int) (p : Int) : Hn :=
  if ¬ checkT (trOf cs hs) = 0 then ([], 0, checkT (trOf cs hs)) else if pr.length < hs.length then ([], 0, 7) else if hs.length < pr.length then ([], 0, 6)
  else if ¬ ∀ x ∈ pr, prB x then ([], 0, 1) else if ¬ ∀ w ∈ ws, 0 ≤ w ∧ w ≤ (hs.length : Int) - 1 then ([], 0, 3) else if ¬ (0 ≤ p ∧ p ≤ 6) then ([], 0, 1)
  else if (fndB (trOf cs hs) hs pr ws p).2 = false then ([], 0, 11) else ((fndB (trOf cs hs) hs pr ws p).1.1, (fndB (trOf cs hs) hs pr ws p).1.2.2, 0)
theorem fndL_succ (hs : List Hd) (rs : List (List Bool)) (pr ws : List Int) (k : Nat) : fndL hs rs pr ws (k + 1) = if fndOK hs rs ws (pickK k hs.length) = true then fndL hs rs pr ws k ++ [fndH pr (pickK k hs.length)] else fndL hs rs pr ws k := by
  unfold fndL
  rw [List.range_succ, List.map_append, List.filter_append, List.map_append]
  by_cases e : fndOK hs rs ws (pickK k hs.length) = true
  · rw [if_pos e]; simp [e]
  · rw [if_neg e]; simp [e]
theorem fnd_no_price {hs : List Hd} {rs : List (List Bool)} {ws s : List Int} {j : Nat} (hj : j < s.length) (h : (hs.getD (s.getD j default).toNat default).2.1 < 0) : ¬ fndOK hs rs ws s = true := by
  intro e
  unfold fndOK at e
  rw [Bool.and_eq_true] at e
  have := of_decide_eq_true (List.all_eq_true.1 e.1 _ (getD_mem hj))
  omega
theorem fnd_no_want {hs : List Hd} {rs : List (List Bool)} {ws s : List Int} {j : Nat} (hj : j < ws.length) (h : (s.any fun k => (rs.getD (ws.getD j default).toNat default).getD k.toNat default) = false) : ¬ fndOK hs rs ws s = true := by
  intro e
  unfold fndOK at e
  rw [Bool.and_eq_true] at e
  have := List.all_eq_true.1 e.2 _ (getD_mem hj)
  rw [h] at this
  cases this
theorem fnd_yes {hs : List Hd} {rs : List (List Bool)} {ws s : List Int} (h1 : ∀ k ∈ s, 0 ≤ (hs.getD k.toNat default).2.1) (h2 : ∀ w ∈ ws, (s.any fun k => (rs.getD w.toNat default).getD k.toNat default) = true) : fndOK hs rs ws s = true := by
  unfold fndOK
  rw [Bool.and_eq_true]
  exact ⟨List.all_eq_true.2 fun k hk => decide_eq_true (h1 k hk), List.all_eq_true.2 h2⟩
end Go.Proofs.Ytdlbbfcfahahdaa
end
section
namespace Go.Proofs.Ytdlbbfcfahahdaa
open Go Go.W
set_option maxRecDepth 20000
attribute [local irreducible] HL HC HQ HB Row Rows2 Blk Facts
def priP (pr s : List Int) : List Int := s.map fun k => pr.getD k.toNat default
theorem priP_at {pr s : List Int} {j : Nat} (hj : j < s.length) : (priP pr s).getD j default = pr.getD (s.getD j default).toNat default := by
  have h : j < (priP pr s).length := by simpa [priP] using hj
  rw [getD_at h, getD_at hj]
  simp [priP]
theorem priP_len (pr s : List Int) : (priP pr s).length = s.length := by simp [priP]
theorem priP_bd {pr s : List Int} (hp : ∀ x ∈ pr, prB x) (hs : ∀ v ∈ s, 0 ≤ v ∧ v < (pr.length : Int)) : ∀ v ∈ priP pr s, 0 ≤ v ∧ v ≤ 1000000000 := by
  intro v hv
  obtain ⟨w, hw, rfl⟩ := List.mem_map.1 hv
  have h1 := hs w hw
  have h2 := hp _ (getD_mem (l := pr) (k := w.toNat) (by omega))
  have h3 := h2.1
  have h4 := h2.2
  omega
theorem bold_Found_meets {A B PA WA : Option Addr} {ca cb pc wc : Nat} (cs : List Cl) (hs : List Hd) (pr ws : List Int) (p : Int) (hca : cs.length ≤ ca) (hcb : hs.length ≤ cb) (ha : ∀ h ∈ hs, h.2.2.2.l.length ≤ 1000000) (hpn : pr.length ≤ 1000000) (hwn : ws.length ≤ 1000000) : Meets Try.prog F.bold_Found [.agg #[.slice A cs.length ca, .slice B hs.length cb], .slice PA pr.length pc, .slice WA ws.length wc, int p] { LI := [Row A (rows cs), RowsF B hs Hd.row, Row PA (rows pr), Row WA (rows ws)], val := fun x : OutC => .tuple #[.slice x.1 (foundE cs hs pr ws p).1.length x.2, int (foundE cs hs pr ws p).2.1, int (foundE cs hs pr ws p).2.2], LO := fun x => [Row x.1 (rows (foundE cs hs pr ws p).1)] } := by
 refine meets_intro F.bold_Found_f rfl (Nat.le_of_ble_eq_true rfl) fun w0 => ?_
 refine hc_seq (hc_region ?_)
 refine r_box rfl rfl fun gT => ?_
 refine r_assign rfl rfl (r_assign rfl rfl (r_assign rfl rfl (hl_nil (then_n (hc_scope (hc_seq (hc_seq (hc_region (hl_letgoB ?_)))))))))
 refine r_loadB (cs := #[.slice A cs.length ca, .slice B hs.length cb]) rfl T.row_api_Trades T.sz_api_Trades rfl mB rfl ?_
 refine hl_call F.trade_Check_cb rfl rfl (trade_Check_meets cs hs hca hcb ha) (List.Perm.refl _) ⟨mB, mB, trivial⟩ fun _ _ => ?_
 refine r_assign rfl rfl (hl_nil (then_n (hc_seq (hc_region (r_move rfl rfl (r_neq rfl rfl rfl (hl_nil (then_n ?_))))))))
 refine c_dec rfl (fun hb1 => ?_) (fun hb1 => ?_)
 ·have hb1' := hb1; try simp at hb1'
  refine hc_seq (hc_region (r_move rfl rfl (r_assign rfl rfl (r_assign rfl rfl (r_assign rfl rfl (hl_nil (then_n (hc_ret (then_ret (ng_ret ?_))))))))))
  have hE : foundE cs hs pr ws p = ([], 0, checkT (trOf cs hs)) := by rw [foundE, if_pos hb1]
  refine hq_nilrow (α := Int) ?_
  exact ret3 (none, 0) rfl rfl rfl rfl (by show Value.tuple #[.slice none (foundE cs hs pr ws p).1.length 0, int (foundE cs hs pr ws p).2.1, int (foundE cs hs pr ws p).2.2] = _; rw [hE] <;> rfl) rfl trivial (List.nil_sublist _) (by show LSub _ [Row none (rows (foundE cs hs pr ws p).1)]; rw [hE]; exact ⟨mB, trivial⟩)
 ·have hb1' := hb1; try simp at hb1'
  have h0 : checkT (trOf cs hs) = 0 := Classical.not_not.1 hb1
  have hok := tr_ok h0
  have hn6 := hok.h6
  rw [hs_len] at hn6
  refine hc_skip (then_n (hc_seq (hc_seq (hc_region (r_move rfl rfl ?_)))))
  refine r_len_sl rfl T.u_ints rfl ?_
  refine r_fieldAddr ⟨_, 1, none⟩ rfl rfl T.fa_api_Trades_1 rfl ?_
  refine r_load (v := .slice B hs.length cb) rfl T.cell_L_api_Head rfl (cell_blk mB rfl) ?_
  refine r_len_sl rfl T.u_L_api_Head rfl ?_
  refine r_lss rfl rfl rfl (hl_nil (then_n ?_))
  refine c_dec rfl (fun hb2 => ?_) (fun hb2 => ?_)
  ·have hb2' := hb2; try simp at hb2'
   have h2 : pr.length < hs.length := by omega
   refine hc_seq (hc_region (r_assign rfl rfl (r_assign rfl rfl (r_assign rfl rfl (hl_nil (then_n (hc_ret (then_ret (ng_ret ?_)))))))))
   have hE : foundE cs hs pr ws p = ([], 0, 7) := by rw [foundE, if_neg (Classical.not_not.2 h0), if_pos h2]
   refine hq_nilrow (α := Int) ?_
   exact ret3 (none, 0) rfl rfl rfl rfl (by show Value.tuple #[.slice none (foundE cs hs pr ws p).1.length 0, int (foundE cs hs pr ws p).2.1, int (foundE cs hs pr ws p).2.2] = _; rw [hE] <;> rfl) rfl trivial (List.nil_sublist _) (by show LSub _ [Row none (rows (foundE cs hs pr ws p).1)]; rw [hE]; exact ⟨mB, trivial⟩)
  ·have hb2' := hb2; try simp at hb2'
   have h2 : ¬ pr.length < hs.length := by omega
   refine hc_skip (then_n (hc_seq (hc_seq (hc_region (r_move rfl rfl ?_)))))
   refine r_len_sl rfl T.u_ints rfl ?_
   refine r_fieldAddr ⟨_, 1, none⟩ rfl rfl T.fa_api_Trades_1 rfl ?_
   refine r_load (v := .slice B hs.length cb) rfl T.cell_L_api_Head rfl (cell_blk mB rfl) ?_
   refine r_len_sl rfl T.u_L_api_Head rfl ?_
   refine r_gtr rfl rfl rfl (hl_nil (then_n ?_))
   refine c_dec rfl (fun hb3 => ?_) (fun hb3 => ?_)
   ·have hb3' := hb3; try simp at hb3'
    have h3 : hs.length < pr.length := by omega
    refine hc_seq (hc_region (r_assign rfl rfl (r_assign rfl rfl (r_assign rfl rfl (hl_nil (then_n (hc_ret (then_ret (ng_ret ?_)))))))))
    have hE : foundE cs hs pr ws p = ([], 0, 6) := by rw [foundE, if_neg (Classical.not_not.2 h0), if_neg h2, if_pos h3]
    refine hq_nilrow (α := Int) ?_
    exact ret3 (none, 0) rfl rfl rfl rfl (by show Value.tuple #[.slice none (foundE cs hs pr ws p).1.length 0, int (foundE cs hs pr ws p).2.1, int (foundE cs hs pr ws p).2.2] = _; rw [hE] <;> rfl) rfl trivial (List.nil_sublist _) (by show LSub _ [Row none (rows (foundE cs hs pr ws p).1)]; rw [hE]; exact ⟨mB, trivial⟩)
   ·have hb3' := hb3; try simp at hb3'
    have h3 : ¬ hs.length < pr.length := by omega
    have hpl : pr.length = hs.length := by omega
    refine hc_skip (then_n (hc_seq (hc_seq (hc_region (r_move rfl rfl ?_)))))
    refine r_len_sl rfl T.u_ints rfl ?_
    refine r_move rfl rfl (hl_nil (then_n (hc_block ?_)))
    refine hc_loop (β := Nat) ⟨fun k => k ≤ pr.length ∧ ∀ j, j < k → prB (pr.getD j default), fun k => [(1, .slice PA pr.length pc), (2, .slice WA ws.length wc), (4, .pointer (some ⟨gT, 0, none⟩)), (3, int p), (41, .slice PA pr.length pc), (42, int pr.length), (43, int k)], fun _ => [], fun _ => [Blk gT (Obj.cells #[.slice A cs.length ca, .slice B hs.length cb] T.api_Trades (0, 0)), Row A (rows cs), RowsF B hs Hd.row, Row PA (rows pr), Row WA (rows ws)]⟩ (fun k => pr.length - k) 0 ⟨Nat.zero_le _, fun j hj => absurd hj (Nat.not_lt_zero j)⟩ ⟨rfl, rfl, rfl, rfl, rfl, rfl, rfl, trivial⟩ (List.nil_sublist _) ⟨mB, mB, mB, mB, mB, trivial⟩ fun k hk => ?_
    obtain ⟨hk, hq⟩ := hk
    refine hc_seq (hc_region (r_lss rfl rfl rfl (hl_nil (then_n (hc_seq ?_)))))
    refine c_dec rfl (fun hb4 => ?_) (fun hb4 => ?_)
    ·have hb4' := hb4; try simp at hb4'
     have hk2 : k < pr.length := by omega
     refine hc_skip (then_n (hc_seq (hc_block (hc_seq (hc_region ?_)))))
     refine r_elem (α := Int) _ _ rfl T.u_ints T.sz_int rfl rfl rfl mB rfl (by omega) (by decide) ?_
     refine r_load rfl T.cell_int rfl (cell_row mB (rows_get0 (by omega) rfl)) ?_
     refine r_assign rfl rfl (hl_nil (then_n (hc_seq (hc_region (r_move rfl rfl ?_)))))
     refine hl_call F.bold_between_cb rfl rfl (bold_between_meets _ _ _) (List.Perm.refl _) trivial fun _ _ => ?_
     refine r_not rfl rfl (hl_nil (then_n ?_))
     refine hc_cond rfl (fun hb5 => ?_) (fun hb5 => ?_)
     ·have hb5' := hb5; try simp at hb5'
      refine hc_seq (hc_region (r_assign rfl rfl (r_assign rfl rfl (r_assign rfl rfl (hl_nil (then_n (hc_ret (inb_ret (then_ret (then_ret (inb_ret ?_)))))))))))
      refine then_ret (ng_ret ?_)
      have hE : foundE cs hs pr ws p = ([], 0, 1) := by rw [foundE, if_neg (Classical.not_not.2 h0), if_neg h2, if_neg h3, if_pos (nall_at (p := prB) hk2 (nbt hb5))]
      refine hq_nilrow (α := Int) ?_
      exact ret3 (none, 0) rfl rfl rfl rfl (by show Value.tuple #[.slice none (foundE cs hs pr ws p).1.length 0, int (foundE cs hs pr ws p).2.1, int (foundE cs hs pr ws p).2.2] = _; rw [hE] <;> rfl) rfl trivial (List.nil_sublist _) (by show LSub _ [Row none (rows (foundE cs hs pr ws p).1)]; rw [hE]; exact ⟨mB, trivial⟩)
     ·have hb5' := hb5; try simp at hb5'
      refine hc_skip (inb_n (then_n (hc_region ?_)))
      refine r_add _ rfl rfl rfl rfl (by unfold I64; omega) ?_
      refine r_move rfl rfl (hl_nil ?_)
      exact again _ (k + 1) ⟨by show k + 1 ≤ pr.length; omega, fun j hj => (Nat.lt_succ_iff_lt_or_eq.1 hj).elim (hq j) fun e => by subst e; exact nbf hb5⟩ (by show pr.length - (k + 1) < pr.length - k; omega) ⟨rfl, rfl, rfl, rfl, rfl, rfl, rfl, trivial⟩ (List.nil_sublist _) ⟨mB, mB, mB, mB, mB, trivial⟩
    ·have hb4' := hb4; try simp at hb4'
     have hk2 : k = pr.length := by omega
     rw [hk2] at hq
     have hq1 := all_take (l := pr) (p := prB) hq
     refine hc_exit (then_exit (then_exit (inb_hit (then_n (hc_seq (hc_seq (hc_region (r_move rfl rfl ?_))))))))
     refine r_len_sl rfl T.u_ints rfl ?_
     refine r_move rfl rfl (hl_nil (then_n (hc_block ?_)))
     refine hc_loop (β := Nat) ⟨fun k => k ≤ ws.length ∧ ∀ j, j < k → (0 ≤ ws.getD j default ∧ ws.getD j default ≤ (hs.length : Int) - 1), fun k => [(1, .slice PA pr.length pc), (2, .slice WA ws.length wc), (4, .pointer (some ⟨gT, 0, none⟩)), (3, int p), (51, .slice WA ws.length wc), (52, int ws.length), (53, int k)], fun _ => [], fun _ => [Blk gT (Obj.cells #[.slice A cs.length ca, .slice B hs.length cb] T.api_Trades (0, 0)), Row A (rows cs), RowsF B hs Hd.row, Row PA (rows pr), Row WA (rows ws)]⟩ (fun k => ws.length - k) 0 ⟨Nat.zero_le _, fun j hj => absurd hj (Nat.not_lt_zero j)⟩ ⟨rfl, rfl, rfl, rfl, rfl, rfl, rfl, trivial⟩ (List.nil_sublist _) ⟨mB, mB, mB, mB, mB, trivial⟩ fun k hk => ?_
     obtain ⟨hk, hq⟩ := hk
     refine hc_seq (hc_region (r_lss rfl rfl rfl (hl_nil (then_n (hc_seq ?_)))))
     refine c_dec rfl (fun hb6 => ?_) (fun hb6 => ?_)
     ·have hb6' := hb6; try simp at hb6'
      have hk2 : k < ws.length := by omega
      refine hc_skip (then_n (hc_seq (hc_block (hc_seq (hc_region ?_)))))
      refine r_elem (α := Int) _ _ rfl T.u_ints T.sz_int rfl rfl rfl mB rfl (by omega) (by decide) ?_
      refine r_load rfl T.cell_int rfl (cell_row mB (rows_get0 (by omega) rfl)) ?_
      refine r_assign rfl rfl (hl_nil (then_n (hc_seq (hc_region (r_move rfl rfl ?_)))))
      refine r_fieldAddr ⟨_, 1, none⟩ rfl rfl T.fa_api_Trades_1 rfl ?_
      refine r_load (v := .slice B hs.length cb) rfl T.cell_L_api_Head rfl (cell_blk mB rfl) ?_
      refine r_len_sl rfl T.u_L_api_Head rfl ?_
      refine r_sub _ rfl rfl rfl rfl (by unfold I64; omega) ?_
      refine hl_call F.bold_between_cb rfl rfl (bold_between_meets _ _ _) (List.Perm.refl _) trivial fun _ _ => ?_
      refine r_not rfl rfl (hl_nil (then_n ?_))
      refine hc_cond rfl (fun hb7 => ?_) (fun hb7 => ?_)
      ·have hb7' := hb7; try simp at hb7'
       refine hc_seq (hc_region (r_assign rfl rfl (r_assign rfl rfl (r_assign rfl rfl (hl_nil (then_n (hc_ret (inb_ret (then_ret (then_ret (inb_ret ?_)))))))))))
       refine then_ret (ng_ret ?_)
       have hE : foundE cs hs pr ws p = ([], 0, 3) := by rw [foundE, if_neg (Classical.not_not.2 h0), if_neg h2, if_neg h3, if_neg (Classical.not_not.2 hq1), if_pos (nall_at (p := fun w => 0 ≤ w ∧ w ≤ (hs.length : Int) - 1) hk2 (nbt hb7))]
       refine hq_nilrow (α := Int) ?_
       exact ret3 (none, 0) rfl rfl rfl rfl (by show Value.tuple #[.slice none (foundE cs hs pr ws p).1.length 0, int (foundE cs hs pr ws p).2.1, int (foundE cs hs pr ws p).2.2] = _; rw [hE] <;> rfl) rfl trivial (List.nil_sublist _) (by show LSub _ [Row none (rows (foundE cs hs pr ws p).1)]; rw [hE]; exact ⟨mB, trivial⟩)
      ·have hb7' := hb7; try simp at hb7'
       refine hc_skip (inb_n (then_n (hc_region ?_)))
       refine r_add _ rfl rfl rfl rfl (by unfold I64; omega) ?_
       refine r_move rfl rfl (hl_nil ?_)
       exact again _ (k + 1) ⟨by show k + 1 ≤ ws.length; omega, fun j hj => (Nat.lt_succ_iff_lt_or_eq.1 hj).elim (hq j) fun e => by subst e; exact nbf hb7⟩ (by show ws.length - (k + 1) < ws.length - k; omega) ⟨rfl, rfl, rfl, rfl, rfl, rfl, rfl, trivial⟩ (List.nil_sublist _) ⟨mB, mB, mB, mB, mB, trivial⟩
     ·have hb6' := hb6; try simp at hb6'
      have hk2 : k = ws.length := by omega
      rw [hk2] at hq
      have hq2 := all_take (l := ws) (p := fun w => 0 ≤ w ∧ w ≤ (hs.length : Int) - 1) hq
      refine hc_exit (then_exit (then_exit (inb_hit (then_n (hc_seq (hc_seq (hc_region (r_move rfl rfl ?_))))))))
      refine hl_call F.bold_between_cb rfl rfl (bold_between_meets _ _ _) (List.Perm.refl _) trivial fun _ _ => ?_
      refine r_not rfl rfl (hl_nil (then_n ?_))
      refine hc_cond rfl (fun hb8 => ?_) (fun hb8 => ?_)
      ·have hb8' := hb8; try simp at hb8'
       have h8 := nbt hb8
       refine hc_seq (hc_region (r_assign rfl rfl (r_assign rfl rfl (r_assign rfl rfl (hl_nil (then_n (hc_ret (then_ret (ng_ret ?_)))))))))
       have hE : foundE cs hs pr ws p = ([], 0, 1) := by rw [foundE, if_neg (Classical.not_not.2 h0), if_neg h2, if_neg h3, if_neg (Classical.not_not.2 hq1), if_neg (Classical.not_not.2 hq2), if_pos h8]
       refine hq_nilrow (α := Int) ?_
       exact ret3 (none, 0) rfl rfl rfl rfl (by show Value.tuple #[.slice none (foundE cs hs pr ws p).1.length 0, int (foundE cs hs pr ws p).2.1, int (foundE cs hs pr ws p).2.2] = _; rw [hE] <;> rfl) rfl trivial (List.nil_sublist _) (by show LSub _ [Row none (rows (foundE cs hs pr ws p).1)]; rw [hE]; exact ⟨mB, trivial⟩)
      ·have hb8' := hb8; try simp at hb8'
       have h8 := nbf hb8
       refine hc_skip (then_n (hc_seq (hc_region ?_)))
       refine r_build _ rfl rfl (fun _ => T.bd_bold_best_wayzgoose_bold_hand_2 ..) ?_
       refine r_alloc rfl (fun _ => T.al_bold_best_wayzgoose_bold_hand _) fun gB => ?_
       refine r_storeS (cs := offA ((⟨none, 0, []⟩, 0, 0) : Hv) false F.bold_Found_1) rfl rfl (.refl _) T.sz_bold_best_wayzgoose_bold_hand (by rfl) (by rfl) ?_
       refine hl_nil (then_n (hc_seq (hc_region ?_)))
       refine r_loadB (cs := #[.slice A cs.length ca, .slice B hs.length cb]) rfl T.row_api_Trades T.sz_api_Trades rfl mB rfl ?_
       refine r_move rfl rfl ?_
       refine hl_call F.bold_reached_cb rfl rfl (bold_reached_meets cs hs p hca hcb ha (by omega) (steps_bd cs hs (by omega))) (List.Perm.refl _) ⟨mB, mB, trivial⟩ fun x hx => ?_
       obtain ⟨go, ps⟩ := x
       obtain ⟨hpn2, hpm⟩ := hx
       simp only at hpn2 hpm
       refine r_alloc rfl (fun _ => T.al_L_L_bool _) fun g17 => ?_
       refine r_store rfl rfl (.refl _) T.sz_L_L_bool rfl rfl ?_
       refine hl_letgo (rows [((⟨some ⟨go, 0, none⟩, hs.length, ps⟩) : Sl (Sl Bool))]) (by show [Value.slice _ ps.length _] <+: [Value.slice _ hs.length _]; rw [hpn2]; exact List.prefix_refl _) ?_
       refine hl_nilrow (α := Int) ?_
       refine hl_nil (then_n (hc_seq (hc_label (then_n (hc_seq (hc_seq (hc_region ?_)))))))
       refine r_fieldAddr ⟨_, 1, none⟩ rfl rfl T.fa_api_Trades_1 rfl ?_
       refine r_load (v := .slice B hs.length cb) rfl T.cell_L_api_Head rfl (cell_blk mB rfl) ?_
       refine r_len_sl rfl T.u_L_api_Head rfl ?_
       obtain ⟨N, hN⟩ : ∃ N, N = 2 ^ hs.length := ⟨_, rfl⟩
       have hN2 : N ≤ 64 := by rw [hN]; exact Nat.pow_le_pow_right (n := 2) (by omega) hn6
       refine r_shl1 hs.length N hN rfl rfl rfl rfl (by omega) ?_
       refine r_move rfl rfl (hl_nil (then_n (hc_block ?_)))
       refine hc_loop (β := Nat × Hv × Bool) ⟨fun x => x.1 ≤ N ∧ (x.2.1.dat, x.2.2) = bestL ordP (fndL hs (reachK (trOf cs hs) p hs.length) pr ws x.1) ∧ x.2.1.1.l.length ≤ 8, fun x => [(1, .slice PA pr.length pc), (2, .slice WA ws.length wc), (4, .pointer (some ⟨gT, 0, none⟩)), (16, .pointer (some ⟨gB, 0, none⟩)), (17, .pointer (some ⟨g17, 0, none⟩)), (75, int (N : Int)), (76, int x.1)], fun x => [(gB, Obj.cells (offA x.2.1 x.2.2 F.bold_Found_1) T.bold_best_wayzgoose_bold_hand (0, 0))], fun x => [Blk gT (Obj.cells #[.slice A cs.length ca, .slice B hs.length cb] T.api_Trades (0, 0)), Row A (rows cs), RowsF B hs Hd.row, Row PA (rows pr), Row WA (rows ws), Row (some ⟨g17, 0, none⟩) (rows [((⟨some ⟨go, 0, none⟩, hs.length, ps⟩) : Sl (Sl Bool))]), Row (some ⟨go, 0, none⟩) (rows ps), innerF ps, x.2.1.row]⟩ (fun x => N - x.1) (0, ((⟨none, 0, []⟩, 0, 0) : Hv), false) ⟨Nat.zero_le _, rfl, Nat.zero_le _⟩ ⟨rfl, rfl, rfl, rfl, rfl, rfl, rfl, trivial⟩ (.refl _) ⟨mB, mB, mB, mB, mB, mB, mB, mB, mB, trivial⟩ fun x hx => ?_
       obtain ⟨k, y, ok⟩ := x
       obtain ⟨hk, hb, hy⟩ := hx
       simp only at hk hb hy
       have hsl := pickK_len k hs.length
       have hpi : ∀ v ∈ (pickK k hs.length), 0 ≤ v ∧ v < (hs.length : Int) := fun v hv => pickK_in hv
       refine hc_seq (hc_region (r_lss rfl rfl rfl (hl_nil (then_n (hc_seq ?_)))))
       refine c_dec rfl (fun hb9 => ?_) (fun hb9 => ?_)
       ·have hb9' := hb9; try simp at hb9'
        have hk2 : k < N := by omega
        refine hc_skip (then_n (hc_seq (hc_block (hc_seq (hc_region (r_move rfl rfl (r_assign rfl rfl (hl_nil (then_n (hc_seq (hc_region ?_)))))))))))
        refine r_move rfl rfl ?_
        refine r_conv (k : Int) rfl T.u_int T.u_bold_cards rfl (wrap64 (by omega)) ?_
        refine r_fieldAddr ⟨_, 1, none⟩ rfl rfl T.fa_api_Trades_1 rfl ?_
        refine r_load (v := .slice B hs.length cb) rfl T.cell_L_api_Head rfl (cell_blk mB rfl) ?_
        refine r_len_sl rfl T.u_L_api_Head rfl ?_
        refine hl_call F.bold_cards_list_cb rfl rfl (bold_cards_list_meets k hs.length (by omega) (by omega)) (List.Perm.refl _) trivial fun gc _ => ?_
        refine r_build _ rfl rfl (fun _ => T.bd_bold_hand_0 ..) ?_
        refine r_alloc rfl (fun _ => T.al_bold_hand _) fun gh => ?_
        refine r_storeS (cs := #[.slice (some ⟨gc, 0, none⟩) (pickK k hs.length).length (pickK k hs.length).length, int 0, int 0]) rfl rfl (.refl _) T.sz_bold_hand (by rfl) (by rfl) ?_
        refine hl_nil (then_n (hc_seq (hc_seq (hc_region ?_))))
        refine r_fieldAddr ⟨_, 0, none⟩ rfl rfl T.fa_bold_hand_0 rfl ?_
        refine r_load (v := .slice (some ⟨gc, 0, none⟩) (pickK k hs.length).length (pickK k hs.length).length) rfl T.cell_ints rfl (cell_own mB rfl) ?_
        refine r_len_sl rfl T.u_ints rfl ?_
        refine r_move rfl rfl (hl_nil (then_n (hc_block ?_)))
        refine hc_loop (β := Nat × Int) ⟨fun x => x.1 ≤ (pickK k hs.length).length ∧ x.2 = ((priP pr (pickK k hs.length)).take x.1).sum ∧ ∀ i, i < x.1 → 0 ≤ (hs.getD ((pickK k hs.length).getD i default).toNat default).2.1, fun x => [(1, .slice PA pr.length pc), (2, .slice WA ws.length wc), (4, .pointer (some ⟨gT, 0, none⟩)), (16, .pointer (some ⟨gB, 0, none⟩)), (17, .pointer (some ⟨g17, 0, none⟩)), (19, .pointer (some ⟨gh, 0, none⟩)), (75, int (N : Int)), (76, int k), (87, .slice (some ⟨gc, 0, none⟩) (pickK k hs.length).length (pickK k hs.length).length), (88, int (pickK k hs.length).length), (89, int x.1)], fun x => [(gh, Obj.cells #[.slice (some ⟨gc, 0, none⟩) (pickK k hs.length).length (pickK k hs.length).length, int 0, int x.2] T.bold_hand (0, 0)), (gB, Obj.cells (offA y ok F.bold_Found_1) T.bold_best_wayzgoose_bold_hand (0, 0))], fun x => [Row (some ⟨gc, 0, none⟩) (rows (pickK k hs.length)), Blk gT (Obj.cells #[.slice A cs.length ca, .slice B hs.length cb] T.api_Trades (0, 0)), Row A (rows cs), RowsF B hs Hd.row, Row PA (rows pr), Row WA (rows ws), Row (some ⟨g17, 0, none⟩) (rows [((⟨some ⟨go, 0, none⟩, hs.length, ps⟩) : Sl (Sl Bool))]), Row (some ⟨go, 0, none⟩) (rows ps), innerF ps, y.row]⟩ (fun x => (pickK k hs.length).length - x.1) (0, 0) ⟨Nat.zero_le _, rfl, fun j hj => absurd hj (Nat.not_lt_zero j)⟩ ⟨rfl, rfl, rfl, rfl, rfl, rfl, rfl, rfl, rfl, rfl, rfl, trivial⟩ (.refl _) ⟨mB, mB, mB, mB, mB, mB, mB, mB, mB, mB, trivial⟩ fun x hx => ?_
        obtain ⟨j, b⟩ := x
        obtain ⟨hj, hbs, hjp⟩ := hx
        simp only at hj hbs hjp
        have hbb := sum_bd (priP_bd (pr := pr) hq1 (fun v hv => by have := hpi v hv; omega) : ∀ v ∈ (priP pr (pickK k hs.length)), 0 ≤ v ∧ v ≤ 1000000000) j
        rw [← hbs] at hbb
        refine hc_seq (hc_region (r_lss rfl rfl rfl (hl_nil (then_n (hc_seq ?_)))))
        refine c_dec rfl (fun hb10 => ?_) (fun hb10 => ?_)
        ·have hb10' := hb10; try simp at hb10'
         have hj2 : j < (pickK k hs.length).length := by omega
         have hvj := hpi _ (getD_mem hj2)
         obtain ⟨v, hv⟩ : ∃ v : Nat, ((pickK k hs.length).getD j default) = (v : Int) := ⟨_, (Int.toNat_of_nonneg hvj.1).symm⟩
         have hv2 : v < hs.length := by omega
         have hv3 : v < pr.length := by omega
         have hcv := hq1 _ (getD_mem hv3)
         have hcv1 := hcv.1
         have hcv2 := hcv.2
         have hb2' := sum_take (l := (priP pr (pickK k hs.length))) (k := j) (by rw [priP_len]; exact hj2)
         rw [← hbs, priP_at hj2, hv, Int.toNat_natCast] at hb2'
         refine hc_skip (then_n (hc_seq (hc_block (hc_seq (hc_region ?_)))))
         refine r_elem (α := Int) _ _ rfl T.u_ints T.sz_int rfl rfl rfl mB rfl (by omega) (by decide) ?_
         refine r_load rfl T.cell_int rfl (cell_row mB (rows_get0 (by omega) rfl)) ?_
         refine r_assign rfl rfl (hl_nil (then_n (hc_seq (hc_seq (hc_region ?_)))))
         refine r_fieldAddr ⟨_, 1, none⟩ rfl rfl T.fa_api_Trades_1 rfl ?_
         refine r_load (v := .slice B hs.length cb) rfl T.cell_L_api_Head rfl (cell_blk mB rfl) ?_
         refine r_move rfl rfl ?_
         refine hl_outerF (A := B) (ps := hs) (f := Hd.row) mB ?_
         refine r_elem (α := Hd) hs v rfl T.u_L_api_Head T.sz_api_Head rfl rfl hv mB rfl hv2 (by decide) ?_
         refine r_fieldAddr _ rfl rfl T.fa_api_Head_1 rfl ?_
         refine r_load (v := int (hs.getD v default).2.1) rfl T.cell_int rfl (cell_row_f mB (rows_get hv2 (j := 1) rfl)) ?_
         refine r_lss rfl rfl rfl (hl_nil (then_n ?_))
         refine c_dec rfl (fun hb11 => ?_) (fun hb11 => ?_)
         ·have hb11' := hb11; try simp at hb11'
          refine hc_exit (then_exit (inb_miss rfl (then_exit (then_exit (inb_miss rfl (then_exit (inb_hit (then_n (hc_region ?_)))))))))
          refine r_add _ rfl rfl rfl rfl (by unfold I64; omega) ?_
          refine r_move rfl rfl (hl_nil ?_)
          have hy8 := hy
          exact again _ (k + 1, y, ok) ⟨by show k + 1 ≤ N; omega, by show (Hv.dat y, ok) = bestL ordP (fndL hs (reachK (trOf cs hs) p hs.length) pr ws (k + 1)); rw [fndL_succ, if_neg (fnd_no_price hj2 (by rw [hv, Int.toNat_natCast]; exact hb11))]; exact hb, hy8⟩ (by show N - (k + 1) < N - k; omega) ⟨rfl, rfl, rfl, rfl, rfl, rfl, rfl, trivial⟩ (.cons _ (.refl _)) ⟨mB, mB, mB, mB, mB, mB, mB, mB, mB, trivial⟩
         ·have hb11' := hb11; try simp at hb11'
          refine hc_skip (then_n ?_)
          refine hc_draw 6 mixed (by decide) (by decide) rfl rfl ?_
          refine hb_ex _ rfl rfl rfl (fun w1 => r_fieldAddr ⟨_, 2, none⟩ rfl rfl T.fa_bold_hand_2 rfl (hl_nil (qe_done rfl))) ?_
          refine hb_ex _ rfl rfl rfl (fun w1 => r_load (v := int b) rfl T.cell_int rfl (cell_blk mB rfl) (hl_nil (qe_done rfl))) ?_
          refine hb_ex _ rfl rfl rfl (fun w1 => r_move rfl rfl (hl_nil (qe_done rfl))) ?_
          refine hb_ex _ rfl rfl rfl (fun w1 => r_move rfl rfl (hl_nil (qe_done rfl))) ?_
          refine hb_ex _ rfl rfl rfl (fun w1 => r_elem (α := Int) pr v rfl T.u_ints T.sz_int rfl rfl hv mB rfl hv3 (by decide) (hl_nil (qe_done rfl))) ?_
          refine hb_ex _ rfl rfl rfl (fun w1 => r_load (v := int (pr.getD v default)) rfl T.cell_int rfl (cell_row mB (rows_get0 hv3 rfl)) (hl_nil (qe_done rfl))) ?_
          refine hb_nil ⟨rfl, ?_⟩
          refine r_add (a := b) (b := pr.getD v default) (b + pr.getD v default) rfl rfl rfl rfl (by unfold I64; omega) ?_
          refine r_fieldAddr ⟨_, 2, none⟩ rfl rfl T.fa_bold_hand_2 rfl ?_
          refine r_store rfl rfl (.refl _) T.sz_int rfl rfl ?_
          refine hl_nil (inb_n (then_n (hc_region ?_)))
          refine r_add _ rfl rfl rfl rfl (by unfold I64; omega) ?_
          refine r_move rfl rfl (hl_nil ?_)
          exact again _ (j + 1, b + pr.getD v default) ⟨by show j + 1 ≤ _; omega, hb2'.symm, fun i hi => (Nat.lt_succ_iff_lt_or_eq.1 hi).elim (hjp i) fun e => by subst e; rw [hv, Int.toNat_natCast]; exact Int.not_lt.1 hb11⟩ (by show (pickK k hs.length).length - (j + 1) < (pickK k hs.length).length - j; omega) ⟨rfl, rfl, rfl, rfl, rfl, rfl, rfl, rfl, rfl, rfl, rfl, trivial⟩ (.refl _) ⟨mB, mB, mB, mB, mB, mB, mB, mB, mB, mB, trivial⟩
        ·have hb10' := hb10; try simp at hb10'
         have hj2 : j = (pickK k hs.length).length := by omega
         rw [hj2, List.take_of_length_le (Nat.le_of_eq (priP_len ..))] at hbs
         rw [hj2] at hjp
         have hall := all_take (l := (pickK k hs.length)) (p := fun v => 0 ≤ (hs.getD v.toNat default).2.1) hjp
         refine hc_exit (then_exit (then_exit (inb_hit (then_n (hc_seq (hc_seq (hc_region (r_move rfl rfl ?_))))))))
         refine r_len_sl rfl T.u_ints rfl ?_
         refine r_move rfl rfl (hl_nil (then_n (hc_block ?_)))
         refine hc_loop (β := Nat) ⟨fun i => i ≤ ws.length ∧ ∀ q, q < i → ((pickK k hs.length).any fun x => (((reachK (trOf cs hs) p hs.length)).getD (ws.getD q default).toNat default).getD x.toNat default) = true, fun i => [(1, .slice PA pr.length pc), (2, .slice WA ws.length wc), (4, .pointer (some ⟨gT, 0, none⟩)), (16, .pointer (some ⟨gB, 0, none⟩)), (17, .pointer (some ⟨g17, 0, none⟩)), (19, .pointer (some ⟨gh, 0, none⟩)), (75, int (N : Int)), (76, int k), (109, .slice WA ws.length wc), (110, int ws.length), (111, int i)], fun _ => [(gh, Obj.cells #[.slice (some ⟨gc, 0, none⟩) (pickK k hs.length).length (pickK k hs.length).length, int 0, int b] T.bold_hand (0, 0)), (gB, Obj.cells (offA y ok F.bold_Found_1) T.bold_best_wayzgoose_bold_hand (0, 0))], fun _ => [Row (some ⟨gc, 0, none⟩) (rows (pickK k hs.length)), Blk gT (Obj.cells #[.slice A cs.length ca, .slice B hs.length cb] T.api_Trades (0, 0)), Row A (rows cs), RowsF B hs Hd.row, Row PA (rows pr), Row WA (rows ws), Row (some ⟨g17, 0, none⟩) (rows [((⟨some ⟨go, 0, none⟩, hs.length, ps⟩) : Sl (Sl Bool))]), Row (some ⟨go, 0, none⟩) (rows ps), innerF ps, y.row]⟩ (fun i => ws.length - i) 0 ⟨Nat.zero_le _, fun j hj => absurd hj (Nat.not_lt_zero j)⟩ ⟨rfl, rfl, rfl, rfl, rfl, rfl, rfl, rfl, rfl, rfl, rfl, trivial⟩ (.refl _) ⟨mB, mB, mB, mB, mB, mB, mB, mB, mB, mB, trivial⟩ fun i hi => ?_
         obtain ⟨hi, hq⟩ := hi
         refine hc_seq (hc_region (r_lss rfl rfl rfl (hl_nil (then_n (hc_seq ?_)))))
         refine c_dec rfl (fun hb12 => ?_) (fun hb12 => ?_)
         ·have hb12' := hb12; try simp at hb12'
          have hi2 : i < ws.length := by omega
          have hwi := hq2 _ (getD_mem hi2)
          obtain ⟨u, hu⟩ : ∃ u : Nat, (ws.getD i default) = (u : Int) := ⟨_, (Int.toNat_of_nonneg hwi.1).symm⟩
          have hu2 : u < hs.length := by omega
          refine hc_skip (then_n (hc_seq (hc_block (hc_seq (hc_region ?_)))))
          refine r_elem (α := Int) _ _ rfl T.u_ints T.sz_int rfl rfl rfl mB rfl (by omega) (by decide) ?_
          refine r_load rfl T.cell_int rfl (cell_row mB (rows_get0 (by omega) rfl)) ?_
          refine r_alloc rfl (fun _ => T.al_int _) fun g23 => ?_
          refine r_store rfl rfl (.refl _) T.sz_int rfl rfl ?_
          refine hl_letgo (rows [(u : Int)]) (by show [int (u : Int)] <+: [int (ws.getD i default)]; rw [hu]; exact List.prefix_refl _) ?_
          refine hl_nil (then_n (hc_seq (hc_region ?_)))
          refine r_fieldAddr ⟨_, 0, none⟩ rfl rfl T.fa_bold_hand_0 rfl ?_
          refine r_load (v := .slice (some ⟨gc, 0, none⟩) (pickK k hs.length).length (pickK k hs.length).length) rfl T.cell_ints rfl (cell_own mB rfl) ?_
          refine r_makeFunc rfl rfl rfl ?_
          have hpu : (ps.getD u default).l = ((reachK (trOf cs hs) p hs.length)).getD u default := by rw [← hpm, getD_at (l := ps.map (·.l)) (k := u) (by rw [List.length_map]; omega), getD_at (l := ps) (k := u) (by omega), List.getElem_map]
          have hpl9 : (ps.getD u default).l.length = hs.length := by rw [hpu, getD_at (by unfold reachK; simp; omega)]; unfold reachK; simp only [List.getElem_map, List.getElem_range]; rw [rdK_len, reach_len h0 hu2]
          refine hl_call F.slices_ContainsFunc_ints_cb rfl rfl (slices_ContainsFunc_ints_meets (A := some ⟨gc, 0, none⟩) (cap := [.pointer (some ⟨g17, 0, none⟩), .pointer (some ⟨g23, 0, none⟩)]) (L0 := [Row (some ⟨g17, 0, none⟩) (rows [((⟨some ⟨go, 0, none⟩, hs.length, ps⟩) : Sl (Sl Bool))]), Row (some ⟨g23, 0, none⟩) (rows [(u : Int)]), Row (some ⟨go, 0, none⟩) (rows ps), innerF ps]) (pickK k hs.length) (fun x => (ps.getD u default).l.getD x.toNat default) (by omega) F.bold_Found_2_cb (fun x hx => by
            have h9 := hpi x hx
            obtain ⟨x', rfl⟩ : ∃ x' : Nat, x = (x' : Int) := ⟨x.toNat, by omega⟩
            rw [Int.toNat_natCast]
            exact bold_Found_2_meets ps u x' (by omega) (by omega))) (List.Perm.refl _) ⟨mB, mB, mB, mB, mB, trivial⟩ fun _ _ => ?_
          rw [hpu]
          refine r_not rfl rfl (hl_nil (then_n ?_))
          refine hc_cond rfl (fun hb13 => ?_) (fun hb13 => ?_)
          ·have hb13' := hb13; try simp at hb13'
           refine hc_exit (inb_miss rfl (then_exit (then_exit (inb_miss rfl (then_exit (inb_hit (then_n (hc_region ?_))))))))
           refine r_add _ rfl rfl rfl rfl (by unfold I64; omega) ?_
           refine r_move rfl rfl (hl_nil ?_)
           have hy8 := hy
           exact again _ (k + 1, y, ok) ⟨by show k + 1 ≤ N; omega, by show (Hv.dat y, ok) = bestL ordP (fndL hs (reachK (trOf cs hs) p hs.length) pr ws (k + 1)); rw [fndL_succ, if_neg (fnd_no_want hi2 (by rw [hu, Int.toNat_natCast]; exact eq_false_of_ne_true (by simpa using hb13)))]; exact hb, hy8⟩ (by show N - (k + 1) < N - k; omega) ⟨rfl, rfl, rfl, rfl, rfl, rfl, rfl, trivial⟩ (.cons _ (.refl _)) ⟨mB, mB, mB, mB, mB, mB, mB, mB, mB, trivial⟩
          ·have hb13' := hb13; try simp at hb13'
           refine hc_skip (inb_n (then_n (hc_region ?_)))
           refine r_add _ rfl rfl rfl rfl (by unfold I64; omega) ?_
           refine r_move rfl rfl (hl_nil ?_)
           exact again _ (i + 1) ⟨by show i + 1 ≤ ws.length; omega, fun q hq' => (Nat.lt_succ_iff_lt_or_eq.1 hq').elim (hq q) fun e => by subst e; rw [hu, Int.toNat_natCast]; simpa using hb13⟩ (by show ws.length - (i + 1) < ws.length - i; omega) ⟨rfl, rfl, rfl, rfl, rfl, rfl, rfl, rfl, rfl, rfl, rfl, trivial⟩ (.refl _) ⟨mB, mB, mB, mB, mB, mB, mB, mB, mB, mB, trivial⟩
         ·have hb12' := hb12; try simp at hb12'
          have hi2 : i = ws.length := by omega
          rw [hi2] at hq
          have hall2 := all_take (l := ws) (p := fun w => ((pickK k hs.length).any fun x => (((reachK (trOf cs hs) p hs.length)).getD w.toNat default).getD x.toNat default) = true) hq
          refine hc_exit (then_exit (then_exit (inb_hit (then_n (hc_region ?_)))))
          refine r_loadA (cs := #[.slice (some ⟨gc, 0, none⟩) (pickK k hs.length).length (pickK k hs.length).length, int 0, int b]) rfl T.row_bold_hand T.sz_bold_hand rfl mB rfl ?_
          refine hl_call F.bold_best_bold_hand_offer_cb rfl rfl (bold_best_bold_hand_offer_meets ord_Found ((⟨some ⟨gc, 0, none⟩, (pickK k hs.length).length, (pickK k hs.length)⟩, 0, b) : Hv) y ok (by show (pickK k hs.length).length ≤ 1000000; omega) (by omega)) (List.Perm.swap _ _ _) ⟨mB, mB, trivial⟩ fun z hz => ?_
          obtain ⟨z, zk⟩ := z
          obtain ⟨hz, hzi⟩ := hz
          refine hl_nil (inb_n (then_n (hc_region ?_)))
          refine r_add _ rfl rfl rfl rfl (by unfold I64; omega) ?_
          refine r_move rfl rfl (hl_nil ?_)
          have hyes := fnd_yes (ws := ws) (rs := (reachK (trOf cs hs) p hs.length)) hall hall2
          have hXd : Hv.dat ((⟨some ⟨gc, 0, none⟩, (pickK k hs.length).length, (pickK k hs.length)⟩, 0, b) : Hv) = fndH pr (pickK k hs.length) := by show ((pickK k hs.length), (0 : Int), b) = _; rw [hbs]; rfl
          rcases hzi with rfl | rfl
          · have hy8 : ((⟨some ⟨gc, 0, none⟩, (pickK k hs.length).length, (pickK k hs.length)⟩, 0, b) : Hv).1.l.length ≤ 8 := by first | exact hy | (show (pickK k hs.length).length ≤ 8; omega)
            exact again _ (k + 1, ((⟨some ⟨gc, 0, none⟩, (pickK k hs.length).length, (pickK k hs.length)⟩, 0, b) : Hv), zk) ⟨by show k + 1 ≤ N; omega, by show (Hv.dat ((⟨some ⟨gc, 0, none⟩, (pickK k hs.length).length, (pickK k hs.length)⟩, 0, b) : Hv), zk) = bestL ordP (fndL hs (reachK (trOf cs hs) p hs.length) pr ws (k + 1)); rw [fndL_succ, if_pos hyes, best_snoc, ← hb, ← hXd]; exact hz, hy8⟩ (by show N - (k + 1) < N - k; omega) ⟨rfl, rfl, rfl, rfl, rfl, rfl, rfl, trivial⟩ (by first | exact .cons_cons _ (List.nil_sublist _) | exact .cons _ (.refl _)) ⟨mB, mB, mB, mB, mB, mB, mB, mB, mB, trivial⟩
          · have hy8 : z.1.l.length ≤ 8 := by first | exact hy | (show (pickK k hs.length).length ≤ 8; omega)
            exact again _ (k + 1, z, zk) ⟨by show k + 1 ≤ N; omega, by show (Hv.dat z, zk) = bestL ordP (fndL hs (reachK (trOf cs hs) p hs.length) pr ws (k + 1)); rw [fndL_succ, if_pos hyes, best_snoc, ← hb, ← hXd]; exact hz, hy8⟩ (by show N - (k + 1) < N - k; omega) ⟨rfl, rfl, rfl, rfl, rfl, rfl, rfl, trivial⟩ (by first | exact .cons_cons _ (List.nil_sublist _) | exact .cons _ (.refl _)) ⟨mB, mB, mB, mB, mB, mB, mB, mB, mB, trivial⟩
       ·have hb9' := hb9; try simp at hb9'
        have hk2 : k = N := by omega
        rw [hk2, hN] at hb
        have hb : (y.dat, ok) = fndB (trOf cs hs) hs pr ws p := hb
        refine hc_exit (then_exit (then_exit (inb_hit (then_n (hc_seq (hc_seq (hc_region ?_)))))))
        refine r_fieldAddr ⟨_, 3, none⟩ rfl rfl T.fa_bold_best_wayzgoose_bold_hand_1 rfl ?_
        refine r_load (v := .bool ok) rfl T.cell_bool rfl (cell_own mB rfl) ?_
        refine r_not rfl rfl (hl_nil (then_n ?_))
        refine hc_cond rfl (fun hb14 => ?_) (fun hb14 => ?_)
        ·have hb14' := hb14; try simp at hb14'
         refine hc_seq (hc_region (r_assign rfl rfl (r_assign rfl rfl (r_assign rfl rfl (hl_nil (then_n (hc_ret (then_ret (ng_ret ?_)))))))))
         have hE : foundE cs hs pr ws p = ([], 0, 11) := by rw [foundE, if_neg (Classical.not_not.2 h0), if_neg h2, if_neg h3, if_neg (Classical.not_not.2 hq1), if_neg (Classical.not_not.2 hq2), if_neg (Classical.not_not.2 h8), ← hb]; exact if_pos (by simpa using hb14)
         refine hq_nilrow (α := Int) ?_
         exact ret3 (none, 0) rfl rfl rfl rfl (by show Value.tuple #[.slice none (foundE cs hs pr ws p).1.length 0, int (foundE cs hs pr ws p).2.1, int (foundE cs hs pr ws p).2.2] = _; rw [hE] <;> rfl) rfl trivial (List.nil_sublist _) (by show LSub _ [Row none (rows (foundE cs hs pr ws p).1)]; rw [hE]; exact ⟨mB, trivial⟩)
        ·have hb14' := hb14; try simp at hb14'
         refine hc_skip (then_n (hc_seq ?_))
         refine hc_draw 7 mixed (by decide) (by decide) rfl rfl ?_
         refine hb_ex _ rfl rfl rfl (fun w1 => r_fieldAddr ⟨_, 0, none⟩ rfl rfl T.fa_bold_best_wayzgoose_bold_hand_0 rfl (hl_nil (qe_done rfl))) ?_
         refine hb_ex _ rfl rfl rfl (fun w1 => r_fieldAddr ⟨_, 0, none⟩ rfl rfl T.fa_bold_hand_0 rfl (hl_nil (qe_done rfl))) ?_
         refine hb_ex _ rfl rfl rfl (fun w1 => r_load rfl T.cell_ints rfl (cell_blk mB rfl) (hl_nil (qe_done rfl))) ?_
         refine hb_ex _ rfl rfl rfl (fun w1 => r_fieldAddr ⟨_, 0, none⟩ rfl rfl T.fa_bold_best_wayzgoose_bold_hand_0 rfl (hl_nil (qe_done rfl))) ?_
         refine hb_ex _ rfl rfl rfl (fun w1 => r_fieldAddr ⟨_, 2, none⟩ rfl rfl T.fa_bold_hand_2 rfl (hl_nil (qe_done rfl))) ?_
         refine hb_ex _ rfl rfl rfl (fun w1 => r_load rfl T.cell_int rfl (cell_blk mB rfl) (hl_nil (qe_done rfl))) ?_
         refine hb_ex _ rfl rfl rfl (fun w1 => r_assign rfl rfl (hl_nil (qe_done rfl))) ?_
         refine hb_nil ⟨rfl, ?_⟩
         refine r_assign rfl rfl (r_assign rfl rfl (hl_nil (then_n (hc_ret (ng_ret ?_)))))
         have hE : foundE cs hs pr ws p = (y.1.l, y.2.2, 0) := by rw [foundE, if_neg (Classical.not_not.2 h0), if_neg h2, if_neg h3, if_neg (Classical.not_not.2 hq1), if_neg (Classical.not_not.2 hq2), if_neg (Classical.not_not.2 h8), ← hb]; exact if_neg (by simpa using hb14)
         exact ret3 (y.1.a, y.1.c) rfl rfl rfl rfl (by show Value.tuple #[.slice y.1.a (foundE cs hs pr ws p).1.length y.1.c, int (foundE cs hs pr ws p).2.1, int (foundE cs hs pr ws p).2.2] = _; rw [hE] <;> rfl) rfl trivial (List.nil_sublist _) (by show LSub _ [Row y.1.a (rows (foundE cs hs pr ws p).1)]; rw [hE]; exact ⟨mB, trivial⟩)
end Go.Proofs.Ytdlbbfcfahahdaa
end
section
namespace Go.Proofs.Ytdlbbfcfahahdaa
open Go Go.W
set_option maxRecDepth 20000
attribute [local irreducible] HL HC HQ HB Row Rows2 Blk Facts
theorem pay_bills : billsE ctrC [0, 0, 3] ctrA = ([9, 27, 120], 0) := by kernel_rfl
theorem pay_worth : worthE ctrC [0, 0, 3] someA (1, 1, 1) = (8, 0) := by kernel_rfl
theorem pay_fill : fillE law_cards 5 = ([0, 1], 80, 0) := by kernel_rfl
theorem pay_sheets : sheetsE 100 12 4 = (3, 44, 0) := by kernel_rfl
theorem pay_found (g1 g2 : Nat) : foundE shopsC (shopsH g1 g2) [5, 9, 4, 7, 6, 9] [1, 2] 1 = ([2, 3], 11, 0) := by kernel_rfl
theorem ex_bills (x : Nat × Nat) : Meets Try.prog F.bold_Bills [saV ctrC (ctrP x.1) (ctrQ x.2)] { LI := saL (ctrP x.1) (ctrQ x.2), inv := fun y : OutC => 3 ≤ y.2, val := fun y => .tuple #[.slice y.1 3 y.2, int 0], LO := fun y => [Row y.1 (rows ([9, 27, 120] : List Int))] } := by
  have h := bold_Bills_meets ctrC (ctrP x.1) (ctrQ x.2) (show 3 ≤ 1000000 by decide) (show 3 ≤ 1000000 by decide)
  rw [show billsE ctrC (ctrP x.1).l (ctrQ x.2).l = ([9, 27, 120], 0) from pay_bills] at h
  exact h
theorem ex_worth (x : Nat × Nat) : Meets Try.prog F.bold_Worth [saV ctrC (ctrP x.1) (someQ x.2), adV (1, 1, 1)] { LI := saL (ctrP x.1) (someQ x.2), val := fun _ : Unit => .tuple #[int 8, int 0] } := by
  have h := bold_Worth_meets ctrC (ctrP x.1) (someQ x.2) (1, 1, 1) (show 3 ≤ 1000000 by decide) (show 2 ≤ 1000000 by decide) (Nat.le_refl 2)
  rw [show worthE ctrC (ctrP x.1).l (someQ x.2).l (1, 1, 1) = (8, 0) from pay_worth] at h
  exact h
theorem ex_fill (g : Nat) : Meets Try.prog F.bold_Fill [.slice (some ⟨g, 0, none⟩) 3 3, int 5] { LI := [Row (some ⟨g, 0, none⟩) (rows law_cards)], val := fun y : OutC => .tuple #[.slice y.1 2 y.2, int 80, int 0], LO := fun y => [Row y.1 (rows ([0, 1] : List Int))] } := by
  have h := bold_Fill_meets (A := some ⟨g, 0, none⟩) (ca := 3) law_cards 5 (by decide)
  rw [pay_fill] at h
  exact h
theorem ex_sheets : Meets Try.prog F.bold_Sheets [int 100, int 12, int 4] { val := fun _ : Unit => .tuple #[int 3, int 44, int 0] } := by
  have h := bold_Sheets_meets 100 12 4
  rw [pay_sheets] at h
  exact h
theorem ex_found (x : Nat × Nat × Nat × Nat) (g h : Nat) : Meets Try.prog F.bold_Found [.agg #[.slice (some ⟨x.1, 0, none⟩) 4 4, .slice (some ⟨x.2.1, 0, none⟩) 6 6], .slice (some ⟨g, 0, none⟩) 6 6, .slice (some ⟨h, 0, none⟩) 2 2, int 1] { LI := [Row (some ⟨x.1, 0, none⟩) (rows shopsC), RowsF (some ⟨x.2.1, 0, none⟩) (shopsH x.2.2.1 x.2.2.2) Hd.row, Row (some ⟨g, 0, none⟩) (rows ([5, 9, 4, 7, 6, 9] : List Int)), Row (some ⟨h, 0, none⟩) (rows ([1, 2] : List Int))], val := fun y : OutC => .tuple #[.slice y.1 2 y.2, int 11, int 0], LO := fun y => [Row y.1 (rows ([2, 3] : List Int))] } := by
  have h := bold_Found_meets (A := some ⟨x.1, 0, none⟩) (B := some ⟨x.2.1, 0, none⟩) (PA := some ⟨g, 0, none⟩) (WA := some ⟨h, 0, none⟩) (ca := 4) (cb := 6) (pc := 6) (wc := 2) shopsC (shopsH x.2.2.1 x.2.2.2) [5, 9, 4, 7, 6, 9] [1, 2] 1 (by decide) (Nat.le_refl 6) (by intro h hh; simp only [shopsH, List.mem_cons, List.not_mem_nil, or_false] at hh; rcases hh with rfl | rfl | rfl | rfl | rfl | rfl <;> first | decide | exact (show 1 ≤ 1000000 by decide)) (by decide) (by decide)
  rw [pay_found] at h
  exact h
theorem ex_ints3 {A B : Option Addr} {ca cb : Nat} : Meets Try.prog F.kit_EqInts [.slice A 3 ca, .slice B 3 cb] { LI := [Row A (rows ([9, 27, 120] : List Int)), Row B (rows ([9, 27, 120] : List Int))], val := fun _ : Unit => .bool true } := by
  have h := kit_EqInts_meets (A := A) (B := B) (ca := ca) (cb := cb) [9, 27, 120] [9, 27, 120] (by decide)
  rw [decide_eq_true rfl] at h
  exact h
theorem ex_ints2 {A B : Option Addr} {ca cb : Nat} (a b : Int) : Meets Try.prog F.kit_EqInts [.slice A 2 ca, .slice B 2 cb] { LI := [Row A (rows [a, b]), Row B (rows [a, b])], val := fun _ : Unit => .bool true } := by
  have h := kit_EqInts_meets (A := A) (B := B) (ca := ca) (cb := cb) [a, b] [a, b] (show 2 ≤ 9223372036854775806 by decide)
  rw [decide_eq_true rfl] at h
  exact h
set_option maxHeartbeats 1000000 in
theorem law09_paying_meets : Meets Try.prog F.law09_paying [] { val := fun _ : Unit => .bool true } := by
 refine meets_intro F.law09_paying_f rfl (Nat.le_of_ble_eq_true rfl) fun w0 => ?_
 refine hc_seq (hc_region (r_assign rfl rfl (hl_nil (then_n (hc_seq (hc_region ?_))))))
 refine hl_call F.law09_counter_cb rfl rfl (law09_counter_meets) (List.Perm.refl _) trivial fun x1 _ => ?_
 refine hl_call F.bold_Bills_cb rfl rfl (ex_bills x1) (List.Perm.refl _) ⟨mB, mB, trivial⟩ fun y1 _ => ?_
 refine r_move rfl rfl (r_extract rfl rfl rfl (r_extract rfl rfl rfl (r_assign rfl rfl (r_assign rfl rfl (hl_nil (then_n (hc_seq (hc_region ?_))))))))
 refine hl_call F.law09_some_cb rfl rfl (law09_some_meets) (List.Perm.refl _) trivial fun x2 _ => ?_
 refine r_build _ rfl rfl (fun _ => T.bd_api_Advert_0_1_2 ..) ?_
 refine hl_call F.bold_Worth_cb rfl rfl (ex_worth x2) (List.Perm.refl _) ⟨mB, mB, trivial⟩ fun _ _ => ?_
 refine r_move rfl rfl (r_extract rfl rfl rfl (r_extract rfl rfl rfl (r_assign rfl rfl (r_assign rfl rfl (hl_nil (then_n (hc_seq (hc_region ?_))))))))
 refine hl_call F.law09_cards_cb rfl rfl (law09_cards_meets) (List.Perm.refl _) trivial fun x3 _ => ?_
 refine hl_call F.bold_Fill_cb rfl rfl (ex_fill x3) (List.Perm.refl _) ⟨mB, trivial⟩ fun y3 _ => ?_
 refine r_move rfl rfl (r_extract rfl rfl rfl (r_extract rfl rfl rfl (r_extract rfl rfl rfl (r_assign rfl rfl (r_assign rfl rfl (r_assign rfl rfl (hl_nil (then_n (hc_seq (hc_region ?_))))))))))
 refine hl_call F.law09_shops_cb rfl rfl (law09_shops_meets) (List.Perm.refl _) trivial fun x4 _ => ?_
 refine hl_call F.law09_rates_cb rfl rfl (law09_rates_meets) (List.Perm.refl _) trivial fun x5 _ => ?_
 refine r_buildSlice _ rfl rfl (fun _ => T.bs_ints_2 ..) fun gw => ?_
 refine hl_letgo (rows ([1, 2] : List Int)) (List.prefix_refl _) ?_
 refine hl_call F.bold_Found_cb rfl rfl (ex_found x4 x5 gw) (List.Perm.refl _) ⟨mB, mB, mB, mB, trivial⟩ fun y4 _ => ?_
 refine r_move rfl rfl (r_extract rfl rfl rfl (r_extract rfl rfl rfl (r_extract rfl rfl rfl (r_assign rfl rfl (r_assign rfl rfl (r_assign rfl rfl (hl_nil (then_n (hc_seq (hc_region ?_))))))))))
 refine hl_call F.bold_Sheets_cb rfl rfl (ex_sheets) (List.Perm.refl _) trivial fun _ _ => ?_
 refine r_move rfl rfl (r_extract rfl rfl rfl (r_extract rfl rfl rfl (r_extract rfl rfl rfl (r_assign rfl rfl (r_assign rfl rfl (r_assign rfl rfl (hl_nil (then_n (hc_seq (hc_region (r_move rfl rfl ?_)))))))))))
 refine r_eql rfl rfl rfl (r_move rfl rfl ?_)
 refine g_split rfl rfl ?_ ?_
 ·intro hg1; have hg1' := hg1; try simp at hg1'
  refine g_yes rfl rfl hg1 (r_move rfl rfl (g_yes rfl rfl hg1 (r_eql rfl rfl rfl ?_)))
  refine p_t rfl rfl (bt1 hg1) rfl ?_
  refine r_move rfl rfl ?_
  refine g_split rfl rfl ?_ ?_
  ·intro hg2; have hg2' := hg2; try simp at hg2'
   refine g_yes rfl rfl hg2 (r_move rfl rfl (g_yes rfl rfl hg2 (r_eql rfl rfl rfl ?_)))
   refine p_t rfl rfl (bt1 hg2) rfl ?_
   refine r_move rfl rfl ?_
   refine g_split rfl rfl ?_ ?_
   ·intro hg3; have hg3' := hg3; try simp at hg3'
    refine g_yes rfl rfl hg3 (r_move rfl rfl (g_yes rfl rfl hg3 (r_eql rfl rfl rfl ?_)))
    refine p_t rfl rfl (bt1 hg3) rfl ?_
    refine r_move rfl rfl ?_
    refine g_split rfl rfl ?_ ?_
    ·intro hg4; have hg4' := hg4; try simp at hg4'
     refine g_yes rfl rfl hg4 (r_move rfl rfl (g_yes rfl rfl hg4 (r_eql rfl rfl rfl ?_)))
     refine p_t rfl rfl (bt1 hg4) rfl ?_
     refine r_move rfl rfl ?_
     refine g_split rfl rfl ?_ ?_
     ·intro hg5; have hg5' := hg5; try simp at hg5'
      refine g_yes rfl rfl hg5 (r_move rfl rfl (g_yes rfl rfl hg5 (r_eql rfl rfl rfl ?_)))
      refine p_t rfl rfl (bt1 hg5) rfl ?_
      refine r_move rfl rfl ?_
      refine g_split rfl rfl ?_ ?_
      ·intro hg6; have hg6' := hg6; try simp at hg6'
       refine g_yes rfl rfl hg6 (r_move rfl rfl (g_yes rfl rfl hg6 (r_eql rfl rfl rfl ?_)))
       refine p_t rfl rfl (bt1 hg6) rfl ?_
       refine r_move rfl rfl ?_
       refine g_split rfl rfl ?_ ?_
       ·intro hg7; have hg7' := hg7; try simp at hg7'
        refine g_yes rfl rfl hg7 (r_move rfl rfl (g_yes rfl rfl hg7 (r_eql rfl rfl rfl ?_)))
        refine p_t rfl rfl (bt1 hg7) rfl ?_
        refine r_move rfl rfl ?_
        refine g_split rfl rfl ?_ ?_
        ·intro hg8; have hg8' := hg8; try simp at hg8'
         refine g_yes rfl rfl hg8 (r_move rfl rfl (g_yes rfl rfl hg8 (r_eql rfl rfl rfl ?_)))
         refine p_t rfl rfl (bt1 hg8) rfl ?_
         refine r_move rfl rfl ?_
         refine g_split rfl rfl ?_ ?_
         ·intro hg9; have hg9' := hg9; try simp at hg9'
          refine g_yes rfl rfl hg9 (r_move rfl rfl (g_yes rfl rfl hg9 (r_eql rfl rfl rfl ?_)))
          refine p_t rfl rfl (bt1 hg9) rfl ?_
          refine r_move rfl rfl ?_
          refine g_split rfl rfl ?_ ?_
          ·intro hg10; have hg10' := hg10; try simp at hg10'
           refine g_yes rfl rfl hg10 (r_move rfl rfl (g_yes rfl rfl hg10 ?_))
           refine r_buildSlice _ rfl rfl (fun _ => T.bs_ints_3 ..) fun g40 => ?_
           refine hl_letgo (rows ([9, 27, 120] : List Int)) (List.prefix_refl _) ?_
           refine g_yes rfl rfl hg10 ?_
           refine hl_call F.kit_EqInts_cb rfl rfl (ex_ints3) (List.Perm.refl _) ⟨mB, mB, trivial⟩ fun _ _ => ?_
           refine p_t rfl rfl (bt1 hg10) rfl ?_
           refine r_move rfl rfl ?_
           refine g_split rfl rfl ?_ ?_
           ·intro hg11; have hg11' := hg11; try simp at hg11'
            refine g_yes rfl rfl hg11 (r_move rfl rfl (g_yes rfl rfl hg11 ?_))
            refine r_buildSlice _ rfl rfl (fun _ => T.bs_ints_2 ..) fun g45 => ?_
            refine hl_letgo (rows ([0, 1] : List Int)) (List.prefix_refl _) ?_
            refine g_yes rfl rfl hg11 ?_
            refine hl_call F.kit_EqInts_cb rfl rfl (ex_ints2 0 1) (List.Perm.refl _) ⟨mB, mB, trivial⟩ fun _ _ => ?_
            refine p_t rfl rfl (bt1 hg11) rfl ?_
            refine r_move rfl rfl ?_
            refine g_split rfl rfl ?_ ?_
            ·intro hg12; have hg12' := hg12; try simp at hg12'
             refine g_yes rfl rfl hg12 (r_move rfl rfl (g_yes rfl rfl hg12 ?_))
             refine r_buildSlice _ rfl rfl (fun _ => T.bs_ints_2 ..) fun g50 => ?_
             refine hl_letgo (rows ([2, 3] : List Int)) (List.prefix_refl _) ?_
             refine g_yes rfl rfl hg12 ?_
             refine hl_call F.kit_EqInts_cb rfl rfl (ex_ints2 2 3) (List.Perm.refl _) ⟨mB, mB, trivial⟩ fun _ _ => ?_
             refine p_t rfl rfl (bt1 hg12) rfl ?_
             refine r_assign rfl rfl (hl_nil (then_n (hc_ret ?_)))
             exact ret1 () rfl rfl rfl trivial (List.nil_sublist _) trivial
            ·intro hg12; have hg12' := hg12; try simp at hg12'
           ·intro hg11; have hg11' := hg11; try simp at hg11'
          ·intro hg10; have hg10' := hg10; try simp at hg10'
         ·intro hg9; have hg9' := hg9; try simp at hg9'
        ·intro hg8; have hg8' := hg8; try simp at hg8'
       ·intro hg7; have hg7' := hg7; try simp at hg7'
      ·intro hg6; have hg6' := hg6; try simp at hg6'
     ·intro hg5; have hg5' := hg5; try simp at hg5'
    ·intro hg4; have hg4' := hg4; try simp at hg4'
   ·intro hg3; have hg3' := hg3; try simp at hg3'
  ·intro hg2; have hg2' := hg2; try simp at hg2'
 ·intro hg1; have hg1' := hg1; try simp at hg1'
end Go.Proofs.Ytdlbbfcfahahdaa
end
section
namespace Go.Proofs.Ytdlbbfcfahahdaa
open Go Go.W
set_option maxRecDepth 20000
attribute [local irreducible] HL HC HQ HB Row Rows2 Blk Facts
theorem to_bd {m z : Int} (h : ToInv m z) (hm : 0 ≤ m) : 0 ≤ z ∧ z ≤ m := by
  simp only [ToInv] at h
  refine ⟨h.1, ?_⟩
  by_cases h1 : 1 ≤ m
  · exact h.2.1 h1
  · have := h.2.2 (by omega); omega
theorem from_bd {lo hi z : Int} (h : FromInv lo hi z) (hm : lo ≤ hi) : lo ≤ z ∧ z ≤ hi := by
  simp only [FromInv] at h
  refine ⟨h.1, ?_⟩
  by_cases h1 : lo < hi
  · exact h.2.1 h1
  · have := h.2.2 (by omega); omega
theorem forall_snoc {α : Type} {p : α → Prop} {l : List α} {x : α} (h : ∀ y ∈ l, p y) (hx : p x) : ∀ y ∈ l ++ [x], p y := fun y hy => (List.mem_append.1 hy).elim (h y) fun hy => by rw [List.mem_singleton.1 hy]; exact hx
theorem kit_Dice_One_meets {g : Nat} {A B : Option Addr} {c cb : Nat} {nums : List Int} {s : Int × Int} (l : List Int) (hn : nums.length ≤ 9223372036854775807) (hs : DOK nums s) (hl : 0 < l.length) (hl2 : l.length ≤ 1000) :
    Meets Try.prog F.kit_Dice_One [.pointer (some ⟨g, 0, none⟩), .slice B l.length cb] { diceCon g A c nums s (fun x : Int => x ∈ l) (fun z => int z) (fun _ => []) with LI := [Row A (rows nums), Row B (rows l)] } := by
 refine meets_intro F.kit_Dice_One_f rfl (Nat.le_of_ble_eq_true rfl) fun w0 => ?_
 refine hc_seq (hc_region (r_assign rfl rfl (hl_nil (then_n (hc_seq (hc_region (r_move rfl rfl (r_move rfl rfl (r_move rfl rfl ?_)))))))))
 refine r_len_sl rfl T.u_ints rfl ?_
 refine r_sub _ rfl rfl rfl rfl (by unfold I64; omega) ?_
 refine hl_call F.kit_Dice_To_cb rfl rfl (kit_Dice_To_meets ((l.length : Int) - 1) hn hs (by omega)) (List.Perm.refl _) ⟨mB, trivial⟩ fun xs1 hs1 => ?_
 obtain ⟨s1, z⟩ := xs1
 obtain ⟨hs1, hz⟩ := hs1
 simp only at hs1
 have hz := to_bd hz (by omega)
 obtain ⟨zn, rfl⟩ := Int.eq_ofNat_of_zero_le hz.1
 have hzl : zn < l.length := by omega
 refine r_elem (α := Int) _ _ rfl T.u_ints T.sz_int rfl rfl rfl mB rfl (by omega) (by decide) ?_
 refine r_load rfl T.cell_int rfl (cell_row mB (rows_get0 (by omega) rfl)) ?_
 refine r_assign rfl rfl (hl_nil (then_n (hc_ret ?_)))
 exact ret1 (s1, l.getD zn default) rfl rfl rfl ⟨hs1, getD_mem hzl⟩ (.refl _) trivial
theorem kit_AdvertOf_meets {g : Nat} {A : Option Addr} {c : Nat} {nums : List Int} {s : Int × Int} (n : Nat) (hn : nums.length ≤ 9223372036854775807) (hs : DOK nums s) (h1 : 1 ≤ n ∧ n ≤ 1000) :
    Meets Try.prog F.kit_AdvertOf [.pointer (some ⟨g, 0, none⟩), int n] (diceCon g A c nums s (fun x : Ad => adErr n x = 0) (fun x => adV x) (fun _ => [])) := by
 refine meets_intro F.kit_AdvertOf_f rfl (Nat.le_of_ble_eq_true rfl) fun w0 => ?_
 refine hc_seq (hc_region ?_)
 refine r_alloc rfl (fun _ => T.al_api_Advert _) fun g4 => ?_
 refine hl_nil (then_n (hc_seq (hc_region (r_move rfl rfl (r_move rfl rfl ?_)))))
 refine r_sub _ rfl rfl rfl rfl (by unfold I64; omega) ?_
 refine hl_call F.kit_Dice_To_cb rfl rfl (kit_Dice_To_meets ((n : Int) - 1) hn hs (by omega)) (List.Perm.swap _ _ _) ⟨mB, trivial⟩ fun xs1 hs1 => ?_
 obtain ⟨s1, z⟩ := xs1
 obtain ⟨hs1, hz⟩ := hs1
 simp only at hs1
 have hz : 0 ≤ z ∧ z ≤ (n : Int) - 1 := to_bd hz (by omega)
 refine r_move rfl rfl ?_
 refine hl_call F.kit_Dice_From_cb rfl rfl (kit_Dice_From_meets (1) (3) hn hs1 (by omega)) (List.Perm.refl _) ⟨mB, trivial⟩ fun xs2 hs2 => ?_
 obtain ⟨s2, k⟩ := xs2
 obtain ⟨hs2, hk⟩ := hs2
 simp only at hs2
 have hk : 1 ≤ k ∧ k ≤ 3 := from_bd hk (by omega)
 refine r_build _ rfl rfl (fun _ => T.bd_api_Advert_0_1_2 ..) ?_
 refine r_alloc rfl (fun _ => T.al_api_Advert _) fun g5 => ?_
 refine r_storeS (cs := #[int z, int k, int 1]) rfl rfl (.refl _) T.sz_api_Advert (by rfl) (by rfl) ?_
 refine hl_nil (then_n ?_)
 refine hc_cut ⟨fun x : (Int × Int) × Int => DOK nums x.1 ∧ (1 ≤ x.2 ∧ x.2 ≤ 6) ∧ (k = 1 → x.2 = 1), fun x => [(4, .pointer (some ⟨g4, 0, none⟩)), (5, .pointer (some ⟨g5, 0, none⟩))], fun x => [(g5, Obj.cells #[int z, int k, int x.2] T.api_Advert (0, 0)), dice g A c nums x.1, (g4, Obj.cells #[int 0, int 0, int 0] T.api_Advert (0, 0))], fun _ => []⟩ ?_ ?_
 ·skip
  refine hc_seq (hc_region ?_)
  first | refine r_fieldAddr ⟨_, 1, none⟩ rfl rfl T.fa_api_Advert_1 rfl ?_ | refine r_fieldAddr _ rfl rfl T.fa_api_Advert_1 rfl ?_
  first | refine r_load rfl T.cell_int rfl (cell_own mB rfl) ?_ | refine r_load rfl T.cell_int rfl (cell_blk mB rfl) ?_ | refine r_load rfl T.cell_int rfl (cell_row mB (rows_get0 (by omega) rfl)) ?_ | refine r_load rfl T.cell_int rfl (cell_row_f mB (rows_get (by omega) rfl)) ?_ | refine r_load rfl T.cell_int rfl (cell_rowg mB rfl) ?_
  refine r_neq rfl rfl rfl (hl_nil (then_n ?_))
  first | refine c_dec rfl (fun hb1 => ?_) (fun hb1 => ?_) | refine hc_cond rfl (fun hb1 => ?_) (fun hb1 => ?_)
  ·have hb1' := hb1; try simp at hb1'
   refine hc_region (r_move rfl rfl ?_)
   refine hl_call F.kit_Dice_From_cb rfl rfl (kit_Dice_From_meets (1) (6) hn hs2 (by omega)) (List.Perm.swap _ _ _) ⟨mB, trivial⟩ fun xs3 hs3 => ?_
   obtain ⟨s3, l⟩ := xs3
   obtain ⟨hs3, hl⟩ := hs3
   simp only at hs3
   have hl : 1 ≤ l ∧ l ≤ 6 := from_bd hl (by omega)
   first | refine r_fieldAddr ⟨_, 2, none⟩ rfl rfl T.fa_api_Advert_2 rfl ?_ | refine r_fieldAddr _ rfl rfl T.fa_api_Advert_2 rfl ?_
   refine r_store rfl rfl (.swap _ _ _) T.sz_int (by rfl) (by rfl) ?_
   refine hl_nil ?_
   exact cut_n _ (s3, l) ⟨hs3, hl, fun e => absurd e hb1⟩ ⟨rfl, rfl, trivial⟩ (List.Sublist.refl _) trivial
  ·have hb1' := hb1; try simp at hb1'
   refine hc_skip ?_
   exact cut_n _ (s2, 1) ⟨hs2, ⟨Int.le_refl 1, show (1 : Int) ≤ 6 by decide⟩, fun _ => rfl⟩ ⟨rfl, rfl, trivial⟩ (List.Sublist.refl _) trivial
 ·intro x hx
  obtain ⟨s4, l⟩ := x
  obtain ⟨hs4, hl, hkl⟩ := hx
  simp only at hs4 hl hkl
  refine hc_seq (hc_region ?_)
  first | refine r_loadA rfl T.row_api_Advert T.sz_api_Advert rfl mB (by rfl) ?_ | refine r_loadB rfl T.row_api_Advert T.sz_api_Advert rfl mB (by rfl) ?_ | refine r_loadS rfl T.row_api_Advert T.sz_api_Advert rfl rfl (cells_row mB (rows_all (by omega))) ?_
  refine r_storeS (cs := #[int z, int k, int l]) (hp' := [(g5, Obj.cells #[int z, int k, int l] T.api_Advert (0, 0)), dice g A c nums s4]) rfl rfl (show List.Perm ([(g5, Obj.cells #[int z, int k, int l] T.api_Advert (0, 0)), dice g A c nums s4, (g4, Obj.cells #[int 0, int 0, int 0] T.api_Advert (0, 0))]) ([(g4, Obj.cells #[int 0, int 0, int 0] T.api_Advert (0, 0)), (g5, Obj.cells #[int z, int k, int l] T.api_Advert (0, 0)), dice g A c nums s4]) from (perm_of fun p => by simp only [List.countP_append, List.countP_cons, List.countP_nil]; omega)) T.sz_api_Advert (by rfl) (by rfl) ?_
  refine hl_nil (then_n (hc_ret ?_))
  have hko : k = 1 ∨ 1 < k := by omega
  refine ret_row (s4, (z, k, l)) rfl rfl T.row_api_Advert T.sz_api_Advert rfl m0 rfl rfl ⟨hs4, by show adErr n (z, k, l) = 0; unfold adErr; simp only; rw [if_neg (by omega), if_neg (by omega), if_neg (by omega)]⟩ (.cons _ (.cons _ (.refl _))) trivial
theorem kit_ReceiptsOf_meets {g : Nat} {A : Option Addr} {c : Nat} {nums : List Int} {s : Int × Int} (n : Nat) (hn : nums.length ≤ 9223372036854775807) (hs : DOK nums s) (h1 : 1 ≤ n ∧ n ≤ 1000) :
    Meets Try.prog F.kit_ReceiptsOf [.pointer (some ⟨g, 0, none⟩), int n] (diceCon g A c nums s (fun x : List Cd × OutC => x.1.length ≤ 5 ∧ (∀ y ∈ x.1, (0 ≤ y.1 ∧ y.1 < (n : Int)) ∧ (0 ≤ y.2 ∧ y.2 ≤ 200)) ∧ x.1.length ≤ x.2.2) (fun x => .slice x.2.1 x.1.length x.2.2) (fun x => [Row x.2.1 (rows x.1)])) := by
 refine meets_intro F.kit_ReceiptsOf_f rfl (Nat.le_of_ble_eq_true rfl) fun w0 => ?_
 refine hc_seq (hc_region (r_assign rfl rfl (hl_nil (then_n (hc_seq (hc_region (r_assign rfl rfl (hl_nil (then_n (hc_seq (hc_seq ?_)))))))))))
 refine hc_region (r_move rfl rfl ?_)
 refine hl_call F.kit_Dice_To_cb rfl rfl (kit_Dice_To_meets (5) hn hs (by omega)) (List.Perm.refl _) ⟨mB, trivial⟩ fun xs1 hs1 => ?_
 obtain ⟨s1, zn⟩ := xs1
 obtain ⟨hs1, hzn⟩ := hs1
 simp only at hs1
 have hzn : 0 ≤ zn ∧ zn ≤ 5 := to_bd hzn (by omega)
 obtain ⟨zn, rfl⟩ := Int.eq_ofNat_of_zero_le hzn.1
 refine r_assign rfl rfl (hl_nil (then_n (hc_block ?_)))
 refine hc_loop (β := List Cd × OutC × Hp × Nat × (Int × Int)) ⟨fun ⟨l, o, og, i, s⟩ => Grow T.api_Receipt 2 o.1 l.length o.2 (rows l) og ∧ l.length + i ≤ 5 ∧ (∀ y ∈ l, (0 ≤ y.1 ∧ y.1 < (n : Int)) ∧ (0 ≤ y.2 ∧ y.2 ≤ 200)) ∧ DOK nums s, fun ⟨l, o, og, i, s⟩ => [(0, .pointer (some ⟨g, 0, none⟩)), (1, int n), (5, .slice o.1 l.length o.2), (6, int i)], fun ⟨l, o, og, i, s⟩ => og ++ [dice g A c nums s], fun _ => [Row A (rows nums)]⟩ (fun ⟨l, o, og, i, s⟩ => i) ([], (none, 0), [], zn, s1) ⟨Grow.nil _ _, by rw [List.length_nil]; omega, by intro s h; simp at h, hs1⟩ ⟨rfl, rfl, rfl, rfl, trivial⟩ (.refl _) ⟨mB, trivial⟩ fun z hz => ?_
 obtain ⟨l, o, og, i, s⟩ := z
 obtain ⟨hG, hli, hok, hs⟩ := hz
 refine hc_seq (hc_seq (hc_region (r_move rfl rfl (r_gtr rfl rfl rfl (hl_nil (then_n ?_))))))
 first | refine c_dec rfl (fun hb1 => ?_) (fun hb1 => ?_) | refine hc_cond rfl (fun hb1 => ?_) (fun hb1 => ?_)
 ·have hb1' := hb1; try simp at hb1'
  have hi0 : 0 < i := by omega
  refine hc_skip (then_n (hc_seq (hc_block (hc_region (r_move rfl rfl (r_move rfl rfl (r_move rfl rfl ?_)))))))
  refine r_sub _ rfl rfl rfl rfl (by unfold I64; omega) ?_
  refine hl_call F.kit_Dice_To_cb rfl rfl (kit_Dice_To_meets ((n : Int) - 1) hn hs (by omega)) (List.perm_append_comm) ⟨mB, trivial⟩ fun xs2 hs2 => ?_
  obtain ⟨s2, z2⟩ := xs2
  obtain ⟨hs2, hz2⟩ := hs2
  simp only at hs2
  have hz2 : 0 ≤ z2 ∧ z2 ≤ (n : Int) - 1 := to_bd hz2 (by omega)
  refine r_move rfl rfl ?_
  refine hl_call F.kit_Dice_To_cb rfl rfl (kit_Dice_To_meets (200) hn hs2 (by omega)) (List.Perm.refl _) ⟨mB, trivial⟩ fun xs3 hs3 => ?_
  obtain ⟨s3, z3⟩ := xs3
  obtain ⟨hs3, hz3⟩ := hs3
  simp only at hs3
  have hz3 : 0 ≤ z3 ∧ z3 ≤ 200 := to_bd hz3 (by omega)
  refine r_build _ rfl rfl (fun _ => T.bd_api_Receipt_0_1 ..) ?_
  refine r_buildSlice _ rfl rfl (fun _ => T.bs_L_api_Receipt_1 ..) fun gS => ?_
  refine hl_letgo (rows [((z2, z3) : Cd)]) (List.prefix_refl _) ?_
  refine r_append (hp' := [dice g A c nums s3]) (l.length + 1) (rows (l ++ [((z2, z3) : Cd)])) T.el_L_api_Receipt rfl rfl rfl hG (show List.Perm (dice g A c nums s3 :: og) (og ++ [dice g A c nums s3]) from (perm_of fun p => by simp only [List.countP_append, List.countP_cons, List.countP_nil]; omega)) (Src.row (news := rows [((z2, z3) : Cd)]) (m := 1) mB rfl (rows_one _) (by decide)) rfl (rows_append _ _).symm (by unfold maxLen; omega) (by omega) fun A4 c4 og4 hG4 => ?_
  refine r_assign rfl rfl (hl_nil (inb_n (then_n (hc_region (r_move rfl rfl ?_)))))
  refine r_sub ((i - 1 : Nat) : Int) rfl rfl rfl (by omega) (by unfold I64; omega) ?_
  refine r_assign rfl rfl (hl_nil ?_)
  have e1 : (l ++ [((z2, z3) : Cd)]).length = l.length + 1 := List.length_append
  exact again _ (l ++ [((z2, z3) : Cd)], (A4, c4), og4, i - 1, s3) ⟨by show Grow _ _ _ (l ++ [_]).length _ _ _; rw [e1]; exact hG4, by rw [e1]; omega, forall_snoc hok ⟨by show 0 ≤ z2 ∧ z2 < (n : Int); omega, hz3⟩, hs3⟩ (by show i - 1 < i; omega) ⟨rfl, rfl, by rw [e1]; rfl, rfl, trivial⟩ (.refl _) ⟨mB, trivial⟩
 ·have hb1' := hb1; try simp at hb1'
  refine hc_exit (then_exit (then_exit (inb_hit (then_n (hc_seq (hc_region (r_move rfl rfl (r_assign rfl rfl (hl_nil (then_n (hc_ret ?_)))))))))))
  refine hq_grown hG ?_
  exact ret1 (s, l, o) rfl rfl rfl ⟨hs, by show l.length ≤ 5; omega, hok, hG.le⟩ (.refl _) ⟨m0, trivial⟩
end Go.Proofs.Ytdlbbfcfahahdaa
end
