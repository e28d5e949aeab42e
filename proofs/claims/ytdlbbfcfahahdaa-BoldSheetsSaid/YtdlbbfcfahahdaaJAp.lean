/- Texts of this claim, one behind another. -/
import Derived.ProofKit
import Derived.OpenShut
import Derived.ShutString
import Derived.ChangeOld
import Derived.Below
import Derived.SliceStrings
import Derived.ChangeSlices
import Derived.Deep.Slices
import Derived.Conc.LeavingOf
import Derived.Test.YtdlbbfcfahahdaaJAa
import Derived.Test.YtdlbbfcfahahdaaJAf
import Derived.Test.YtdlbbfcfahahdaaJAo
section
namespace Go.Proofs.Ytdlbbfcfahahdaa
open Go Go.W
set_option linter.unusedVariables false
set_option linter.unusedSimpArgs false
set_option maxRecDepth 20000
attribute [local irreducible] HL HC HQ HB Row Rows2 Blk Facts
def priP (pr s : List Int) : List Int := s.map fun k => pr.getD k.toNat default
theorem priP_at {pr s : List Int} {j : Nat} (hj : j < s.length) : (priP pr s).getD j default = pr.getD (s.getD j default).toNat default := by
  have h : j < (priP pr s).length := by simpa [priP] using hj
  rw [getD_at h, getD_at hj]
  simp [priP]
theorem priP_len (pr s : List Int) : (priP pr s).length = s.length := by simp [priP]
theorem priP_bd {pr s : List Int} (hp : ∀ x ∈ pr, prB x) (hs : ∀ v ∈ s, 0 ≤ v ∧ v < (pr.length : Int)) : ∀ v ∈ priP pr s, 0 ≤ v ∧ v ≤ 1000000000 := by
  intro v hv
  obtain ⟨w, hw, rfl⟩ := List.mem_map.1 hv
  have h1 := hs w hw
  have h2 := hp _ (getD_mem (l := pr) (k := w.toNat) (by omega))
  have h3 := h2.1
  have h4 := h2.2
  omega
theorem bold_Found_meets {A B PA WA : Option Addr} {ca cb pc wc : Nat} (cs : List Cl) (hs : List Hd) (pr ws : List Int) (p : Int) (hca : cs.length ≤ ca) (hcb : hs.length ≤ cb) (ha : ∀ h ∈ hs, h.2.2.2.l.length ≤ 1000000) (hpn : pr.length ≤ 1000000) (hwn : ws.length ≤ 1000000) : Meets Try.prog F.bold_Found [.agg #[.slice A cs.length ca, .slice B hs.length cb], .slice PA pr.length pc, .slice WA ws.length wc, int p] { LI := [Row A (rows cs), RowsF B hs Hd.row, Row PA (rows pr), Row WA (rows ws)], val := fun x : OutC => .tuple #[.slice x.1 (foundE cs hs pr ws p).1.length x.2, int (foundE cs hs pr ws p).2.1, int (foundE cs hs pr ws p).2.2], LO := fun x => [Row x.1 (rows (foundE cs hs pr ws p).1)] } := by
 refine meets_intro F.bold_Found_f rfl (Nat.le_of_ble_eq_true rfl) fun w0 => ?_
 refine hc_seq (hc_region ?_)
 refine r_box rfl rfl fun gT => ?_
 refine r_assign rfl rfl (r_assign rfl rfl (r_assign rfl rfl (hl_nil (then_n (hc_scope (hc_seq (hc_seq (hc_region (hl_letgoB ?_)))))))))
 refine r_loadB (cs := #[.slice A cs.length ca, .slice B hs.length cb]) rfl T.row_api_Trades T.sz_api_Trades rfl (by repeat constructor) rfl ?_
 refine hl_call F.trade_Check_cb rfl rfl (trade_Check_meets cs hs hca hcb ha) (List.Perm.refl _) ⟨(by repeat constructor), (by repeat constructor), trivial⟩ fun _ _ => ?_
 refine r_assign rfl rfl (hl_nil (then_n (hc_seq (hc_region (r_move rfl rfl (r_neq rfl rfl rfl (hl_nil (then_n ?_))))))))
 refine c_dec rfl (fun hb1 => ?_) (fun hb1 => ?_)
 ·have hb1' := hb1; try simp at hb1'
  refine hc_seq (hc_region (r_move rfl rfl (r_assign rfl rfl (r_assign rfl rfl (r_assign rfl rfl (hl_nil (then_n (hc_ret (then_ret (ng_ret ?_))))))))))
  have hE : foundE cs hs pr ws p = ([], 0, checkT (trOf cs hs)) := by rw [foundE, if_pos hb1]
  refine hq_nilrow (α := Int) ?_
  exact ret3 (none, 0) rfl rfl rfl rfl (by show Value.tuple #[.slice none (foundE cs hs pr ws p).1.length 0, int (foundE cs hs pr ws p).2.1, int (foundE cs hs pr ws p).2.2] = _; rw [hE] <;> rfl) rfl trivial (List.nil_sublist _) (by show LSub _ [Row none (rows (foundE cs hs pr ws p).1)]; rw [hE]; exact ⟨(by repeat constructor), trivial⟩)
 ·have hb1' := hb1; try simp at hb1'
  have h0 : checkT (trOf cs hs) = 0 := Classical.not_not.1 hb1
  have hok := tr_ok h0
  have hn6 := hok.h6
  rw [hs_len] at hn6
  refine hc_skip (then_n (hc_seq (hc_seq (hc_region (r_move rfl rfl ?_)))))
  refine r_len_sl rfl T.u_ints rfl ?_
  refine r_fieldAddr ⟨_, 1, none⟩ rfl rfl T.fa_api_Trades_1 rfl ?_
  refine r_load (v := .slice B hs.length cb) rfl T.cell_L_api_Head rfl (cell_blk (by repeat constructor) rfl) ?_
  refine r_len_sl rfl T.u_L_api_Head rfl ?_
  refine r_lss rfl rfl rfl (hl_nil (then_n ?_))
  refine c_dec rfl (fun hb2 => ?_) (fun hb2 => ?_)
  ·have hb2' := hb2; try simp at hb2'
   have h2 : pr.length < hs.length := by omega
   refine hc_seq (hc_region (r_assign rfl rfl (r_assign rfl rfl (r_assign rfl rfl (hl_nil (then_n (hc_ret (then_ret (ng_ret ?_)))))))))
   have hE : foundE cs hs pr ws p = ([], 0, 7) := by rw [foundE, if_neg (Classical.not_not.2 h0), if_pos h2]
   refine hq_nilrow (α := Int) ?_
   exact ret3 (none, 0) rfl rfl rfl rfl (by show Value.tuple #[.slice none (foundE cs hs pr ws p).1.length 0, int (foundE cs hs pr ws p).2.1, int (foundE cs hs pr ws p).2.2] = _; rw [hE] <;> rfl) rfl trivial (List.nil_sublist _) (by show LSub _ [Row none (rows (foundE cs hs pr ws p).1)]; rw [hE]; exact ⟨(by repeat constructor), trivial⟩)
  ·have hb2' := hb2; try simp at hb2'
   have h2 : ¬ pr.length < hs.length := by omega
   refine hc_skip (then_n (hc_seq (hc_seq (hc_region (r_move rfl rfl ?_)))))
   refine r_len_sl rfl T.u_ints rfl ?_
   refine r_fieldAddr ⟨_, 1, none⟩ rfl rfl T.fa_api_Trades_1 rfl ?_
   refine r_load (v := .slice B hs.length cb) rfl T.cell_L_api_Head rfl (cell_blk (by repeat constructor) rfl) ?_
   refine r_len_sl rfl T.u_L_api_Head rfl ?_
   refine r_gtr rfl rfl rfl (hl_nil (then_n ?_))
   refine c_dec rfl (fun hb3 => ?_) (fun hb3 => ?_)
   ·have hb3' := hb3; try simp at hb3'
    have h3 : hs.length < pr.length := by omega
    refine hc_seq (hc_region (r_assign rfl rfl (r_assign rfl rfl (r_assign rfl rfl (hl_nil (then_n (hc_ret (then_ret (ng_ret ?_)))))))))
    have hE : foundE cs hs pr ws p = ([], 0, 6) := by rw [foundE, if_neg (Classical.not_not.2 h0), if_neg h2, if_pos h3]
    refine hq_nilrow (α := Int) ?_
    exact ret3 (none, 0) rfl rfl rfl rfl (by show Value.tuple #[.slice none (foundE cs hs pr ws p).1.length 0, int (foundE cs hs pr ws p).2.1, int (foundE cs hs pr ws p).2.2] = _; rw [hE] <;> rfl) rfl trivial (List.nil_sublist _) (by show LSub _ [Row none (rows (foundE cs hs pr ws p).1)]; rw [hE]; exact ⟨(by repeat constructor), trivial⟩)
   ·have hb3' := hb3; try simp at hb3'
    have h3 : ¬ hs.length < pr.length := by omega
    have hpl : pr.length = hs.length := by omega
    refine hc_skip (then_n (hc_seq (hc_seq (hc_region (r_move rfl rfl ?_)))))
    refine r_len_sl rfl T.u_ints rfl ?_
    refine r_move rfl rfl (hl_nil (then_n (hc_block ?_)))
    refine hc_loop (β := Nat) ⟨fun k => k ≤ pr.length ∧ ∀ j, j < k → prB (pr.getD j default), fun k => [(1, .slice PA pr.length pc), (2, .slice WA ws.length wc), (4, .pointer (some ⟨gT, 0, none⟩)), (3, int p), (41, .slice PA pr.length pc), (42, int pr.length), (43, int k)], fun _ => [], fun _ => [Blk gT (Obj.cells #[.slice A cs.length ca, .slice B hs.length cb] T.api_Trades (0, 0)), Row A (rows cs), RowsF B hs Hd.row, Row PA (rows pr), Row WA (rows ws)]⟩ (fun k => pr.length - k) 0 ⟨Nat.zero_le _, fun j hj => absurd hj (Nat.not_lt_zero j)⟩ ⟨rfl, rfl, rfl, rfl, rfl, rfl, rfl, trivial⟩ (List.nil_sublist _) ⟨(by repeat constructor), (by repeat constructor), (by repeat constructor), (by repeat constructor), (by repeat constructor), trivial⟩ fun k hk => ?_
    obtain ⟨hk, hq⟩ := hk
    refine hc_seq (hc_region (r_lss rfl rfl rfl (hl_nil (then_n (hc_seq ?_)))))
    refine c_dec rfl (fun hb4 => ?_) (fun hb4 => ?_)
    ·have hb4' := hb4; try simp at hb4'
     have hk2 : k < pr.length := by omega
     refine hc_skip (then_n (hc_seq (hc_block (hc_seq (hc_region ?_)))))
     refine r_elem (α := Int) _ _ rfl T.u_ints T.sz_int rfl rfl rfl (by repeat constructor) rfl (by omega) (by decide) ?_
     refine r_load rfl T.cell_int rfl (cell_row (by repeat constructor) (rows_get0 (by omega) rfl)) ?_
     refine r_assign rfl rfl (hl_nil (then_n (hc_seq (hc_region (r_move rfl rfl ?_)))))
     refine hl_call F.bold_between_cb rfl rfl (bold_between_meets _ _ _) (List.Perm.refl _) trivial fun _ _ => ?_
     refine r_not rfl rfl (hl_nil (then_n ?_))
     refine hc_cond rfl (fun hb5 => ?_) (fun hb5 => ?_)
     ·have hb5' := hb5; try simp at hb5'
      refine hc_seq (hc_region (r_assign rfl rfl (r_assign rfl rfl (r_assign rfl rfl (hl_nil (then_n (hc_ret (inb_ret (then_ret (then_ret (inb_ret ?_)))))))))))
      refine then_ret (ng_ret ?_)
      have hE : foundE cs hs pr ws p = ([], 0, 1) := by rw [foundE, if_neg (Classical.not_not.2 h0), if_neg h2, if_neg h3, if_pos (nall_at (p := prB) hk2 (nbt hb5))]
      refine hq_nilrow (α := Int) ?_
      exact ret3 (none, 0) rfl rfl rfl rfl (by show Value.tuple #[.slice none (foundE cs hs pr ws p).1.length 0, int (foundE cs hs pr ws p).2.1, int (foundE cs hs pr ws p).2.2] = _; rw [hE] <;> rfl) rfl trivial (List.nil_sublist _) (by show LSub _ [Row none (rows (foundE cs hs pr ws p).1)]; rw [hE]; exact ⟨(by repeat constructor), trivial⟩)
     ·have hb5' := hb5; try simp at hb5'
      refine hc_skip (inb_n (then_n (hc_region ?_)))
      refine r_add _ rfl rfl rfl rfl (by unfold I64; omega) ?_
      refine r_move rfl rfl (hl_nil ?_)
      exact again _ (k + 1) ⟨by show k + 1 ≤ pr.length; omega, fun j hj => (Nat.lt_succ_iff_lt_or_eq.1 hj).elim (hq j) fun e => by subst e; exact nbf hb5⟩ (by show pr.length - (k + 1) < pr.length - k; omega) ⟨rfl, rfl, rfl, rfl, rfl, rfl, rfl, trivial⟩ (List.nil_sublist _) ⟨(by repeat constructor), (by repeat constructor), (by repeat constructor), (by repeat constructor), (by repeat constructor), trivial⟩
    ·have hb4' := hb4; try simp at hb4'
     have hk2 : k = pr.length := by omega
     rw [hk2] at hq
     have hq1 := all_take (l := pr) (p := prB) hq
     refine hc_exit (then_exit (then_exit (inb_hit (then_n (hc_seq (hc_seq (hc_region (r_move rfl rfl ?_))))))))
     refine r_len_sl rfl T.u_ints rfl ?_
     refine r_move rfl rfl (hl_nil (then_n (hc_block ?_)))
     refine hc_loop (β := Nat) ⟨fun k => k ≤ ws.length ∧ ∀ j, j < k → (0 ≤ ws.getD j default ∧ ws.getD j default ≤ (hs.length : Int) - 1), fun k => [(1, .slice PA pr.length pc), (2, .slice WA ws.length wc), (4, .pointer (some ⟨gT, 0, none⟩)), (3, int p), (51, .slice WA ws.length wc), (52, int ws.length), (53, int k)], fun _ => [], fun _ => [Blk gT (Obj.cells #[.slice A cs.length ca, .slice B hs.length cb] T.api_Trades (0, 0)), Row A (rows cs), RowsF B hs Hd.row, Row PA (rows pr), Row WA (rows ws)]⟩ (fun k => ws.length - k) 0 ⟨Nat.zero_le _, fun j hj => absurd hj (Nat.not_lt_zero j)⟩ ⟨rfl, rfl, rfl, rfl, rfl, rfl, rfl, trivial⟩ (List.nil_sublist _) ⟨(by repeat constructor), (by repeat constructor), (by repeat constructor), (by repeat constructor), (by repeat constructor), trivial⟩ fun k hk => ?_
     obtain ⟨hk, hq⟩ := hk
     refine hc_seq (hc_region (r_lss rfl rfl rfl (hl_nil (then_n (hc_seq ?_)))))
     refine c_dec rfl (fun hb6 => ?_) (fun hb6 => ?_)
     ·have hb6' := hb6; try simp at hb6'
      have hk2 : k < ws.length := by omega
      refine hc_skip (then_n (hc_seq (hc_block (hc_seq (hc_region ?_)))))
      refine r_elem (α := Int) _ _ rfl T.u_ints T.sz_int rfl rfl rfl (by repeat constructor) rfl (by omega) (by decide) ?_
      refine r_load rfl T.cell_int rfl (cell_row (by repeat constructor) (rows_get0 (by omega) rfl)) ?_
      refine r_assign rfl rfl (hl_nil (then_n (hc_seq (hc_region (r_move rfl rfl ?_)))))
      refine r_fieldAddr ⟨_, 1, none⟩ rfl rfl T.fa_api_Trades_1 rfl ?_
      refine r_load (v := .slice B hs.length cb) rfl T.cell_L_api_Head rfl (cell_blk (by repeat constructor) rfl) ?_
      refine r_len_sl rfl T.u_L_api_Head rfl ?_
      refine r_sub _ rfl rfl rfl rfl (by unfold I64; omega) ?_
      refine hl_call F.bold_between_cb rfl rfl (bold_between_meets _ _ _) (List.Perm.refl _) trivial fun _ _ => ?_
      refine r_not rfl rfl (hl_nil (then_n ?_))
      refine hc_cond rfl (fun hb7 => ?_) (fun hb7 => ?_)
      ·have hb7' := hb7; try simp at hb7'
       refine hc_seq (hc_region (r_assign rfl rfl (r_assign rfl rfl (r_assign rfl rfl (hl_nil (then_n (hc_ret (inb_ret (then_ret (then_ret (inb_ret ?_)))))))))))
       refine then_ret (ng_ret ?_)
       have hE : foundE cs hs pr ws p = ([], 0, 3) := by rw [foundE, if_neg (Classical.not_not.2 h0), if_neg h2, if_neg h3, if_neg (Classical.not_not.2 hq1), if_pos (nall_at (p := fun w => 0 ≤ w ∧ w ≤ (hs.length : Int) - 1) hk2 (nbt hb7))]
       refine hq_nilrow (α := Int) ?_
       exact ret3 (none, 0) rfl rfl rfl rfl (by show Value.tuple #[.slice none (foundE cs hs pr ws p).1.length 0, int (foundE cs hs pr ws p).2.1, int (foundE cs hs pr ws p).2.2] = _; rw [hE] <;> rfl) rfl trivial (List.nil_sublist _) (by show LSub _ [Row none (rows (foundE cs hs pr ws p).1)]; rw [hE]; exact ⟨(by repeat constructor), trivial⟩)
      ·have hb7' := hb7; try simp at hb7'
       refine hc_skip (inb_n (then_n (hc_region ?_)))
       refine r_add _ rfl rfl rfl rfl (by unfold I64; omega) ?_
       refine r_move rfl rfl (hl_nil ?_)
       exact again _ (k + 1) ⟨by show k + 1 ≤ ws.length; omega, fun j hj => (Nat.lt_succ_iff_lt_or_eq.1 hj).elim (hq j) fun e => by subst e; exact nbf hb7⟩ (by show ws.length - (k + 1) < ws.length - k; omega) ⟨rfl, rfl, rfl, rfl, rfl, rfl, rfl, trivial⟩ (List.nil_sublist _) ⟨(by repeat constructor), (by repeat constructor), (by repeat constructor), (by repeat constructor), (by repeat constructor), trivial⟩
     ·have hb6' := hb6; try simp at hb6'
      have hk2 : k = ws.length := by omega
      rw [hk2] at hq
      have hq2 := all_take (l := ws) (p := fun w => 0 ≤ w ∧ w ≤ (hs.length : Int) - 1) hq
      refine hc_exit (then_exit (then_exit (inb_hit (then_n (hc_seq (hc_seq (hc_region (r_move rfl rfl ?_))))))))
      refine hl_call F.bold_between_cb rfl rfl (bold_between_meets _ _ _) (List.Perm.refl _) trivial fun _ _ => ?_
      refine r_not rfl rfl (hl_nil (then_n ?_))
      refine hc_cond rfl (fun hb8 => ?_) (fun hb8 => ?_)
      ·have hb8' := hb8; try simp at hb8'
       have h8 := nbt hb8
       refine hc_seq (hc_region (r_assign rfl rfl (r_assign rfl rfl (r_assign rfl rfl (hl_nil (then_n (hc_ret (then_ret (ng_ret ?_)))))))))
       have hE : foundE cs hs pr ws p = ([], 0, 1) := by rw [foundE, if_neg (Classical.not_not.2 h0), if_neg h2, if_neg h3, if_neg (Classical.not_not.2 hq1), if_neg (Classical.not_not.2 hq2), if_pos h8]
       refine hq_nilrow (α := Int) ?_
       exact ret3 (none, 0) rfl rfl rfl rfl (by show Value.tuple #[.slice none (foundE cs hs pr ws p).1.length 0, int (foundE cs hs pr ws p).2.1, int (foundE cs hs pr ws p).2.2] = _; rw [hE] <;> rfl) rfl trivial (List.nil_sublist _) (by show LSub _ [Row none (rows (foundE cs hs pr ws p).1)]; rw [hE]; exact ⟨(by repeat constructor), trivial⟩)
      ·have hb8' := hb8; try simp at hb8'
       have h8 := nbf hb8
       refine hc_skip (then_n (hc_seq (hc_region ?_)))
       refine r_build _ rfl rfl (fun _ => T.bd_bold_best_wayzgoose_bold_hand_2 ..) ?_
       refine r_alloc rfl (fun _ => T.al_bold_best_wayzgoose_bold_hand _) fun gB => ?_
       refine r_storeS (cs := offA ((⟨none, 0, []⟩, 0, 0) : Hv) false F.bold_Found_1) rfl rfl (.refl _) T.sz_bold_best_wayzgoose_bold_hand (by rfl) (by rfl) ?_
       refine hl_nil (then_n (hc_seq (hc_region ?_)))
       refine r_loadB (cs := #[.slice A cs.length ca, .slice B hs.length cb]) rfl T.row_api_Trades T.sz_api_Trades rfl (by repeat constructor) rfl ?_
       refine r_move rfl rfl ?_
       refine hl_call F.bold_reached_cb rfl rfl (bold_reached_meets cs hs p hca hcb ha (by omega) (steps_bd cs hs (by omega))) (List.Perm.refl _) ⟨(by repeat constructor), (by repeat constructor), trivial⟩ fun x hx => ?_
       obtain ⟨go, ps⟩ := x
       obtain ⟨hpn2, hpm⟩ := hx
       simp only at hpn2 hpm
       refine r_alloc rfl (fun _ => T.al_L_L_bool _) fun g17 => ?_
       refine r_store rfl rfl (.refl _) T.sz_L_L_bool rfl rfl ?_
       refine hl_letgo (rows [((⟨some ⟨go, 0, none⟩, hs.length, ps⟩) : Sl (Sl Bool))]) (by show [Value.slice _ ps.length _] <+: [Value.slice _ hs.length _]; rw [hpn2]; exact List.prefix_refl _) ?_
       refine hl_nilrow (α := Int) ?_
       refine hl_nil (then_n (hc_seq (hc_label (then_n (hc_seq (hc_seq (hc_region ?_)))))))
       refine r_fieldAddr ⟨_, 1, none⟩ rfl rfl T.fa_api_Trades_1 rfl ?_
       refine r_load (v := .slice B hs.length cb) rfl T.cell_L_api_Head rfl (cell_blk (by repeat constructor) rfl) ?_
       refine r_len_sl rfl T.u_L_api_Head rfl ?_
       obtain ⟨N, hN⟩ : ∃ N, N = 2 ^ hs.length := ⟨_, rfl⟩
       have hN2 : N ≤ 64 := by rw [hN]; exact Nat.pow_le_pow_right (n := 2) (by omega) hn6
       refine r_shl1 hs.length N hN rfl rfl rfl rfl (by omega) ?_
       refine r_move rfl rfl (hl_nil (then_n (hc_block ?_)))
       refine hc_loop (β := Nat × Hv × Bool) ⟨fun x => x.1 ≤ N ∧ (x.2.1.dat, x.2.2) = bestL ordP (fndL hs (reachK (trOf cs hs) p hs.length) pr ws x.1) ∧ x.2.1.1.l.length ≤ 8, fun x => [(1, .slice PA pr.length pc), (2, .slice WA ws.length wc), (4, .pointer (some ⟨gT, 0, none⟩)), (16, .pointer (some ⟨gB, 0, none⟩)), (17, .pointer (some ⟨g17, 0, none⟩)), (75, int (N : Int)), (76, int x.1)], fun x => [(gB, Obj.cells (offA x.2.1 x.2.2 F.bold_Found_1) T.bold_best_wayzgoose_bold_hand (0, 0))], fun x => [Blk gT (Obj.cells #[.slice A cs.length ca, .slice B hs.length cb] T.api_Trades (0, 0)), Row A (rows cs), RowsF B hs Hd.row, Row PA (rows pr), Row WA (rows ws), Row (some ⟨g17, 0, none⟩) (rows [((⟨some ⟨go, 0, none⟩, hs.length, ps⟩) : Sl (Sl Bool))]), Row (some ⟨go, 0, none⟩) (rows ps), innerF ps, x.2.1.row]⟩ (fun x => N - x.1) (0, ((⟨none, 0, []⟩, 0, 0) : Hv), false) ⟨Nat.zero_le _, rfl, Nat.zero_le _⟩ ⟨rfl, rfl, rfl, rfl, rfl, rfl, rfl, trivial⟩ (.refl _) ⟨(by repeat constructor), (by repeat constructor), (by repeat constructor), (by repeat constructor), (by repeat constructor), (by repeat constructor), (by repeat constructor), (by repeat constructor), (by repeat constructor), trivial⟩ fun x hx => ?_
       obtain ⟨k, y, ok⟩ := x
       obtain ⟨hk, hb, hy⟩ := hx
       simp only at hk hb hy
       have hsl := pickK_len k hs.length
       have hpi : ∀ v ∈ (pickK k hs.length), 0 ≤ v ∧ v < (hs.length : Int) := fun v hv => pickK_in hv
       refine hc_seq (hc_region (r_lss rfl rfl rfl (hl_nil (then_n (hc_seq ?_)))))
       refine c_dec rfl (fun hb9 => ?_) (fun hb9 => ?_)
       ·have hb9' := hb9; try simp at hb9'
        have hk2 : k < N := by omega
        refine hc_skip (then_n (hc_seq (hc_block (hc_seq (hc_region (r_move rfl rfl (r_assign rfl rfl (hl_nil (then_n (hc_seq (hc_region ?_)))))))))))
        refine r_move rfl rfl ?_
        refine r_conv (k : Int) rfl T.u_int T.u_bold_cards rfl (wrap64 (by omega)) ?_
        refine r_fieldAddr ⟨_, 1, none⟩ rfl rfl T.fa_api_Trades_1 rfl ?_
        refine r_load (v := .slice B hs.length cb) rfl T.cell_L_api_Head rfl (cell_blk (by repeat constructor) rfl) ?_
        refine r_len_sl rfl T.u_L_api_Head rfl ?_
        refine hl_call F.bold_cards_list_cb rfl rfl (bold_cards_list_meets k hs.length (by omega) (by omega)) (List.Perm.refl _) trivial fun gc _ => ?_
        refine r_build _ rfl rfl (fun _ => T.bd_bold_hand_0 ..) ?_
        refine r_alloc rfl (fun _ => T.al_bold_hand _) fun gh => ?_
        refine r_storeS (cs := #[.slice (some ⟨gc, 0, none⟩) (pickK k hs.length).length (pickK k hs.length).length, int 0, int 0]) rfl rfl (.refl _) T.sz_bold_hand (by rfl) (by rfl) ?_
        refine hl_nil (then_n (hc_seq (hc_seq (hc_region ?_))))
        refine r_fieldAddr ⟨_, 0, none⟩ rfl rfl T.fa_bold_hand_0 rfl ?_
        refine r_load (v := .slice (some ⟨gc, 0, none⟩) (pickK k hs.length).length (pickK k hs.length).length) rfl T.cell_ints rfl (cell_own (by repeat constructor) rfl) ?_
        refine r_len_sl rfl T.u_ints rfl ?_
        refine r_move rfl rfl (hl_nil (then_n (hc_block ?_)))
        refine hc_loop (β := Nat × Int) ⟨fun x => x.1 ≤ (pickK k hs.length).length ∧ x.2 = ((priP pr (pickK k hs.length)).take x.1).sum ∧ ∀ i, i < x.1 → 0 ≤ (hs.getD ((pickK k hs.length).getD i default).toNat default).2.1, fun x => [(1, .slice PA pr.length pc), (2, .slice WA ws.length wc), (4, .pointer (some ⟨gT, 0, none⟩)), (16, .pointer (some ⟨gB, 0, none⟩)), (17, .pointer (some ⟨g17, 0, none⟩)), (19, .pointer (some ⟨gh, 0, none⟩)), (75, int (N : Int)), (76, int k), (87, .slice (some ⟨gc, 0, none⟩) (pickK k hs.length).length (pickK k hs.length).length), (88, int (pickK k hs.length).length), (89, int x.1)], fun x => [(gh, Obj.cells #[.slice (some ⟨gc, 0, none⟩) (pickK k hs.length).length (pickK k hs.length).length, int 0, int x.2] T.bold_hand (0, 0)), (gB, Obj.cells (offA y ok F.bold_Found_1) T.bold_best_wayzgoose_bold_hand (0, 0))], fun x => [Row (some ⟨gc, 0, none⟩) (rows (pickK k hs.length)), Blk gT (Obj.cells #[.slice A cs.length ca, .slice B hs.length cb] T.api_Trades (0, 0)), Row A (rows cs), RowsF B hs Hd.row, Row PA (rows pr), Row WA (rows ws), Row (some ⟨g17, 0, none⟩) (rows [((⟨some ⟨go, 0, none⟩, hs.length, ps⟩) : Sl (Sl Bool))]), Row (some ⟨go, 0, none⟩) (rows ps), innerF ps, y.row]⟩ (fun x => (pickK k hs.length).length - x.1) (0, 0) ⟨Nat.zero_le _, rfl, fun j hj => absurd hj (Nat.not_lt_zero j)⟩ ⟨rfl, rfl, rfl, rfl, rfl, rfl, rfl, rfl, rfl, rfl, rfl, trivial⟩ (.refl _) ⟨(by repeat constructor), (by repeat constructor), (by repeat constructor), (by repeat constructor), (by repeat constructor), (by repeat constructor), (by repeat constructor), (by repeat constructor), (by repeat constructor), (by repeat constructor), trivial⟩ fun x hx => ?_
        obtain ⟨j, b⟩ := x
        obtain ⟨hj, hbs, hjp⟩ := hx
        simp only at hj hbs hjp
        have hbb := sum_bd (priP_bd (pr := pr) hq1 (fun v hv => by have := hpi v hv; omega) : ∀ v ∈ (priP pr (pickK k hs.length)), 0 ≤ v ∧ v ≤ 1000000000) j
        rw [← hbs] at hbb
        refine hc_seq (hc_region (r_lss rfl rfl rfl (hl_nil (then_n (hc_seq ?_)))))
        refine c_dec rfl (fun hb10 => ?_) (fun hb10 => ?_)
        ·have hb10' := hb10; try simp at hb10'
         have hj2 : j < (pickK k hs.length).length := by omega
         have hvj := hpi _ (getD_mem hj2)
         obtain ⟨v, hv⟩ : ∃ v : Nat, ((pickK k hs.length).getD j default) = (v : Int) := ⟨_, (Int.toNat_of_nonneg hvj.1).symm⟩
         have hv2 : v < hs.length := by omega
         have hv3 : v < pr.length := by omega
         have hcv := hq1 _ (getD_mem hv3)
         have hcv1 := hcv.1
         have hcv2 := hcv.2
         have hb2' := sum_take (l := (priP pr (pickK k hs.length))) (k := j) (by rw [priP_len]; exact hj2)
         rw [← hbs, priP_at hj2, hv, Int.toNat_natCast] at hb2'
         refine hc_skip (then_n (hc_seq (hc_block (hc_seq (hc_region ?_)))))
         refine r_elem (α := Int) _ _ rfl T.u_ints T.sz_int rfl rfl rfl (by repeat constructor) rfl (by omega) (by decide) ?_
         refine r_load rfl T.cell_int rfl (cell_row (by repeat constructor) (rows_get0 (by omega) rfl)) ?_
         refine r_assign rfl rfl (hl_nil (then_n (hc_seq (hc_seq (hc_region ?_)))))
         refine r_fieldAddr ⟨_, 1, none⟩ rfl rfl T.fa_api_Trades_1 rfl ?_
         refine r_load (v := .slice B hs.length cb) rfl T.cell_L_api_Head rfl (cell_blk (by repeat constructor) rfl) ?_
         refine r_move rfl rfl ?_
         refine hl_outerF (A := B) (ps := hs) (f := Hd.row) (by repeat constructor) ?_
         refine r_elem (α := Hd) hs v rfl T.u_L_api_Head T.sz_api_Head rfl rfl hv (by repeat constructor) rfl hv2 (by decide) ?_
         refine r_fieldAddr _ rfl rfl T.fa_api_Head_1 rfl ?_
         refine r_load (v := int (hs.getD v default).2.1) rfl T.cell_int rfl (cell_row_f (by repeat constructor) (rows_get hv2 (j := 1) rfl)) ?_
         refine r_lss rfl rfl rfl (hl_nil (then_n ?_))
         refine c_dec rfl (fun hb11 => ?_) (fun hb11 => ?_)
         ·have hb11' := hb11; try simp at hb11'
          refine hc_exit (then_exit (inb_miss rfl (then_exit (then_exit (inb_miss rfl (then_exit (inb_hit (then_n (hc_region ?_)))))))))
          refine r_add _ rfl rfl rfl rfl (by unfold I64; omega) ?_
          refine r_move rfl rfl (hl_nil ?_)
          have hy8 := hy
          exact again _ (k + 1, y, ok) ⟨by show k + 1 ≤ N; omega, by show (Hv.dat y, ok) = bestL ordP (fndL hs (reachK (trOf cs hs) p hs.length) pr ws (k + 1)); rw [fndL_succ, if_neg (fnd_no_price hj2 (by rw [hv, Int.toNat_natCast]; exact hb11))]; exact hb, hy8⟩ (by show N - (k + 1) < N - k; omega) ⟨rfl, rfl, rfl, rfl, rfl, rfl, rfl, trivial⟩ (.cons _ (.refl _)) ⟨(by repeat constructor), (by repeat constructor), (by repeat constructor), (by repeat constructor), (by repeat constructor), (by repeat constructor), (by repeat constructor), (by repeat constructor), (by repeat constructor), trivial⟩
         ·have hb11' := hb11; try simp at hb11'
          refine hc_skip (then_n ?_)
          refine hc_draw 6 mixed (by decide) (by decide) rfl rfl ?_
          apply hb_ex _ rfl rfl rfl
          ·intro w1
           refine r_fieldAddr ⟨_, 2, none⟩ rfl rfl T.fa_bold_hand_2 rfl ?_
           refine hl_nil ?_
           exact qe_done rfl
          apply hb_ex _ rfl rfl rfl
          ·intro w1
           refine r_load (v := int b) rfl T.cell_int rfl (cell_blk (by repeat constructor) rfl) ?_
           refine hl_nil ?_
           exact qe_done rfl
          apply hb_ex _ rfl rfl rfl
          ·intro w1
           refine r_move rfl rfl (hl_nil ?_)
           exact qe_done rfl
          apply hb_ex _ rfl rfl rfl
          ·intro w1
           refine r_move rfl rfl (hl_nil ?_)
           exact qe_done rfl
          apply hb_ex _ rfl rfl rfl
          ·intro w1
           refine r_elem (α := Int) pr v rfl T.u_ints T.sz_int rfl rfl hv (by repeat constructor) rfl hv3 (by decide) ?_
           refine hl_nil ?_
           exact qe_done rfl
          apply hb_ex _ rfl rfl rfl
          ·intro w1
           refine r_load (v := int (pr.getD v default)) rfl T.cell_int rfl (cell_row (by repeat constructor) (rows_get0 hv3 rfl)) ?_
           refine hl_nil ?_
           exact qe_done rfl
          refine hb_nil ⟨rfl, ?_⟩
          refine r_add (a := b) (b := pr.getD v default) (b + pr.getD v default) rfl rfl rfl rfl (by unfold I64; omega) ?_
          refine r_fieldAddr ⟨_, 2, none⟩ rfl rfl T.fa_bold_hand_2 rfl ?_
          refine r_store rfl rfl (.refl _) T.sz_int rfl rfl ?_
          refine hl_nil (inb_n (then_n (hc_region ?_)))
          refine r_add _ rfl rfl rfl rfl (by unfold I64; omega) ?_
          refine r_move rfl rfl (hl_nil ?_)
          exact again _ (j + 1, b + pr.getD v default) ⟨by show j + 1 ≤ _; omega, hb2'.symm, fun i hi => (Nat.lt_succ_iff_lt_or_eq.1 hi).elim (hjp i) fun e => by subst e; rw [hv, Int.toNat_natCast]; exact Int.not_lt.1 hb11⟩ (by show (pickK k hs.length).length - (j + 1) < (pickK k hs.length).length - j; omega) ⟨rfl, rfl, rfl, rfl, rfl, rfl, rfl, rfl, rfl, rfl, rfl, trivial⟩ (.refl _) ⟨(by repeat constructor), (by repeat constructor), (by repeat constructor), (by repeat constructor), (by repeat constructor), (by repeat constructor), (by repeat constructor), (by repeat constructor), (by repeat constructor), (by repeat constructor), trivial⟩
        ·have hb10' := hb10; try simp at hb10'
         have hj2 : j = (pickK k hs.length).length := by omega
         rw [hj2, List.take_of_length_le (Nat.le_of_eq (priP_len ..))] at hbs
         rw [hj2] at hjp
         have hall := all_take (l := (pickK k hs.length)) (p := fun v => 0 ≤ (hs.getD v.toNat default).2.1) hjp
         refine hc_exit (then_exit (then_exit (inb_hit (then_n (hc_seq (hc_seq (hc_region (r_move rfl rfl ?_))))))))
         refine r_len_sl rfl T.u_ints rfl ?_
         refine r_move rfl rfl (hl_nil (then_n (hc_block ?_)))
         refine hc_loop (β := Nat) ⟨fun i => i ≤ ws.length ∧ ∀ q, q < i → ((pickK k hs.length).any fun x => (((reachK (trOf cs hs) p hs.length)).getD (ws.getD q default).toNat default).getD x.toNat default) = true, fun i => [(1, .slice PA pr.length pc), (2, .slice WA ws.length wc), (4, .pointer (some ⟨gT, 0, none⟩)), (16, .pointer (some ⟨gB, 0, none⟩)), (17, .pointer (some ⟨g17, 0, none⟩)), (19, .pointer (some ⟨gh, 0, none⟩)), (75, int (N : Int)), (76, int k), (109, .slice WA ws.length wc), (110, int ws.length), (111, int i)], fun _ => [(gh, Obj.cells #[.slice (some ⟨gc, 0, none⟩) (pickK k hs.length).length (pickK k hs.length).length, int 0, int b] T.bold_hand (0, 0)), (gB, Obj.cells (offA y ok F.bold_Found_1) T.bold_best_wayzgoose_bold_hand (0, 0))], fun _ => [Row (some ⟨gc, 0, none⟩) (rows (pickK k hs.length)), Blk gT (Obj.cells #[.slice A cs.length ca, .slice B hs.length cb] T.api_Trades (0, 0)), Row A (rows cs), RowsF B hs Hd.row, Row PA (rows pr), Row WA (rows ws), Row (some ⟨g17, 0, none⟩) (rows [((⟨some ⟨go, 0, none⟩, hs.length, ps⟩) : Sl (Sl Bool))]), Row (some ⟨go, 0, none⟩) (rows ps), innerF ps, y.row]⟩ (fun i => ws.length - i) 0 ⟨Nat.zero_le _, fun j hj => absurd hj (Nat.not_lt_zero j)⟩ ⟨rfl, rfl, rfl, rfl, rfl, rfl, rfl, rfl, rfl, rfl, rfl, trivial⟩ (.refl _) ⟨(by repeat constructor), (by repeat constructor), (by repeat constructor), (by repeat constructor), (by repeat constructor), (by repeat constructor), (by repeat constructor), (by repeat constructor), (by repeat constructor), (by repeat constructor), trivial⟩ fun i hi => ?_
         obtain ⟨hi, hq⟩ := hi
         refine hc_seq (hc_region (r_lss rfl rfl rfl (hl_nil (then_n (hc_seq ?_)))))
         refine c_dec rfl (fun hb12 => ?_) (fun hb12 => ?_)
         ·have hb12' := hb12; try simp at hb12'
          have hi2 : i < ws.length := by omega
          have hwi := hq2 _ (getD_mem hi2)
          obtain ⟨u, hu⟩ : ∃ u : Nat, (ws.getD i default) = (u : Int) := ⟨_, (Int.toNat_of_nonneg hwi.1).symm⟩
          have hu2 : u < hs.length := by omega
          refine hc_skip (then_n (hc_seq (hc_block (hc_seq (hc_region ?_)))))
          refine r_elem (α := Int) _ _ rfl T.u_ints T.sz_int rfl rfl rfl (by repeat constructor) rfl (by omega) (by decide) ?_
          refine r_load rfl T.cell_int rfl (cell_row (by repeat constructor) (rows_get0 (by omega) rfl)) ?_
          refine r_alloc rfl (fun _ => T.al_int _) fun g23 => ?_
          refine r_store rfl rfl (.refl _) T.sz_int rfl rfl ?_
          refine hl_letgo (rows [(u : Int)]) (by show [int (u : Int)] <+: [int (ws.getD i default)]; rw [hu]; exact List.prefix_refl _) ?_
          refine hl_nil (then_n (hc_seq (hc_region ?_)))
          refine r_fieldAddr ⟨_, 0, none⟩ rfl rfl T.fa_bold_hand_0 rfl ?_
          refine r_load (v := .slice (some ⟨gc, 0, none⟩) (pickK k hs.length).length (pickK k hs.length).length) rfl T.cell_ints rfl (cell_own (by repeat constructor) rfl) ?_
          refine r_makeFunc rfl rfl rfl ?_
          have hpu : (ps.getD u default).l = ((reachK (trOf cs hs) p hs.length)).getD u default := by rw [← hpm, getD_at (l := ps.map (·.l)) (k := u) (by rw [List.length_map]; omega), getD_at (l := ps) (k := u) (by omega), List.getElem_map]
          have hpl9 : (ps.getD u default).l.length = hs.length := by rw [hpu, getD_at (by unfold reachK; simp; omega)]; unfold reachK; simp only [List.getElem_map, List.getElem_range]; rw [rdK_len, reach_len h0 hu2]
          refine hl_call F.slices_ContainsFunc_ints_cb rfl rfl (slices_ContainsFunc_ints_meets (A := some ⟨gc, 0, none⟩) (cap := [.pointer (some ⟨g17, 0, none⟩), .pointer (some ⟨g23, 0, none⟩)]) (L0 := [Row (some ⟨g17, 0, none⟩) (rows [((⟨some ⟨go, 0, none⟩, hs.length, ps⟩) : Sl (Sl Bool))]), Row (some ⟨g23, 0, none⟩) (rows [(u : Int)]), Row (some ⟨go, 0, none⟩) (rows ps), innerF ps]) (pickK k hs.length) (fun x => (ps.getD u default).l.getD x.toNat default) (by omega) F.bold_Found_2_cb (fun x hx => by
            have h9 := hpi x hx
            obtain ⟨x', rfl⟩ : ∃ x' : Nat, x = (x' : Int) := ⟨x.toNat, by omega⟩
            rw [Int.toNat_natCast]
            exact bold_Found_2_meets ps u x' (by omega) (by omega))) (List.Perm.refl _) ⟨(by repeat constructor), (by repeat constructor), (by repeat constructor), (by repeat constructor), (by repeat constructor), trivial⟩ fun _ _ => ?_
          rw [hpu]
          refine r_not rfl rfl (hl_nil (then_n ?_))
          refine hc_cond rfl (fun hb13 => ?_) (fun hb13 => ?_)
          ·have hb13' := hb13; try simp at hb13'
           refine hc_exit (inb_miss rfl (then_exit (then_exit (inb_miss rfl (then_exit (inb_hit (then_n (hc_region ?_))))))))
           refine r_add _ rfl rfl rfl rfl (by unfold I64; omega) ?_
           refine r_move rfl rfl (hl_nil ?_)
           have hy8 := hy
           exact again _ (k + 1, y, ok) ⟨by show k + 1 ≤ N; omega, by show (Hv.dat y, ok) = bestL ordP (fndL hs (reachK (trOf cs hs) p hs.length) pr ws (k + 1)); rw [fndL_succ, if_neg (fnd_no_want hi2 (by rw [hu, Int.toNat_natCast]; exact eq_false_of_ne_true (by simpa using hb13)))]; exact hb, hy8⟩ (by show N - (k + 1) < N - k; omega) ⟨rfl, rfl, rfl, rfl, rfl, rfl, rfl, trivial⟩ (.cons _ (.refl _)) ⟨(by repeat constructor), (by repeat constructor), (by repeat constructor), (by repeat constructor), (by repeat constructor), (by repeat constructor), (by repeat constructor), (by repeat constructor), (by repeat constructor), trivial⟩
          ·have hb13' := hb13; try simp at hb13'
           refine hc_skip (inb_n (then_n (hc_region ?_)))
           refine r_add _ rfl rfl rfl rfl (by unfold I64; omega) ?_
           refine r_move rfl rfl (hl_nil ?_)
           exact again _ (i + 1) ⟨by show i + 1 ≤ ws.length; omega, fun q hq' => (Nat.lt_succ_iff_lt_or_eq.1 hq').elim (hq q) fun e => by subst e; rw [hu, Int.toNat_natCast]; simpa using hb13⟩ (by show ws.length - (i + 1) < ws.length - i; omega) ⟨rfl, rfl, rfl, rfl, rfl, rfl, rfl, rfl, rfl, rfl, rfl, trivial⟩ (.refl _) ⟨(by repeat constructor), (by repeat constructor), (by repeat constructor), (by repeat constructor), (by repeat constructor), (by repeat constructor), (by repeat constructor), (by repeat constructor), (by repeat constructor), (by repeat constructor), trivial⟩
         ·have hb12' := hb12; try simp at hb12'
          have hi2 : i = ws.length := by omega
          rw [hi2] at hq
          have hall2 := all_take (l := ws) (p := fun w => ((pickK k hs.length).any fun x => (((reachK (trOf cs hs) p hs.length)).getD w.toNat default).getD x.toNat default) = true) hq
          refine hc_exit (then_exit (then_exit (inb_hit (then_n (hc_region ?_)))))
          refine r_loadA (cs := #[.slice (some ⟨gc, 0, none⟩) (pickK k hs.length).length (pickK k hs.length).length, int 0, int b]) rfl T.row_bold_hand T.sz_bold_hand rfl (by repeat constructor) rfl ?_
          refine hl_call F.bold_best_bold_hand_offer_cb rfl rfl (bold_best_bold_hand_offer_meets ord_Found ((⟨some ⟨gc, 0, none⟩, (pickK k hs.length).length, (pickK k hs.length)⟩, 0, b) : Hv) y ok (by show (pickK k hs.length).length ≤ 1000000; omega) (by omega)) (List.Perm.swap _ _ _) ⟨(by repeat constructor), (by repeat constructor), trivial⟩ fun z hz => ?_
          obtain ⟨z, zk⟩ := z
          obtain ⟨hz, hzi⟩ := hz
          refine hl_nil (inb_n (then_n (hc_region ?_)))
          refine r_add _ rfl rfl rfl rfl (by unfold I64; omega) ?_
          refine r_move rfl rfl (hl_nil ?_)
          have hyes := fnd_yes (ws := ws) (rs := (reachK (trOf cs hs) p hs.length)) hall hall2
          have hXd : Hv.dat ((⟨some ⟨gc, 0, none⟩, (pickK k hs.length).length, (pickK k hs.length)⟩, 0, b) : Hv) = fndH pr (pickK k hs.length) := by show ((pickK k hs.length), (0 : Int), b) = _; rw [hbs]; rfl
          rcases hzi with rfl | rfl
          · have hy8 : ((⟨some ⟨gc, 0, none⟩, (pickK k hs.length).length, (pickK k hs.length)⟩, 0, b) : Hv).1.l.length ≤ 8 := by first | exact hy | (show (pickK k hs.length).length ≤ 8; omega)
            exact again _ (k + 1, ((⟨some ⟨gc, 0, none⟩, (pickK k hs.length).length, (pickK k hs.length)⟩, 0, b) : Hv), zk) ⟨by show k + 1 ≤ N; omega, by show (Hv.dat ((⟨some ⟨gc, 0, none⟩, (pickK k hs.length).length, (pickK k hs.length)⟩, 0, b) : Hv), zk) = bestL ordP (fndL hs (reachK (trOf cs hs) p hs.length) pr ws (k + 1)); rw [fndL_succ, if_pos hyes, best_snoc, ← hb, ← hXd]; exact hz, hy8⟩ (by show N - (k + 1) < N - k; omega) ⟨rfl, rfl, rfl, rfl, rfl, rfl, rfl, trivial⟩ (by first | exact .cons_cons _ (List.nil_sublist _) | exact .cons _ (.refl _)) ⟨(by repeat constructor), (by repeat constructor), (by repeat constructor), (by repeat constructor), (by repeat constructor), (by repeat constructor), (by repeat constructor), (by repeat constructor), (by repeat constructor), trivial⟩
          · have hy8 : z.1.l.length ≤ 8 := by first | exact hy | (show (pickK k hs.length).length ≤ 8; omega)
            exact again _ (k + 1, z, zk) ⟨by show k + 1 ≤ N; omega, by show (Hv.dat z, zk) = bestL ordP (fndL hs (reachK (trOf cs hs) p hs.length) pr ws (k + 1)); rw [fndL_succ, if_pos hyes, best_snoc, ← hb, ← hXd]; exact hz, hy8⟩ (by show N - (k + 1) < N - k; omega) ⟨rfl, rfl, rfl, rfl, rfl, rfl, rfl, trivial⟩ (by first | exact .cons_cons _ (List.nil_sublist _) | exact .cons _ (.refl _)) ⟨(by repeat constructor), (by repeat constructor), (by repeat constructor), (by repeat constructor), (by repeat constructor), (by repeat constructor), (by repeat constructor), (by repeat constructor), (by repeat constructor), trivial⟩
       ·have hb9' := hb9; try simp at hb9'
        have hk2 : k = N := by omega
        rw [hk2, hN] at hb
        have hb : (y.dat, ok) = fndB (trOf cs hs) hs pr ws p := hb
        refine hc_exit (then_exit (then_exit (inb_hit (then_n (hc_seq (hc_seq (hc_region ?_)))))))
        refine r_fieldAddr ⟨_, 3, none⟩ rfl rfl T.fa_bold_best_wayzgoose_bold_hand_1 rfl ?_
        refine r_load (v := .bool ok) rfl T.cell_bool rfl (cell_own (by repeat constructor) rfl) ?_
        refine r_not rfl rfl (hl_nil (then_n ?_))
        refine hc_cond rfl (fun hb14 => ?_) (fun hb14 => ?_)
        ·have hb14' := hb14; try simp at hb14'
         refine hc_seq (hc_region (r_assign rfl rfl (r_assign rfl rfl (r_assign rfl rfl (hl_nil (then_n (hc_ret (then_ret (ng_ret ?_)))))))))
         have hE : foundE cs hs pr ws p = ([], 0, 11) := by rw [foundE, if_neg (Classical.not_not.2 h0), if_neg h2, if_neg h3, if_neg (Classical.not_not.2 hq1), if_neg (Classical.not_not.2 hq2), if_neg (Classical.not_not.2 h8), ← hb]; exact if_pos (by simpa using hb14)
         refine hq_nilrow (α := Int) ?_
         exact ret3 (none, 0) rfl rfl rfl rfl (by show Value.tuple #[.slice none (foundE cs hs pr ws p).1.length 0, int (foundE cs hs pr ws p).2.1, int (foundE cs hs pr ws p).2.2] = _; rw [hE] <;> rfl) rfl trivial (List.nil_sublist _) (by show LSub _ [Row none (rows (foundE cs hs pr ws p).1)]; rw [hE]; exact ⟨(by repeat constructor), trivial⟩)
        ·have hb14' := hb14; try simp at hb14'
         refine hc_skip (then_n (hc_seq ?_))
         refine hc_draw 7 mixed (by decide) (by decide) rfl rfl ?_
         apply hb_ex _ rfl rfl rfl
         ·intro w1
          refine r_fieldAddr ⟨_, 0, none⟩ rfl rfl T.fa_bold_best_wayzgoose_bold_hand_0 rfl ?_
          refine hl_nil ?_
          exact qe_done rfl
         apply hb_ex _ rfl rfl rfl
         ·intro w1
          refine r_fieldAddr ⟨_, 0, none⟩ rfl rfl T.fa_bold_hand_0 rfl ?_
          refine hl_nil ?_
          exact qe_done rfl
         apply hb_ex _ rfl rfl rfl
         ·intro w1
          refine r_load rfl T.cell_ints rfl (cell_blk (by repeat constructor) rfl) ?_
          refine hl_nil ?_
          exact qe_done rfl
         apply hb_ex _ rfl rfl rfl
         ·intro w1
          refine r_fieldAddr ⟨_, 0, none⟩ rfl rfl T.fa_bold_best_wayzgoose_bold_hand_0 rfl ?_
          refine hl_nil ?_
          exact qe_done rfl
         apply hb_ex _ rfl rfl rfl
         ·intro w1
          refine r_fieldAddr ⟨_, 2, none⟩ rfl rfl T.fa_bold_hand_2 rfl ?_
          refine hl_nil ?_
          exact qe_done rfl
         apply hb_ex _ rfl rfl rfl
         ·intro w1
          refine r_load rfl T.cell_int rfl (cell_blk (by repeat constructor) rfl) ?_
          refine hl_nil ?_
          exact qe_done rfl
         apply hb_ex _ rfl rfl rfl
         ·intro w1
          refine r_assign rfl rfl (hl_nil ?_)
          exact qe_done rfl
         refine hb_nil ⟨rfl, ?_⟩
         refine r_assign rfl rfl (r_assign rfl rfl (hl_nil (then_n (hc_ret (ng_ret ?_)))))
         have hE : foundE cs hs pr ws p = (y.1.l, y.2.2, 0) := by rw [foundE, if_neg (Classical.not_not.2 h0), if_neg h2, if_neg h3, if_neg (Classical.not_not.2 hq1), if_neg (Classical.not_not.2 hq2), if_neg (Classical.not_not.2 h8), ← hb]; exact if_neg (by simpa using hb14)
         exact ret3 (y.1.a, y.1.c) rfl rfl rfl rfl (by show Value.tuple #[.slice y.1.a (foundE cs hs pr ws p).1.length y.1.c, int (foundE cs hs pr ws p).2.1, int (foundE cs hs pr ws p).2.2] = _; rw [hE] <;> rfl) rfl trivial (List.nil_sublist _) (by show LSub _ [Row y.1.a (rows (foundE cs hs pr ws p).1)]; rw [hE]; exact ⟨(by repeat constructor), trivial⟩)
end Go.Proofs.Ytdlbbfcfahahdaa
end
section
namespace Go.Proofs.Ytdlbbfcfahahdaa
open Go Go.W
set_option linter.unusedVariables false
set_option linter.unusedSimpArgs false
set_option maxRecDepth 20000
attribute [local irreducible] HL HC HQ HB Row Rows2 Blk Facts
theorem pay_bills : billsE ctrC [0, 0, 3] ctrA = ([9, 27, 120], 0) := by kernel_rfl
theorem pay_worth : worthE ctrC [0, 0, 3] someA (1, 1, 1) = (8, 0) := by kernel_rfl
theorem pay_fill : fillE law_cards 5 = ([0, 1], 80, 0) := by kernel_rfl
theorem pay_sheets : sheetsE 100 12 4 = (3, 44, 0) := by kernel_rfl
theorem pay_found (g1 g2 : Nat) : foundE shopsC (shopsH g1 g2) [5, 9, 4, 7, 6, 9] [1, 2] 1 = ([2, 3], 11, 0) := by kernel_rfl
theorem ex_bills (x : Nat × Nat) : Meets Try.prog F.bold_Bills [saV ctrC (ctrP x.1) (ctrQ x.2)] { LI := saL (ctrP x.1) (ctrQ x.2), inv := fun y : OutC => 3 ≤ y.2, val := fun y => .tuple #[.slice y.1 3 y.2, int 0], LO := fun y => [Row y.1 (rows ([9, 27, 120] : List Int))] } := by
  have h := bold_Bills_meets ctrC (ctrP x.1) (ctrQ x.2) (show 3 ≤ 1000000 by decide) (show 3 ≤ 1000000 by decide)
  rw [show billsE ctrC (ctrP x.1).l (ctrQ x.2).l = ([9, 27, 120], 0) from pay_bills] at h
  exact h
theorem ex_worth (x : Nat × Nat) : Meets Try.prog F.bold_Worth [saV ctrC (ctrP x.1) (someQ x.2), adV (1, 1, 1)] { LI := saL (ctrP x.1) (someQ x.2), val := fun _ : Unit => .tuple #[int 8, int 0] } := by
  have h := bold_Worth_meets ctrC (ctrP x.1) (someQ x.2) (1, 1, 1) (show 3 ≤ 1000000 by decide) (show 2 ≤ 1000000 by decide) (Nat.le_refl 2)
  rw [show worthE ctrC (ctrP x.1).l (someQ x.2).l (1, 1, 1) = (8, 0) from pay_worth] at h
  exact h
theorem ex_fill (g : Nat) : Meets Try.prog F.bold_Fill [.slice (some ⟨g, 0, none⟩) 3 3, int 5] { LI := [Row (some ⟨g, 0, none⟩) (rows law_cards)], val := fun y : OutC => .tuple #[.slice y.1 2 y.2, int 80, int 0], LO := fun y => [Row y.1 (rows ([0, 1] : List Int))] } := by
  have h := bold_Fill_meets (A := some ⟨g, 0, none⟩) (ca := 3) law_cards 5 (by decide)
  rw [pay_fill] at h
  exact h
theorem ex_sheets : Meets Try.prog F.bold_Sheets [int 100, int 12, int 4] { val := fun _ : Unit => .tuple #[int 3, int 44, int 0] } := by
  have h := bold_Sheets_meets 100 12 4
  rw [pay_sheets] at h
  exact h
theorem ex_found (x : Nat × Nat × Nat × Nat) (g h : Nat) : Meets Try.prog F.bold_Found [.agg #[.slice (some ⟨x.1, 0, none⟩) 4 4, .slice (some ⟨x.2.1, 0, none⟩) 6 6], .slice (some ⟨g, 0, none⟩) 6 6, .slice (some ⟨h, 0, none⟩) 2 2, int 1] { LI := [Row (some ⟨x.1, 0, none⟩) (rows shopsC), RowsF (some ⟨x.2.1, 0, none⟩) (shopsH x.2.2.1 x.2.2.2) Hd.row, Row (some ⟨g, 0, none⟩) (rows ([5, 9, 4, 7, 6, 9] : List Int)), Row (some ⟨h, 0, none⟩) (rows ([1, 2] : List Int))], val := fun y : OutC => .tuple #[.slice y.1 2 y.2, int 11, int 0], LO := fun y => [Row y.1 (rows ([2, 3] : List Int))] } := by
  have h := bold_Found_meets (A := some ⟨x.1, 0, none⟩) (B := some ⟨x.2.1, 0, none⟩) (PA := some ⟨g, 0, none⟩) (WA := some ⟨h, 0, none⟩) (ca := 4) (cb := 6) (pc := 6) (wc := 2) shopsC (shopsH x.2.2.1 x.2.2.2) [5, 9, 4, 7, 6, 9] [1, 2] 1 (by decide) (Nat.le_refl 6) (by intro h hh; simp only [shopsH, List.mem_cons, List.not_mem_nil, or_false] at hh; rcases hh with rfl | rfl | rfl | rfl | rfl | rfl <;> first | decide | exact (show 1 ≤ 1000000 by decide)) (by decide) (by decide)
  rw [pay_found] at h
  exact h
theorem ex_ints3 {A B : Option Addr} {ca cb : Nat} : Meets Try.prog F.kit_EqInts [.slice A 3 ca, .slice B 3 cb] { LI := [Row A (rows ([9, 27, 120] : List Int)), Row B (rows ([9, 27, 120] : List Int))], val := fun _ : Unit => .bool true } := by
  have h := kit_EqInts_meets (A := A) (B := B) (ca := ca) (cb := cb) [9, 27, 120] [9, 27, 120] (by decide)
  rw [decide_eq_true rfl] at h
  exact h
theorem ex_ints2 {A B : Option Addr} {ca cb : Nat} (a b : Int) : Meets Try.prog F.kit_EqInts [.slice A 2 ca, .slice B 2 cb] { LI := [Row A (rows [a, b]), Row B (rows [a, b])], val := fun _ : Unit => .bool true } := by
  have h := kit_EqInts_meets (A := A) (B := B) (ca := ca) (cb := cb) [a, b] [a, b] (show 2 ≤ 9223372036854775806 by decide)
  rw [decide_eq_true rfl] at h
  exact h
set_option maxHeartbeats 1000000 in
theorem law09_paying_meets : Meets Try.prog F.law09_paying [] { val := fun _ : Unit => .bool true } := by
 refine meets_intro F.law09_paying_f rfl (Nat.le_of_ble_eq_true rfl) fun w0 => ?_
 refine hc_seq (hc_region (r_assign rfl rfl (hl_nil (then_n (hc_seq (hc_region ?_))))))
 refine hl_call F.law09_counter_cb rfl rfl (law09_counter_meets) (List.Perm.refl _) trivial fun x1 _ => ?_
 refine hl_call F.bold_Bills_cb rfl rfl (ex_bills x1) (List.Perm.refl _) ⟨(by repeat constructor), (by repeat constructor), trivial⟩ fun y1 _ => ?_
 refine r_move rfl rfl (r_extract rfl rfl rfl (r_extract rfl rfl rfl (r_assign rfl rfl (r_assign rfl rfl (hl_nil (then_n (hc_seq (hc_region ?_))))))))
 refine hl_call F.law09_some_cb rfl rfl (law09_some_meets) (List.Perm.refl _) trivial fun x2 _ => ?_
 refine r_build _ rfl rfl (fun _ => T.bd_api_Advert_0_1_2 ..) ?_
 refine hl_call F.bold_Worth_cb rfl rfl (ex_worth x2) (List.Perm.refl _) ⟨(by repeat constructor), (by repeat constructor), trivial⟩ fun _ _ => ?_
 refine r_move rfl rfl (r_extract rfl rfl rfl (r_extract rfl rfl rfl (r_assign rfl rfl (r_assign rfl rfl (hl_nil (then_n (hc_seq (hc_region ?_))))))))
 refine hl_call F.law09_cards_cb rfl rfl (law09_cards_meets) (List.Perm.refl _) trivial fun x3 _ => ?_
 refine hl_call F.bold_Fill_cb rfl rfl (ex_fill x3) (List.Perm.refl _) ⟨(by repeat constructor), trivial⟩ fun y3 _ => ?_
 refine r_move rfl rfl (r_extract rfl rfl rfl (r_extract rfl rfl rfl (r_extract rfl rfl rfl (r_assign rfl rfl (r_assign rfl rfl (r_assign rfl rfl (hl_nil (then_n (hc_seq (hc_region ?_))))))))))
 refine hl_call F.law09_shops_cb rfl rfl (law09_shops_meets) (List.Perm.refl _) trivial fun x4 _ => ?_
 refine hl_call F.law09_rates_cb rfl rfl (law09_rates_meets) (List.Perm.refl _) trivial fun x5 _ => ?_
 refine r_buildSlice _ rfl rfl (fun _ => T.bs_ints_2 ..) fun gw => ?_
 refine hl_letgo (rows ([1, 2] : List Int)) (List.prefix_refl _) ?_
 refine hl_call F.bold_Found_cb rfl rfl (ex_found x4 x5 gw) (List.Perm.refl _) ⟨(by repeat constructor), (by repeat constructor), (by repeat constructor), (by repeat constructor), trivial⟩ fun y4 _ => ?_
 refine r_move rfl rfl (r_extract rfl rfl rfl (r_extract rfl rfl rfl (r_extract rfl rfl rfl (r_assign rfl rfl (r_assign rfl rfl (r_assign rfl rfl (hl_nil (then_n (hc_seq (hc_region ?_))))))))))
 refine hl_call F.bold_Sheets_cb rfl rfl (ex_sheets) (List.Perm.refl _) trivial fun _ _ => ?_
 refine r_move rfl rfl (r_extract rfl rfl rfl (r_extract rfl rfl rfl (r_extract rfl rfl rfl (r_assign rfl rfl (r_assign rfl rfl (r_assign rfl rfl (hl_nil (then_n (hc_seq (hc_region (r_move rfl rfl ?_)))))))))))
 refine r_eql rfl rfl rfl (r_move rfl rfl ?_)
 refine g_split rfl rfl ?_ ?_
 ·intro hg1; have hg1' := hg1; try simp at hg1'
  refine g_yes rfl rfl hg1 (r_move rfl rfl (g_yes rfl rfl hg1 (r_eql rfl rfl rfl ?_)))
  refine p_t rfl rfl (bt1 hg1) rfl ?_
  refine r_move rfl rfl ?_
  refine g_split rfl rfl ?_ ?_
  ·intro hg2; have hg2' := hg2; try simp at hg2'
   refine g_yes rfl rfl hg2 (r_move rfl rfl (g_yes rfl rfl hg2 (r_eql rfl rfl rfl ?_)))
   refine p_t rfl rfl (bt1 hg2) rfl ?_
   refine r_move rfl rfl ?_
   refine g_split rfl rfl ?_ ?_
   ·intro hg3; have hg3' := hg3; try simp at hg3'
    refine g_yes rfl rfl hg3 (r_move rfl rfl (g_yes rfl rfl hg3 (r_eql rfl rfl rfl ?_)))
    refine p_t rfl rfl (bt1 hg3) rfl ?_
    refine r_move rfl rfl ?_
    refine g_split rfl rfl ?_ ?_
    ·intro hg4; have hg4' := hg4; try simp at hg4'
     refine g_yes rfl rfl hg4 (r_move rfl rfl (g_yes rfl rfl hg4 (r_eql rfl rfl rfl ?_)))
     refine p_t rfl rfl (bt1 hg4) rfl ?_
     refine r_move rfl rfl ?_
     refine g_split rfl rfl ?_ ?_
     ·intro hg5; have hg5' := hg5; try simp at hg5'
      refine g_yes rfl rfl hg5 (r_move rfl rfl (g_yes rfl rfl hg5 (r_eql rfl rfl rfl ?_)))
      refine p_t rfl rfl (bt1 hg5) rfl ?_
      refine r_move rfl rfl ?_
      refine g_split rfl rfl ?_ ?_
      ·intro hg6; have hg6' := hg6; try simp at hg6'
       refine g_yes rfl rfl hg6 (r_move rfl rfl (g_yes rfl rfl hg6 (r_eql rfl rfl rfl ?_)))
       refine p_t rfl rfl (bt1 hg6) rfl ?_
       refine r_move rfl rfl ?_
       refine g_split rfl rfl ?_ ?_
       ·intro hg7; have hg7' := hg7; try simp at hg7'
        refine g_yes rfl rfl hg7 (r_move rfl rfl (g_yes rfl rfl hg7 (r_eql rfl rfl rfl ?_)))
        refine p_t rfl rfl (bt1 hg7) rfl ?_
        refine r_move rfl rfl ?_
        refine g_split rfl rfl ?_ ?_
        ·intro hg8; have hg8' := hg8; try simp at hg8'
         refine g_yes rfl rfl hg8 (r_move rfl rfl (g_yes rfl rfl hg8 (r_eql rfl rfl rfl ?_)))
         refine p_t rfl rfl (bt1 hg8) rfl ?_
         refine r_move rfl rfl ?_
         refine g_split rfl rfl ?_ ?_
         ·intro hg9; have hg9' := hg9; try simp at hg9'
          refine g_yes rfl rfl hg9 (r_move rfl rfl (g_yes rfl rfl hg9 (r_eql rfl rfl rfl ?_)))
          refine p_t rfl rfl (bt1 hg9) rfl ?_
          refine r_move rfl rfl ?_
          refine g_split rfl rfl ?_ ?_
          ·intro hg10; have hg10' := hg10; try simp at hg10'
           refine g_yes rfl rfl hg10 (r_move rfl rfl (g_yes rfl rfl hg10 ?_))
           refine r_buildSlice _ rfl rfl (fun _ => T.bs_ints_3 ..) fun g40 => ?_
           refine hl_letgo (rows ([9, 27, 120] : List Int)) (List.prefix_refl _) ?_
           refine g_yes rfl rfl hg10 ?_
           refine hl_call F.kit_EqInts_cb rfl rfl (ex_ints3) (List.Perm.refl _) ⟨(by repeat constructor), (by repeat constructor), trivial⟩ fun _ _ => ?_
           refine p_t rfl rfl (bt1 hg10) rfl ?_
           refine r_move rfl rfl ?_
           refine g_split rfl rfl ?_ ?_
           ·intro hg11; have hg11' := hg11; try simp at hg11'
            refine g_yes rfl rfl hg11 (r_move rfl rfl (g_yes rfl rfl hg11 ?_))
            refine r_buildSlice _ rfl rfl (fun _ => T.bs_ints_2 ..) fun g45 => ?_
            refine hl_letgo (rows ([0, 1] : List Int)) (List.prefix_refl _) ?_
            refine g_yes rfl rfl hg11 ?_
            refine hl_call F.kit_EqInts_cb rfl rfl (ex_ints2 0 1) (List.Perm.refl _) ⟨(by repeat constructor), (by repeat constructor), trivial⟩ fun _ _ => ?_
            refine p_t rfl rfl (bt1 hg11) rfl ?_
            refine r_move rfl rfl ?_
            refine g_split rfl rfl ?_ ?_
            ·intro hg12; have hg12' := hg12; try simp at hg12'
             refine g_yes rfl rfl hg12 (r_move rfl rfl (g_yes rfl rfl hg12 ?_))
             refine r_buildSlice _ rfl rfl (fun _ => T.bs_ints_2 ..) fun g50 => ?_
             refine hl_letgo (rows ([2, 3] : List Int)) (List.prefix_refl _) ?_
             refine g_yes rfl rfl hg12 ?_
             refine hl_call F.kit_EqInts_cb rfl rfl (ex_ints2 2 3) (List.Perm.refl _) ⟨(by repeat constructor), (by repeat constructor), trivial⟩ fun _ _ => ?_
             refine p_t rfl rfl (bt1 hg12) rfl ?_
             refine r_assign rfl rfl (hl_nil (then_n (hc_ret ?_)))
             exact ret1 () rfl rfl rfl trivial (List.nil_sublist _) trivial
            ·intro hg12; have hg12' := hg12; try simp at hg12'
           ·intro hg11; have hg11' := hg11; try simp at hg11'
          ·intro hg10; have hg10' := hg10; try simp at hg10'
         ·intro hg9; have hg9' := hg9; try simp at hg9'
        ·intro hg8; have hg8' := hg8; try simp at hg8'
       ·intro hg7; have hg7' := hg7; try simp at hg7'
      ·intro hg6; have hg6' := hg6; try simp at hg6'
     ·intro hg5; have hg5' := hg5; try simp at hg5'
    ·intro hg4; have hg4' := hg4; try simp at hg4'
   ·intro hg3; have hg3' := hg3; try simp at hg3'
  ·intro hg2; have hg2' := hg2; try simp at hg2'
 ·intro hg1; have hg1' := hg1; try simp at hg1'
end Go.Proofs.Ytdlbbfcfahahdaa
end
section
namespace Go.Proofs.Ytdlbbfcfahahdaa
open Go Go.W
set_option linter.unusedVariables false
set_option linter.unusedSimpArgs false
set_option maxRecDepth 20000
attribute [local irreducible] HL HC HQ HB Row Rows2 Blk Facts
theorem mul_mid {n p q : Int} (hn : 0 ≤ n) (hp : 1 ≤ p) (hq : 1 ≤ q) : (0 ≤ n * p ∧ n * p ≤ n * (p * q)) ∧ n * p * q = n * (p * q) := by
  have h1 : 0 ≤ n * p := Int.mul_nonneg hn (by omega)
  have h2 := Int.mul_le_mul_of_nonneg_left hq h1
  rw [Int.mul_one] at h2
  exact ⟨⟨h1, by rw [← Int.mul_assoc]; exact h2⟩, Int.mul_assoc ..⟩
theorem ref09_within_meets (n lo hi : Int) : Meets Try.prog F.ref09_within [int n, int lo, int hi] { val := fun _ : Unit => .bool (decide (lo ≤ n ∧ n ≤ hi)) } := by
 refine meets_intro F.ref09_within_f rfl (Nat.le_of_ble_eq_true rfl) fun w0 => ?_
 refine hc_seq (hc_region (r_assign rfl rfl (hl_nil (then_n (hc_seq (hc_region (r_move rfl rfl (r_move rfl rfl (r_geq rfl rfl rfl (r_move rfl rfl ?_))))))))))
 refine g_split rfl rfl ?_ ?_
 ·intro hg1; have hg1' := hg1; try simp at hg1'
  refine g_yes rfl rfl hg1 (r_move rfl rfl (g_yes rfl rfl hg1 (r_move rfl rfl (g_yes rfl rfl hg1 (r_leq rfl rfl rfl ?_)))))
  refine p_t rfl rfl (bt1 hg1) rfl ?_
  refine r_assign rfl rfl (hl_nil (then_n (hc_ret ?_)))
  exact ret1 () rfl (congrArg (fun b => some (Value.bool b)) (by simp [hg1'])) rfl trivial (List.nil_sublist _) trivial
 ·intro hg1; have hg1' := hg1; try simp at hg1'
  refine g_no rfl rfl rfl rfl rfl hg1 (g_no rfl rfl rfl rfl rfl hg1 (g_no rfl rfl rfl rfl rfl hg1 ?_))
  refine p_f rfl rfl (bf2 hg1) rfl ?_
  refine r_assign rfl rfl (hl_nil (then_n (hc_ret ?_)))
  exact ret1 () rfl (congrArg (fun b => some (Value.bool b)) (by simp [Int.not_le.2 hg1'])) rfl trivial (List.nil_sublist _) trivial
theorem ref09_Sheets_meets (l p q : Int) : Meets Try.prog F.ref09_Sheets [int l, int p, int q] { val := fun _ : Unit => .tuple #[int (sheetsE l p q).1, int (sheetsE l p q).2.1, int (sheetsE l p q).2.2] } := by
 refine meets_intro F.ref09_Sheets_f rfl (Nat.le_of_ble_eq_true rfl) fun w0 => ?_
 refine hc_seq (hc_region (r_assign rfl rfl (r_assign rfl rfl (r_assign rfl rfl (hl_nil (then_n (hc_seq (hc_seq (hc_region (r_move rfl rfl ?_))))))))))
 refine hl_call F.ref09_within_cb rfl rfl (ref09_within_meets _ _ _) (List.Perm.refl _) trivial fun _ _ => ?_
 refine r_not rfl rfl (r_move rfl rfl ?_)
 refine g_split rfl rfl ?_ ?_
 ·intro hg1; have hg1' := hg1; try simp at hg1'
  refine g_yes rfl rfl hg1 (r_move rfl rfl (g_yes rfl rfl hg1 ?_))
  refine hl_call F.ref09_within_cb rfl rfl (ref09_within_meets _ _ _) (List.Perm.refl _) trivial fun _ _ => ?_
  refine g_yes rfl rfl hg1 (r_not rfl rfl ?_)
  refine p_f rfl rfl (bf1 hg1) rfl ?_
  refine r_move rfl rfl ?_
  refine g_split rfl rfl ?_ ?_
  ·intro hg2; have hg2' := hg2; try simp at hg2'
   refine g_yes rfl rfl hg2 (r_move rfl rfl (g_yes rfl rfl hg2 ?_))
   refine hl_call F.ref09_within_cb rfl rfl (ref09_within_meets _ _ _) (List.Perm.refl _) trivial fun _ _ => ?_
   refine g_yes rfl rfl hg2 (r_not rfl rfl ?_)
   refine p_f rfl rfl (bf1 hg2) rfl ?_
   refine hl_nil (then_n ?_)
   first | refine c_dec rfl (fun hb1 => ?_) (fun hb1 => ?_) | refine hc_cond rfl (fun hb1 => ?_) (fun hb1 => ?_)
   ·have hb1' := hb1; try simp at hb1'
    refine hc_seq (hc_region (r_assign rfl rfl (r_assign rfl rfl (r_assign rfl rfl (hl_nil (then_n (hc_ret (then_ret ?_))))))))
    exact ret3 () rfl rfl rfl rfl (by show Value.tuple #[int (sheetsE l p q).1, int (sheetsE l p q).2.1, int (sheetsE l p q).2.2] = _; unfold sheetsE; rw [if_pos (by omega)]) rfl trivial (List.nil_sublist _) trivial
   ·have hb1' := hb1; try simp at hb1'
    have hq2 := nbf hb1
    have hm := mul_1 hg2' hq2
    have hs := sheet_bd hg1'.1 hm.1
    have hmm := mul_mid (p := p) (q := q) hs.1.1 hg2'.1 hq2.1
    refine hc_skip (then_n (hc_seq (hc_region (r_move rfl rfl (r_move rfl rfl (r_move rfl rfl ?_))))))
    refine r_mul _ rfl rfl rfl rfl (by unfold I64; omega) ?_
    refine r_add _ rfl rfl rfl rfl (by unfold I64; omega) ?_
    refine r_sub _ rfl rfl rfl rfl (by unfold I64; omega) ?_
    refine r_move rfl rfl (r_move rfl rfl ?_)
    refine r_mul _ rfl rfl rfl rfl (by unfold I64; omega) ?_
    refine r_quo ((l + p * q - 1).tdiv (p * q)) rfl rfl rfl (by omega) (IntWalk.i64_in _ (by omega)) ?_
    refine r_assign rfl rfl (hl_nil (then_n (hc_seq (hc_region (r_move rfl rfl (r_move rfl rfl (r_move rfl rfl ?_)))))))
    refine r_mul _ rfl rfl rfl rfl (by unfold I64; omega) ?_
    refine r_move rfl rfl ?_
    refine r_mul _ rfl rfl rfl rfl (by unfold I64; omega) ?_
    refine r_move rfl rfl ?_
    refine r_sub _ rfl rfl rfl rfl (by unfold I64; omega) ?_
    refine r_assign rfl rfl (r_assign rfl rfl (r_assign rfl rfl (hl_nil (then_n (hc_ret ?_)))))
    exact ret3 () rfl rfl rfl rfl (by show Value.tuple #[int (sheetsE l p q).1, int (sheetsE l p q).2.1, int (sheetsE l p q).2.2] = _; unfold sheetsE; rw [if_neg (by omega)] <;> (first | rfl | rw [hmm.2])) rfl trivial (List.nil_sublist _) trivial
  ·intro hg2; have hg2' := hg2; try simp at hg2'
   refine g_no rfl rfl rfl rfl rfl hg2 (g_no rfl rfl rfl rfl rfl hg2 (g_no rfl rfl rfl rfl rfl hg2 ?_))
   refine p_t rfl rfl (bt2 hg2) rfl ?_
   refine hl_nil (then_n (c_t rfl rfl (hc_seq (hc_region (r_assign rfl rfl (r_assign rfl rfl (r_assign rfl rfl (hl_nil (then_n (hc_ret (then_ret ?_)))))))))))
   exact ret3 () rfl rfl rfl rfl (by show Value.tuple #[int (sheetsE l p q).1, int (sheetsE l p q).2.1, int (sheetsE l p q).2.2] = _; unfold sheetsE; rw [if_pos (by omega)]) rfl trivial (List.nil_sublist _) trivial
 ·intro hg1; have hg1' := hg1; try simp at hg1'
  refine g_no rfl rfl rfl rfl rfl hg1 (g_no rfl rfl rfl rfl rfl hg1 (g_no rfl rfl rfl rfl rfl hg1 ?_))
  refine p_t rfl rfl (bt2 hg1) rfl ?_
  refine r_move rfl rfl (g_no rfl rfl rfl rfl rfl rfl (g_no rfl rfl rfl rfl rfl rfl (g_no rfl rfl rfl rfl rfl rfl (p_t rfl rfl rfl rfl (hl_nil (then_n (c_t rfl rfl (hc_seq (hc_region (r_assign rfl rfl (r_assign rfl rfl ?_)))))))))))
  refine r_assign rfl rfl (hl_nil (then_n (hc_ret (then_ret ?_))))
  exact ret3 () rfl rfl rfl rfl (by show Value.tuple #[int (sheetsE l p q).1, int (sheetsE l p q).2.1, int (sheetsE l p q).2.2] = _; unfold sheetsE; rw [if_pos (by omega)]) rfl trivial (List.nil_sublist _) trivial
end Go.Proofs.Ytdlbbfcfahahdaa
end
section
namespace Go.Proofs.Ytdlbbfcfahahdaa
open Go Go.W
set_option linter.unusedVariables false
set_option linter.unusedSimpArgs false
set_option maxRecDepth 20000
attribute [local irreducible] HL HC HQ HB Row Rows2 Blk Facts
theorem law09_BoldSheets_meets {A : Option Addr} {c : Nat} (l p q : Int) (nums : List Int) (hn : nums.length ≤ 9223372036854775807) : Meets Try.prog F.law09_BoldSheets [int l, int p, int q, .slice A nums.length c] { LI := [Row A (rows nums)], val := fun _ : Unit => .bool true } := by
 refine meets_intro F.law09_BoldSheets_f rfl (Nat.le_of_ble_eq_true rfl) fun w0 => ?_
 refine hc_seq (hc_region (r_assign rfl rfl (hl_nil (then_n (hc_seq (hc_region (r_move rfl rfl ?_)))))))
 refine hl_call F.kit_NewDice_cb rfl rfl (kit_NewDice_meets nums) (List.Perm.refl _) ⟨(by repeat constructor), trivial⟩ fun g _ => ?_
 refine r_assign rfl rfl (hl_nil (then_n (hc_seq (hc_region (r_move rfl rfl ?_)))))
 refine hl_call F.kit_Dice_From_cb rfl rfl (kit_Dice_From_meets 1 200 hn (dok0 nums) (by decide)) (List.Perm.refl _) ⟨(by repeat constructor), trivial⟩ fun x hx => ?_
 obtain ⟨s1, z1⟩ := x
 obtain ⟨hs1, hz1⟩ := hx
 simp only [FromInv, ToInv] at hz1
 refine r_move rfl rfl ?_
 refine hl_call F.kit_Dice_From_cb rfl rfl (kit_Dice_From_meets 1 64 hn hs1 (by decide)) (List.Perm.refl _) ⟨(by repeat constructor), trivial⟩ fun x hx => ?_
 obtain ⟨s2, z2⟩ := x
 obtain ⟨hs2, hz2⟩ := hx
 simp only [FromInv, ToInv] at hz2
 refine r_assign rfl rfl (r_assign rfl rfl (hl_nil (then_n (hc_seq (hc_region (r_move rfl rfl (r_move rfl rfl ?_)))))))
 have hm := mul_1 (a := z1) (b := z2) (A := 200) (B := 64) (by omega) (by omega)
 refine hl_call F.kit_Dice_To_cb rfl rfl (kit_Dice_To_meets 100000 hn hs2 (by decide)) (List.Perm.refl _) ⟨(by repeat constructor), trivial⟩ fun x hx => ?_
 obtain ⟨s3, z3⟩ := x
 obtain ⟨hs3, hz3⟩ := hx
 simp only [FromInv, ToInv] at hz3
 refine r_move rfl rfl (r_move rfl rfl ?_)
 refine r_mul (z1 * z2) rfl rfl rfl rfl (by unfold I64; omega) ?_
 refine r_move rfl rfl (r_move rfl rfl ?_)
 refine r_mul (z1 * z2) rfl rfl rfl rfl (by unfold I64; omega) ?_
 refine r_add (z1 * z2 + 1) rfl rfl rfl rfl (by unfold I64; omega) ?_
 refine r_move rfl rfl ?_
 refine r_buildSlice _ rfl rfl (fun _ => T.bs_ints_5 ..) fun g1 => ?_
 refine hl_letgo (rows ([l, z3, z1 * z2, z1 * z2 + 1, l] : List Int)) (List.prefix_refl _) ?_
 refine r_move rfl rfl (r_move rfl rfl (r_move rfl rfl (r_move rfl rfl (r_move rfl rfl ?_))))
 refine r_buildSlice _ rfl rfl (fun _ => T.bs_ints_5 ..) fun g2 => ?_
 refine hl_letgo (rows ([p, z1, z1, z1, z1] : List Int)) (List.prefix_refl _) ?_
 refine r_move rfl rfl (r_move rfl rfl (r_move rfl rfl (r_move rfl rfl (r_move rfl rfl ?_))))
 refine r_buildSlice _ rfl rfl (fun _ => T.bs_ints_5 ..) fun g3 => ?_
 refine hl_letgo (rows ([q, z2, z2, z2, z2] : List Int)) (List.prefix_refl _) ?_
 refine r_assign rfl rfl (r_assign rfl rfl (r_assign rfl rfl (hl_nil (then_n (hc_seq (hc_seq (hc_region (r_assign rfl rfl (hl_nil (then_n (hc_block ?_)))))))))))
 refine hc_loop (β := Nat) ⟨fun k => k ≤ 5, fun k => [(12, .slice (some ⟨g1, 0, none⟩) 5 5), (13, .slice (some ⟨g2, 0, none⟩) 5 5), (14, .slice (some ⟨g3, 0, none⟩) 5 5), (15, int k)], fun _ => [], fun _ => [Row (some ⟨g1, 0, none⟩) (rows ([l, z3, z1 * z2, z1 * z2 + 1, l] : List Int)), Row (some ⟨g2, 0, none⟩) (rows ([p, z1, z1, z1, z1] : List Int)), Row (some ⟨g3, 0, none⟩) (rows ([q, z2, z2, z2, z2] : List Int))]⟩ (fun k => 5 - k) 0 (Nat.zero_le _) ⟨rfl, rfl, rfl, rfl, trivial⟩ (List.nil_sublist _) ⟨(by repeat constructor), (by repeat constructor), (by repeat constructor), trivial⟩ fun k hk => ?_
 simp only at hk
 refine hc_seq (hc_seq (hc_region (r_move rfl rfl (r_move rfl rfl ?_))))
 refine r_len_sl rfl T.u_ints rfl ?_
 refine r_lss rfl rfl rfl (hl_nil (then_n ?_))
 refine c_dec rfl (fun hb1 => ?_) (fun hb1 => ?_)
 ·have hb1' := hb1; try simp at hb1'
  have hk2 : k < 5 := by omega
  refine hc_skip (then_n (hc_seq (hc_block (hc_seq ?_))))
  refine hc_draw 19 mixed (by decide) (by decide) rfl rfl ?_
  apply hb_ex _ rfl rfl rfl
  ·intro w1
   refine r_move rfl rfl (hl_nil ?_)
   exact qe_done rfl
  apply hb_ex _ rfl rfl rfl
  ·intro w1
   refine r_move rfl rfl (hl_nil ?_)
   exact qe_done rfl
  apply hb_ex _ rfl rfl rfl
  ·intro w1
   refine r_elem (α := Int) [l, z3, z1 * z2, z1 * z2 + 1, l] k rfl T.u_ints T.sz_int rfl rfl rfl (by repeat constructor) rfl (show k < ([l, z3, z1 * z2, z1 * z2 + 1, l] : List Int).length from hk2) (by decide) ?_
   refine hl_nil ?_
   exact qe_done rfl
  apply hb_ex _ rfl rfl rfl
  ·intro w1
   refine r_load (v := int (([l, z3, z1 * z2, z1 * z2 + 1, l] : List Int).getD k default)) rfl T.cell_int rfl (cell_row (by repeat constructor) (rows_get0 (show k < ([l, z3, z1 * z2, z1 * z2 + 1, l] : List Int).length from hk2) rfl)) ?_
   refine hl_nil ?_
   exact qe_done rfl
  apply hb_ex _ rfl rfl rfl
  ·intro w1
   refine r_move rfl rfl (hl_nil ?_)
   exact qe_done rfl
  apply hb_ex _ rfl rfl rfl
  ·intro w1
   refine r_move rfl rfl (hl_nil ?_)
   exact qe_done rfl
  apply hb_ex _ rfl rfl rfl
  ·intro w1
   refine r_elem (α := Int) [p, z1, z1, z1, z1] k rfl T.u_ints T.sz_int rfl rfl rfl (by repeat constructor) rfl (show k < ([p, z1, z1, z1, z1] : List Int).length from hk2) (by decide) ?_
   refine hl_nil ?_
   exact qe_done rfl
  apply hb_ex _ rfl rfl rfl
  ·intro w1
   refine r_load (v := int (([p, z1, z1, z1, z1] : List Int).getD k default)) rfl T.cell_int rfl (cell_row (by repeat constructor) (rows_get0 (show k < ([p, z1, z1, z1, z1] : List Int).length from hk2) rfl)) ?_
   refine hl_nil ?_
   exact qe_done rfl
  apply hb_ex _ rfl rfl rfl
  ·intro w1
   refine r_move rfl rfl (hl_nil ?_)
   exact qe_done rfl
  apply hb_ex _ rfl rfl rfl
  ·intro w1
   refine r_move rfl rfl (hl_nil ?_)
   exact qe_done rfl
  apply hb_ex _ rfl rfl rfl
  ·intro w1
   refine r_elem (α := Int) [q, z2, z2, z2, z2] k rfl T.u_ints T.sz_int rfl rfl rfl (by repeat constructor) rfl (show k < ([q, z2, z2, z2, z2] : List Int).length from hk2) (by decide) ?_
   refine hl_nil ?_
   exact qe_done rfl
  apply hb_ex _ rfl rfl rfl
  ·intro w1
   refine r_load (v := int (([q, z2, z2, z2, z2] : List Int).getD k default)) rfl T.cell_int rfl (cell_row (by repeat constructor) (rows_get0 (show k < ([q, z2, z2, z2, z2] : List Int).length from hk2) rfl)) ?_
   refine hl_nil ?_
   exact qe_done rfl
  apply hb_ex _ rfl rfl rfl
  ·intro w1
   refine hl_call F.bold_Sheets_cb rfl rfl (bold_Sheets_meets (([l, z3, z1 * z2, z1 * z2 + 1, l] : List Int).getD k default) (([p, z1, z1, z1, z1] : List Int).getD k default) (([q, z2, z2, z2, z2] : List Int).getD k default)) (List.Perm.refl _) trivial fun _ _ => ?_
   refine hl_nil ?_
   exact qe_done rfl
  apply hb_ex _ rfl rfl rfl
  ·intro w1
   refine r_move rfl rfl (hl_nil ?_)
   exact qe_done rfl
  apply hb_ex _ rfl rfl rfl
  ·intro w1
   refine r_extract rfl rfl rfl (hl_nil ?_)
   exact qe_done rfl
  apply hb_ex _ rfl rfl rfl
  ·intro w1
   refine r_extract rfl rfl rfl (hl_nil ?_)
   exact qe_done rfl
  apply hb_ex _ rfl rfl rfl
  ·intro w1
   refine r_extract rfl rfl rfl (hl_nil ?_)
   exact qe_done rfl
  apply hb_ex _ rfl rfl rfl
  ·intro w1
   refine r_assign rfl rfl (hl_nil ?_)
   exact qe_done rfl
  apply hb_ex _ rfl rfl rfl
  ·intro w1
   refine r_assign rfl rfl (hl_nil ?_)
   exact qe_done rfl
  refine hb_nil ⟨rfl, ?_⟩
  refine r_assign rfl rfl (hl_nil (then_n (hc_seq ?_)))
  refine hc_draw 19 mixed (by decide) (by decide) rfl rfl ?_
  apply hb_ex _ rfl rfl rfl
  ·intro w1
   refine r_move rfl rfl (hl_nil ?_)
   exact qe_done rfl
  apply hb_ex _ rfl rfl rfl
  ·intro w1
   refine r_move rfl rfl (hl_nil ?_)
   exact qe_done rfl
  apply hb_ex _ rfl rfl rfl
  ·intro w1
   refine r_elem (α := Int) [l, z3, z1 * z2, z1 * z2 + 1, l] k rfl T.u_ints T.sz_int rfl rfl rfl (by repeat constructor) rfl (show k < ([l, z3, z1 * z2, z1 * z2 + 1, l] : List Int).length from hk2) (by decide) ?_
   refine hl_nil ?_
   exact qe_done rfl
  apply hb_ex _ rfl rfl rfl
  ·intro w1
   refine r_load (v := int (([l, z3, z1 * z2, z1 * z2 + 1, l] : List Int).getD k default)) rfl T.cell_int rfl (cell_row (by repeat constructor) (rows_get0 (show k < ([l, z3, z1 * z2, z1 * z2 + 1, l] : List Int).length from hk2) rfl)) ?_
   refine hl_nil ?_
   exact qe_done rfl
  apply hb_ex _ rfl rfl rfl
  ·intro w1
   refine r_move rfl rfl (hl_nil ?_)
   exact qe_done rfl
  apply hb_ex _ rfl rfl rfl
  ·intro w1
   refine r_move rfl rfl (hl_nil ?_)
   exact qe_done rfl
  apply hb_ex _ rfl rfl rfl
  ·intro w1
   refine r_elem (α := Int) [p, z1, z1, z1, z1] k rfl T.u_ints T.sz_int rfl rfl rfl (by repeat constructor) rfl (show k < ([p, z1, z1, z1, z1] : List Int).length from hk2) (by decide) ?_
   refine hl_nil ?_
   exact qe_done rfl
  apply hb_ex _ rfl rfl rfl
  ·intro w1
   refine r_load (v := int (([p, z1, z1, z1, z1] : List Int).getD k default)) rfl T.cell_int rfl (cell_row (by repeat constructor) (rows_get0 (show k < ([p, z1, z1, z1, z1] : List Int).length from hk2) rfl)) ?_
   refine hl_nil ?_
   exact qe_done rfl
  apply hb_ex _ rfl rfl rfl
  ·intro w1
   refine r_move rfl rfl (hl_nil ?_)
   exact qe_done rfl
  apply hb_ex _ rfl rfl rfl
  ·intro w1
   refine r_move rfl rfl (hl_nil ?_)
   exact qe_done rfl
  apply hb_ex _ rfl rfl rfl
  ·intro w1
   refine r_elem (α := Int) [q, z2, z2, z2, z2] k rfl T.u_ints T.sz_int rfl rfl rfl (by repeat constructor) rfl (show k < ([q, z2, z2, z2, z2] : List Int).length from hk2) (by decide) ?_
   refine hl_nil ?_
   exact qe_done rfl
  apply hb_ex _ rfl rfl rfl
  ·intro w1
   refine r_load (v := int (([q, z2, z2, z2, z2] : List Int).getD k default)) rfl T.cell_int rfl (cell_row (by repeat constructor) (rows_get0 (show k < ([q, z2, z2, z2, z2] : List Int).length from hk2) rfl)) ?_
   refine hl_nil ?_
   exact qe_done rfl
  apply hb_ex _ rfl rfl rfl
  ·intro w1
   refine hl_call F.ref09_Sheets_cb rfl rfl (ref09_Sheets_meets (([l, z3, z1 * z2, z1 * z2 + 1, l] : List Int).getD k default) (([p, z1, z1, z1, z1] : List Int).getD k default) (([q, z2, z2, z2, z2] : List Int).getD k default)) (List.Perm.refl _) trivial fun _ _ => ?_
   refine hl_nil ?_
   exact qe_done rfl
  apply hb_ex _ rfl rfl rfl
  ·intro w1
   refine r_move rfl rfl (hl_nil ?_)
   exact qe_done rfl
  apply hb_ex _ rfl rfl rfl
  ·intro w1
   refine r_extract rfl rfl rfl (hl_nil ?_)
   exact qe_done rfl
  apply hb_ex _ rfl rfl rfl
  ·intro w1
   refine r_extract rfl rfl rfl (hl_nil ?_)
   exact qe_done rfl
  apply hb_ex _ rfl rfl rfl
  ·intro w1
   refine r_extract rfl rfl rfl (hl_nil ?_)
   exact qe_done rfl
  apply hb_ex _ rfl rfl rfl
  ·intro w1
   refine r_assign rfl rfl (hl_nil ?_)
   exact qe_done rfl
  apply hb_ex _ rfl rfl rfl
  ·intro w1
   refine r_assign rfl rfl (hl_nil ?_)
   exact qe_done rfl
  refine hb_nil ⟨rfl, ?_⟩
  refine r_assign rfl rfl (hl_nil (then_n (hc_seq (hc_region (r_move rfl rfl (r_move rfl rfl (r_neq rfl rfl rfl (r_move rfl rfl ?_))))))))
  refine g_split rfl rfl ?_ ?_
  ·intro hg1; have hg1' := hg1; try simp at hg1'
   refine g_yes rfl rfl hg1 (r_move rfl rfl (g_yes rfl rfl hg1 (r_move rfl rfl (g_yes rfl rfl hg1 (r_neq rfl rfl rfl ?_)))))
   refine p_f rfl rfl (bf1 hg1) rfl ?_
   refine r_move rfl rfl ?_
   refine g_split rfl rfl ?_ ?_
   ·intro hg2; have hg2' := hg2; try simp at hg2'
    refine g_yes rfl rfl hg2 (r_move rfl rfl (g_yes rfl rfl hg2 (r_move rfl rfl (g_yes rfl rfl hg2 (r_neq rfl rfl rfl ?_)))))
    refine p_f rfl rfl (bf1 hg2) rfl ?_
    refine hl_nil (then_n ?_)
    refine c_dec rfl (fun hb2 => ?_) (fun hb2 => ?_)
    ·exact absurd rfl hb2
    ·have hb2' := hb2; try simp at hb2'
     refine hc_skip (inb_n (then_n (hc_region (r_move rfl rfl ?_))))
     refine r_add _ rfl rfl rfl rfl (by unfold I64; omega) ?_
     refine r_assign rfl rfl (hl_nil ?_)
     exact again _ (k + 1) (by show k + 1 ≤ 5; omega) (by show 5 - (k + 1) < 5 - k; omega) ⟨rfl, rfl, rfl, rfl, trivial⟩ (List.nil_sublist _) ⟨(by repeat constructor), (by repeat constructor), (by repeat constructor), trivial⟩
   ·intro hg2; have hg2' := hg2; try simp at hg2'
  ·intro hg1; have hg1' := hg1; try simp at hg1'
 ·have hb1' := hb1; try simp at hb1'
  refine hc_exit (then_exit (then_exit (inb_hit (then_n (hc_seq (hc_region ?_))))))
  refine hl_call F.law09_paying_cb rfl rfl (law09_paying_meets) (List.Perm.refl _) trivial fun _ _ => ?_
  refine r_assign rfl rfl (hl_nil (then_n (hc_ret ?_)))
  exact ret1 () rfl rfl rfl trivial (List.nil_sublist _) trivial
end Go.Proofs.Ytdlbbfcfahahdaa
end
section
namespace Go.W
open Go Go.RowKit Go.ChangeShapes Go.WideShapes
set_option linter.unusedVariables false
set_option linter.unusedSimpArgs false
section
variable {H : Type} {enc : TypeId × Value → H} {P : Program} {w : World} {base : Nat} {spare : Nat → Bool} {held : Bool}
/-- A row of elements of one cell each. -/
theorem row_of {α : Type} [El α] (h1 : El.sz α = 1) {a : Addr} {l : List α} (h : ∀ j (hj : j < l.length), ∃ v, El.cells l[j] = [v] ∧ w.cell? (a.add j) = some v) : (Row (some a) (rows l)).P w := by
  intro j u hu
  refine ⟨a, rfl, ?_⟩
  have hj : j < l.length := by
    have := (List.getElem?_eq_some_iff.1 hu).1
    rw [rows_len, h1, Nat.mul_one] at this
    exact this
  obtain ⟨v, hv, hc⟩ := h j hj
  have h2 := rows_get (l := l) (i := j) (j := 0) (v := v) hj (by simp [List.getD_eq_getElem?_getD, hj, hv])
  rw [h1] at h2
  simp only [Nat.mul_one, Nat.add_zero] at h2
  rw [hu] at h2
  cases h2
  exact hc
theorem in_ints {t e : TypeId} {A : Option Addr} {n c fuel : Nat} {x : DataW H × List MemPlace} (ht : P.underlying t = some (.slice e)) (he : P.underlying e = some (.int .i64)) (hc : P.cellsOf e = 1)
    (h : DataW.trod enc P w base spare held fuel t [.slice A n c] = some x) : ∃ l : List Int, n = l.length ∧ l.length ≤ c ∧ c ≤ maxLen ∧ (Row A (rows l)).P w ∧ ∀ z ∈ l, I64 z := by
  rcases open_ints ht he hc h with ⟨hcs, _⟩ | ⟨a, len, cap, zs, hcs, _, hl, hm, hlen, _, hcell, hwf⟩
  · simp at hcs
    obtain ⟨rfl, rfl, rfl⟩ := hcs
    exact ⟨[], rfl, Nat.le_refl _, by unfold maxLen; omega, Row.nil _ _, by intro z hz; simp at hz⟩
  · simp at hcs
    obtain ⟨rfl, rfl, rfl⟩ := hcs
    have hle : n ≤ zs.length := by rw [hlen]; split <;> omega
    have hlen2 : (zs.take n).length = n := by rw [List.length_take]; omega
    refine ⟨zs.take n, hlen2.symm, by rw [hlen2]; exact hl, hm, row_of rfl fun j hj => ?_, fun z hz => ?_⟩
    · rw [hlen2] at hj
      refine ⟨int zs[j], by simp [El.cells], ?_⟩
      rw [hcell j (by omega)]
      simp [List.getD_eq_getElem?_getD, show j < zs.length by omega]
    · have := hwf z (List.mem_of_mem_take hz)
      simp [Lit.wf, IntKind.min, IntKind.max, IntKind.signed, IntKind.bits] at this
      exact ⟨by omega, by omega⟩
/-- A law's contract, as the row wants it. -/
theorem law_calls {f : Nat} {args : List Value} {LI : List Fact} (h : Meets P f args ({ LI := LI, val := fun _ : Unit => .bool true } : Con Unit)) (hL : ∀ F ∈ LI, F.P w) : CallsB P f args.toArray w fun v w' => v = .bool true ∧ Below w.heap.size w w' := by
  refine (h w ⟨Ext.refl _ _, by simp, by simp, by simp, hL, by simp, fun F hF k hk => .inr (.inr ⟨F, hF, hk⟩)⟩).mono fun v w' hp => ?_
  obtain ⟨_, rfl, _, hwi⟩ := hp
  exact ⟨rfl, hwi.ext.below⟩
end
end Go.W
end
section
namespace Go.W
open Go Go.Conc
set_option linter.unusedVariables false
theorem Lv.at {P : Program} {fr : Frame} {w : World} {v : Value} (h : Lv P fr w v) (d : Nat) : Lv P fr (w.at d) v :=
  ⟨h.1, h.2.1, h.2.2.1, h.2.2.2.elim fun fn x => ⟨fn, x.1, fun d' => x.2 d'⟩⟩
theorem run_of {P : Program} {f : FuncId} {fn : Func} {t : Tmp} {args : Array Value} {W : World} {R : Value → World → Prop} (hf : P.funcs[f]? = some fn) (hres : fn.results = #[.tmp t]) (hin : P.inits.idxOf? f = none)
    (h : CallsB P f args W R) (hat : ∀ v w d, R v w → R v (w.at d)) :
    ∃ M last o w' t', runNT P (M + 1) (solo (G (Frame.enter P f args .normal) []) W) #[] = (.ended o w', t') ∧ runN P M (solo (G (Frame.enter P f args .normal) []) W) = .next last ∧ step P last = .ended o w' ∧ Conc.Good P R last o w' t' := by
  have hco := h [] (fun g w => ∃ v fr, g = G fr [] ∧ fr.fn = f ∧ Lv P fr w v ∧ R v w) (fun fr v w' hfr hR hl => co_done fun d => ⟨v, fr, rfl, hfr, hl.at d, hat _ _ _ hR⟩)
  obtain ⟨N, gs, g, w, sl, t0, q, B, r, h0, hL, hP, v, fr, rfl, hfr, hl, hR⟩ := hco W.drawn #[G (Frame.enter P f args .normal) []] none #[] (fun _ => 0) 0 rfl (leavers_one P _) past_nil
  have hG : Goes P true AtRel (fun _ _ es => ∀ e ∈ es, EvL noS B e) (AtEnd P noS B R) 0 (G fr []) w := by
    rintro w₁ ⟨d, rfl⟩
    refine ⟨rfl, v, #[], ?_, by simp, hat _ _ _ hR⟩
    obtain ⟨hm, hd, hn, fn', hf', hr⟩ := hl.at d
    rw [hfr, hf] at hf'
    obtain rfl := Option.some.inj hf'
    have hf2 : P.funcs[fr.fn]? = some fn := by rw [hfr]; exact hf
    have hin2 : P.inits.idxOf? fr.fn = none := by rw [hfr]; exact hin
    have he : (results fn fr.tmps).events P (w.at d) #[] = #[] := events_results_tmp hres _ _
    have hr0 : (results fn fr.tmps).run P (w.at d) = .ok v (w.at d) := hr d
    simp [G, stepG, unwind, doReturn, hn, hd, hm, hf2, hr0, he, hin2, GStep.after, seen]
  obtain ⟨M, last, o, w', t', e1, e2, e3, e4⟩ := beside_ends (P := P) (Post := R) (sl := sl) (fun _ _ _ h => h) h0 hL hP hG
  have hrun : runNT P N (solo (G (Frame.enter P f args .normal) []) W) #[] = (.next (crowd gs w sl), t0) := r
  refine ⟨N + M, last, o, w', t', ?_, ?_, e3, e4⟩
  · rw [Nat.add_assoc, runNT_two hrun]; exact e1
  · rw [runN_add, ← runNT_fst P _ _ #[], hrun]; exact e2
end Go.W
end
