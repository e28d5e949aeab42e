/- Joins of the document: the walk of first. -/
import Derived.Test.YtlpgheniajdkfaaGreatPnu
import Derived.Test.YtlpgheniajdkfaaGreatWs
namespace Go.Proofs.YtlpgheniajdkfaaGreat
open Go Go.W
set_option linter.unusedVariables false
set_option linter.unusedSimpArgs false
set_option maxRecDepth 20000
attribute [local irreducible] HL HC HQ HB Row Rows2 Blk Facts

theorem ps_len {ps : List (Sl Int)} {l : List Rf} (h : lsts ps = pairsOf l) : ps.length = l.length := by
  have h1 := congrArg List.length h
  rw [lsts_len, pairsOf, List.length_map] at h1
  exact h1
theorem ps_at {ps : List (Sl Int)} {l : List Rf} (h : lsts ps = pairsOf l) {k : Nat} (hk : k < l.length) : (ps.getD k default).l = [(l.getD k default).1, (l.getD k default).2] := by
  rw [← lsts_at ps (by rw [ps_len h]; exact hk), h, List.getD_eq_getElem?_getD]
  unfold pairsOf
  rw [List.getElem?_map, List.getElem?_eq_getElem hk, getD_at hk]
  rfl
theorem combos_le {α : Type} : ∀ {m : Nat} {r c : List α}, c ∈ combos m r → c.length ≤ r.length
  | 0, r, c, h => by
    rw [combos, List.mem_singleton] at h
    subst h
    exact Nat.zero_le _
  | m + 1, [], c, h => by rw [combos] at h; cases h
  | m + 1, x :: r, c, h => by
    rw [combos, List.mem_append] at h
    rcases h with h | h
    · obtain ⟨d, hd, rfl⟩ := List.mem_map.1 h
      have := combos_le hd
      rw [List.length_cons, List.length_cons]
      omega
    · have := combos_le h
      rw [List.length_cons]
      omega
theorem not_in {l : List Rf} (hn : l.Nodup) {k : Nat} (hk : k < l.length) {b : List Rf} (hb : ∀ r ∈ b, r ∈ l.take k) : l.getD k default ∉ b := fun hm => by
  have h1 := List.nodup_append.1 (by rw [← take_succ_getD l k hk]; exact hn.sublist (List.take_sublist _ _) : (l.take k ++ [l.getD k default]).Nodup)
  exact h1.2.2 _ (hb _ hm) _ (List.mem_singleton.2 rfl) rfl

set_option maxHeartbeats 2000000 in
theorem ref04_first_meets {A FA : Option Addr} {ca fc : Nat} (cs : List Cl) (hs0 : List Hd) (l : List Rf) (ps : List (Sl Int)) (h s : Nat) (hl : l = freeT (trOf cs hs0)) (hl36 : l.length ≤ 36) (hps : lsts ps = pairsOf l) (hh : h < hs0.length) (hs6 : s ≤ 6) (h6h : hs0.length ≤ 6) :
    ∀ (m : Nat) (hs : List Hd) (B : Option Addr) (cb : Nat) (b : List Rf) (frm : Nat), Adds cs hs0 b hs → (∀ r ∈ b, r ∈ l.take frm) → frm ≤ l.length → m ≤ 37 → Meets Tryz.prog F.ref04_first [.agg #[.slice A cs.length ca, .slice B hs.length cb], .slice FA ps.length fc, int (frm : Int), int (m : Int), int (h : Int), int (s : Int)] { LI := [Row A (rows cs), RowsF B hs Hd.row, Rows2 FA ps], inv := fun x : OutS => lsts x.1 = pairsOf ((fstQ (fineB (trOf cs hs0) (h : Int) (s : Int)) m b (l.drop frm)).getD []), val := fun x => .tuple #[.slice x.2.1 x.1.length x.2.2, .bool (fstQ (fineB (trOf cs hs0) (h : Int) (s : Int)) m b (l.drop frm)).isSome], LO := fun x => [Rows2 x.2.1 x.1] } := by
 intro m
 induction m using Nat.strongRecOn
 rename_i m ih
 intro hs B cb b frm hA hb hfr hm37
 have hln := hA.len
 have hpn := ps_len hps
 refine meets_intro F.ref04_first_f rfl (Nat.le_of_ble_eq_true rfl) fun w0 => ?_
 refine hc_seq (hc_region ?_)
 refine r_box rfl rfl fun gB => ?_
 refine r_assign rfl rfl (r_assign rfl rfl (hl_nil (then_n (hc_seq (hc_seq (hc_letgoB (hc_region (r_move rfl rfl (r_eql rfl rfl rfl (hl_nil (then_n ?_)))))))))))
 refine c_dec rfl (fun hb1 => ?_) (fun hb1 => ?_)
 ·have hb1' := hb1; try simp at hb1'
  obtain rfl : m = 0 := by omega
  have hhf := hid_fine hA (h := h) (s := s) hh
  have hz := fstQ_zero (fineB (trOf cs hs0) (h : Int) (s : Int)) b (l.drop frm)
  refine hc_seq (hc_region ?_)
  refine r_loadB rfl T.row_api_Trades T.sz_api_Trades rfl (by repeat constructor) (by rfl) ?_
  refine r_move rfl rfl (r_move rfl rfl ?_)
  refine hl_call F.ref04_hidden_cb rfl rfl (ref04_hidden_meets (A := A) (B := B) (ca := ca) (cb := cb) cs hs h (s : Int) hA.ok (by omega) hA.ha) (List.Perm.refl _) ⟨(by repeat constructor), trivial⟩ fun y hy => ?_
  refine r_len_sl rfl T.u_ints rfl ?_
  refine r_eql rfl rfl rfl (r_assign rfl rfl (r_assign rfl rfl (hl_nil (then_n (hc_ret (then_ret ?_))))))
  refine hq_nilrow (α := Sl Int) ?_
  refine hq_facts (Fs := ([] : List (Sl Int)).map fun p => Row p.a (rows p.l)) (by intro F hF; simp at hF) ?_
  refine hq_rows2F (A := none) (ps := ([] : List (Sl Int))) (by repeat constructor) (by repeat constructor) ?_
  have hv : decide ((((hiddenT (trOf cs hs) (h : Int) (s : Int)).length : Nat) : Int) = 0) = (fstQ (fineB (trOf cs hs0) (h : Int) (s : Int)) 0 b (l.drop frm)).isSome := by
    rw [hz]
    by_cases e : (fineB (trOf cs hs0) (h : Int) (s : Int)) b = true
    ·rw [if_pos e, decide_eq_true (by have := hhf.2 e; omega)]; rfl
    ·rw [if_neg e, decide_eq_false (fun e2 => e (hhf.1 (by omega)))]; rfl
  exact ret2 (([] : List (Sl Int)), (none, 0)) rfl rfl rfl (by show Value.tuple #[.slice none 0 0, .bool (fstQ (fineB (trOf cs hs0) (h : Int) (s : Int)) 0 b (l.drop frm)).isSome] = _; rw [← hv]) rfl (by show [] = pairsOf ((fstQ (fineB (trOf cs hs0) (h : Int) (s : Int)) 0 b (l.drop frm)).getD []); rw [hz]; split <;> rfl) (List.nil_sublist _) ⟨m0, trivial⟩
 ·have hb1' := hb1; try simp at hb1'
  obtain ⟨m, rfl⟩ : ∃ q, m = q + 1 := ⟨m - 1, by omega⟩
  refine hc_skip (then_n (hc_seq (hc_seq (hc_region (r_move rfl rfl (r_assign rfl rfl (hl_nil (then_n (hc_block ?_)))))))))
  refine hc_loop (β := Nat) ⟨fun k => frm ≤ k ∧ k ≤ l.length ∧ (fstQ (fineB (trOf cs hs0) (h : Int) (s : Int)) (m + 1) b (l.drop frm)) = (fstQ (fineB (trOf cs hs0) (h : Int) (s : Int)) (m + 1) b (l.drop k)), fun k => [(1, .slice FA ps.length fc), (3, int ((m + 1 : Nat) : Int)), (4, int (h : Int)), (5, int (s : Int)), (6, .pointer (some ⟨gB, 0, none⟩)), (14, int k)], fun _ => [], fun _ => [Blk gB (.cells #[.slice A cs.length ca, .slice B hs.length cb] T.api_Trades (0, 0)), Row A (rows cs), RowsF B hs Hd.row, Rows2 FA ps]⟩ (fun k => l.length - k) frm ⟨Nat.le_refl _, hfr, rfl⟩ ⟨rfl, rfl, rfl, rfl, rfl, rfl, trivial⟩ (List.nil_sublist _) ⟨(by repeat constructor), (by repeat constructor), (by repeat constructor), (by repeat constructor), trivial⟩ fun k hk => ?_
  obtain ⟨hkf, hk, hq⟩ := hk
  refine hc_seq (hc_seq (hc_region (r_move rfl rfl (r_move rfl rfl ?_))))
  refine r_add _ rfl rfl rfl rfl (by unfold I64; omega) ?_
  refine r_move rfl rfl ?_
  refine r_len_sl rfl T.u_intss rfl ?_
  refine r_leq rfl rfl rfl (hl_nil (then_n ?_))
  refine c_dec rfl (fun hb2 => ?_) (fun hb2 => ?_)
  ·have hb2' := hb2; try simp at hb2'
   have hk2 : k < l.length := by omega
   have hkp : k < ps.length := by omega
   obtain ⟨i, j, hr, hf⟩ := free_is (cs := cs) (hs := hs0) (r := (l.getD k default)) (by rw [← hl]; exact getD_mem hk2)
   have hpl : (ps.getD k default).l = [(i : Int), (j : Int)] := by have h9 := ps_at hps hk2; rw [hr] at h9; exact h9
   have hnb : ((i : Int), (j : Int)) ∉ b := by rw [← hr]; exact not_in (by rw [hl]; exact free_nodup _) hk2 (fun r hr => (List.take_subset_take_left l hkf) (hb r hr))
   have hb1 : ∀ r ∈ (b ++ [((i : Int), (j : Int))]), r ∈ l.take (k + 1) := fun r hr2 => by
     rw [take_succ_getD l k hk2, hr]
     rcases List.mem_append.1 hr2 with h1 | h1
     ·exact List.mem_append_left _ ((List.take_subset_take_left l hkf) (hb r h1))
     ·exact List.mem_append_right _ h1
   have hdr : l.drop k = (l.getD k default) :: l.drop (k + 1) := by rw [List.drop_eq_getElem_cons hk2, getD_at hk2]
   rw [hdr, hr, fstQ_cons] at hq
   have hil := hf.il
   have hjl := hf.kl
   refine hc_skip (then_n (hc_seq (hc_block (hc_seq ?_))))
   refine hc_draw 26 mixed (by decide) (by decide) rfl rfl ?_
   apply hb_ex _ rfl rfl rfl
   ·intro w1
    refine r_loadB rfl T.row_api_Trades T.sz_api_Trades rfl (by repeat constructor) (by rfl) ?_
    refine hl_nil ?_
    exact qe_done rfl
   apply hb_ex _ rfl rfl rfl
   ·intro w1
    refine r_move rfl rfl (hl_nil ?_)
    exact qe_done rfl
   apply hb_ex _ rfl rfl rfl
   ·intro w1
    refine r_move rfl rfl (hl_nil ?_)
    exact qe_done rfl
   apply hb_ex _ rfl rfl rfl
   ·intro w1
    refine hl_outer (A := FA) (ps := ps) (by repeat constructor) ?_
    refine r_elem (α := Sl Int) ps k rfl T.u_intss T.sz_ints rfl rfl rfl (by repeat constructor) rfl hkp (by decide) ?_
    refine hl_nil ?_
    exact qe_done rfl
   apply hb_ex _ rfl rfl rfl
   ·intro w1
    refine hl_outer (A := FA) (ps := ps) (by repeat constructor) ?_
    refine r_load (v := .slice (ps.getD k default).a (ps.getD k default).l.length (ps.getD k default).c) rfl T.cell_ints rfl (cell_row (by repeat constructor) (rows_get0 hkp rfl)) ?_
    refine hl_nil ?_
    exact qe_done rfl
   apply hb_ex _ rfl rfl rfl
   ·intro w1
    refine hl_inner (A := FA) (ps := ps) (p := (ps.getD k default)) (by repeat constructor) (getD_mem hkp) ?_
    refine r_elem (α := Int) (ps.getD k default).l 0 rfl T.u_ints T.sz_int rfl rfl rfl (by repeat constructor) rfl (by rw [hpl]; show 0 < 2; decide) (by decide) ?_
    refine hl_nil ?_
    exact qe_done rfl
   apply hb_ex _ rfl rfl rfl
   ·intro w1
    refine hl_inner (A := FA) (ps := ps) (p := (ps.getD k default)) (by repeat constructor) (getD_mem hkp) ?_
    refine r_load (v := int (i : Int)) rfl T.cell_int rfl (cell_row (by repeat constructor) (rows_get0 (by rw [hpl]; show 0 < 2; decide) (by rw [hpl]; rfl))) ?_
    refine hl_nil ?_
    exact qe_done rfl
   apply hb_ex _ rfl rfl rfl
   ·intro w1
    refine r_move rfl rfl (hl_nil ?_)
    exact qe_done rfl
   apply hb_ex _ rfl rfl rfl
   ·intro w1
    refine r_move rfl rfl (hl_nil ?_)
    exact qe_done rfl
   apply hb_ex _ rfl rfl rfl
   ·intro w1
    refine hl_outer (A := FA) (ps := ps) (by repeat constructor) ?_
    refine r_elem (α := Sl Int) ps k rfl T.u_intss T.sz_ints rfl rfl rfl (by repeat constructor) rfl hkp (by decide) ?_
    refine hl_nil ?_
    exact qe_done rfl
   apply hb_ex _ rfl rfl rfl
   ·intro w1
    refine hl_outer (A := FA) (ps := ps) (by repeat constructor) ?_
    refine r_load (v := .slice (ps.getD k default).a (ps.getD k default).l.length (ps.getD k default).c) rfl T.cell_ints rfl (cell_row (by repeat constructor) (rows_get0 hkp rfl)) ?_
    refine hl_nil ?_
    exact qe_done rfl
   apply hb_ex _ rfl rfl rfl
   ·intro w1
    refine hl_inner (A := FA) (ps := ps) (p := (ps.getD k default)) (by repeat constructor) (getD_mem hkp) ?_
    refine r_elem (α := Int) (ps.getD k default).l 1 rfl T.u_ints T.sz_int rfl rfl rfl (by repeat constructor) rfl (by rw [hpl]; show 1 < 2; decide) (by decide) ?_
    refine hl_nil ?_
    exact qe_done rfl
   apply hb_ex _ rfl rfl rfl
   ·intro w1
    refine hl_inner (A := FA) (ps := ps) (p := (ps.getD k default)) (by repeat constructor) (getD_mem hkp) ?_
    refine r_load (v := int (j : Int)) rfl T.cell_int rfl (cell_row (by repeat constructor) (rows_get0 (by rw [hpl]; show 1 < 2; decide) (by rw [hpl]; rfl))) ?_
    refine hl_nil ?_
    exact qe_done rfl
   refine hb_vs ⟨List Hd × OutC, fun x => Adds cs hs0 (b ++ [((i : Int), (j : Int))]) x.1 ∧ x.1.length ≤ x.2.2, fun x => .agg #[.slice A cs.length ca, .slice x.2.1 x.1.length x.2.2], fun x => [RowsF x.2.1 x.1 Hd.row]⟩ rfl rfl rfl ?_ ?_
   ·intro w1
    refine hl_call F.ref04_With_cb rfl rfl (ref04_With_meets (A := A) (B := B) (ca := ca) (cb := cb) cs hs i j (by omega) (by omega) (by omega) hA.ha) (hpR := []) (List.Perm.refl _) ⟨(by repeat constructor), (by repeat constructor), trivial⟩ fun x hx => ?_
    refine hl_nil ?_
    exact qv_done x ⟨adds_one hA hf hnb hx.1, hx.2⟩ rfl ⟨m0, trivial⟩
   apply hb_ex _ rfl rfl rfl
   ·intro w1
    refine r_move rfl rfl (hl_nil ?_)
    exact qe_done rfl
   apply hb_ex _ rfl rfl rfl
   ·intro w1
    refine r_move rfl rfl (hl_nil ?_)
    exact qe_done rfl
   apply hb_ex _ rfl rfl rfl
   ·intro w1
    refine r_add _ rfl rfl rfl rfl (by unfold I64; omega) ?_
    refine hl_nil ?_
    exact qe_done rfl
   apply hb_ex _ rfl rfl rfl
   ·intro w1
    refine r_move rfl rfl (hl_nil ?_)
    exact qe_done rfl
   apply hb_ex _ rfl rfl rfl
   ·intro w1
    refine r_sub ((m : Nat) : Int) rfl rfl rfl (by omega) (by unfold I64; omega) ?_
    refine hl_nil ?_
    exact qe_done rfl
   apply hb_ex _ rfl rfl rfl
   ·intro w1
    refine r_move rfl rfl (hl_nil ?_)
    exact qe_done rfl
   apply hb_ex _ rfl rfl rfl
   ·intro w1
    refine r_move rfl rfl (hl_nil ?_)
    exact qe_done rfl
   refine hb_vs ⟨OutS, fun y => lsts y.1 = pairsOf ((fstQ (fineB (trOf cs hs0) (h : Int) (s : Int)) m (b ++ [((i : Int), (j : Int))]) (l.drop (k + 1))).getD []), fun y => .tuple #[.slice y.2.1 y.1.length y.2.2, .bool (fstQ (fineB (trOf cs hs0) (h : Int) (s : Int)) m (b ++ [((i : Int), (j : Int))]) (l.drop (k + 1))).isSome], fun y => [Rows2 y.2.1 y.1]⟩ rfl rfl rfl ?_ ?_
   ·intro x hx; intro w1
    refine hl_call F.ref04_first_cb rfl rfl (ih m (by omega) x.1 x.2.1 x.2.2 (b ++ [((i : Int), (j : Int))]) (k + 1) hx.1 hb1 (by omega) (by omega)) (hpR := []) (List.Perm.refl _) ⟨(by repeat constructor), (by repeat constructor), (by repeat constructor), trivial⟩ fun y hy => ?_
    refine hl_nil ?_
    exact qv_done y hy rfl ⟨m0, trivial⟩
   refine hb_vs ⟨OutS, fun y => lsts y.1 = pairsOf ((fstQ (fineB (trOf cs hs0) (h : Int) (s : Int)) m (b ++ [((i : Int), (j : Int))]) (l.drop (k + 1))).getD []), fun y => .tuple #[.slice y.2.1 y.1.length y.2.2, .bool (fstQ (fineB (trOf cs hs0) (h : Int) (s : Int)) m (b ++ [((i : Int), (j : Int))]) (l.drop (k + 1))).isSome], fun y => [Rows2 y.2.1 y.1]⟩ rfl rfl rfl ?_ ?_
   ·intro y hy; intro w1
    refine r_move rfl rfl (hl_nil ?_)
    exact qv_done y hy rfl ⟨m0, trivial⟩
   refine hb_vs ⟨OutS, fun y => lsts y.1 = pairsOf ((fstQ (fineB (trOf cs hs0) (h : Int) (s : Int)) m (b ++ [((i : Int), (j : Int))]) (l.drop (k + 1))).getD []), fun y => .slice y.2.1 y.1.length y.2.2, fun y => [Rows2 y.2.1 y.1]⟩ rfl rfl rfl ?_ ?_
   ·intro y hy; intro w1
    refine r_extract rfl rfl rfl (hl_nil ?_)
    exact qv_done y hy rfl ⟨m0, trivial⟩
   apply hb_ex _ rfl rfl rfl
   ·intro y hy; intro w1
    refine r_extract rfl rfl rfl (hl_nil ?_)
    exact qe_done rfl
   refine hb_vs ⟨OutS, fun y => lsts y.1 = pairsOf ((fstQ (fineB (trOf cs hs0) (h : Int) (s : Int)) m (b ++ [((i : Int), (j : Int))]) (l.drop (k + 1))).getD []), fun y => .slice y.2.1 y.1.length y.2.2, fun y => [Rows2 y.2.1 y.1]⟩ rfl rfl rfl ?_ ?_
   ·intro y hy; intro w1
    refine r_assign rfl rfl (hl_nil ?_)
    exact qv_done y hy rfl ⟨m0, trivial⟩
   refine hb_nil ⟨rfl, ?_⟩
   intro _ _ _ _ _ _ _ _ y hy
   refine r_assign rfl rfl (hl_nil (then_n (hc_seq (hc_region (r_move rfl rfl (hl_nil (then_n ?_)))))))
   refine hc_cond rfl (fun hb3 => ?_) (fun hb3 => ?_)
   ·have hb3' := hb3; try simp at hb3'
    obtain ⟨c, hc⟩ := Option.isSome_iff_exists.1 hb3
    rw [hc] at hq
    have hy1 : lsts y.1 = pairsOf ((fstQ (fineB (trOf cs hs0) (h : Int) (s : Int)) m (b ++ [((i : Int), (j : Int))]) (l.drop (k + 1))).getD []) := hy
    rw [hc] at hy1
    have hq2 : (fstQ (fineB (trOf cs hs0) (h : Int) (s : Int)) (m + 1) b (l.drop frm)) = some (((i : Int), (j : Int)) :: c) := hq
    have hyl : y.1.length = c.length := ps_len hy1
    have hcl : c.length ≤ 36 := by
      have h1 := List.mem_of_find?_eq_some (show (combos m (l.drop (k + 1))).find? _ = some c from hc)
      exact Nat.le_trans (combos_le h1) (by rw [List.length_drop]; omega)
    refine hc_seq ?_
    refine hc_drawW ([]) ([]) (List.Perm.refl _) 15 [13] mixed (by decide) (by decide) (by decide) rfl rfl rfl ?_
    apply hb_ex _ rfl rfl rfl
    ·intro w1
     refine r_move rfl rfl (hl_nil ?_)
     exact qe_done rfl
    apply hb_ex _ rfl rfl rfl
    ·intro w1
     refine r_move rfl rfl (hl_nil ?_)
     exact qe_done rfl
    apply hb_ex _ rfl rfl rfl
    ·intro w1
     refine hl_outer (A := FA) (ps := ps) (by repeat constructor) ?_
     refine r_elem (α := Sl Int) ps k rfl T.u_intss T.sz_ints rfl rfl rfl (by repeat constructor) rfl hkp (by decide) ?_
     refine hl_nil ?_
     exact qe_done rfl
    apply hb_ex _ rfl rfl rfl
    ·intro w1
     refine hl_outer (A := FA) (ps := ps) (by repeat constructor) ?_
     refine r_load (v := .slice (ps.getD k default).a (ps.getD k default).l.length (ps.getD k default).c) rfl T.cell_ints rfl (cell_row (by repeat constructor) (rows_get0 hkp rfl)) ?_
     refine hl_nil ?_
     exact qe_done rfl
    apply hb_ex _ rfl rfl rfl
    ·intro w1
     refine hl_inner (A := FA) (ps := ps) (p := (ps.getD k default)) (by repeat constructor) (getD_mem hkp) ?_
     refine r_elem (α := Int) (ps.getD k default).l 0 rfl T.u_ints T.sz_int rfl rfl rfl (by repeat constructor) rfl (by rw [hpl]; show 0 < 2; decide) (by decide) ?_
     refine hl_nil ?_
     exact qe_done rfl
    apply hb_ex _ rfl rfl rfl
    ·intro w1
     refine hl_inner (A := FA) (ps := ps) (p := (ps.getD k default)) (by repeat constructor) (getD_mem hkp) ?_
     refine r_load (v := int (i : Int)) rfl T.cell_int rfl (cell_row (by repeat constructor) (rows_get0 (by rw [hpl]; show 0 < 2; decide) (by rw [hpl]; rfl))) ?_
     refine hl_nil ?_
     exact qe_done rfl
    apply hb_ex _ rfl rfl rfl
    ·intro w1
     refine r_move rfl rfl (hl_nil ?_)
     exact qe_done rfl
    apply hb_ex _ rfl rfl rfl
    ·intro w1
     refine r_move rfl rfl (hl_nil ?_)
     exact qe_done rfl
    apply hb_ex _ rfl rfl rfl
    ·intro w1
     refine hl_outer (A := FA) (ps := ps) (by repeat constructor) ?_
     refine r_elem (α := Sl Int) ps k rfl T.u_intss T.sz_ints rfl rfl rfl (by repeat constructor) rfl hkp (by decide) ?_
     refine hl_nil ?_
     exact qe_done rfl
    apply hb_ex _ rfl rfl rfl
    ·intro w1
     refine hl_outer (A := FA) (ps := ps) (by repeat constructor) ?_
     refine r_load (v := .slice (ps.getD k default).a (ps.getD k default).l.length (ps.getD k default).c) rfl T.cell_ints rfl (cell_row (by repeat constructor) (rows_get0 hkp rfl)) ?_
     refine hl_nil ?_
     exact qe_done rfl
    apply hb_ex _ rfl rfl rfl
    ·intro w1
     refine hl_inner (A := FA) (ps := ps) (p := (ps.getD k default)) (by repeat constructor) (getD_mem hkp) ?_
     refine r_elem (α := Int) (ps.getD k default).l 1 rfl T.u_ints T.sz_int rfl rfl rfl (by repeat constructor) rfl (by rw [hpl]; show 1 < 2; decide) (by decide) ?_
     refine hl_nil ?_
     exact qe_done rfl
    apply hb_ex _ rfl rfl rfl
    ·intro w1
     refine hl_inner (A := FA) (ps := ps) (p := (ps.getD k default)) (by repeat constructor) (getD_mem hkp) ?_
     refine r_load (v := int (j : Int)) rfl T.cell_int rfl (cell_row (by repeat constructor) (rows_get0 (by rw [hpl]; show 1 < 2; decide) (by rw [hpl]; rfl))) ?_
     refine hl_nil ?_
     exact qe_done rfl
    refine hb_vs ⟨Nat, fun _ => True, fun g => .slice (some ⟨g, 0, none⟩) 2 2, fun g => [Row (some ⟨g, 0, none⟩) (rows [(i : Int), (j : Int)])]⟩ rfl rfl rfl ?_ ?_
    ·intro w1
     refine r_buildSlice _ rfl rfl (fun _ => T.bs_ints_2 ..) fun gS => ?_
     refine hl_nil ?_
     refine hq_letgo (rows [(i : Int), (j : Int)]) (List.prefix_refl _) ?_
     exact qv_done gS trivial rfl ⟨m0, trivial⟩
    refine hb_wr ⟨Nat × Nat, fun _ => True, fun x => .slice (some ⟨x.1, 0, none⟩) 1 1, fun x => [Row (some ⟨x.2, 0, none⟩) (rows [(i : Int), (j : Int)])], fun x => [(x.1, Obj.cells #[.slice (some ⟨x.2, 0, none⟩) 2 2] T.ints (0, 0))]⟩ rfl rfl rfl ?_ ?_
    ·intro g9 _; intro w1
     refine r_buildSlice _ rfl rfl (fun _ => T.bs_intss_1 ..) fun gS => ?_
     refine hl_nil ?_
     exact qw_done (gS, g9) trivial (fun _ => rfl) (List.Sublist.refl _) ⟨(by repeat constructor), trivial⟩
    apply hb_ex _ rfl rfl rfl
    ·intro w1
     refine r_move rfl rfl (hl_nil ?_)
     exact qe_done rfl
    refine hb_nil ⟨rfl, ?_⟩
    intro _ _ x8 _
    refine hl_outer (A := y.2.1) (ps := y.1) (by repeat constructor) ?_
    refine r_append (hp' := []) (1 + y.1.length) (rows ([(⟨some ⟨x8.2, 0, none⟩, 2, [(i : Int), (j : Int)]⟩ : Sl Int)] ++ y.1)) T.el_intss rfl rfl rfl (Grow.new (cs := #[.slice (some ⟨x8.2, 0, none⟩) 2 2]) (n := 1) rfl (by decide)) (List.Perm.refl _) (Src.row (by repeat constructor) (rows_len y.1) (rows_one y.1) (by decide)) rfl (by rw [rows_append]; rfl) (by unfold maxLen; omega) (by omega) fun A' c' og' hG' => ?_
    refine r_assign rfl rfl (r_assign rfl rfl (hl_nil (then_n (hc_ret (inb_ret (then_ret (then_ret (inb_ret (then_ret ?_)))))))))
    refine hq_perm (hp' := og') (by rw [List.append_nil]) ?_
    refine hq_grown0 hG' ?_
    refine hq_cons2 (A := A') (A' := y.2.1) (p := (⟨some ⟨x8.2, 0, none⟩, 2, [(i : Int), (j : Int)]⟩ : Sl Int)) (ps := y.1) (by repeat constructor) (by repeat constructor) (by repeat constructor) ?_
    exact ret2 ((⟨some ⟨x8.2, 0, none⟩, 2, [(i : Int), (j : Int)]⟩ : Sl Int) :: y.1, (A', c')) rfl rfl rfl (by show Value.tuple #[.slice A' ((⟨some ⟨x8.2, 0, none⟩, 2, [(i : Int), (j : Int)]⟩ : Sl Int) :: y.1).length c', .bool (fstQ (fineB (trOf cs hs0) (h : Int) (s : Int)) (m + 1) b (l.drop frm)).isSome] = Value.tuple #[.slice A' (1 + y.1.length) c', .bool true]; rw [hq2, List.length_cons, Nat.add_comm]; rfl) rfl (by show lsts ((⟨some ⟨x8.2, 0, none⟩, 2, [(i : Int), (j : Int)]⟩ : Sl Int) :: y.1) = pairsOf ((fstQ (fineB (trOf cs hs0) (h : Int) (s : Int)) (m + 1) b (l.drop frm)).getD []); rw [hq2]; show [(i : Int), (j : Int)] :: lsts y.1 = _; rw [hy1]; rfl) (List.nil_sublist _) ⟨m0, trivial⟩
   ·have hb3' := hb3; try simp at hb3'
    have hc : (fstQ (fineB (trOf cs hs0) (h : Int) (s : Int)) m (b ++ [((i : Int), (j : Int))]) (l.drop (k + 1))) = none := by cases e : (fstQ (fineB (trOf cs hs0) (h : Int) (s : Int)) m (b ++ [((i : Int), (j : Int))]) (l.drop (k + 1))) with | none => rfl | some c => rw [e] at hb3; first | cases hb3 | exact absurd rfl hb3
    rw [hc] at hq
    refine hc_skip (inb_n (then_n (hc_region (r_move rfl rfl ?_))))
    refine r_add _ rfl rfl rfl rfl (by unfold I64; omega) ?_
    refine r_assign rfl rfl (hl_nil ?_)
    exact again _ (k + 1) ⟨by show frm ≤ k + 1; omega, by show k + 1 ≤ l.length; omega, hq⟩ (by show l.length - (k + 1) < l.length - k; omega) ⟨rfl, rfl, rfl, rfl, rfl, rfl, trivial⟩ (List.nil_sublist _) ⟨(by repeat constructor), (by repeat constructor), (by repeat constructor), (by repeat constructor), trivial⟩
  ·have hb2' := hb2; try simp at hb2'
   have hno : (fstQ (fineB (trOf cs hs0) (h : Int) (s : Int)) (m + 1) b (l.drop frm)) = none := by rw [hq]; exact fstQ_none _ _ (by rw [List.length_drop]; omega)
   refine hc_exit (then_exit (then_exit (inb_hit (then_n (hc_seq (hc_region (r_assign rfl rfl (r_assign rfl rfl (hl_nil (then_n (hc_ret ?_)))))))))))
   refine hq_nilrow (α := Sl Int) ?_
   refine hq_facts (Fs := ([] : List (Sl Int)).map fun p => Row p.a (rows p.l)) (by intro F hF; simp at hF) ?_
   refine hq_rows2F (A := none) (ps := ([] : List (Sl Int))) (by repeat constructor) (by repeat constructor) ?_
   exact ret2 (([] : List (Sl Int)), (none, 0)) rfl rfl rfl (by show Value.tuple #[.slice none 0 0, .bool (fstQ (fineB (trOf cs hs0) (h : Int) (s : Int)) (m + 1) b (l.drop frm)).isSome] = _; rw [hno]; rfl) rfl (by show [] = pairsOf ((fstQ (fineB (trOf cs hs0) (h : Int) (s : Int)) (m + 1) b (l.drop frm)).getD []); rw [hno]; rfl) (List.nil_sublist _) ⟨m0, trivial⟩

end Go.Proofs.YtlpgheniajdkfaaGreat
