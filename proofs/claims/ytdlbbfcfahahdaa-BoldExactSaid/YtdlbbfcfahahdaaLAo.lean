/- Texts of this claim, one behind another. -/

import Derived.Test.YtdlbbfcfahahdaaLAn
section
namespace Go.Proofs.Ytdlbbfcfahahdaa
open Go Go.W
set_option linter.unusedVariables false
set_option linter.unusedSimpArgs false
set_option maxRecDepth 20000
attribute [local irreducible] HL HC HQ HB Row Rows2 Blk Facts
theorem cards_ok {cs : List Cd} {room : Int} (h : cardsE cs room = 0) : cs.length ≤ 8 ∧ (∀ x ∈ cs, cdB x) ∧ 0 ≤ room ∧ room ≤ 60 := by
  unfold cardsE at h
  split at h
  · cases h
  · split at h
    · cases h
    · rename_i h1 h2
      split at h
      · cases h
      · rename_i h3
        exact ⟨by omega, Classical.not_not.1 h2, (Classical.not_not.1 h3).1, (Classical.not_not.1 h3).2⟩
theorem hands_in {cs : List Cd} {room : Int} {k : Nat} {hs : List Hv} (hd : hs.map Hv.dat = handsK cs room k) (hn : cs.length ≤ 8) : ∀ x ∈ hs, x.1.l.length ≤ 8 := by
  intro x hx
  have h : x.dat ∈ handsK cs room k := hd ▸ List.mem_map.2 ⟨x, hx, rfl⟩
  obtain ⟨s, _, hs⟩ := List.mem_map.1 (List.mem_filter.1 h).1
  have h2 := congrArg (fun y : Hn => y.1.length) hs
  simp only [handK, Hv.dat] at h2
  have := pickK_len s cs.length
  omega
theorem hands_len {cs : List Cd} {room : Int} {k : Nat} {hs : List Hv} (hd : hs.map Hv.dat = handsK cs room k) : hs.length ≤ k := by
  rw [← List.length_map (f := Hv.dat), hd]; exact handsK_len ..
def noB : Hn × Bool := (([], 0, 0), false)
def bestL (o : Hn → Hn → Int) (l : List Hn) : Hn × Bool := l.foldl (offS o) noB
theorem best_snoc (o : Hn → Hn → Int) (l : List Hn) (x : Hn) : bestL o (l ++ [x]) = offS o (bestL o l) x := by simp [bestL]
theorem take_map_succ {hs : List Hv} {k : Nat} (hk : k < hs.length) : (hs.take (k + 1)).map Hv.dat = (hs.take k).map Hv.dat ++ [Hv.dat (hs.getD k default)] := by
  rw [List.take_succ_eq_append_getElem hk, getD_at hk, List.map_append]; rfl
def fillE (cs : List Cd) (room : Int) : Hn := if ¬ cardsE cs room = 0 then ([], 0, cardsE cs room) else ((bestL ordF (handsK cs room (2 ^ cs.length))).1.1, (bestL ordF (handsK cs room (2 ^ cs.length))).1.2.2, 0)
def exactL (cs : List Cd) (room : Int) : Hn × Bool := bestL ordX ((handsK cs room (2 ^ cs.length)).filter fun x => decide (x.2.1 = room))
def exactE (cs : List Cd) (room : Int) : List Int × Int := if ¬ cardsE cs room = 0 then ([], cardsE cs room) else if (exactL cs room).2 = false then ([], 11) else ((exactL cs room).1.1, 0)
theorem bold_Fill_meets {A : Option Addr} {ca : Nat} (cs : List Cd) (room : Int) (hn : cs.length ≤ 1000000) : Meets Try.prog F.bold_Fill [.slice A cs.length ca, int room] { LI := [Row A (rows cs)], val := fun x : OutC => .tuple #[.slice x.1 (fillE cs room).1.length x.2, int (fillE cs room).2.1, int (fillE cs room).2.2], LO := fun x => [Row x.1 (rows (fillE cs room).1)] } := by
 refine meets_intro F.bold_Fill_f rfl (Nat.le_of_ble_eq_true rfl) fun w0 => ?_
 refine hc_seq (hc_region (r_assign rfl rfl (r_assign rfl rfl (r_assign rfl rfl (hl_nil (then_n (hc_seq (hc_seq (hc_region (r_move rfl rfl (r_move rfl rfl ?_)))))))))))
 refine hl_call F.bold_cardsError_cb rfl rfl (bold_cardsError_meets cs room hn) (List.Perm.refl _) ⟨mB, trivial⟩ fun _ _ => ?_
 refine r_assign rfl rfl (hl_nil (then_n (hc_seq (hc_region (r_move rfl rfl (r_neq rfl rfl rfl (hl_nil (then_n ?_))))))))
 refine c_dec rfl (fun hb1 => ?_) (fun hb1 => ?_)
 ·have hb1' := hb1; try simp at hb1'
  refine hc_seq (hc_region (r_move rfl rfl (r_assign rfl rfl (r_assign rfl rfl (r_assign rfl rfl (hl_nil (then_n (hc_ret (then_ret ?_)))))))))
  refine hq_nilrow (α := Int) ?_
  exact ret3 (none, 0) rfl rfl rfl rfl (by show Value.tuple #[.slice none (fillE cs room).1.length 0, int (fillE cs room).2.1, int (fillE cs room).2.2] = _; rw [fillE, if_pos hb1]; rfl) rfl trivial (List.nil_sublist _) (by show LSub _ [Row none (rows (fillE cs room).1)]; rw [fillE, if_pos hb1]; exact ⟨m0, trivial⟩)
 ·have hb1' := hb1; try simp at hb1'
  have h0 : cardsE cs room = 0 := Classical.not_not.1 hb1
  obtain ⟨hn8, hcd, hr0, hr1⟩ := cards_ok h0
  refine hc_skip (then_n (hc_seq (hc_region ?_)))
  refine r_build _ rfl rfl (fun _ => T.bd_bold_best_wayzgoose_bold_hand_2 ..) ?_
  refine r_alloc rfl (fun _ => T.al_bold_best_wayzgoose_bold_hand _) fun gB => ?_
  refine r_storeS (cs := offA ((⟨none, 0, []⟩, 0, 0) : Hv) false F.bold_Fill_1) rfl rfl (.refl _) T.sz_bold_best_wayzgoose_bold_hand (by rfl) (by rfl) ?_
  refine hl_nil (then_n (hc_seq (hc_seq (hc_region (r_move rfl rfl (r_move rfl rfl ?_))))))
  refine hl_call F.bold_hands_cb rfl rfl (bold_hands_meets cs room hn8 hcd) (List.Perm.refl _) ⟨mB, trivial⟩ fun x hx => ?_
  obtain ⟨hs, ⟨na, nc⟩, og⟩ := x
  obtain ⟨hd, hG⟩ := hx
  simp only at hd hG
  have hi8 := hands_in hd hn8
  have hll := hands_len hd
  have hN2 : 2 ^ cs.length ≤ 256 := Nat.pow_le_pow_right (n := 2) (by omega) hn8
  refine hl_grown hG ?_
  refine hl_nilrow (α := Int) ?_
  refine r_len_sl rfl T.u_L_bold_hand rfl ?_
  refine r_move rfl rfl (hl_nil (then_n (hc_block ?_)))
  refine hc_loop (β := Nat × Hv × Bool) ⟨fun x => x.1 ≤ hs.length ∧ (x.2.1.dat, x.2.2) = bestL ordF ((hs.take x.1).map Hv.dat) ∧ x.2.1.1.l.length ≤ 8, fun x => [(0, .slice A cs.length ca), (1, int room), (8, .pointer (some ⟨gB, 0, none⟩)), (20, .slice na hs.length nc), (21, int hs.length), (22, int x.1)], fun x => [(gB, Obj.cells (offA x.2.1 x.2.2 F.bold_Fill_1) T.bold_best_wayzgoose_bold_hand (0, 0))], fun x => [Row na (rows hs), innersF hs Hv.row, x.2.1.row]⟩ (fun x => hs.length - x.1) (0, ((⟨none, 0, []⟩, 0, 0) : Hv), false) ⟨Nat.zero_le _, rfl, Nat.zero_le _⟩ ⟨rfl, rfl, rfl, rfl, rfl, rfl, trivial⟩ (.refl _) ⟨mB, mB, mB, trivial⟩ fun x hx => ?_
  obtain ⟨k, y, ok⟩ := x
  obtain ⟨hk, ha, hy⟩ := hx
  simp only at hk ha hy
  refine hc_seq (hc_region (r_lss rfl rfl rfl (hl_nil (then_n (hc_seq ?_)))))
  refine c_dec rfl (fun hb2 => ?_) (fun hb2 => ?_)
  ·have hb2' := hb2; try simp at hb2'
   have hk2 : k < hs.length := by omega
   have hx8 := hi8 _ (getD_mem hk2)
   refine hc_skip (then_n (hc_seq (hc_block (hc_seq (hc_region ?_)))))
   refine r_elem (α := _) _ _ rfl T.u_L_bold_hand T.sz_bold_hand rfl rfl rfl mB rfl (by omega) (by decide) ?_
   refine r_loadS rfl T.row_bold_hand T.sz_bold_hand rfl rfl (cells_row mB (rows_all (by omega))) ?_
   refine r_alloc rfl (fun _ => T.al_bold_hand _) fun gA => ?_
   refine r_storeS (cs := #[.slice (hs.getD k default).1.a (hs.getD k default).1.l.length (hs.getD k default).1.c, int (hs.getD k default).2.1, int (hs.getD k default).2.2]) rfl rfl (.refl _) T.sz_bold_hand (by rfl) (by rfl) ?_
   refine hl_nil (then_n (hc_region ?_))
   refine r_loadA (cs := #[.slice (hs.getD k default).1.a (hs.getD k default).1.l.length (hs.getD k default).1.c, int (hs.getD k default).2.1, int (hs.getD k default).2.2]) rfl T.row_bold_hand T.sz_bold_hand rfl mB rfl ?_
   refine hl_pick (F := Hv.row (hs.getD k default)) (Fs := hs.map Hv.row) mB (List.mem_map.2 ⟨_, getD_mem hk2, rfl⟩) ?_
   refine hl_call F.bold_best_bold_hand_offer_cb rfl rfl (bold_best_bold_hand_offer_meets ord_Fill (hs.getD k default) y ok (by omega) (by omega)) (List.Perm.swap _ _ _) ⟨mB, mB, trivial⟩ fun z hz => ?_
   obtain ⟨z, zk⟩ := z
   obtain ⟨hz, hzi⟩ := hz
   refine hl_nil (inb_n (then_n (hc_region ?_)))
   refine r_add _ rfl rfl rfl rfl (by unfold I64; omega) ?_
   refine r_move rfl rfl (hl_nil ?_)
   rcases hzi with rfl | rfl
   · exact again _ (k + 1, (hs.getD k default), zk) ⟨by show k + 1 ≤ hs.length; omega, by show ((hs.getD k default).dat, zk) = bestL ordF ((hs.take (k + 1)).map Hv.dat); rw [take_map_succ hk2, best_snoc, ← ha]; exact hz, by first | exact hy | exact Nat.le_trans hx8 (Nat.le_refl _)⟩ (by show hs.length - (k + 1) < hs.length - k; omega) ⟨rfl, rfl, rfl, rfl, rfl, rfl, trivial⟩ (by first | exact .cons_cons _ (List.nil_sublist _) | exact .cons _ (.refl _)) ⟨mB, mB, mB, trivial⟩
   · exact again _ (k + 1, z, zk) ⟨by show k + 1 ≤ hs.length; omega, by show (z.dat, zk) = bestL ordF ((hs.take (k + 1)).map Hv.dat); rw [take_map_succ hk2, best_snoc, ← ha]; exact hz, by first | exact hy | exact Nat.le_trans hx8 (Nat.le_refl _)⟩ (by show hs.length - (k + 1) < hs.length - k; omega) ⟨rfl, rfl, rfl, rfl, rfl, rfl, trivial⟩ (by first | exact .cons_cons _ (List.nil_sublist _) | exact .cons _ (.refl _)) ⟨mB, mB, mB, trivial⟩
  ·have hb2' := hb2; try simp at hb2'
   have hk2 : k = hs.length := by omega
   rw [hk2, List.take_length, hd] at ha
   refine hc_exit (then_exit (then_exit (inb_hit (then_n (hc_seq ?_)))))
   refine hc_draw 7 mixed (by decide) (by decide) rfl rfl ?_
   refine hb_ex _ rfl rfl rfl (fun w1 => r_fieldAddr ⟨_, 0, none⟩ rfl rfl T.fa_bold_best_wayzgoose_bold_hand_0 rfl (hl_nil (qe_done rfl))) ?_
   refine hb_ex _ rfl rfl rfl (fun w1 => r_fieldAddr ⟨_, 0, none⟩ rfl rfl T.fa_bold_hand_0 rfl (hl_nil (qe_done rfl))) ?_
   refine hb_ex _ rfl rfl rfl (fun w1 => r_load rfl T.cell_ints rfl (cell_blk mB rfl) (hl_nil (qe_done rfl))) ?_
   refine hb_ex _ rfl rfl rfl (fun w1 => r_fieldAddr ⟨_, 0, none⟩ rfl rfl T.fa_bold_best_wayzgoose_bold_hand_0 rfl (hl_nil (qe_done rfl))) ?_
   refine hb_ex _ rfl rfl rfl (fun w1 => r_fieldAddr ⟨_, 2, none⟩ rfl rfl T.fa_bold_hand_2 rfl (hl_nil (qe_done rfl))) ?_
   refine hb_ex _ rfl rfl rfl (fun w1 => r_load rfl T.cell_int rfl (cell_blk mB rfl) (hl_nil (qe_done rfl))) ?_
   refine hb_ex _ rfl rfl rfl (fun w1 => r_assign rfl rfl (hl_nil (qe_done rfl))) ?_
   refine hb_nil ⟨rfl, ?_⟩
   refine r_assign rfl rfl (r_assign rfl rfl (hl_nil (then_n (hc_ret ?_))))
   have hE : fillE cs room = (y.1.l, y.2.2, 0) := by rw [fillE, if_neg (Classical.not_not.2 h0), ← ha]; rfl
   exact ret3 (y.1.a, y.1.c) rfl rfl rfl rfl (by show Value.tuple #[.slice y.1.a (fillE cs room).1.length y.1.c, int (fillE cs room).2.1, int (fillE cs room).2.2] = _; rw [hE] <;> rfl) rfl trivial (List.nil_sublist _) (by show LSub _ [Row y.1.a (rows (fillE cs room).1)]; rw [hE]; exact ⟨mB, trivial⟩)
theorem bold_Exact_meets {A : Option Addr} {ca : Nat} (cs : List Cd) (room : Int) (hn : cs.length ≤ 1000000) : Meets Try.prog F.bold_Exact [.slice A cs.length ca, int room] { LI := [Row A (rows cs)], val := fun x : OutC => .tuple #[.slice x.1 (exactE cs room).1.length x.2, int (exactE cs room).2], LO := fun x => [Row x.1 (rows (exactE cs room).1)] } := by
 refine meets_intro F.bold_Exact_f rfl (Nat.le_of_ble_eq_true rfl) fun w0 => ?_
 refine hc_seq (hc_region (r_assign rfl rfl (r_assign rfl rfl (hl_nil (then_n (hc_seq (hc_seq (hc_region (r_move rfl rfl (r_move rfl rfl ?_))))))))))
 refine hl_call F.bold_cardsError_cb rfl rfl (bold_cardsError_meets cs room hn) (List.Perm.refl _) ⟨mB, trivial⟩ fun _ _ => ?_
 refine r_assign rfl rfl (hl_nil (then_n (hc_seq (hc_region (r_move rfl rfl (r_neq rfl rfl rfl (hl_nil (then_n ?_))))))))
 refine c_dec rfl (fun hb1 => ?_) (fun hb1 => ?_)
 ·have hb1' := hb1; try simp at hb1'
  refine hc_seq (hc_region (r_move rfl rfl (r_assign rfl rfl (r_assign rfl rfl (hl_nil (then_n (hc_ret (then_ret ?_))))))))
  refine hq_nilrow (α := Int) ?_
  exact ret2 (none, 0) rfl rfl rfl (by show Value.tuple #[.slice none (exactE cs room).1.length 0, int (exactE cs room).2] = _; rw [exactE, if_pos hb1]; rfl) rfl trivial (List.nil_sublist _) (by show LSub _ [Row none (rows (exactE cs room).1)]; rw [exactE, if_pos hb1]; exact ⟨mB, trivial⟩)
 ·have hb1' := hb1; try simp at hb1'
  have h0 : cardsE cs room = 0 := Classical.not_not.1 hb1
  obtain ⟨hn8, hcd, hr0, hr1⟩ := cards_ok h0
  refine hc_skip (then_n (hc_seq (hc_region ?_)))
  refine r_build _ rfl rfl (fun _ => T.bd_bold_best_wayzgoose_bold_hand_2 ..) ?_
  refine r_alloc rfl (fun _ => T.al_bold_best_wayzgoose_bold_hand _) fun gB => ?_
  refine r_storeS (cs := offA ((⟨none, 0, []⟩, 0, 0) : Hv) false F.bold_Exact_1) rfl rfl (.refl _) T.sz_bold_best_wayzgoose_bold_hand (by rfl) (by rfl) ?_
  refine hl_nil (then_n (hc_seq (hc_seq (hc_region (r_move rfl rfl (r_move rfl rfl ?_))))))
  refine hl_call F.bold_hands_cb rfl rfl (bold_hands_meets cs room hn8 hcd) (List.Perm.refl _) ⟨mB, trivial⟩ fun x hx => ?_
  obtain ⟨hs, ⟨na, nc⟩, og⟩ := x
  obtain ⟨hd, hG⟩ := hx
  simp only at hd hG
  have hi8 := hands_in hd hn8
  have hll := hands_len hd
  have hN2 : 2 ^ cs.length ≤ 256 := Nat.pow_le_pow_right (n := 2) (by omega) hn8
  refine hl_grown hG ?_
  refine hl_nilrow (α := Int) ?_
  refine r_len_sl rfl T.u_L_bold_hand rfl ?_
  refine r_move rfl rfl (hl_nil (then_n (hc_block ?_)))
  refine hc_loop (β := Nat × Hv × Bool) ⟨fun x => x.1 ≤ hs.length ∧ (x.2.1.dat, x.2.2) = bestL ordX (((hs.take x.1).map Hv.dat).filter (fun x => decide (x.2.1 = room))) ∧ x.2.1.1.l.length ≤ 8, fun x => [(0, .slice A cs.length ca), (1, int room), (7, .pointer (some ⟨gB, 0, none⟩)), (19, .slice na hs.length nc), (20, int hs.length), (21, int x.1)], fun x => [(gB, Obj.cells (offA x.2.1 x.2.2 F.bold_Exact_1) T.bold_best_wayzgoose_bold_hand (0, 0))], fun x => [Row na (rows hs), innersF hs Hv.row, x.2.1.row]⟩ (fun x => hs.length - x.1) (0, ((⟨none, 0, []⟩, 0, 0) : Hv), false) ⟨Nat.zero_le _, rfl, Nat.zero_le _⟩ ⟨rfl, rfl, rfl, rfl, rfl, rfl, trivial⟩ (.refl _) ⟨mB, mB, mB, trivial⟩ fun x hx => ?_
  obtain ⟨k, y, ok⟩ := x
  obtain ⟨hk, ha, hy⟩ := hx
  simp only at hk ha hy
  refine hc_seq (hc_region (r_lss rfl rfl rfl (hl_nil (then_n (hc_seq ?_)))))
  refine c_dec rfl (fun hb2 => ?_) (fun hb2 => ?_)
  ·have hb2' := hb2; try simp at hb2'
   have hk2 : k < hs.length := by omega
   have hx8 := hi8 _ (getD_mem hk2)
   refine hc_skip (then_n (hc_seq (hc_block (hc_seq (hc_region ?_)))))
   refine r_elem (α := _) _ _ rfl T.u_L_bold_hand T.sz_bold_hand rfl rfl rfl mB rfl (by omega) (by decide) ?_
   refine r_loadS rfl T.row_bold_hand T.sz_bold_hand rfl rfl (cells_row mB (rows_all (by omega))) ?_
   refine r_alloc rfl (fun _ => T.al_bold_hand _) fun gA => ?_
   refine r_storeS (cs := #[.slice (hs.getD k default).1.a (hs.getD k default).1.l.length (hs.getD k default).1.c, int (hs.getD k default).2.1, int (hs.getD k default).2.2]) rfl rfl (.refl _) T.sz_bold_hand (by rfl) (by rfl) ?_
   refine hl_nil (then_n (hc_seq (hc_region ?_)))
   refine r_fieldAddr ⟨_, 1, none⟩ rfl rfl T.fa_bold_hand_1 rfl ?_
   refine r_load (v := int (hs.getD k default).2.1) rfl T.cell_int rfl (cell_own mB rfl) ?_
   refine r_move rfl rfl (r_eql rfl rfl rfl (hl_nil (then_n ?_)))
   refine c_dec rfl (fun hb3 => ?_) (fun hb3 => ?_)
   ·have hb3' := hb3; try simp at hb3'
    have hf3 : decide ((Hv.dat (hs.getD k default)).2.1 = room) = true := decide_eq_true hb3
    refine hc_region ?_
    refine r_loadA (cs := #[.slice (hs.getD k default).1.a (hs.getD k default).1.l.length (hs.getD k default).1.c, int (hs.getD k default).2.1, int (hs.getD k default).2.2]) rfl T.row_bold_hand T.sz_bold_hand rfl mB rfl ?_
    refine hl_pick (F := Hv.row (hs.getD k default)) (Fs := hs.map Hv.row) mB (List.mem_map.2 ⟨_, getD_mem hk2, rfl⟩) ?_
    refine hl_call F.bold_best_bold_hand_offer_cb rfl rfl (bold_best_bold_hand_offer_meets ord_Exact (hs.getD k default) y ok (by omega) (by omega)) (List.Perm.swap _ _ _) ⟨mB, mB, trivial⟩ fun z hz => ?_
    obtain ⟨z, zk⟩ := z
    obtain ⟨hz, hzi⟩ := hz
    refine hl_nil (inb_n (then_n (hc_region ?_)))
    refine r_add _ rfl rfl rfl rfl (by unfold I64; omega) ?_
    refine r_move rfl rfl (hl_nil ?_)
    rcases hzi with rfl | rfl
    · exact again _ (k + 1, (hs.getD k default), zk) ⟨by show k + 1 ≤ hs.length; omega, by show ((hs.getD k default).dat, zk) = bestL ordX (((hs.take (k + 1)).map Hv.dat).filter (fun x => decide (x.2.1 = room))); rw [take_map_succ hk2, List.filter_append, List.filter_cons, if_pos hf3, List.filter_nil, best_snoc, ← ha]; exact hz, by first | exact hy | exact Nat.le_trans hx8 (Nat.le_refl _)⟩ (by show hs.length - (k + 1) < hs.length - k; omega) ⟨rfl, rfl, rfl, rfl, rfl, rfl, trivial⟩ (by first | exact .cons_cons _ (List.nil_sublist _) | exact .cons _ (.refl _)) ⟨mB, mB, mB, trivial⟩
    · exact again _ (k + 1, z, zk) ⟨by show k + 1 ≤ hs.length; omega, by show (z.dat, zk) = bestL ordX (((hs.take (k + 1)).map Hv.dat).filter (fun x => decide (x.2.1 = room))); rw [take_map_succ hk2, List.filter_append, List.filter_cons, if_pos hf3, List.filter_nil, best_snoc, ← ha]; exact hz, by first | exact hy | exact Nat.le_trans hx8 (Nat.le_refl _)⟩ (by show hs.length - (k + 1) < hs.length - k; omega) ⟨rfl, rfl, rfl, rfl, rfl, rfl, trivial⟩ (by first | exact .cons_cons _ (List.nil_sublist _) | exact .cons _ (.refl _)) ⟨mB, mB, mB, trivial⟩
   ·have hb3' := hb3; try simp at hb3'
    have hf3 : ¬ decide ((Hv.dat (hs.getD k default)).2.1 = room) = true := fun h => hb3 (of_decide_eq_true h)
    refine hc_skip (inb_n (then_n (hc_region ?_)))
    refine r_add _ rfl rfl rfl rfl (by unfold I64; omega) ?_
    refine r_move rfl rfl (hl_nil ?_)
    exact again _ (k + 1, y, ok) ⟨by show k + 1 ≤ hs.length; omega, by show (y.dat, ok) = bestL ordX (((hs.take (k + 1)).map Hv.dat).filter (fun x => decide (x.2.1 = room))); rw [take_map_succ hk2, List.filter_append, List.filter_cons, if_neg hf3, List.filter_nil, List.append_nil]; exact ha, by first | exact hy | exact Nat.le_trans hx8 (Nat.le_refl _)⟩ (by show hs.length - (k + 1) < hs.length - k; omega) ⟨rfl, rfl, rfl, rfl, rfl, rfl, trivial⟩ (by first | exact .cons_cons _ (List.nil_sublist _) | exact .cons _ (.refl _)) ⟨mB, mB, mB, trivial⟩
  ·have hb2' := hb2; try simp at hb2'
   have hk2 : k = hs.length := by omega
   rw [hk2, List.take_length, hd] at ha
   have ha : (y.dat, ok) = exactL cs room := ha
   refine hc_exit (then_exit (then_exit (inb_hit (then_n (hc_seq (hc_seq (hc_region ?_)))))))
   refine r_fieldAddr ⟨_, 3, none⟩ rfl rfl T.fa_bold_best_wayzgoose_bold_hand_1 rfl ?_
   refine r_load (v := .bool ok) rfl T.cell_bool rfl (cell_own mB rfl) ?_
   refine r_not rfl rfl (hl_nil (then_n ?_))
   refine hc_cond rfl (fun hb4 => ?_) (fun hb4 => ?_)
   ·have hb4' := hb4; try simp at hb4'
    refine hc_seq (hc_region (r_assign rfl rfl (r_assign rfl rfl (hl_nil (then_n (hc_ret (then_ret ?_)))))))
    have hE : exactE cs room = ([], 11) := by rw [exactE, if_neg (Classical.not_not.2 h0), ← ha]; exact if_pos (by simpa using hb4)
    refine hq_nilrow (α := Int) ?_
    exact ret2 (none, 0) rfl rfl rfl (by show Value.tuple #[.slice none (exactE cs room).1.length 0, int (exactE cs room).2] = _; rw [hE]; rfl) rfl trivial (List.nil_sublist _) (by show LSub _ [Row none (rows (exactE cs room).1)]; rw [hE]; exact ⟨mB, trivial⟩)
   ·have hb4' := hb4; try simp at hb4'
    refine hc_skip (then_n (hc_seq (hc_region ?_)))
    refine r_fieldAddr ⟨_, 0, none⟩ rfl rfl T.fa_bold_best_wayzgoose_bold_hand_0 rfl ?_
    refine r_fieldAddr ⟨_, 0, none⟩ rfl rfl T.fa_bold_hand_0 rfl ?_
    refine r_load (v := .slice y.1.a y.1.l.length y.1.c) rfl T.cell_ints rfl (cell_own mB rfl) ?_
    refine r_assign rfl rfl (r_assign rfl rfl (hl_nil (then_n (hc_ret ?_))))
    have hE : exactE cs room = (y.1.l, 0) := by rw [exactE, if_neg (Classical.not_not.2 h0), ← ha]; exact if_neg (by simpa using hb4)
    exact ret2 (y.1.a, y.1.c) rfl rfl rfl (by show Value.tuple #[.slice y.1.a (exactE cs room).1.length y.1.c, int (exactE cs room).2] = _; rw [hE] <;> rfl) rfl trivial (List.nil_sublist _) (by show LSub _ [Row y.1.a (rows (exactE cs room).1)]; rw [hE]; exact ⟨mB, trivial⟩)
end Go.Proofs.Ytdlbbfcfahahdaa
end
section
namespace Go.Proofs.Ytdlbbfcfahahdaa
open Go Go.W
set_option linter.unusedVariables false
set_option linter.unusedSimpArgs false
set_option maxRecDepth 20000
attribute [local irreducible] HL HC HQ HB Row Rows2 Blk Facts
def streetsE (c : Ch) (ss : List Int) (xs : List Ad) : List Int × Int := if ¬ chkS c ss xs = 0 then ([], chkS c ss xs) else (discK c ss xs 10, 0)
def savedE (c : Ch) (ss : List Int) (xs : List Ad) : List Int × Int := if ¬ chkS c ss xs = 0 then ([], chkS c ss xs) else (numsN 102 c ss xs, 0)
def ctrC : Ch := (10, 25, 5, 40, 10, 2)
def ctrA : List Ad := [(0, 1, 1), (1, 2, 2), (2, 3, 3)]
def law_cards : List Cd := [(2, 30), (3, 50), (4, 60)]
theorem law09_cards_meets : Meets Try.prog F.law09_cards [] { val := fun g : Nat => .slice (some ⟨g, 0, none⟩) 3 3, LO := fun g => [Row (some ⟨g, 0, none⟩) (rows law_cards)] } := by
 refine meets_intro F.law09_cards_f rfl (Nat.le_of_ble_eq_true rfl) fun w0 => ?_
 refine hc_seq (hc_region (r_assign rfl rfl (hl_nil (then_n (hc_seq (hc_region ?_))))))
 refine r_build _ rfl rfl (fun _ => T.bd_api_Card_0_1 ..) ?_
 refine r_build _ rfl rfl (fun _ => T.bd_api_Card_0_1 ..) ?_
 refine r_build _ rfl rfl (fun _ => T.bd_api_Card_0_1 ..) ?_
 refine r_buildSlice _ rfl rfl (fun _ => T.bs_L_api_Card_3 ..) fun gS => ?_
 refine r_assign rfl rfl (hl_nil (then_n (hc_ret ?_)))
 refine hq_letgo (rows law_cards) (List.prefix_refl _) ?_
 exact ret1 gS rfl rfl rfl trivial (List.nil_sublist _) ⟨m0, trivial⟩
theorem law09_rates_meets : Meets Try.prog F.law09_rates [] { val := fun g : Nat => .slice (some ⟨g, 0, none⟩) 6 6, LO := fun g => [Row (some ⟨g, 0, none⟩) (rows ([5, 9, 4, 7, 6, 9] : List Int))] } := by
 refine meets_intro F.law09_rates_f rfl (Nat.le_of_ble_eq_true rfl) fun w0 => ?_
 refine hc_seq (hc_region (r_assign rfl rfl (hl_nil (then_n (hc_seq (hc_region ?_))))))
 refine r_buildSlice _ rfl rfl (fun _ => T.bs_ints_6 ..) fun gS => ?_
 refine r_assign rfl rfl (hl_nil (then_n (hc_ret ?_)))
 refine hq_letgo (rows ([5, 9, 4, 7, 6, 9] : List Int)) (List.prefix_refl _) ?_
 exact ret1 gS rfl rfl rfl trivial (List.nil_sublist _) ⟨m0, trivial⟩
end Go.Proofs.Ytdlbbfcfahahdaa
end
section
namespace Go.Proofs.Ytdlbbfcfahahdaa
open Go Go.W
set_option linter.unusedVariables false
set_option linter.unusedSimpArgs false
set_option maxRecDepth 20000
attribute [local irreducible] HL HC HQ HB Row Rows2 Blk Facts
abbrev ctrP (g : Nat) : Sl Int := ⟨some ⟨g, 0, none⟩, 3, [0, 0, 3]⟩
abbrev ctrQ (g : Nat) : Sl Ad := ⟨some ⟨g, 0, none⟩, 3, ctrA⟩
def someA : List Ad := [(0, 1, 1), (2, 3, 3)]
abbrev someQ (g : Nat) : Sl Ad := ⟨some ⟨g, 0, none⟩, 2, someA⟩
theorem law09_counter_meets : Meets Try.prog F.law09_counter [] { val := fun x : Nat × Nat => saV ctrC (ctrP x.1) (ctrQ x.2), LO := fun x => saL (ctrP x.1) (ctrQ x.2) } := by
 refine meets_intro F.law09_counter_f rfl (Nat.le_of_ble_eq_true rfl) fun w0 => ?_
 refine hc_seq (hc_region ?_)
 refine r_alloc rfl (fun _ => T.al_api_Sales _) fun g0 => ?_
 refine hl_nil (then_n (hc_seq (hc_region ?_)))
 refine r_build _ rfl rfl (fun _ => T.bd_api_Charges_0_1_2_3_4_5 ..) ?_
 refine r_buildSlice _ rfl rfl (fun _ => T.bs_ints_3 ..) fun gp => ?_
 refine hl_letgo (rows ([0, 0, 3] : List Int)) (List.prefix_refl _) ?_
 refine r_build _ rfl rfl (fun _ => T.bd_api_Advert_0_1_2 ..) ?_
 refine r_build _ rfl rfl (fun _ => T.bd_api_Advert_0_1_2 ..) ?_
 refine r_build _ rfl rfl (fun _ => T.bd_api_Advert_0_1_2 ..) ?_
 refine r_buildSlice _ rfl rfl (fun _ => T.bs_L_api_Advert_3 ..) fun gq => ?_
 refine hl_letgo (rows ctrA) (List.prefix_refl _) ?_
 refine r_build _ rfl rfl (fun _ => T.bd_api_Sales_0_1_2 ..) ?_
 refine r_storeS rfl rfl (by first | exact .refl _ | exact perm2 _ _ _ | exact perm3 _ _ _ _ | exact perm4 _ _ _ _ _) T.sz_api_Sales (by rfl) (by rfl) ?_
 refine hl_nil (then_n (hc_ret ?_))
 exact ret_row (gp, gq) rfl rfl T.row_api_Sales T.sz_api_Sales rfl m0 rfl rfl trivial (List.nil_sublist _) ⟨mB, mB, trivial⟩
theorem law09_some_meets : Meets Try.prog F.law09_some [] { val := fun x : Nat × Nat => saV ctrC (ctrP x.1) (someQ x.2), LO := fun x => saL (ctrP x.1) (someQ x.2) } := by
 refine meets_intro F.law09_some_f rfl (Nat.le_of_ble_eq_true rfl) fun w0 => ?_
 refine hc_seq (hc_region ?_)
 refine r_alloc rfl (fun _ => T.al_api_Sales _) fun g0 => ?_
 refine hl_nil (then_n (hc_seq (hc_region ?_)))
 refine hl_call F.law09_counter_cb rfl rfl (law09_counter_meets) (List.Perm.refl _) trivial fun x _ => ?_
 obtain ⟨gp, gq⟩ := x
 refine r_alloc rfl (fun _ => T.al_api_Sales _) fun g1 => ?_
 refine r_storeS (cs := #[int 10, int 25, int 5, int 40, int 10, int 2, .slice (some ⟨gp, 0, none⟩) 3 3, .slice (some ⟨gq, 0, none⟩) 3 3]) rfl rfl (.refl _) T.sz_api_Sales (by rfl) (by rfl) ?_
 refine hl_nil (then_n (hc_seq ?_))
 refine hc_draw 8 mixed (by decide) (by decide) rfl rfl ?_
 refine hb_ex _ rfl rfl rfl (fun w1 => r_fieldAddr ⟨_, 7, none⟩ rfl rfl T.fa_api_Sales_2 rfl (hl_nil (qe_done rfl))) ?_
 refine hb_ex _ rfl rfl rfl (fun w1 => r_load (v := .slice (some ⟨gq, 0, none⟩) 3 3) rfl T.cell_L_api_Advert rfl (cell_blk mB rfl) (hl_nil (qe_done rfl))) ?_
 refine hb_ex _ rfl rfl rfl (fun w1 => r_elem (α := Ad) ctrA 0 rfl T.u_L_api_Advert T.sz_api_Advert rfl rfl rfl mB rfl (by decide) (by decide) (hl_nil (qe_done rfl))) ?_
 refine hb_ex _ rfl rfl rfl (fun w1 => r_loadS (cs := [int 0, int 1, int 1]) rfl T.row_api_Advert T.sz_api_Advert rfl rfl (cells_row mB (rows_all (l := ctrA) (i := 0) (by decide))) (hl_nil (qe_done rfl))) ?_
 refine hb_ex _ rfl rfl rfl (fun w1 => r_fieldAddr ⟨_, 7, none⟩ rfl rfl T.fa_api_Sales_2 rfl (hl_nil (qe_done rfl))) ?_
 refine hb_ex _ rfl rfl rfl (fun w1 => r_load (v := .slice (some ⟨gq, 0, none⟩) 3 3) rfl T.cell_L_api_Advert rfl (cell_blk mB rfl) (hl_nil (qe_done rfl))) ?_
 refine hb_ex _ rfl rfl rfl (fun w1 => r_elem (α := Ad) ctrA 2 rfl T.u_L_api_Advert T.sz_api_Advert rfl rfl rfl mB rfl (by decide) (by decide) (hl_nil (qe_done rfl))) ?_
 refine hb_ex _ rfl rfl rfl (fun w1 => r_loadS (cs := [int 2, int 3, int 3]) rfl T.row_api_Advert T.sz_api_Advert rfl rfl (cells_row mB (rows_all (l := ctrA) (i := 2) (by decide))) (hl_nil (qe_done rfl))) ?_
 refine hb_nil ⟨rfl, ?_⟩
 refine r_buildSlice _ rfl rfl (fun _ => T.bs_L_api_Advert_2 ..) fun gr => ?_
 refine hl_letgo (rows someA) (List.prefix_refl _) ?_
 refine r_fieldAddr ⟨_, 7, none⟩ rfl rfl T.fa_api_Sales_2 rfl ?_
 refine r_store rfl rfl (.refl _) T.sz_L_api_Advert rfl rfl ?_
 refine hl_nil (then_n (hc_seq (hc_region ?_)))
 refine r_loadA (cs := #[int 10, int 25, int 5, int 40, int 10, int 2, .slice (some ⟨gp, 0, none⟩) 3 3, .slice (some ⟨gr, 0, none⟩) 2 2]) rfl T.row_api_Sales T.sz_api_Sales rfl m0 rfl ?_
 refine r_storeS (cs := #[int 10, int 25, int 5, int 40, int 10, int 2, .slice (some ⟨gp, 0, none⟩) 3 3, .slice (some ⟨gr, 0, none⟩) 2 2]) rfl rfl (List.Perm.swap _ _ _) T.sz_api_Sales (by rfl) (by rfl) ?_
 refine hl_nil (then_n (hc_ret ?_))
 exact ret_row (gp, gr) rfl rfl T.row_api_Sales T.sz_api_Sales rfl m0 rfl rfl trivial (List.nil_sublist _) ⟨mB, mB, trivial⟩
def shopsC : List Cl := [([102, 111, 111, 100], -1), ([98, 114, 101, 97, 100], 0), ([99, 108, 111, 116, 104], -1), ([104, 97, 116, 115], 2)]
def shopsH (g1 g2 : Nat) : List Hd := [([98, 97, 107, 101, 114], 1, -1, ⟨none, 0, []⟩), ([98, 111, 110, 110, 101, 116, 115], -1, 3, ⟨none, 0, []⟩), ([99, 111, 110, 102, 101, 99, 116, 105, 111, 110, 101, 114], 0, -1, ⟨some ⟨g1, 0, none⟩, 1, [0]⟩), ([104, 97, 116, 116, 101, 114], 3, -1, ⟨none, 0, []⟩), ([109, 101, 114, 99, 101, 114], 2, -1, ⟨some ⟨g2, 0, none⟩, 1, [3]⟩), ([109, 105, 108, 108, 105, 110, 101, 114], -1, 1, ⟨none, 0, []⟩)]
set_option maxHeartbeats 1000000 in
theorem law09_shops_meets : Meets Try.prog F.law09_shops [] { val := fun x : Nat × Nat × Nat × Nat => .agg #[.slice (some ⟨x.1, 0, none⟩) 4 4, .slice (some ⟨x.2.1, 0, none⟩) 6 6], LO := fun x => [Row (some ⟨x.1, 0, none⟩) (rows shopsC), RowsF (some ⟨x.2.1, 0, none⟩) (shopsH x.2.2.1 x.2.2.2) Hd.row] } := by
 refine meets_intro F.law09_shops_f rfl (Nat.le_of_ble_eq_true rfl) fun w0 => ?_
 refine hc_seq (hc_region ?_)
 refine r_alloc rfl (fun _ => T.al_api_Trades _) fun g0 => ?_
 refine hl_nil (then_n (hc_seq (hc_region ?_)))
 refine r_build _ rfl rfl (fun _ => T.bd_api_Class_0_1 ..) ?_
 refine r_build _ rfl rfl (fun _ => T.bd_api_Class_0 ..) ?_
 refine r_build _ rfl rfl (fun _ => T.bd_api_Class_0_1 ..) ?_
 refine r_build _ rfl rfl (fun _ => T.bd_api_Class_0_1 ..) ?_
 refine r_buildSlice _ rfl rfl (fun _ => T.bs_L_api_Class_4 ..) fun gC => ?_
 refine hl_letgo (rows shopsC) (List.prefix_refl _) ?_
 refine r_build _ rfl rfl (fun _ => T.bd_api_Head_0_1_2 ..) ?_
 refine r_build _ rfl rfl (fun _ => T.bd_api_Head_0_1_2 ..) ?_
 refine r_buildSlice _ rfl rfl (fun _ => T.bs_ints_1 ..) fun g1 => ?_
 refine hl_letgo (rows [(0 : Int)]) (List.prefix_refl _) ?_
 refine r_build _ rfl rfl (fun _ => T.bd_api_Head_0_2_3 ..) ?_
 refine r_build _ rfl rfl (fun _ => T.bd_api_Head_0_1_2 ..) ?_
 refine r_buildSlice _ rfl rfl (fun _ => T.bs_ints_1 ..) fun g2 => ?_
 refine hl_letgo (rows [(3 : Int)]) (List.prefix_refl _) ?_
 refine r_build _ rfl rfl (fun _ => T.bd_api_Head_0_1_2_3 ..) ?_
 refine r_build _ rfl rfl (fun _ => T.bd_api_Head_0_1_2 ..) ?_
 refine r_buildSlice _ rfl rfl (fun _ => T.bs_L_api_Head_6 ..) fun gH => ?_
 refine hl_letgo (rows (shopsH g1 g2)) (List.prefix_refl _) ?_
 refine r_build _ rfl rfl (fun _ => T.bd_api_Trades_0_1 ..) ?_
 refine r_storeS rfl rfl (by first | exact .refl _ | exact perm2 _ _ _ | exact perm3 _ _ _ _ | exact perm4 _ _ _ _ _) T.sz_api_Trades (by rfl) (by rfl) ?_
 refine hl_nil (then_n (hc_ret ?_))
 refine hq_nilrow (α := Int) ?_
 refine hq_facts (Fs := (shopsH g1 g2).map Hd.row) (by intro F hF; left; simp only [shopsH, List.map_cons, List.map_nil, List.mem_cons, List.not_mem_nil, or_false] at hF; rcases hF with rfl | rfl | rfl | rfl | rfl | rfl <;> repeat constructor) ?_
 refine hq_rowsF (A := some ⟨gH, 0, none⟩) (ps := shopsH g1 g2) (f := Hd.row) mB m0 ?_
 exact ret_row (gC, gH, g1, g2) rfl rfl T.row_api_Trades T.sz_api_Trades rfl m0 rfl rfl trivial (List.nil_sublist _) ⟨mB, m0, trivial⟩
end Go.Proofs.Ytdlbbfcfahahdaa
end
section
namespace Go.Proofs.Ytdlbbfcfahahdaa
open Go Go.W
set_option linter.unusedVariables false
set_option linter.unusedSimpArgs false
set_option maxRecDepth 20000
attribute [local irreducible] HL HC HQ HB Row Rows2 Blk Facts
instance : El Bool where
  default := false
  cells b := [.bool b]
  sz := 1
  len _ := rfl
  one a u h := by simp at h; subst h; rfl
def rdK (p : Int) (l : List Int) : List Bool := l.map fun v => decide (0 ≤ v ∧ v ≤ p)
theorem rdK_succ {p : Int} {l : List Int} {k : Nat} (hk : k < l.length) : rdK p (l.take (k + 1)) = rdK p (l.take k) ++ [decide (0 ≤ l.getD k default ∧ l.getD k default ≤ p)] := by
  unfold rdK
  rw [List.take_succ_eq_append_getElem hk, getD_at hk, List.map_append]; rfl
theorem rdK_len (p : Int) (l : List Int) : (rdK p l).length = l.length := by simp [rdK]
def reachK (t : Tr) (p : Int) (k : Nat) : List (List Bool) := (List.range k).map fun i : Nat => rdK p (stepsE t (i : Int)).1
theorem reachK_succ (t : Tr) (p : Int) (k : Nat) : reachK t p (k + 1) = reachK t p k ++ [rdK p (stepsE t (k : Int)).1] := by
  unfold reachK
  rw [List.range_succ, List.map_append]; rfl
abbrev N0 : Sl Bool := ⟨none, 0, []⟩
theorem at_cur {ps r : List (Sl Bool)} {x : Sl Bool} {i : Nat} (h : ps.length = i) : (ps ++ x :: r).getD i default = x := by
  subst h; simp [List.getD_eq_getElem?_getD]
theorem set_cur {ps r : List (Sl Bool)} {x y : Sl Bool} {i : Nat} (h : ps.length = i) : (ps ++ x :: r).set i y = ps ++ y :: r := by
  subst h; simp
theorem bold_reached_meets {A B : Option Addr} {ca cb : Nat} (cs : List Cl) (hs : List Hd) (p : Int) (hca : cs.length ≤ ca) (hcb : hs.length ≤ cb) (ha : ∀ h ∈ hs, h.2.2.2.l.length ≤ 1000000) (hn : hs.length ≤ 1000000) (hst : ∀ i : Nat, (stepsE (trOf cs hs) (i : Int)).1.length ≤ 1000000) : Meets Try.prog F.bold_reached [.agg #[.slice A cs.length ca, .slice B hs.length cb], int p] { LI := [Row A (rows cs), RowsF B hs Hd.row], inv := fun x : Nat × List (Sl Bool) => x.2.length = hs.length ∧ x.2.map (·.l) = reachK (trOf cs hs) p hs.length, val := fun x => .slice (some ⟨x.1, 0, none⟩) hs.length hs.length, LO := fun x => [Row (some ⟨x.1, 0, none⟩) (rows x.2), innerF x.2] } := by
 refine meets_intro F.bold_reached_f rfl (Nat.le_of_ble_eq_true rfl) fun w0 => ?_
 refine hc_seq (hc_region ?_)
 refine r_box rfl rfl fun gB => ?_
 refine r_assign rfl rfl (hl_nil (then_n (hc_seq (hc_letgoB (hc_region ?_)))))
 refine r_fieldAddr ⟨_, 1, none⟩ rfl rfl T.fa_api_Trades_1 rfl ?_
 refine r_load (v := .slice B hs.length cb) rfl T.cell_L_api_Head rfl (cell_blk mB rfl) ?_
 refine r_len_sl rfl T.u_L_api_Head rfl ?_
 refine r_makeR (α := Sl Bool) (n := hs.length) (bytes := 24) (z := .slice none 0 0) N0 rfl T.u_L_L_bool (by kernel_rfl) rfl rfl rfl rfl (by omega) (by omega) fun go => ?_
 refine r_assign rfl rfl (hl_nil (then_n (hc_seq (hc_seq (hc_region (r_move rfl rfl ?_))))))
 refine r_len_sl rfl T.u_L_L_bool rfl ?_
 refine r_move rfl rfl (hl_nil (then_n (hc_block ?_)))
 refine hc_facts (Fs := ([] : List (Sl Bool)).map fun p => Row p.a (rows p.l)) (by intro F hF; cases hF) ?_
 refine hc_loop (β := Nat × List (Sl Bool)) ⟨fun x => x.1 ≤ hs.length ∧ x.2.length = x.1 ∧ x.2.map (·.l) = reachK (trOf cs hs) p x.1, fun x => [(1, int p), (2, .pointer (some ⟨gB, 0, none⟩)), (5, .slice (some ⟨go, 0, none⟩) hs.length hs.length), (16, int hs.length), (17, int x.1)], fun x => [(go, Obj.cells (rows (x.2 ++ List.replicate (hs.length - x.1) N0)).toArray T.L_bool (0, 0))], fun x => [Blk gB (Obj.cells #[.slice A cs.length ca, .slice B hs.length cb] T.api_Trades (0, 0)), Row A (rows cs), RowsF B hs Hd.row, innerF x.2]⟩ (fun x => hs.length - x.1) (0, []) ⟨Nat.zero_le _, rfl, rfl⟩ ⟨rfl, rfl, rfl, rfl, rfl, trivial⟩ (.refl _) ⟨mB, mB, mB, mB, trivial⟩ fun x hx => ?_
 obtain ⟨i, ps⟩ := x
 obtain ⟨hi, hpl, hpm⟩ := hx
 simp only at hi hpl hpm
 have hs1 := hst i
 refine hc_seq (hc_region (r_lss rfl rfl rfl (hl_nil (then_n (hc_seq ?_)))))
 refine c_dec rfl (fun hb1 => ?_) (fun hb1 => ?_)
 ·have hb1' := hb1; try simp at hb1'
  have hi2 : i < hs.length := by omega
  obtain ⟨q, hq⟩ : ∃ q, hs.length - i = q + 1 := ⟨hs.length - i - 1, by omega⟩
  refine hc_skip (then_n (hc_seq (hc_block (hc_seq (hc_region (r_move rfl rfl (r_assign rfl rfl (hl_nil (then_n (hc_seq (hc_region ?_)))))))))))
  refine r_loadB (cs := #[.slice A cs.length ca, .slice B hs.length cb]) rfl T.row_api_Trades T.sz_api_Trades rfl mB rfl ?_
  refine r_move rfl rfl ?_
  refine hl_call F.trade_Steps_cb rfl rfl (trade_Steps_meets cs hs (i : Int) hca hcb ha) (List.Perm.refl _) ⟨mB, mB, trivial⟩ fun x hx => ?_
  obtain ⟨xa, xc⟩ := x
  refine r_move rfl rfl (r_extract rfl rfl rfl (r_extract rfl rfl rfl (r_assign rfl rfl (r_assign rfl rfl (hl_nil (then_n (hc_seq (hc_region (r_move rfl rfl ?_)))))))))
  refine r_len_sl rfl T.u_ints rfl ?_
  refine r_move rfl rfl (hl_nil (then_n (hc_block ?_)))
  refine hc_perm (hp' := [(go, Obj.cells (rows (ps ++ N0 :: List.replicate q N0)).toArray T.L_bool (0, 0))]) (by show List.Perm [(go, Obj.cells (rows (ps ++ List.replicate (hs.length - i) N0)).toArray T.L_bool (0, 0))] _; rw [hq]; exact .refl _) ?_
  refine hc_loop (β := Nat × OutC × Hp) ⟨fun x => x.1 ≤ (stepsE (trOf cs hs) (i : Int)).1.length ∧ Grow T.bool 1 x.2.1.1 (rdK p ((stepsE (trOf cs hs) (i : Int)).1.take (x.1))).length x.2.1.2 (rows (rdK p ((stepsE (trOf cs hs) (i : Int)).1.take (x.1)))) x.2.2, fun x => [(1, int p), (2, .pointer (some ⟨gB, 0, none⟩)), (5, .slice (some ⟨go, 0, none⟩) hs.length hs.length), (6, int i), (16, int hs.length), (17, int i), (26, .slice xa (stepsE (trOf cs hs) (i : Int)).1.length xc), (27, int (stepsE (trOf cs hs) (i : Int)).1.length), (28, int x.1)], fun x => (go, Obj.cells (rows (ps ++ ⟨x.2.1.1, x.2.1.2, (rdK p ((stepsE (trOf cs hs) (i : Int)).1.take (x.1)))⟩ :: List.replicate q N0)).toArray T.L_bool (0, 0)) :: x.2.2, fun _ => [Row xa (rows (stepsE (trOf cs hs) (i : Int)).1), Blk gB (Obj.cells #[.slice A cs.length ca, .slice B hs.length cb] T.api_Trades (0, 0)), Row A (rows cs), RowsF B hs Hd.row, innerF ps]⟩ (fun x => (stepsE (trOf cs hs) (i : Int)).1.length - x.1) (0, (none, 0), []) ⟨Nat.zero_le _, Grow.nil _ _⟩ ⟨rfl, rfl, rfl, rfl, rfl, rfl, rfl, rfl, rfl, trivial⟩ (.refl _) ⟨mB, mB, mB, mB, mB, trivial⟩ fun x hx => ?_
  obtain ⟨j, ⟨na, nc⟩, og⟩ := x
  obtain ⟨hj, hG⟩ := hx
  simp only at hj hG
  have hlen : (rdK p ((stepsE (trOf cs hs) (i : Int)).1.take (j))).length ≤ j := by rw [rdK_len, List.length_take]; exact Nat.min_le_left _ _
  refine hc_seq (hc_region (r_lss rfl rfl rfl (hl_nil (then_n (hc_seq ?_)))))
  refine c_dec rfl (fun hb2 => ?_) (fun hb2 => ?_)
  ·have hb2' := hb2; try simp at hb2'
   have hj2 : j < (stepsE (trOf cs hs) (i : Int)).1.length := by omega
   have hbs := rdK_succ (p := p) hj2
   refine hc_skip (then_n (hc_seq (hc_block (hc_seq (hc_region ?_)))))
   refine r_elem (α := Int) _ _ rfl T.u_ints T.sz_int rfl rfl rfl mB rfl (by omega) (by decide) ?_
   refine r_load rfl T.cell_int rfl (cell_row mB (rows_get0 (by omega) rfl)) ?_
   refine r_assign rfl rfl (hl_nil (then_n ?_))
   refine hc_drawW (og) ([(go, Obj.cells (rows (ps ++ ⟨na, nc, (rdK p ((stepsE (trOf cs hs) (i : Int)).1.take (j)))⟩ :: List.replicate q N0)).toArray T.L_bool (0, 0))]) (List.perm_append_comm (l₁ := [_]) (l₂ := og)) 11 [10] mixed (by decide) (by decide) (by decide) rfl rfl rfl ?_
   refine hb_ex _ rfl rfl rfl (fun w1 => r_move rfl rfl (hl_nil (qe_done rfl))) ?_
   refine hb_ex _ rfl rfl rfl (fun w1 => r_move rfl rfl (hl_nil (qe_done rfl))) ?_
   refine hb_ex _ rfl rfl rfl (fun w1 => r_move rfl rfl (hl_nil (qe_done rfl))) ?_
   refine hb_ex _ rfl rfl rfl (fun w1 => r_move rfl rfl (hl_nil (qe_done rfl))) ?_
   refine hb_ex _ rfl rfl rfl (fun w1 => r_indexAddr_own i (0 + i * 1) rfl T.u_L_L_bool T.sz_L_bool rfl rfl rfl (by omega) rfl (hl_nil (qe_done rfl))) ?_
   refine hb_ex _ rfl rfl rfl (fun w1 => r_load (v := .slice na (rdK p ((stepsE (trOf cs hs) (i : Int)).1.take (j))).length nc) rfl T.cell_L_bool rfl (cell_blkf (α := Sl Bool) (k := i) (f := 0) mB (by show 0 + i * 1 = i * 1 + 0; omega) (by rw [List.length_append, hpl]; simp) (by rw [at_cur hpl]; rfl)) (hl_nil (qe_done rfl))) ?_
   refine hb_ex _ rfl rfl rfl (fun w1 => r_move rfl rfl (hl_nil (qe_done rfl))) ?_
   refine hb_ex _ rfl rfl rfl (fun w1 => r_move rfl rfl (hl_nil (qe_done rfl))) ?_
   refine hb_ex _ rfl rfl rfl (fun w1 => hl_call F.bold_between_cb rfl rfl (bold_between_meets _ _ _) (List.Perm.refl _) trivial fun _ _ => (hl_nil (qe_done rfl))) ?_
   refine hb_vs ⟨Nat, fun _ => True, fun g1 => .slice (some ⟨g1, 0, none⟩) 1 1, fun g1 => [Row (some ⟨g1, 0, none⟩) (rows [(decide (0 ≤ (stepsE (trOf cs hs) (i : Int)).1.getD j default ∧ (stepsE (trOf cs hs) (i : Int)).1.getD j default ≤ p))])]⟩ rfl rfl rfl ?_ ?_
   ·intro w1
    refine r_buildSlice _ rfl rfl (fun _ => T.bs_L_bool_1 ..) fun gS => ?_
    refine hl_nil ?_
    refine hq_letgo (rows [(decide (0 ≤ (stepsE (trOf cs hs) (i : Int)).1.getD j default ∧ (stepsE (trOf cs hs) (i : Int)).1.getD j default ≤ p))]) (List.prefix_refl _) ?_
    exact qv_done gS trivial rfl ⟨m0, trivial⟩
   refine hb_wr ⟨OutC × Hp, fun x => Grow T.bool 1 x.1.1 ((rdK p ((stepsE (trOf cs hs) (i : Int)).1.take (j))).length + 1) x.1.2 (rows ((rdK p ((stepsE (trOf cs hs) (i : Int)).1.take (j))) ++ [(decide (0 ≤ (stepsE (trOf cs hs) (i : Int)).1.getD j default ∧ (stepsE (trOf cs hs) (i : Int)).1.getD j default ≤ p))])) x.2, fun x => .slice x.1.1 ((rdK p ((stepsE (trOf cs hs) (i : Int)).1.take (j))).length + 1) x.1.2, fun _ => [], fun x => x.2⟩ rfl rfl rfl ?_ ?_
   ·intro g1 _; intro w1
    refine r_append (hp' := []) ((rdK p ((stepsE (trOf cs hs) (i : Int)).1.take (j))).length + 1) (rows ((rdK p ((stepsE (trOf cs hs) (i : Int)).1.take (j))) ++ [(decide (0 ≤ (stepsE (trOf cs hs) (i : Int)).1.getD j default ∧ (stepsE (trOf cs hs) (i : Int)).1.getD j default ≤ p))])) T.el_L_bool rfl rfl rfl hG (by rw [List.append_nil]) (Src.row (news := rows [(decide (0 ≤ (stepsE (trOf cs hs) (i : Int)).1.getD j default ∧ (stepsE (trOf cs hs) (i : Int)).1.getD j default ≤ p))]) (m := 1) mB rfl (rows_one _) (by decide)) rfl (rows_append _ _).symm (by unfold maxLen; omega) (by omega) fun A' c' og' hG' => ?_
    refine hl_nil ?_
    exact qw_done ((A', c'), og') hG' (fun _ => rfl) (List.sublist_append_left _ _) trivial
   refine hb_nil ⟨rfl, ?_⟩
   intro g1 _ y hy
   obtain ⟨⟨A', c'⟩, og'⟩ := y
   refine r_indexAddr_own i (0 + i * 1) rfl T.u_L_L_bool T.sz_L_bool rfl rfl rfl (by omega) rfl ?_
   refine r_storef (α := Sl Bool) (k := i) (f := 0) (hp' := og') ⟨A', c', (rdK p ((stepsE (trOf cs hs) (i : Int)).1.take (j))) ++ [(decide (0 ≤ (stepsE (trOf cs hs) (i : Int)).1.getD j default ∧ (stepsE (trOf cs hs) (i : Int)).1.getD j default ≤ p))]⟩ rfl (by show 0 + i * 1 = i * 1 + 0; omega) rfl (List.perm_append_comm (l₁ := og') (l₂ := [_])) T.sz_L_bool (by rw [List.length_append, hpl]; simp) (by decide) (by rw [at_cur hpl]; show [_] = [_]; rw [List.length_append]; rfl) rfl ?_
   rw [set_cur hpl]
   refine hl_nil (inb_n (then_n (hc_region ?_)))
   refine r_add _ rfl rfl rfl rfl (by unfold I64; omega) ?_
   refine r_move rfl rfl (hl_nil ?_)
   exact again _ (j + 1, (A', c'), og') ⟨by show j + 1 ≤ _; omega, by show Grow T.bool 1 A' (rdK p ((stepsE (trOf cs hs) (i : Int)).1.take (j + 1))).length c' (rows (rdK p ((stepsE (trOf cs hs) (i : Int)).1.take (j + 1)))) og'; rw [hbs, List.length_append]; exact hy⟩ (by show (stepsE (trOf cs hs) (i : Int)).1.length - (j + 1) < (stepsE (trOf cs hs) (i : Int)).1.length - j; omega) ⟨rfl, rfl, rfl, rfl, rfl, rfl, rfl, rfl, rfl, trivial⟩ (by show List.Sublist ((go, Obj.cells (rows (ps ++ ⟨A', c', (rdK p ((stepsE (trOf cs hs) (i : Int)).1.take (j + 1)))⟩ :: List.replicate q N0)).toArray T.L_bool (0, 0)) :: og') _; rw [hbs]; exact .refl _) ⟨mB, mB, mB, mB, mB, trivial⟩
  ·have hb2' := hb2; try simp at hb2'
   have hj2 : j = (stepsE (trOf cs hs) (i : Int)).1.length := by omega
   subst hj2
   refine hc_exit (then_exit (then_exit (inb_hit (inb_n (then_n (hc_region ?_))))))
   refine r_add _ rfl rfl rfl rfl (by unfold I64; omega) ?_
   refine r_move rfl rfl (hl_nil ?_)
   refine hq_perm (hp' := og ++ [(go, Obj.cells (rows (ps ++ ⟨na, nc, (rdK p ((stepsE (trOf cs hs) (i : Int)).1.take ((stepsE (trOf cs hs) (i : Int)).1.length)))⟩ :: List.replicate q N0)).toArray T.L_bool (0, 0))]) (List.perm_append_comm (l₁ := [_]) (l₂ := og)) ?_
   refine hq_grown hG ?_
   refine hq_facts (innerF_snoc (p := ((⟨na, nc, (rdK p ((stepsE (trOf cs hs) (i : Int)).1.take ((stepsE (trOf cs hs) (i : Int)).1.length)))⟩) : Sl Bool)) (ps := ps) (f := fun p => Row p.a (rows p.l)) mB mB) ?_
   exact again _ (i + 1, ps ++ [⟨na, nc, (rdK p ((stepsE (trOf cs hs) (i : Int)).1.take ((stepsE (trOf cs hs) (i : Int)).1.length)))⟩]) ⟨by show i + 1 ≤ hs.length; omega, by show (ps ++ [_]).length = i + 1; simp [hpl], by show (ps ++ [_]).map (fun x : Sl Bool => x.l) = _; rw [reachK_succ, List.map_append, hpm]; show _ ++ [rdK p (List.take _ _)] = _; rw [List.take_length]⟩ (by show hs.length - (i + 1) < hs.length - i; omega) ⟨rfl, rfl, rfl, rfl, rfl, trivial⟩ (by show List.Sublist [(go, Obj.cells (rows ((ps ++ [⟨na, nc, (rdK p ((stepsE (trOf cs hs) (i : Int)).1.take ((stepsE (trOf cs hs) (i : Int)).1.length)))⟩]) ++ List.replicate (hs.length - (i + 1)) N0)).toArray T.L_bool (0, 0))] _; rw [List.append_assoc, show hs.length - (i + 1) = q by omega]; exact .refl _) ⟨mB, mB, mB, mB, trivial⟩
 ·have hb1' := hb1; try simp at hb1'
  have hi2 : i = hs.length := by omega
  refine hc_exit (then_exit (then_exit (inb_hit (then_n (hc_seq (hc_region (r_move rfl rfl (r_assign rfl rfl (hl_nil (then_n (hc_ret ?_)))))))))))
  refine hq_letgo (rows ps) (by show rows ps <+: rows (ps ++ _); rw [rows_append]; exact List.prefix_append ..) ?_
  exact ret1 (go, ps) rfl rfl rfl ⟨hpl.trans hi2, by show ps.map _ = _; rw [hpm, hi2]⟩ (List.nil_sublist _) ⟨mB, mB, trivial⟩
end Go.Proofs.Ytdlbbfcfahahdaa
end
section
namespace Go.Proofs.Ytdlbbfcfahahdaa
open Go Go.W
set_option linter.unusedVariables false
set_option linter.unusedSimpArgs false
set_option maxRecDepth 20000
attribute [local irreducible] HL HC HQ HB Row Rows2 Blk Facts
theorem any_take {l : List Int} {b : Int → Bool} {k : Nat} (hk : k < l.length) (h : (l.take k).any b = false) (h2 : b (l.getD k default) = false) : (l.take (k + 1)).any b = false := by
  rw [List.take_succ_eq_append_getElem hk, ← getD_at hk, List.any_append, h]
  simpa using h2
theorem slices_IndexFunc_ints_meets {A : Option Addr} {cp f : Nat} {cap : List Value} {L0 : List Fact} (l : List Int) (b : Int → Bool) (hl : l.length ≤ 1000000) (hcb : Callable Try.prog f) (hm : ∀ x ∈ l, Meets Try.prog f ([int x] ++ cap) { LI := L0, val := fun _ : Unit => .bool (b x) }) : Meets Try.prog F.slices_IndexFunc_ints [.slice A l.length cp, .func (.func f) #[] cap.toArray] { LI := Row A (rows l) :: L0, inv := fun z : Int => (0 ≤ z ↔ l.any b = true), val := fun z => int z } := by
 refine meets_intro F.slices_IndexFunc_ints_f rfl (Nat.le_of_ble_eq_true rfl) fun w0 => ?_
 refine hc_seq (hc_region (r_assign rfl rfl (hl_nil (then_n (hc_seq (hc_seq (hc_region (r_move rfl rfl ?_))))))))
 refine r_len_sl rfl T.u_ints rfl ?_
 refine r_move rfl rfl (hl_nil (then_n (hc_block ?_)))
 refine hc_loop (β := Nat) ⟨fun k => k ≤ l.length ∧ (l.take k).any b = false, fun k => [(0, .slice A l.length cp), (1, .func (.func f) #[] cap.toArray), (7, int l.length), (8, int k)], fun _ => [], fun _ => Row A (rows l) :: L0⟩ (fun k => l.length - k) 0 ⟨Nat.zero_le _, rfl⟩ ⟨rfl, rfl, rfl, rfl, trivial⟩ (.refl _) ⟨m0, (LSub.of_mem fun F hF => List.mem_cons_of_mem _ hF)⟩ fun k hk => ?_
 obtain ⟨hk, ht⟩ := hk
 refine hc_seq (hc_region (r_lss rfl rfl rfl (hl_nil (then_n (hc_seq ?_)))))
 first | refine c_dec rfl (fun hb1 => ?_) (fun hb1 => ?_) | refine hc_cond rfl (fun hb1 => ?_) (fun hb1 => ?_)
 ·have hb1' := hb1; try simp at hb1'
  have hk2 : k < l.length := by omega
  refine hc_skip (then_n (hc_seq (hc_block (hc_seq (hc_region (r_move rfl rfl (r_assign rfl rfl (hl_nil (then_n (hc_seq (hc_region ?_)))))))))))
  refine r_move rfl rfl (r_move rfl rfl (r_move rfl rfl ?_))
  refine r_elem (α := Int) _ _ rfl T.u_ints T.sz_int rfl rfl rfl mB rfl (by omega) (by decide) ?_
  refine r_load rfl T.cell_int rfl (cell_row mB (rows_get0 (by omega) rfl)) ?_
  refine hl_callv (vs := [int (l.getD k default)]) (cap := cap) hcb rfl rfl rfl (hm _ (getD_mem hk2)) (List.Perm.refl _) (LSub.of_mem fun F hF => List.mem_cons_of_mem _ hF) fun _ _ => ?_
  refine hl_nil (then_n ?_)
  first | refine c_dec rfl (fun hb2 => ?_) (fun hb2 => ?_) | refine hc_cond rfl (fun hb2 => ?_) (fun hb2 => ?_)
  ·have hb2' := hb2; try simp at hb2'
   refine hc_seq (hc_region (r_move rfl rfl (r_assign rfl rfl (hl_nil (then_n (hc_ret (inb_ret (then_ret (then_ret (inb_ret (then_ret ?_)))))))))))
   exact ret1 (k : Int) rfl rfl rfl ⟨fun _ => List.any_eq_true.2 ⟨_, getD_mem hk2, hb2⟩, fun _ => by omega⟩ (List.nil_sublist _) trivial
  ·have hb2' := hb2; try simp at hb2'
   refine hc_skip (inb_n (then_n (hc_region ?_)))
   refine r_add _ rfl rfl rfl rfl (by unfold I64; omega) ?_
   refine r_move rfl rfl (hl_nil ?_)
   exact again _ (k + 1) ⟨by show k + 1 ≤ l.length; omega, any_take hk2 ht (by simpa using hb2)⟩ (by show l.length - (k + 1) < l.length - k; omega) ⟨rfl, rfl, rfl, rfl, trivial⟩ (List.nil_sublist _) ⟨by first | exact m0 | exact List.mem_cons_self .., LSub.of_mem fun F hF => by first | exact List.mem_cons_of_mem _ hF | exact List.mem_append_right _ (List.mem_cons_of_mem _ hF)⟩
 ·have hb1' := hb1; try simp at hb1'
  have hk2 : k = l.length := by omega
  rw [hk2, List.take_length] at ht
  refine hc_exit (then_exit (then_exit (inb_hit (then_n (hc_seq (hc_region (r_assign rfl rfl (hl_nil (then_n (hc_ret ?_))))))))))
  exact ret1 (-1) rfl rfl rfl ⟨fun h => by omega, fun h => by rw [ht] at h; cases h⟩ (.refl _) trivial
theorem slices_ContainsFunc_ints_meets {A : Option Addr} {cp f : Nat} {cap : List Value} {L0 : List Fact} (l : List Int) (b : Int → Bool) (hl : l.length ≤ 1000000) (hcb : Callable Try.prog f) (hm : ∀ x ∈ l, Meets Try.prog f ([int x] ++ cap) { LI := L0, val := fun _ : Unit => .bool (b x) }) : Meets Try.prog F.slices_ContainsFunc_ints [.slice A l.length cp, .func (.func f) #[] cap.toArray] { LI := Row A (rows l) :: L0, val := fun _ : Unit => .bool (l.any b) } := by
 refine meets_intro F.slices_ContainsFunc_ints_f rfl (Nat.le_of_ble_eq_true rfl) fun w0 => ?_
 refine hc_seq (hc_region (r_assign rfl rfl (hl_nil (then_n (hc_seq (hc_region (r_move rfl rfl (r_move rfl rfl ?_))))))))
 refine hl_call F.slices_IndexFunc_ints_cb rfl rfl (slices_IndexFunc_ints_meets l b hl hcb hm) (List.Perm.refl _) ⟨m0, (LSub.of_mem fun F hF => List.mem_cons_of_mem _ hF)⟩ fun z hz => ?_
 refine r_geq rfl rfl rfl (r_assign rfl rfl (hl_nil (then_n (hc_ret ?_))))
 exact ret1 () rfl (congrArg (fun b => some (Value.bool b)) (by have hz : (0 ≤ z ↔ l.any b = true) := hz; cases e : l.any b <;> simp_all)) rfl trivial (List.nil_sublist _) trivial
theorem bold_Found_2_meets {g1 g2 : Nat} {A : Option Addr} {c : Nat} (ps : List (Sl Bool)) (v x : Nat) (hv : v < ps.length) (hx : x < (ps.getD v default).l.length) : Meets Try.prog F.bold_Found_2 [int x, .pointer (some ⟨g1, 0, none⟩), .pointer (some ⟨g2, 0, none⟩)] { LI := [Row (some ⟨g1, 0, none⟩) (rows [(⟨A, c, ps⟩ : Sl (Sl Bool))]), Row (some ⟨g2, 0, none⟩) (rows [(v : Int)]), Row A (rows ps), innerF ps], val := fun _ : Unit => .bool ((ps.getD v default).l.getD x default) } := by
 refine meets_intro F.bold_Found_2_f rfl (Nat.le_of_ble_eq_true rfl) fun w0 => ?_
 refine hc_seq (hc_region (r_assign rfl rfl (hl_nil (then_n (hc_seq (hc_region ?_))))))
 refine r_load (v := .slice A ps.length c) rfl T.cell_L_L_bool rfl (cell_row (A := some ⟨g1, 0, none⟩) mB (rows_get0 (l := [(⟨A, c, ps⟩ : Sl (Sl Bool))]) (i := 0) Nat.zero_lt_one rfl)) ?_
 refine r_load (v := int v) rfl T.cell_int rfl (cell_row (A := some ⟨g2, 0, none⟩) mB (rows_get0 (l := [(v : Int)]) (i := 0) Nat.zero_lt_one rfl)) ?_
 refine r_elem (α := Sl Bool) ps v rfl T.u_L_L_bool T.sz_L_bool rfl rfl rfl mB rfl hv (by decide) ?_
 refine r_load (v := .slice (ps.getD v default).a (ps.getD v default).l.length (ps.getD v default).c) rfl T.cell_L_bool rfl (cell_row mB (rows_get0 hv rfl)) ?_
 refine hl_pick (F := Row (ps.getD v default).a (rows (ps.getD v default).l)) (Fs := ps.map fun p => Row p.a (rows p.l)) mB (List.mem_map.2 ⟨_, getD_mem hv, rfl⟩) ?_
 refine r_move rfl rfl ?_
 refine r_elem (α := Bool) (ps.getD v default).l x rfl T.u_L_bool T.sz_bool rfl rfl rfl mB rfl hx (by decide) ?_
 refine r_load (v := .bool ((ps.getD v default).l.getD x default)) rfl T.cell_bool rfl (cell_row mB (rows_get0 hx rfl)) ?_
 refine r_assign rfl rfl (hl_nil (then_n (hc_ret ?_)))
 exact ret1 () rfl rfl rfl trivial (List.nil_sublist _) trivial
end Go.Proofs.Ytdlbbfcfahahdaa
end
section
namespace Go.Proofs.Ytdlbbfcfahahdaa
open Go Go.W
set_option linter.unusedVariables false
set_option linter.unusedSimpArgs false
set_option maxRecDepth 20000
attribute [local irreducible] HL HC HQ HB Row Rows2 Blk Facts
theorem trade_Check_meets {A B : Option Addr} {ca cb : Nat} (cs : List Cl) (hs : List Hd) (hca : cs.length ≤ ca) (hcb : hs.length ≤ cb) (ha : ∀ h ∈ hs, h.2.2.2.l.length ≤ 1000000) : Meets Try.prog F.trade_Check [.agg #[.slice A cs.length ca, .slice B hs.length cb]] { LI := [Row A (rows cs), RowsF B hs Hd.row], val := fun _ : Unit => int (checkT (trOf cs hs)) } := by
 refine meets_intro F.trade_Check_f rfl (Nat.le_of_ble_eq_true rfl) fun w0 => ?_
 refine hc_seq (hc_region ?_)
 refine r_box rfl rfl fun gB => ?_
 refine r_assign rfl rfl (hl_nil (then_n (hc_seq (hc_region ?_))))
 first | refine r_loadA rfl T.row_api_Trades T.sz_api_Trades rfl mB (by rfl) ?_ | refine r_loadB rfl T.row_api_Trades T.sz_api_Trades rfl mB (by rfl) ?_ | refine r_loadS rfl T.row_api_Trades T.sz_api_Trades rfl rfl (cells_row mB (rows_all (by omega))) ?_
 refine hl_call F.trade_check_cb rfl rfl (trade_check_meets cs hs hca hcb ha) (List.Perm.refl _) ⟨mB, mB, trivial⟩ fun _ _ => ?_
 refine r_assign rfl rfl (hl_nil (then_n (hc_ret ?_)))
 exact ret1 () rfl rfl rfl trivial (List.nil_sublist _) trivial
theorem reach_len {cs : List Cl} {hs : List Hd} (h0 : checkT (trOf cs hs) = 0) {i : Nat} (hi : i < hs.length) : (stepsE (trOf cs hs) (i : Int)).1.length = hs.length := by
  have hl := hs_len cs hs
  have hh : 0 ≤ (i : Int) ∧ (i : Int) ≤ ((trOf cs hs).hs.length : Int) - 1 := by omega
  rw [show stepsE (trOf cs hs) i = (stepsT (trOf cs hs) i, 0) by rw [stepsE, if_neg (not_not_intro (ask_one h0 hh))]]
  show (stepsT (trOf cs hs) i).length = _
  rw [steps_len, hl]
theorem steps_bd (cs : List Cl) (hs : List Hd) (hn : hs.length ≤ 1000000) (i : Nat) : (stepsE (trOf cs hs) (i : Int)).1.length ≤ 1000000 := by
  unfold stepsE
  split
  · simp
  · show (stepsT (trOf cs hs) i).length ≤ _
    rw [steps_len, hs_len]; exact hn
/-- The heads of a hand can all be bought, and reach all that is wanted. -/
def fndOK (hs : List Hd) (rs : List (List Bool)) (ws : List Int) (s : List Int) : Bool := (s.all fun k => decide (0 ≤ (hs.getD k.toNat default).2.1)) && ws.all fun w => s.any fun k => (rs.getD w.toNat default).getD k.toNat default
def fndH (pr : List Int) (s : List Int) : Hn := (s, 0, (s.map fun k => pr.getD k.toNat default).sum)
def fndL (hs : List Hd) (rs : List (List Bool)) (pr ws : List Int) (k : Nat) : List Hn := (((List.range k).map fun s => pickK s hs.length).filter (fndOK hs rs ws)).map (fndH pr)
def fndB (t : Tr) (hs : List Hd) (pr ws : List Int) (p : Int) : Hn × Bool := bestL ordP (fndL hs (reachK t p hs.length) pr ws (2 ^ hs.length))
def prB (x : Int) : Prop := 0 ≤ x ∧ x ≤ 999
instance (x : Int) : Decidable (prB x) := by unfold prB; infer_instance
def foundE (cs : List Cl) (hs : List Hd) (pr ws : List Int) (p : Int) : Hn :=
  if ¬ checkT (trOf cs hs) = 0 then ([], 0, checkT (trOf cs hs)) else if pr.length < hs.length then ([], 0, 7) else if hs.length < pr.length then ([], 0, 6)
  else if ¬ ∀ x ∈ pr, prB x then ([], 0, 1) else if ¬ ∀ w ∈ ws, 0 ≤ w ∧ w ≤ (hs.length : Int) - 1 then ([], 0, 3) else if ¬ (0 ≤ p ∧ p ≤ 6) then ([], 0, 1)
  else if (fndB (trOf cs hs) hs pr ws p).2 = false then ([], 0, 11) else ((fndB (trOf cs hs) hs pr ws p).1.1, (fndB (trOf cs hs) hs pr ws p).1.2.2, 0)
theorem fndL_succ (hs : List Hd) (rs : List (List Bool)) (pr ws : List Int) (k : Nat) : fndL hs rs pr ws (k + 1) = if fndOK hs rs ws (pickK k hs.length) = true then fndL hs rs pr ws k ++ [fndH pr (pickK k hs.length)] else fndL hs rs pr ws k := by
  unfold fndL
  rw [List.range_succ, List.map_append, List.filter_append, List.map_append]
  by_cases e : fndOK hs rs ws (pickK k hs.length) = true
  · rw [if_pos e]; simp [e]
  · rw [if_neg e]; simp [e]
theorem fnd_no_price {hs : List Hd} {rs : List (List Bool)} {ws s : List Int} {j : Nat} (hj : j < s.length) (h : (hs.getD (s.getD j default).toNat default).2.1 < 0) : ¬ fndOK hs rs ws s = true := by
  intro e
  unfold fndOK at e
  rw [Bool.and_eq_true] at e
  have := of_decide_eq_true (List.all_eq_true.1 e.1 _ (getD_mem hj))
  omega
theorem fnd_no_want {hs : List Hd} {rs : List (List Bool)} {ws s : List Int} {j : Nat} (hj : j < ws.length) (h : (s.any fun k => (rs.getD (ws.getD j default).toNat default).getD k.toNat default) = false) : ¬ fndOK hs rs ws s = true := by
  intro e
  unfold fndOK at e
  rw [Bool.and_eq_true] at e
  have := List.all_eq_true.1 e.2 _ (getD_mem hj)
  rw [h] at this
  cases this
theorem fnd_yes {hs : List Hd} {rs : List (List Bool)} {ws s : List Int} (h1 : ∀ k ∈ s, 0 ≤ (hs.getD k.toNat default).2.1) (h2 : ∀ w ∈ ws, (s.any fun k => (rs.getD w.toNat default).getD k.toNat default) = true) : fndOK hs rs ws s = true := by
  unfold fndOK
  rw [Bool.and_eq_true]
  exact ⟨List.all_eq_true.2 fun k hk => decide_eq_true (h1 k hk), List.all_eq_true.2 h2⟩
end Go.Proofs.Ytdlbbfcfahahdaa
end
section
namespace Go.Proofs.Ytdlbbfcfahahdaa
open Go Go.W
set_option linter.unusedVariables false
set_option linter.unusedSimpArgs false
set_option maxRecDepth 20000
attribute [local irreducible] HL HC HQ HB Row Rows2 Blk Facts
def priP (pr s : List Int) : List Int := s.map fun k => pr.getD k.toNat default
theorem priP_at {pr s : List Int} {j : Nat} (hj : j < s.length) : (priP pr s).getD j default = pr.getD (s.getD j default).toNat default := by
  have h : j < (priP pr s).length := by simpa [priP] using hj
  rw [getD_at h, getD_at hj]
  simp [priP]
theorem priP_len (pr s : List Int) : (priP pr s).length = s.length := by simp [priP]
theorem priP_bd {pr s : List Int} (hp : ∀ x ∈ pr, prB x) (hs : ∀ v ∈ s, 0 ≤ v ∧ v < (pr.length : Int)) : ∀ v ∈ priP pr s, 0 ≤ v ∧ v ≤ 1000000000 := by
  intro v hv
  obtain ⟨w, hw, rfl⟩ := List.mem_map.1 hv
  have h1 := hs w hw
  have h2 := hp _ (getD_mem (l := pr) (k := w.toNat) (by omega))
  have h3 := h2.1
  have h4 := h2.2
  omega
theorem bold_Found_meets {A B PA WA : Option Addr} {ca cb pc wc : Nat} (cs : List Cl) (hs : List Hd) (pr ws : List Int) (p : Int) (hca : cs.length ≤ ca) (hcb : hs.length ≤ cb) (ha : ∀ h ∈ hs, h.2.2.2.l.length ≤ 1000000) (hpn : pr.length ≤ 1000000) (hwn : ws.length ≤ 1000000) : Meets Try.prog F.bold_Found [.agg #[.slice A cs.length ca, .slice B hs.length cb], .slice PA pr.length pc, .slice WA ws.length wc, int p] { LI := [Row A (rows cs), RowsF B hs Hd.row, Row PA (rows pr), Row WA (rows ws)], val := fun x : OutC => .tuple #[.slice x.1 (foundE cs hs pr ws p).1.length x.2, int (foundE cs hs pr ws p).2.1, int (foundE cs hs pr ws p).2.2], LO := fun x => [Row x.1 (rows (foundE cs hs pr ws p).1)] } := by
 refine meets_intro F.bold_Found_f rfl (Nat.le_of_ble_eq_true rfl) fun w0 => ?_
 refine hc_seq (hc_region ?_)
 refine r_box rfl rfl fun gT => ?_
 refine r_assign rfl rfl (r_assign rfl rfl (r_assign rfl rfl (hl_nil (then_n (hc_scope (hc_seq (hc_seq (hc_region (hl_letgoB ?_)))))))))
 refine r_loadB (cs := #[.slice A cs.length ca, .slice B hs.length cb]) rfl T.row_api_Trades T.sz_api_Trades rfl mB rfl ?_
 refine hl_call F.trade_Check_cb rfl rfl (trade_Check_meets cs hs hca hcb ha) (List.Perm.refl _) ⟨mB, mB, trivial⟩ fun _ _ => ?_
 refine r_assign rfl rfl (hl_nil (then_n (hc_seq (hc_region (r_move rfl rfl (r_neq rfl rfl rfl (hl_nil (then_n ?_))))))))
 refine c_dec rfl (fun hb1 => ?_) (fun hb1 => ?_)
 ·have hb1' := hb1; try simp at hb1'
  refine hc_seq (hc_region (r_move rfl rfl (r_assign rfl rfl (r_assign rfl rfl (r_assign rfl rfl (hl_nil (then_n (hc_ret (then_ret (ng_ret ?_))))))))))
  have hE : foundE cs hs pr ws p = ([], 0, checkT (trOf cs hs)) := by rw [foundE, if_pos hb1]
  refine hq_nilrow (α := Int) ?_
  exact ret3 (none, 0) rfl rfl rfl rfl (by show Value.tuple #[.slice none (foundE cs hs pr ws p).1.length 0, int (foundE cs hs pr ws p).2.1, int (foundE cs hs pr ws p).2.2] = _; rw [hE] <;> rfl) rfl trivial (List.nil_sublist _) (by show LSub _ [Row none (rows (foundE cs hs pr ws p).1)]; rw [hE]; exact ⟨mB, trivial⟩)
 ·have hb1' := hb1; try simp at hb1'
  have h0 : checkT (trOf cs hs) = 0 := Classical.not_not.1 hb1
  have hok := tr_ok h0
  have hn6 := hok.h6
  rw [hs_len] at hn6
  refine hc_skip (then_n (hc_seq (hc_seq (hc_region (r_move rfl rfl ?_)))))
  refine r_len_sl rfl T.u_ints rfl ?_
  refine r_fieldAddr ⟨_, 1, none⟩ rfl rfl T.fa_api_Trades_1 rfl ?_
  refine r_load (v := .slice B hs.length cb) rfl T.cell_L_api_Head rfl (cell_blk mB rfl) ?_
  refine r_len_sl rfl T.u_L_api_Head rfl ?_
  refine r_lss rfl rfl rfl (hl_nil (then_n ?_))
  refine c_dec rfl (fun hb2 => ?_) (fun hb2 => ?_)
  ·have hb2' := hb2; try simp at hb2'
   have h2 : pr.length < hs.length := by omega
   refine hc_seq (hc_region (r_assign rfl rfl (r_assign rfl rfl (r_assign rfl rfl (hl_nil (then_n (hc_ret (then_ret (ng_ret ?_)))))))))
   have hE : foundE cs hs pr ws p = ([], 0, 7) := by rw [foundE, if_neg (Classical.not_not.2 h0), if_pos h2]
   refine hq_nilrow (α := Int) ?_
   exact ret3 (none, 0) rfl rfl rfl rfl (by show Value.tuple #[.slice none (foundE cs hs pr ws p).1.length 0, int (foundE cs hs pr ws p).2.1, int (foundE cs hs pr ws p).2.2] = _; rw [hE] <;> rfl) rfl trivial (List.nil_sublist _) (by show LSub _ [Row none (rows (foundE cs hs pr ws p).1)]; rw [hE]; exact ⟨mB, trivial⟩)
  ·have hb2' := hb2; try simp at hb2'
   have h2 : ¬ pr.length < hs.length := by omega
   refine hc_skip (then_n (hc_seq (hc_seq (hc_region (r_move rfl rfl ?_)))))
   refine r_len_sl rfl T.u_ints rfl ?_
   refine r_fieldAddr ⟨_, 1, none⟩ rfl rfl T.fa_api_Trades_1 rfl ?_
   refine r_load (v := .slice B hs.length cb) rfl T.cell_L_api_Head rfl (cell_blk mB rfl) ?_
   refine r_len_sl rfl T.u_L_api_Head rfl ?_
   refine r_gtr rfl rfl rfl (hl_nil (then_n ?_))
   refine c_dec rfl (fun hb3 => ?_) (fun hb3 => ?_)
   ·have hb3' := hb3; try simp at hb3'
    have h3 : hs.length < pr.length := by omega
    refine hc_seq (hc_region (r_assign rfl rfl (r_assign rfl rfl (r_assign rfl rfl (hl_nil (then_n (hc_ret (then_ret (ng_ret ?_)))))))))
    have hE : foundE cs hs pr ws p = ([], 0, 6) := by rw [foundE, if_neg (Classical.not_not.2 h0), if_neg h2, if_pos h3]
    refine hq_nilrow (α := Int) ?_
    exact ret3 (none, 0) rfl rfl rfl rfl (by show Value.tuple #[.slice none (foundE cs hs pr ws p).1.length 0, int (foundE cs hs pr ws p).2.1, int (foundE cs hs pr ws p).2.2] = _; rw [hE] <;> rfl) rfl trivial (List.nil_sublist _) (by show LSub _ [Row none (rows (foundE cs hs pr ws p).1)]; rw [hE]; exact ⟨mB, trivial⟩)
   ·have hb3' := hb3; try simp at hb3'
    have h3 : ¬ hs.length < pr.length := by omega
    have hpl : pr.length = hs.length := by omega
    refine hc_skip (then_n (hc_seq (hc_seq (hc_region (r_move rfl rfl ?_)))))
    refine r_len_sl rfl T.u_ints rfl ?_
    refine r_move rfl rfl (hl_nil (then_n (hc_block ?_)))
    refine hc_loop (β := Nat) ⟨fun k => k ≤ pr.length ∧ ∀ j, j < k → prB (pr.getD j default), fun k => [(1, .slice PA pr.length pc), (2, .slice WA ws.length wc), (4, .pointer (some ⟨gT, 0, none⟩)), (3, int p), (41, .slice PA pr.length pc), (42, int pr.length), (43, int k)], fun _ => [], fun _ => [Blk gT (Obj.cells #[.slice A cs.length ca, .slice B hs.length cb] T.api_Trades (0, 0)), Row A (rows cs), RowsF B hs Hd.row, Row PA (rows pr), Row WA (rows ws)]⟩ (fun k => pr.length - k) 0 ⟨Nat.zero_le _, fun j hj => absurd hj (Nat.not_lt_zero j)⟩ ⟨rfl, rfl, rfl, rfl, rfl, rfl, rfl, trivial⟩ (List.nil_sublist _) ⟨mB, mB, mB, mB, mB, trivial⟩ fun k hk => ?_
    obtain ⟨hk, hq⟩ := hk
    refine hc_seq (hc_region (r_lss rfl rfl rfl (hl_nil (then_n (hc_seq ?_)))))
    refine c_dec rfl (fun hb4 => ?_) (fun hb4 => ?_)
    ·have hb4' := hb4; try simp at hb4'
     have hk2 : k < pr.length := by omega
     refine hc_skip (then_n (hc_seq (hc_block (hc_seq (hc_region ?_)))))
     refine r_elem (α := Int) _ _ rfl T.u_ints T.sz_int rfl rfl rfl mB rfl (by omega) (by decide) ?_
     refine r_load rfl T.cell_int rfl (cell_row mB (rows_get0 (by omega) rfl)) ?_
     refine r_assign rfl rfl (hl_nil (then_n (hc_seq (hc_region (r_move rfl rfl ?_)))))
     refine hl_call F.bold_between_cb rfl rfl (bold_between_meets _ _ _) (List.Perm.refl _) trivial fun _ _ => ?_
     refine r_not rfl rfl (hl_nil (then_n ?_))
     refine hc_cond rfl (fun hb5 => ?_) (fun hb5 => ?_)
     ·have hb5' := hb5; try simp at hb5'
      refine hc_seq (hc_region (r_assign rfl rfl (r_assign rfl rfl (r_assign rfl rfl (hl_nil (then_n (hc_ret (inb_ret (then_ret (then_ret (inb_ret ?_)))))))))))
      refine then_ret (ng_ret ?_)
      have hE : foundE cs hs pr ws p = ([], 0, 1) := by rw [foundE, if_neg (Classical.not_not.2 h0), if_neg h2, if_neg h3, if_pos (nall_at (p := prB) hk2 (nbt hb5))]
      refine hq_nilrow (α := Int) ?_
      exact ret3 (none, 0) rfl rfl rfl rfl (by show Value.tuple #[.slice none (foundE cs hs pr ws p).1.length 0, int (foundE cs hs pr ws p).2.1, int (foundE cs hs pr ws p).2.2] = _; rw [hE] <;> rfl) rfl trivial (List.nil_sublist _) (by show LSub _ [Row none (rows (foundE cs hs pr ws p).1)]; rw [hE]; exact ⟨mB, trivial⟩)
     ·have hb5' := hb5; try simp at hb5'
      refine hc_skip (inb_n (then_n (hc_region ?_)))
      refine r_add _ rfl rfl rfl rfl (by unfold I64; omega) ?_
      refine r_move rfl rfl (hl_nil ?_)
      exact again _ (k + 1) ⟨by show k + 1 ≤ pr.length; omega, fun j hj => (Nat.lt_succ_iff_lt_or_eq.1 hj).elim (hq j) fun e => by subst e; exact nbf hb5⟩ (by show pr.length - (k + 1) < pr.length - k; omega) ⟨rfl, rfl, rfl, rfl, rfl, rfl, rfl, trivial⟩ (List.nil_sublist _) ⟨mB, mB, mB, mB, mB, trivial⟩
    ·have hb4' := hb4; try simp at hb4'
     have hk2 : k = pr.length := by omega
     rw [hk2] at hq
     have hq1 := all_take (l := pr) (p := prB) hq
     refine hc_exit (then_exit (then_exit (inb_hit (then_n (hc_seq (hc_seq (hc_region (r_move rfl rfl ?_))))))))
     refine r_len_sl rfl T.u_ints rfl ?_
     refine r_move rfl rfl (hl_nil (then_n (hc_block ?_)))
     refine hc_loop (β := Nat) ⟨fun k => k ≤ ws.length ∧ ∀ j, j < k → (0 ≤ ws.getD j default ∧ ws.getD j default ≤ (hs.length : Int) - 1), fun k => [(1, .slice PA pr.length pc), (2, .slice WA ws.length wc), (4, .pointer (some ⟨gT, 0, none⟩)), (3, int p), (51, .slice WA ws.length wc), (52, int ws.length), (53, int k)], fun _ => [], fun _ => [Blk gT (Obj.cells #[.slice A cs.length ca, .slice B hs.length cb] T.api_Trades (0, 0)), Row A (rows cs), RowsF B hs Hd.row, Row PA (rows pr), Row WA (rows ws)]⟩ (fun k => ws.length - k) 0 ⟨Nat.zero_le _, fun j hj => absurd hj (Nat.not_lt_zero j)⟩ ⟨rfl, rfl, rfl, rfl, rfl, rfl, rfl, trivial⟩ (List.nil_sublist _) ⟨mB, mB, mB, mB, mB, trivial⟩ fun k hk => ?_
     obtain ⟨hk, hq⟩ := hk
     refine hc_seq (hc_region (r_lss rfl rfl rfl (hl_nil (then_n (hc_seq ?_)))))
     refine c_dec rfl (fun hb6 => ?_) (fun hb6 => ?_)
     ·have hb6' := hb6; try simp at hb6'
      have hk2 : k < ws.length := by omega
      refine hc_skip (then_n (hc_seq (hc_block (hc_seq (hc_region ?_)))))
      refine r_elem (α := Int) _ _ rfl T.u_ints T.sz_int rfl rfl rfl mB rfl (by omega) (by decide) ?_
      refine r_load rfl T.cell_int rfl (cell_row mB (rows_get0 (by omega) rfl)) ?_
      refine r_assign rfl rfl (hl_nil (then_n (hc_seq (hc_region (r_move rfl rfl ?_)))))
      refine r_fieldAddr ⟨_, 1, none⟩ rfl rfl T.fa_api_Trades_1 rfl ?_
      refine r_load (v := .slice B hs.length cb) rfl T.cell_L_api_Head rfl (cell_blk mB rfl) ?_
      refine r_len_sl rfl T.u_L_api_Head rfl ?_
      refine r_sub _ rfl rfl rfl rfl (by unfold I64; omega) ?_
      refine hl_call F.bold_between_cb rfl rfl (bold_between_meets _ _ _) (List.Perm.refl _) trivial fun _ _ => ?_
      refine r_not rfl rfl (hl_nil (then_n ?_))
      refine hc_cond rfl (fun hb7 => ?_) (fun hb7 => ?_)
      ·have hb7' := hb7; try simp at hb7'
       refine hc_seq (hc_region (r_assign rfl rfl (r_assign rfl rfl (r_assign rfl rfl (hl_nil (then_n (hc_ret (inb_ret (then_ret (then_ret (inb_ret ?_)))))))))))
       refine then_ret (ng_ret ?_)
       have hE : foundE cs hs pr ws p = ([], 0, 3) := by rw [foundE, if_neg (Classical.not_not.2 h0), if_neg h2, if_neg h3, if_neg (Classical.not_not.2 hq1), if_pos (nall_at (p := fun w => 0 ≤ w ∧ w ≤ (hs.length : Int) - 1) hk2 (nbt hb7))]
       refine hq_nilrow (α := Int) ?_
       exact ret3 (none, 0) rfl rfl rfl rfl (by show Value.tuple #[.slice none (foundE cs hs pr ws p).1.length 0, int (foundE cs hs pr ws p).2.1, int (foundE cs hs pr ws p).2.2] = _; rw [hE] <;> rfl) rfl trivial (List.nil_sublist _) (by show LSub _ [Row none (rows (foundE cs hs pr ws p).1)]; rw [hE]; exact ⟨mB, trivial⟩)
      ·have hb7' := hb7; try simp at hb7'
       refine hc_skip (inb_n (then_n (hc_region ?_)))
       refine r_add _ rfl rfl rfl rfl (by unfold I64; omega) ?_
       refine r_move rfl rfl (hl_nil ?_)
       exact again _ (k + 1) ⟨by show k + 1 ≤ ws.length; omega, fun j hj => (Nat.lt_succ_iff_lt_or_eq.1 hj).elim (hq j) fun e => by subst e; exact nbf hb7⟩ (by show ws.length - (k + 1) < ws.length - k; omega) ⟨rfl, rfl, rfl, rfl, rfl, rfl, rfl, trivial⟩ (List.nil_sublist _) ⟨mB, mB, mB, mB, mB, trivial⟩
     ·have hb6' := hb6; try simp at hb6'
      have hk2 : k = ws.length := by omega
      rw [hk2] at hq
      have hq2 := all_take (l := ws) (p := fun w => 0 ≤ w ∧ w ≤ (hs.length : Int) - 1) hq
      refine hc_exit (then_exit (then_exit (inb_hit (then_n (hc_seq (hc_seq (hc_region (r_move rfl rfl ?_))))))))
      refine hl_call F.bold_between_cb rfl rfl (bold_between_meets _ _ _) (List.Perm.refl _) trivial fun _ _ => ?_
      refine r_not rfl rfl (hl_nil (then_n ?_))
      refine hc_cond rfl (fun hb8 => ?_) (fun hb8 => ?_)
      ·have hb8' := hb8; try simp at hb8'
       have h8 := nbt hb8
       refine hc_seq (hc_region (r_assign rfl rfl (r_assign rfl rfl (r_assign rfl rfl (hl_nil (then_n (hc_ret (then_ret (ng_ret ?_)))))))))
       have hE : foundE cs hs pr ws p = ([], 0, 1) := by rw [foundE, if_neg (Classical.not_not.2 h0), if_neg h2, if_neg h3, if_neg (Classical.not_not.2 hq1), if_neg (Classical.not_not.2 hq2), if_pos h8]
       refine hq_nilrow (α := Int) ?_
       exact ret3 (none, 0) rfl rfl rfl rfl (by show Value.tuple #[.slice none (foundE cs hs pr ws p).1.length 0, int (foundE cs hs pr ws p).2.1, int (foundE cs hs pr ws p).2.2] = _; rw [hE] <;> rfl) rfl trivial (List.nil_sublist _) (by show LSub _ [Row none (rows (foundE cs hs pr ws p).1)]; rw [hE]; exact ⟨mB, trivial⟩)
      ·have hb8' := hb8; try simp at hb8'
       have h8 := nbf hb8
       refine hc_skip (then_n (hc_seq (hc_region ?_)))
       refine r_build _ rfl rfl (fun _ => T.bd_bold_best_wayzgoose_bold_hand_2 ..) ?_
       refine r_alloc rfl (fun _ => T.al_bold_best_wayzgoose_bold_hand _) fun gB => ?_
       refine r_storeS (cs := offA ((⟨none, 0, []⟩, 0, 0) : Hv) false F.bold_Found_1) rfl rfl (.refl _) T.sz_bold_best_wayzgoose_bold_hand (by rfl) (by rfl) ?_
       refine hl_nil (then_n (hc_seq (hc_region ?_)))
       refine r_loadB (cs := #[.slice A cs.length ca, .slice B hs.length cb]) rfl T.row_api_Trades T.sz_api_Trades rfl mB rfl ?_
       refine r_move rfl rfl ?_
       refine hl_call F.bold_reached_cb rfl rfl (bold_reached_meets cs hs p hca hcb ha (by omega) (steps_bd cs hs (by omega))) (List.Perm.refl _) ⟨mB, mB, trivial⟩ fun x hx => ?_
       obtain ⟨go, ps⟩ := x
       obtain ⟨hpn2, hpm⟩ := hx
       simp only at hpn2 hpm
       refine r_alloc rfl (fun _ => T.al_L_L_bool _) fun g17 => ?_
       refine r_store rfl rfl (.refl _) T.sz_L_L_bool rfl rfl ?_
       refine hl_letgo (rows [((⟨some ⟨go, 0, none⟩, hs.length, ps⟩) : Sl (Sl Bool))]) (by show [Value.slice _ ps.length _] <+: [Value.slice _ hs.length _]; rw [hpn2]; exact List.prefix_refl _) ?_
       refine hl_nilrow (α := Int) ?_
       refine hl_nil (then_n (hc_seq (hc_label (then_n (hc_seq (hc_seq (hc_region ?_)))))))
       refine r_fieldAddr ⟨_, 1, none⟩ rfl rfl T.fa_api_Trades_1 rfl ?_
       refine r_load (v := .slice B hs.length cb) rfl T.cell_L_api_Head rfl (cell_blk mB rfl) ?_
       refine r_len_sl rfl T.u_L_api_Head rfl ?_
       obtain ⟨N, hN⟩ : ∃ N, N = 2 ^ hs.length := ⟨_, rfl⟩
       have hN2 : N ≤ 64 := by rw [hN]; exact Nat.pow_le_pow_right (n := 2) (by omega) hn6
       refine r_shl1 hs.length N hN rfl rfl rfl rfl (by omega) ?_
       refine r_move rfl rfl (hl_nil (then_n (hc_block ?_)))
       refine hc_loop (β := Nat × Hv × Bool) ⟨fun x => x.1 ≤ N ∧ (x.2.1.dat, x.2.2) = bestL ordP (fndL hs (reachK (trOf cs hs) p hs.length) pr ws x.1) ∧ x.2.1.1.l.length ≤ 8, fun x => [(1, .slice PA pr.length pc), (2, .slice WA ws.length wc), (4, .pointer (some ⟨gT, 0, none⟩)), (16, .pointer (some ⟨gB, 0, none⟩)), (17, .pointer (some ⟨g17, 0, none⟩)), (75, int (N : Int)), (76, int x.1)], fun x => [(gB, Obj.cells (offA x.2.1 x.2.2 F.bold_Found_1) T.bold_best_wayzgoose_bold_hand (0, 0))], fun x => [Blk gT (Obj.cells #[.slice A cs.length ca, .slice B hs.length cb] T.api_Trades (0, 0)), Row A (rows cs), RowsF B hs Hd.row, Row PA (rows pr), Row WA (rows ws), Row (some ⟨g17, 0, none⟩) (rows [((⟨some ⟨go, 0, none⟩, hs.length, ps⟩) : Sl (Sl Bool))]), Row (some ⟨go, 0, none⟩) (rows ps), innerF ps, x.2.1.row]⟩ (fun x => N - x.1) (0, ((⟨none, 0, []⟩, 0, 0) : Hv), false) ⟨Nat.zero_le _, rfl, Nat.zero_le _⟩ ⟨rfl, rfl, rfl, rfl, rfl, rfl, rfl, trivial⟩ (.refl _) ⟨mB, mB, mB, mB, mB, mB, mB, mB, mB, trivial⟩ fun x hx => ?_
       obtain ⟨k, y, ok⟩ := x
       obtain ⟨hk, hb, hy⟩ := hx
       simp only at hk hb hy
       have hsl := pickK_len k hs.length
       have hpi : ∀ v ∈ (pickK k hs.length), 0 ≤ v ∧ v < (hs.length : Int) := fun v hv => pickK_in hv
       refine hc_seq (hc_region (r_lss rfl rfl rfl (hl_nil (then_n (hc_seq ?_)))))
       refine c_dec rfl (fun hb9 => ?_) (fun hb9 => ?_)
       ·have hb9' := hb9; try simp at hb9'
        have hk2 : k < N := by omega
        refine hc_skip (then_n (hc_seq (hc_block (hc_seq (hc_region (r_move rfl rfl (r_assign rfl rfl (hl_nil (then_n (hc_seq (hc_region ?_)))))))))))
        refine r_move rfl rfl ?_
        refine r_conv (k : Int) rfl T.u_int T.u_bold_cards rfl (wrap64 (by omega)) ?_
        refine r_fieldAddr ⟨_, 1, none⟩ rfl rfl T.fa_api_Trades_1 rfl ?_
        refine r_load (v := .slice B hs.length cb) rfl T.cell_L_api_Head rfl (cell_blk mB rfl) ?_
        refine r_len_sl rfl T.u_L_api_Head rfl ?_
        refine hl_call F.bold_cards_list_cb rfl rfl (bold_cards_list_meets k hs.length (by omega) (by omega)) (List.Perm.refl _) trivial fun gc _ => ?_
        refine r_build _ rfl rfl (fun _ => T.bd_bold_hand_0 ..) ?_
        refine r_alloc rfl (fun _ => T.al_bold_hand _) fun gh => ?_
        refine r_storeS (cs := #[.slice (some ⟨gc, 0, none⟩) (pickK k hs.length).length (pickK k hs.length).length, int 0, int 0]) rfl rfl (.refl _) T.sz_bold_hand (by rfl) (by rfl) ?_
        refine hl_nil (then_n (hc_seq (hc_seq (hc_region ?_))))
        refine r_fieldAddr ⟨_, 0, none⟩ rfl rfl T.fa_bold_hand_0 rfl ?_
        refine r_load (v := .slice (some ⟨gc, 0, none⟩) (pickK k hs.length).length (pickK k hs.length).length) rfl T.cell_ints rfl (cell_own mB rfl) ?_
        refine r_len_sl rfl T.u_ints rfl ?_
        refine r_move rfl rfl (hl_nil (then_n (hc_block ?_)))
        refine hc_loop (β := Nat × Int) ⟨fun x => x.1 ≤ (pickK k hs.length).length ∧ x.2 = ((priP pr (pickK k hs.length)).take x.1).sum ∧ ∀ i, i < x.1 → 0 ≤ (hs.getD ((pickK k hs.length).getD i default).toNat default).2.1, fun x => [(1, .slice PA pr.length pc), (2, .slice WA ws.length wc), (4, .pointer (some ⟨gT, 0, none⟩)), (16, .pointer (some ⟨gB, 0, none⟩)), (17, .pointer (some ⟨g17, 0, none⟩)), (19, .pointer (some ⟨gh, 0, none⟩)), (75, int (N : Int)), (76, int k), (87, .slice (some ⟨gc, 0, none⟩) (pickK k hs.length).length (pickK k hs.length).length), (88, int (pickK k hs.length).length), (89, int x.1)], fun x => [(gh, Obj.cells #[.slice (some ⟨gc, 0, none⟩) (pickK k hs.length).length (pickK k hs.length).length, int 0, int x.2] T.bold_hand (0, 0)), (gB, Obj.cells (offA y ok F.bold_Found_1) T.bold_best_wayzgoose_bold_hand (0, 0))], fun x => [Row (some ⟨gc, 0, none⟩) (rows (pickK k hs.length)), Blk gT (Obj.cells #[.slice A cs.length ca, .slice B hs.length cb] T.api_Trades (0, 0)), Row A (rows cs), RowsF B hs Hd.row, Row PA (rows pr), Row WA (rows ws), Row (some ⟨g17, 0, none⟩) (rows [((⟨some ⟨go, 0, none⟩, hs.length, ps⟩) : Sl (Sl Bool))]), Row (some ⟨go, 0, none⟩) (rows ps), innerF ps, y.row]⟩ (fun x => (pickK k hs.length).length - x.1) (0, 0) ⟨Nat.zero_le _, rfl, fun j hj => absurd hj (Nat.not_lt_zero j)⟩ ⟨rfl, rfl, rfl, rfl, rfl, rfl, rfl, rfl, rfl, rfl, rfl, trivial⟩ (.refl _) ⟨mB, mB, mB, mB, mB, mB, mB, mB, mB, mB, trivial⟩ fun x hx => ?_
        obtain ⟨j, b⟩ := x
        obtain ⟨hj, hbs, hjp⟩ := hx
        simp only at hj hbs hjp
        have hbb := sum_bd (priP_bd (pr := pr) hq1 (fun v hv => by have := hpi v hv; omega) : ∀ v ∈ (priP pr (pickK k hs.length)), 0 ≤ v ∧ v ≤ 1000000000) j
        rw [← hbs] at hbb
        refine hc_seq (hc_region (r_lss rfl rfl rfl (hl_nil (then_n (hc_seq ?_)))))
        refine c_dec rfl (fun hb10 => ?_) (fun hb10 => ?_)
        ·have hb10' := hb10; try simp at hb10'
         have hj2 : j < (pickK k hs.length).length := by omega
         have hvj := hpi _ (getD_mem hj2)
         obtain ⟨v, hv⟩ : ∃ v : Nat, ((pickK k hs.length).getD j default) = (v : Int) := ⟨_, (Int.toNat_of_nonneg hvj.1).symm⟩
         have hv2 : v < hs.length := by omega
         have hv3 : v < pr.length := by omega
         have hcv := hq1 _ (getD_mem hv3)
         have hcv1 := hcv.1
         have hcv2 := hcv.2
         have hb2' := sum_take (l := (priP pr (pickK k hs.length))) (k := j) (by rw [priP_len]; exact hj2)
         rw [← hbs, priP_at hj2, hv, Int.toNat_natCast] at hb2'
         refine hc_skip (then_n (hc_seq (hc_block (hc_seq (hc_region ?_)))))
         refine r_elem (α := Int) _ _ rfl T.u_ints T.sz_int rfl rfl rfl mB rfl (by omega) (by decide) ?_
         refine r_load rfl T.cell_int rfl (cell_row mB (rows_get0 (by omega) rfl)) ?_
         refine r_assign rfl rfl (hl_nil (then_n (hc_seq (hc_seq (hc_region ?_)))))
         refine r_fieldAddr ⟨_, 1, none⟩ rfl rfl T.fa_api_Trades_1 rfl ?_
         refine r_load (v := .slice B hs.length cb) rfl T.cell_L_api_Head rfl (cell_blk mB rfl) ?_
         refine r_move rfl rfl ?_
         refine hl_outerF (A := B) (ps := hs) (f := Hd.row) mB ?_
         refine r_elem (α := Hd) hs v rfl T.u_L_api_Head T.sz_api_Head rfl rfl hv mB rfl hv2 (by decide) ?_
         refine r_fieldAddr _ rfl rfl T.fa_api_Head_1 rfl ?_
         refine r_load (v := int (hs.getD v default).2.1) rfl T.cell_int rfl (cell_row_f mB (rows_get hv2 (j := 1) rfl)) ?_
         refine r_lss rfl rfl rfl (hl_nil (then_n ?_))
         refine c_dec rfl (fun hb11 => ?_) (fun hb11 => ?_)
         ·have hb11' := hb11; try simp at hb11'
          refine hc_exit (then_exit (inb_miss rfl (then_exit (then_exit (inb_miss rfl (then_exit (inb_hit (then_n (hc_region ?_)))))))))
          refine r_add _ rfl rfl rfl rfl (by unfold I64; omega) ?_
          refine r_move rfl rfl (hl_nil ?_)
          have hy8 := hy
          exact again _ (k + 1, y, ok) ⟨by show k + 1 ≤ N; omega, by show (Hv.dat y, ok) = bestL ordP (fndL hs (reachK (trOf cs hs) p hs.length) pr ws (k + 1)); rw [fndL_succ, if_neg (fnd_no_price hj2 (by rw [hv, Int.toNat_natCast]; exact hb11))]; exact hb, hy8⟩ (by show N - (k + 1) < N - k; omega) ⟨rfl, rfl, rfl, rfl, rfl, rfl, rfl, trivial⟩ (.cons _ (.refl _)) ⟨mB, mB, mB, mB, mB, mB, mB, mB, mB, trivial⟩
         ·have hb11' := hb11; try simp at hb11'
          refine hc_skip (then_n ?_)
          refine hc_draw 6 mixed (by decide) (by decide) rfl rfl ?_
          refine hb_ex _ rfl rfl rfl (fun w1 => r_fieldAddr ⟨_, 2, none⟩ rfl rfl T.fa_bold_hand_2 rfl (hl_nil (qe_done rfl))) ?_
          refine hb_ex _ rfl rfl rfl (fun w1 => r_load (v := int b) rfl T.cell_int rfl (cell_blk mB rfl) (hl_nil (qe_done rfl))) ?_
          refine hb_ex _ rfl rfl rfl (fun w1 => r_move rfl rfl (hl_nil (qe_done rfl))) ?_
          refine hb_ex _ rfl rfl rfl (fun w1 => r_move rfl rfl (hl_nil (qe_done rfl))) ?_
          refine hb_ex _ rfl rfl rfl (fun w1 => r_elem (α := Int) pr v rfl T.u_ints T.sz_int rfl rfl hv mB rfl hv3 (by decide) (hl_nil (qe_done rfl))) ?_
          refine hb_ex _ rfl rfl rfl (fun w1 => r_load (v := int (pr.getD v default)) rfl T.cell_int rfl (cell_row mB (rows_get0 hv3 rfl)) (hl_nil (qe_done rfl))) ?_
          refine hb_nil ⟨rfl, ?_⟩
          refine r_add (a := b) (b := pr.getD v default) (b + pr.getD v default) rfl rfl rfl rfl (by unfold I64; omega) ?_
          refine r_fieldAddr ⟨_, 2, none⟩ rfl rfl T.fa_bold_hand_2 rfl ?_
          refine r_store rfl rfl (.refl _) T.sz_int rfl rfl ?_
          refine hl_nil (inb_n (then_n (hc_region ?_)))
          refine r_add _ rfl rfl rfl rfl (by unfold I64; omega) ?_
          refine r_move rfl rfl (hl_nil ?_)
          exact again _ (j + 1, b + pr.getD v default) ⟨by show j + 1 ≤ _; omega, hb2'.symm, fun i hi => (Nat.lt_succ_iff_lt_or_eq.1 hi).elim (hjp i) fun e => by subst e; rw [hv, Int.toNat_natCast]; exact Int.not_lt.1 hb11⟩ (by show (pickK k hs.length).length - (j + 1) < (pickK k hs.length).length - j; omega) ⟨rfl, rfl, rfl, rfl, rfl, rfl, rfl, rfl, rfl, rfl, rfl, trivial⟩ (.refl _) ⟨mB, mB, mB, mB, mB, mB, mB, mB, mB, mB, trivial⟩
        ·have hb10' := hb10; try simp at hb10'
         have hj2 : j = (pickK k hs.length).length := by omega
         rw [hj2, List.take_of_length_le (Nat.le_of_eq (priP_len ..))] at hbs
         rw [hj2] at hjp
         have hall := all_take (l := (pickK k hs.length)) (p := fun v => 0 ≤ (hs.getD v.toNat default).2.1) hjp
         refine hc_exit (then_exit (then_exit (inb_hit (then_n (hc_seq (hc_seq (hc_region (r_move rfl rfl ?_))))))))
         refine r_len_sl rfl T.u_ints rfl ?_
         refine r_move rfl rfl (hl_nil (then_n (hc_block ?_)))
         refine hc_loop (β := Nat) ⟨fun i => i ≤ ws.length ∧ ∀ q, q < i → ((pickK k hs.length).any fun x => (((reachK (trOf cs hs) p hs.length)).getD (ws.getD q default).toNat default).getD x.toNat default) = true, fun i => [(1, .slice PA pr.length pc), (2, .slice WA ws.length wc), (4, .pointer (some ⟨gT, 0, none⟩)), (16, .pointer (some ⟨gB, 0, none⟩)), (17, .pointer (some ⟨g17, 0, none⟩)), (19, .pointer (some ⟨gh, 0, none⟩)), (75, int (N : Int)), (76, int k), (109, .slice WA ws.length wc), (110, int ws.length), (111, int i)], fun _ => [(gh, Obj.cells #[.slice (some ⟨gc, 0, none⟩) (pickK k hs.length).length (pickK k hs.length).length, int 0, int b] T.bold_hand (0, 0)), (gB, Obj.cells (offA y ok F.bold_Found_1) T.bold_best_wayzgoose_bold_hand (0, 0))], fun _ => [Row (some ⟨gc, 0, none⟩) (rows (pickK k hs.length)), Blk gT (Obj.cells #[.slice A cs.length ca, .slice B hs.length cb] T.api_Trades (0, 0)), Row A (rows cs), RowsF B hs Hd.row, Row PA (rows pr), Row WA (rows ws), Row (some ⟨g17, 0, none⟩) (rows [((⟨some ⟨go, 0, none⟩, hs.length, ps⟩) : Sl (Sl Bool))]), Row (some ⟨go, 0, none⟩) (rows ps), innerF ps, y.row]⟩ (fun i => ws.length - i) 0 ⟨Nat.zero_le _, fun j hj => absurd hj (Nat.not_lt_zero j)⟩ ⟨rfl, rfl, rfl, rfl, rfl, rfl, rfl, rfl, rfl, rfl, rfl, trivial⟩ (.refl _) ⟨mB, mB, mB, mB, mB, mB, mB, mB, mB, mB, trivial⟩ fun i hi => ?_
         obtain ⟨hi, hq⟩ := hi
         refine hc_seq (hc_region (r_lss rfl rfl rfl (hl_nil (then_n (hc_seq ?_)))))
         refine c_dec rfl (fun hb12 => ?_) (fun hb12 => ?_)
         ·have hb12' := hb12; try simp at hb12'
          have hi2 : i < ws.length := by omega
          have hwi := hq2 _ (getD_mem hi2)
          obtain ⟨u, hu⟩ : ∃ u : Nat, (ws.getD i default) = (u : Int) := ⟨_, (Int.toNat_of_nonneg hwi.1).symm⟩
          have hu2 : u < hs.length := by omega
          refine hc_skip (then_n (hc_seq (hc_block (hc_seq (hc_region ?_)))))
          refine r_elem (α := Int) _ _ rfl T.u_ints T.sz_int rfl rfl rfl mB rfl (by omega) (by decide) ?_
          refine r_load rfl T.cell_int rfl (cell_row mB (rows_get0 (by omega) rfl)) ?_
          refine r_alloc rfl (fun _ => T.al_int _) fun g23 => ?_
          refine r_store rfl rfl (.refl _) T.sz_int rfl rfl ?_
          refine hl_letgo (rows [(u : Int)]) (by show [int (u : Int)] <+: [int (ws.getD i default)]; rw [hu]; exact List.prefix_refl _) ?_
          refine hl_nil (then_n (hc_seq (hc_region ?_)))
          refine r_fieldAddr ⟨_, 0, none⟩ rfl rfl T.fa_bold_hand_0 rfl ?_
          refine r_load (v := .slice (some ⟨gc, 0, none⟩) (pickK k hs.length).length (pickK k hs.length).length) rfl T.cell_ints rfl (cell_own mB rfl) ?_
          refine r_makeFunc rfl rfl rfl ?_
          have hpu : (ps.getD u default).l = ((reachK (trOf cs hs) p hs.length)).getD u default := by rw [← hpm, getD_at (l := ps.map (·.l)) (k := u) (by rw [List.length_map]; omega), getD_at (l := ps) (k := u) (by omega), List.getElem_map]
          have hpl9 : (ps.getD u default).l.length = hs.length := by rw [hpu, getD_at (by unfold reachK; simp; omega)]; unfold reachK; simp only [List.getElem_map, List.getElem_range]; rw [rdK_len, reach_len h0 hu2]
          refine hl_call F.slices_ContainsFunc_ints_cb rfl rfl (slices_ContainsFunc_ints_meets (A := some ⟨gc, 0, none⟩) (cap := [.pointer (some ⟨g17, 0, none⟩), .pointer (some ⟨g23, 0, none⟩)]) (L0 := [Row (some ⟨g17, 0, none⟩) (rows [((⟨some ⟨go, 0, none⟩, hs.length, ps⟩) : Sl (Sl Bool))]), Row (some ⟨g23, 0, none⟩) (rows [(u : Int)]), Row (some ⟨go, 0, none⟩) (rows ps), innerF ps]) (pickK k hs.length) (fun x => (ps.getD u default).l.getD x.toNat default) (by omega) F.bold_Found_2_cb (fun x hx => by
            have h9 := hpi x hx
            obtain ⟨x', rfl⟩ : ∃ x' : Nat, x = (x' : Int) := ⟨x.toNat, by omega⟩
            rw [Int.toNat_natCast]
            exact bold_Found_2_meets ps u x' (by omega) (by omega))) (List.Perm.refl _) ⟨mB, mB, mB, mB, mB, trivial⟩ fun _ _ => ?_
          rw [hpu]
          refine r_not rfl rfl (hl_nil (then_n ?_))
          refine hc_cond rfl (fun hb13 => ?_) (fun hb13 => ?_)
          ·have hb13' := hb13; try simp at hb13'
           refine hc_exit (inb_miss rfl (then_exit (then_exit (inb_miss rfl (then_exit (inb_hit (then_n (hc_region ?_))))))))
           refine r_add _ rfl rfl rfl rfl (by unfold I64; omega) ?_
           refine r_move rfl rfl (hl_nil ?_)
           have hy8 := hy
           exact again _ (k + 1, y, ok) ⟨by show k + 1 ≤ N; omega, by show (Hv.dat y, ok) = bestL ordP (fndL hs (reachK (trOf cs hs) p hs.length) pr ws (k + 1)); rw [fndL_succ, if_neg (fnd_no_want hi2 (by rw [hu, Int.toNat_natCast]; exact eq_false_of_ne_true (by simpa using hb13)))]; exact hb, hy8⟩ (by show N - (k + 1) < N - k; omega) ⟨rfl, rfl, rfl, rfl, rfl, rfl, rfl, trivial⟩ (.cons _ (.refl _)) ⟨mB, mB, mB, mB, mB, mB, mB, mB, mB, trivial⟩
          ·have hb13' := hb13; try simp at hb13'
           refine hc_skip (inb_n (then_n (hc_region ?_)))
           refine r_add _ rfl rfl rfl rfl (by unfold I64; omega) ?_
           refine r_move rfl rfl (hl_nil ?_)
           exact again _ (i + 1) ⟨by show i + 1 ≤ ws.length; omega, fun q hq' => (Nat.lt_succ_iff_lt_or_eq.1 hq').elim (hq q) fun e => by subst e; rw [hu, Int.toNat_natCast]; simpa using hb13⟩ (by show ws.length - (i + 1) < ws.length - i; omega) ⟨rfl, rfl, rfl, rfl, rfl, rfl, rfl, rfl, rfl, rfl, rfl, trivial⟩ (.refl _) ⟨mB, mB, mB, mB, mB, mB, mB, mB, mB, mB, trivial⟩
         ·have hb12' := hb12; try simp at hb12'
          have hi2 : i = ws.length := by omega
          rw [hi2] at hq
          have hall2 := all_take (l := ws) (p := fun w => ((pickK k hs.length).any fun x => (((reachK (trOf cs hs) p hs.length)).getD w.toNat default).getD x.toNat default) = true) hq
          refine hc_exit (then_exit (then_exit (inb_hit (then_n (hc_region ?_)))))
          refine r_loadA (cs := #[.slice (some ⟨gc, 0, none⟩) (pickK k hs.length).length (pickK k hs.length).length, int 0, int b]) rfl T.row_bold_hand T.sz_bold_hand rfl mB rfl ?_
          refine hl_call F.bold_best_bold_hand_offer_cb rfl rfl (bold_best_bold_hand_offer_meets ord_Found ((⟨some ⟨gc, 0, none⟩, (pickK k hs.length).length, (pickK k hs.length)⟩, 0, b) : Hv) y ok (by show (pickK k hs.length).length ≤ 1000000; omega) (by omega)) (List.Perm.swap _ _ _) ⟨mB, mB, trivial⟩ fun z hz => ?_
          obtain ⟨z, zk⟩ := z
          obtain ⟨hz, hzi⟩ := hz
          refine hl_nil (inb_n (then_n (hc_region ?_)))
          refine r_add _ rfl rfl rfl rfl (by unfold I64; omega) ?_
          refine r_move rfl rfl (hl_nil ?_)
          have hyes := fnd_yes (ws := ws) (rs := (reachK (trOf cs hs) p hs.length)) hall hall2
          have hXd : Hv.dat ((⟨some ⟨gc, 0, none⟩, (pickK k hs.length).length, (pickK k hs.length)⟩, 0, b) : Hv) = fndH pr (pickK k hs.length) := by show ((pickK k hs.length), (0 : Int), b) = _; rw [hbs]; rfl
          rcases hzi with rfl | rfl
          · have hy8 : ((⟨some ⟨gc, 0, none⟩, (pickK k hs.length).length, (pickK k hs.length)⟩, 0, b) : Hv).1.l.length ≤ 8 := by first | exact hy | (show (pickK k hs.length).length ≤ 8; omega)
            exact again _ (k + 1, ((⟨some ⟨gc, 0, none⟩, (pickK k hs.length).length, (pickK k hs.length)⟩, 0, b) : Hv), zk) ⟨by show k + 1 ≤ N; omega, by show (Hv.dat ((⟨some ⟨gc, 0, none⟩, (pickK k hs.length).length, (pickK k hs.length)⟩, 0, b) : Hv), zk) = bestL ordP (fndL hs (reachK (trOf cs hs) p hs.length) pr ws (k + 1)); rw [fndL_succ, if_pos hyes, best_snoc, ← hb, ← hXd]; exact hz, hy8⟩ (by show N - (k + 1) < N - k; omega) ⟨rfl, rfl, rfl, rfl, rfl, rfl, rfl, trivial⟩ (by first | exact .cons_cons _ (List.nil_sublist _) | exact .cons _ (.refl _)) ⟨mB, mB, mB, mB, mB, mB, mB, mB, mB, trivial⟩
          · have hy8 : z.1.l.length ≤ 8 := by first | exact hy | (show (pickK k hs.length).length ≤ 8; omega)
            exact again _ (k + 1, z, zk) ⟨by show k + 1 ≤ N; omega, by show (Hv.dat z, zk) = bestL ordP (fndL hs (reachK (trOf cs hs) p hs.length) pr ws (k + 1)); rw [fndL_succ, if_pos hyes, best_snoc, ← hb, ← hXd]; exact hz, hy8⟩ (by show N - (k + 1) < N - k; omega) ⟨rfl, rfl, rfl, rfl, rfl, rfl, rfl, trivial⟩ (by first | exact .cons_cons _ (List.nil_sublist _) | exact .cons _ (.refl _)) ⟨mB, mB, mB, mB, mB, mB, mB, mB, mB, trivial⟩
       ·have hb9' := hb9; try simp at hb9'
        have hk2 : k = N := by omega
        rw [hk2, hN] at hb
        have hb : (y.dat, ok) = fndB (trOf cs hs) hs pr ws p := hb
        refine hc_exit (then_exit (then_exit (inb_hit (then_n (hc_seq (hc_seq (hc_region ?_)))))))
        refine r_fieldAddr ⟨_, 3, none⟩ rfl rfl T.fa_bold_best_wayzgoose_bold_hand_1 rfl ?_
        refine r_load (v := .bool ok) rfl T.cell_bool rfl (cell_own mB rfl) ?_
        refine r_not rfl rfl (hl_nil (then_n ?_))
        refine hc_cond rfl (fun hb14 => ?_) (fun hb14 => ?_)
        ·have hb14' := hb14; try simp at hb14'
         refine hc_seq (hc_region (r_assign rfl rfl (r_assign rfl rfl (r_assign rfl rfl (hl_nil (then_n (hc_ret (then_ret (ng_ret ?_)))))))))
         have hE : foundE cs hs pr ws p = ([], 0, 11) := by rw [foundE, if_neg (Classical.not_not.2 h0), if_neg h2, if_neg h3, if_neg (Classical.not_not.2 hq1), if_neg (Classical.not_not.2 hq2), if_neg (Classical.not_not.2 h8), ← hb]; exact if_pos (by simpa using hb14)
         refine hq_nilrow (α := Int) ?_
         exact ret3 (none, 0) rfl rfl rfl rfl (by show Value.tuple #[.slice none (foundE cs hs pr ws p).1.length 0, int (foundE cs hs pr ws p).2.1, int (foundE cs hs pr ws p).2.2] = _; rw [hE] <;> rfl) rfl trivial (List.nil_sublist _) (by show LSub _ [Row none (rows (foundE cs hs pr ws p).1)]; rw [hE]; exact ⟨mB, trivial⟩)
        ·have hb14' := hb14; try simp at hb14'
         refine hc_skip (then_n (hc_seq ?_))
         refine hc_draw 7 mixed (by decide) (by decide) rfl rfl ?_
         refine hb_ex _ rfl rfl rfl (fun w1 => r_fieldAddr ⟨_, 0, none⟩ rfl rfl T.fa_bold_best_wayzgoose_bold_hand_0 rfl (hl_nil (qe_done rfl))) ?_
         refine hb_ex _ rfl rfl rfl (fun w1 => r_fieldAddr ⟨_, 0, none⟩ rfl rfl T.fa_bold_hand_0 rfl (hl_nil (qe_done rfl))) ?_
         refine hb_ex _ rfl rfl rfl (fun w1 => r_load rfl T.cell_ints rfl (cell_blk mB rfl) (hl_nil (qe_done rfl))) ?_
         refine hb_ex _ rfl rfl rfl (fun w1 => r_fieldAddr ⟨_, 0, none⟩ rfl rfl T.fa_bold_best_wayzgoose_bold_hand_0 rfl (hl_nil (qe_done rfl))) ?_
         refine hb_ex _ rfl rfl rfl (fun w1 => r_fieldAddr ⟨_, 2, none⟩ rfl rfl T.fa_bold_hand_2 rfl (hl_nil (qe_done rfl))) ?_
         refine hb_ex _ rfl rfl rfl (fun w1 => r_load rfl T.cell_int rfl (cell_blk mB rfl) (hl_nil (qe_done rfl))) ?_
         refine hb_ex _ rfl rfl rfl (fun w1 => r_assign rfl rfl (hl_nil (qe_done rfl))) ?_
         refine hb_nil ⟨rfl, ?_⟩
         refine r_assign rfl rfl (r_assign rfl rfl (hl_nil (then_n (hc_ret (ng_ret ?_)))))
         have hE : foundE cs hs pr ws p = (y.1.l, y.2.2, 0) := by rw [foundE, if_neg (Classical.not_not.2 h0), if_neg h2, if_neg h3, if_neg (Classical.not_not.2 hq1), if_neg (Classical.not_not.2 hq2), if_neg (Classical.not_not.2 h8), ← hb]; exact if_neg (by simpa using hb14)
         exact ret3 (y.1.a, y.1.c) rfl rfl rfl rfl (by show Value.tuple #[.slice y.1.a (foundE cs hs pr ws p).1.length y.1.c, int (foundE cs hs pr ws p).2.1, int (foundE cs hs pr ws p).2.2] = _; rw [hE] <;> rfl) rfl trivial (List.nil_sublist _) (by show LSub _ [Row y.1.a (rows (foundE cs hs pr ws p).1)]; rw [hE]; exact ⟨mB, trivial⟩)
end Go.Proofs.Ytdlbbfcfahahdaa
end
