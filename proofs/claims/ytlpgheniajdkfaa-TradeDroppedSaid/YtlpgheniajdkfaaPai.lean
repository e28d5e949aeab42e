/- Paths and names as the program lists them. -/
import Derived.Test.YtlpgheniajdkfaaPah
namespace Go.Proofs.Ytlpgheniajdkfaa
open Go Go.W
set_option linter.unusedVariables false
set_option linter.unusedSimpArgs false
set_option maxRecDepth 20000
attribute [local irreducible] HL HC HQ HB Row Rows2 Blk Facts

theorem ascI_uniq : ∀ {l l' : List Int}, l.Pairwise (· < ·) → l'.Pairwise (· < ·) → (∀ x, x ∈ l ↔ x ∈ l') → l = l'
  | [], [], _, _, _ => rfl
  | [], y :: l', _, _, h => by have := (h y).2 (by simp); simp at this
  | x :: l, [], _, _, h => by have := (h x).1 (by simp); simp at this
  | x :: l, y :: l', h1, h2, h => by
    have p1 := List.pairwise_cons.1 h1
    have p2 := List.pairwise_cons.1 h2
    have e : x = y := by
      rcases List.mem_cons.1 ((h x).1 (by simp)) with e | e
      · exact e
      · rcases List.mem_cons.1 ((h y).2 (by simp)) with e2 | e2
        · exact e2.symm
        · have := p2.1 x e; have := p1.1 y e2; omega
    subst e
    congr 1
    refine ascI_uniq p1.2 p2.2 fun z => ?_
    have hz := h z
    rw [List.mem_cons, List.mem_cons] at hz
    constructor
    · intro hm
      rcases hz.1 (.inr hm) with e | e
      · subst e; have := p1.1 z hm; omega
      · exact e
    · intro hm
      rcases hz.2 (.inr hm) with e | e
      · subst e; have := p2.1 z hm; omega
      · exact e
theorem path_bits {cs : List Cl} (h6 : cs.length ≤ 6) (hc : ∀ i, i < cs.length → ClsOK cs i) {c : Int} (h : c < (cs.length : Int)) : mayK (maskOf (pathT cs c)) cs.length = pathT cs c := by
  have hp := path_asc cs hc c.toNat c (Nat.le_refl _) h
  refine ascI_uniq ?_ hp.1 fun x => ?_
  · unfold mayK
    refine List.pairwise_map.2 ((List.pairwise_lt_range.filter _).imp fun h => ?_)
    omega
  · unfold mayK
    rw [List.mem_map]
    constructor
    · rintro ⟨i, hi, rfl⟩
      rw [List.mem_filter, mask_test fun x hx => (hp.2 x hx).1, decide_eq_true_eq] at hi
      exact hi.2
    · intro hx
      have h1 := hp.2 x hx
      have h2 := path_small h6 hc h x hx
      refine ⟨x.toNat, ?_, Int.toNat_of_nonneg h1.1⟩
      rw [List.mem_filter, mask_test fun x hx => (hp.2 x hx).1, decide_eq_true_eq, Int.toNat_of_nonneg h1.1]
      exact ⟨List.mem_range.2 (by omega), hx⟩

set_option maxHeartbeats 1000000 in
theorem trade_list_path_meets {A B oa ka : Option Addr} {ca cb oc kc gl : Nat} (cs : List Cl) (hs : List Hd) (c : Int) (h0 : 0 ≤ c) (h : c < (cs.length : Int)) (h6 : cs.length ≤ 6) (hc : ∀ i, i < cs.length → ClsOK cs i) : Meets Try.prog F.trade_list_path [.pointer (some ⟨gl, 0, none⟩), int c] { LI := [Row (some ⟨gl, 0, none⟩) [.slice A cs.length ca, .slice B hs.length cb, .slice oa cs.length oc, .slice ka hs.length kc], Row oa (rows (masksN cs cs.length))], inv := fun x : OutC => (pathT cs c).length ≤ x.2, val := fun x => .slice x.1 (pathT cs c).length x.2, LO := fun x => [Row x.1 (rows (pathT cs c))] } := by
 refine meets_intro F.trade_list_path_f rfl (Nat.le_of_ble_eq_true rfl) fun w0 => ?_
 refine hc_seq ?_
 refine hc_region ?_
 refine r_assign rfl rfl ?_
 refine hl_nil ?_
 refine then_n ?_
 refine hc_seq ?_
 refine hc_region ?_
 refine r_assign rfl rfl ?_
 refine hl_nil ?_
 refine then_n ?_
 refine hc_seq ?_
 refine hc_seq ?_
 have hA := path_bits h6 hc h
 refine hc_region ?_
 refine r_move rfl rfl ?_
 refine r_nilCheck rfl rfl ?_
 first | refine r_fieldAddr ⟨_, 0, none⟩ rfl rfl T.fa_trade_list_0 rfl ?_ | refine r_fieldAddr _ rfl rfl T.fa_trade_list_0 rfl ?_
 first | refine r_fieldAddr ⟨_, 0, none⟩ rfl rfl T.fa_api_Trades_0 rfl ?_ | refine r_fieldAddr _ rfl rfl T.fa_api_Trades_0 rfl ?_
 first | refine r_load rfl T.cell_L_api_Class rfl (cell_own (by repeat constructor) rfl) ?_ | refine r_load rfl T.cell_L_api_Class rfl (cell_blk (by repeat constructor) rfl) ?_ | refine r_load rfl T.cell_L_api_Class rfl (cell_row (by repeat constructor) (rows_get0 (by omega) rfl)) ?_ | refine r_load rfl T.cell_L_api_Class rfl (cell_row_f (by repeat constructor) (rows_get (by omega) rfl)) ?_ | refine r_load rfl T.cell_L_api_Class rfl (cell_rowg (by repeat constructor) rfl) ?_
 refine r_len_sl rfl T.u_L_api_Class rfl ?_
 refine r_move rfl rfl ?_
 refine hl_nil ?_
 refine then_n ?_
 refine hc_block ?_
 refine hc_loop (β := Nat × OutC × Hp) ⟨fun x => x.1 ≤ cs.length ∧ Grow T.int 1 x.2.1.1 (mayK (maskOf (pathT cs c)) x.1).length x.2.1.2 (rows (mayK (maskOf (pathT cs c)) x.1)) x.2.2, fun x => [(0, .pointer (some ⟨gl, 0, none⟩)), (1, int c), (5, .slice x.2.1.1 (mayK (maskOf (pathT cs c)) x.1).length x.2.1.2), (12, int cs.length), (13, int x.1)], fun x => x.2.2, fun _ => [Row (some ⟨gl, 0, none⟩) [.slice A cs.length ca, .slice B hs.length cb, .slice oa cs.length oc, .slice ka hs.length kc], Row oa (rows (masksN cs cs.length))]⟩ (fun x => cs.length - x.1) (0, (none, 0), []) ⟨Nat.zero_le _, Grow.nil _ _⟩ ⟨rfl, rfl, rfl, rfl, rfl, trivial⟩ (List.nil_sublist _) ⟨(by repeat constructor), (by repeat constructor), trivial⟩ fun x hx => ?_
 obtain ⟨k, ⟨na, nc⟩, og⟩ := x
 obtain ⟨hk, hG⟩ := hx
 simp only at hk hG
 refine hc_seq ?_
 refine hc_region ?_
 refine r_lss rfl rfl rfl ?_
 refine hl_nil ?_
 refine then_n ?_
 refine hc_seq ?_
 first | refine c_dec rfl (fun hb1 => ?_) (fun hb1 => ?_) | refine hc_cond rfl (fun hb1 => ?_) (fun hb1 => ?_)
 ·have hb1' := hb1; try simp at hb1'
  have hk2 : k < cs.length := by omega
  have hml := mayK_len (maskOf (pathT cs c)) k
  refine hc_skip ?_
  refine then_n ?_
  refine hc_seq ?_
  refine hc_block ?_
  refine hc_seq ?_
  refine hc_region ?_
  refine r_move rfl rfl ?_
  refine r_assign rfl rfl ?_
  refine hl_nil ?_
  refine then_n ?_
  refine hc_seq ?_
  refine hc_region ?_
  refine r_move rfl rfl ?_
  refine r_nilCheck rfl rfl ?_
  first | refine r_fieldAddr ⟨_, 2, none⟩ rfl rfl T.fa_trade_list_1 rfl ?_ | refine r_fieldAddr _ rfl rfl T.fa_trade_list_1 rfl ?_
  first | refine r_load rfl T.cell_L_trade_classes rfl (cell_own (by repeat constructor) rfl) ?_ | refine r_load rfl T.cell_L_trade_classes rfl (cell_blk (by repeat constructor) rfl) ?_ | refine r_load rfl T.cell_L_trade_classes rfl (cell_row (by repeat constructor) (rows_get0 (by omega) rfl)) ?_ | refine r_load rfl T.cell_L_trade_classes rfl (cell_row_f (by repeat constructor) (rows_get (by omega) rfl)) ?_ | refine r_load rfl T.cell_L_trade_classes rfl (cell_rowg (by repeat constructor) rfl) ?_
  refine r_move rfl rfl ?_
  refine r_elem (α := Nat) (masksN cs cs.length) c.toNat rfl T.u_L_trade_classes T.sz_trade_classes rfl rfl (Int.toNat_of_nonneg h0).symm (by repeat constructor) (masks_len _ _).symm (by rw [masks_len]; omega) (by decide) ?_
  refine r_load (v := u8 (maskOf (pathT cs c))) rfl T.cell_trade_classes rfl (cell_row (by repeat constructor) (rows_get0 (by rw [masks_len]; omega) (by rw [masks_get (by omega), Int.toNat_of_nonneg h0]; rfl))) ?_
  refine r_move rfl rfl ?_
  refine hl_call F.trade_classes_has_cb rfl rfl (trade_classes_has_meets (maskOf (pathT cs c)) k (mask_path h6 hc h) (by omega)) (List.Perm.refl _) trivial fun _ _ => ?_
  refine hl_nil ?_
  refine then_n ?_
  first | refine c_dec rfl (fun hb2 => ?_) (fun hb2 => ?_) | refine hc_cond rfl (fun hb2 => ?_) (fun hb2 => ?_)
  ·have hb2' := hb2; try simp at hb2'
   refine hc_region ?_
   refine r_move rfl rfl ?_
   refine r_move rfl rfl ?_
   refine r_buildSlice _ rfl rfl (fun _ => T.bs_ints_1 ..) fun gS => ?_
   refine hl_letgo (rows [(k : Int)]) (List.prefix_refl _) ?_
   refine r_append ((mayK (maskOf (pathT cs c)) k).length + 1) (rows (mayK (maskOf (pathT cs c)) k ++ [(k : Int)])) T.el_ints rfl rfl rfl hG (hp' := []) (by rw [List.append_nil]; exact List.Perm.refl _) (Src.row (news := rows [(k : Int)]) (m := 1) m0 rfl (rows_one _) (by decide)) rfl (rows_append _ _).symm (by unfold maxLen; omega) (by omega) fun A' c' og' hG' => ?_
   refine r_assign rfl rfl ?_
   refine hl_nil ?_
   refine inb_n ?_
   refine then_n ?_
   refine hc_region ?_
   refine r_add _ rfl rfl rfl rfl (by unfold I64; omega) ?_
   refine r_move rfl rfl ?_
   refine hl_nil ?_
   exact again _ (k + 1, (A', c'), og') ⟨by show k + 1 ≤ cs.length; omega, by show Grow _ _ _ (mayK (maskOf (pathT cs c)) (k + 1)).length _ (rows (mayK (maskOf (pathT cs c)) (k + 1))) _; rw [mayK_succ, if_pos hb2, List.length_append]; exact hG'⟩ (by show cs.length - (k + 1) < cs.length - k; omega) ⟨rfl, rfl, by show some (Value.slice A' ((mayK (maskOf (pathT cs c)) k).length + 1) c') = some (Value.slice A' (mayK (maskOf (pathT cs c)) (k + 1)).length c'); rw [mayK_succ, if_pos hb2, List.length_append]; rfl, rfl, rfl, trivial⟩ (List.sublist_append_left _ _) ⟨(by repeat constructor), (by repeat constructor), trivial⟩
  ·have hb2' := hb2; try simp at hb2'
   refine hc_skip ?_
   refine inb_n ?_
   refine then_n ?_
   refine hc_region ?_
   refine r_add _ rfl rfl rfl rfl (by unfold I64; omega) ?_
   refine r_move rfl rfl ?_
   refine hl_nil ?_
   exact again _ (k + 1, (na, nc), og) ⟨by show k + 1 ≤ cs.length; omega, by show Grow _ _ _ (mayK (maskOf (pathT cs c)) (k + 1)).length _ (rows (mayK (maskOf (pathT cs c)) (k + 1))) _; rw [mayK_succ, if_neg (by rw [hb2]; decide)]; exact hG⟩ (by show cs.length - (k + 1) < cs.length - k; omega) ⟨rfl, rfl, by show some (Value.slice na (mayK (maskOf (pathT cs c)) k).length nc) = some (Value.slice na (mayK (maskOf (pathT cs c)) (k + 1)).length nc); rw [mayK_succ, if_neg (by rw [hb2]; decide)], rfl, rfl, trivial⟩ (List.Sublist.refl _) ⟨(by repeat constructor), (by repeat constructor), trivial⟩
 ·have hb1' := hb1; try simp at hb1'
  have hk2 : k = cs.length := by omega
  subst hk2
  have hG2 := hG
  rw [hA] at hG2
  refine hc_exit ?_
  refine then_exit ?_
  refine then_exit ?_
  refine inb_hit ?_
  refine then_n ?_
  refine hc_seq ?_
  refine hc_region ?_
  refine r_move rfl rfl ?_
  refine r_assign rfl rfl ?_
  refine hl_nil ?_
  refine then_n ?_
  refine hc_ret ?_
  refine hq_grown0 hG2 ?_
  exact ret1 (na, nc) rfl (by show some (Value.slice na (mayK (maskOf (pathT cs c)) cs.length).length nc) = some (Value.slice na (pathT cs c).length nc); rw [hA]) rfl hG2.le (List.nil_sublist _) ⟨m0, trivial⟩

end Go.Proofs.Ytlpgheniajdkfaa
