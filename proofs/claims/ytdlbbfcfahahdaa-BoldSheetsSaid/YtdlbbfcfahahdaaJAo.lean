/- Texts of this claim, one behind another. -/

import Derived.Test.YtdlbbfcfahahdaaJAn
section
namespace Go.Proofs.Ytdlbbfcfahahdaa
open Go Go.W
set_option linter.unusedVariables false
set_option linter.unusedSimpArgs false
set_option maxRecDepth 20000
attribute [local irreducible] HL HC HQ HB Row Rows2 Blk Facts
section
variable {c : Cx} {Q : Exit → Act → World → Prop} {fr : Fr} {hp : Hp} {L : List Fact} {ops : Array Oper} {rest : List Oper}
variable {d : Tmp} {ty : TypeId} {pos : String} {af : Array Edge}
theorem r_shl1 {t yt : TypeId} {x y : Operand} {ky : IntKind} {z : Int} (n N : Nat) (hN : N = 2 ^ n) (hd : Nat.blt d c.n = true) (hx : ev fr x = some (int 1)) (hy : ev fr y = some (.int ky z)) (hz : z = (n : Int)) (hn : n < 60) (k : HL c ops Q rest ((d, int (N : Int)) :: fr) hp L) :
    HL c ops Q (⟨some d, .binOp .shl t x y yt, ty, pos, af, none⟩ :: rest) fr hp L :=
  r_bin _ hd hx hy (fun _ => rfl) (fun w => by
    subst hz
    subst hN
    show (Op.shift .shl .i64 1 ky (n : Int)).run c.P w = _
    have hl : 2 ^ n < 2 ^ 60 := Nat.pow_lt_pow_right (by omega) hn
    have hm : min ((n : Int).toNat) (IntKind.i64.bits) = n := by show min ((n : Int).toNat) 64 = n; omega
    have hw : IntKind.i64.wrap ((2 ^ n : Nat) : Int) = ((2 ^ n : Nat) : Int) := by
      generalize 2 ^ n = q at hl
      simp only [IntKind.wrap, IntKind.bits, IntKind.signed]
      simp
      omega
    simp only [Op.shift]
    rw [if_neg (by omega), hm, Int.one_mul, show ((2 : Int) ^ n) = ((2 ^ n : Nat) : Int) by simp, hw]
    rfl) k
end
def linL (cs : List Cd) (ks : List Int) : List Int := ks.map fun v => (cs.getD v.toNat default).1
def priL (cs : List Cd) (ks : List Int) : List Int := ks.map fun v => (cs.getD v.toNat default).2
def handK (cs : List Cd) (s : Nat) : Hn := (pickK s cs.length, (linL cs (pickK s cs.length)).sum, (priL cs (pickK s cs.length)).sum)
def handsK (cs : List Cd) (room : Int) (k : Nat) : List Hn := ((List.range k).map (handK cs)).filter fun x => decide (x.2.1 ≤ room)
theorem handsK_succ (cs : List Cd) (room : Int) (k : Nat) : handsK cs room (k + 1) = if (handK cs k).2.1 ≤ room then handsK cs room k ++ [handK cs k] else handsK cs room k := by
  unfold handsK
  rw [List.range_succ, List.map_append, List.filter_append]
  by_cases e : (handK cs k).2.1 ≤ room
  · rw [if_pos e]; simp [e]
  · rw [if_neg e]; simp [e]
theorem handsK_len (cs : List Cd) (room : Int) (k : Nat) : (handsK cs room k).length ≤ k := Nat.le_trans (List.length_filter_le _ _) (by simp)
theorem lin_at {cs : List Cd} {ks : List Int} {j : Nat} (hj : j < ks.length) : (linL cs ks).getD j default = (cs.getD (ks.getD j default).toNat default).1 := by
  have h : j < (linL cs ks).length := by simpa [linL] using hj
  rw [getD_at h, getD_at hj]
  simp [linL]
theorem pri_at {cs : List Cd} {ks : List Int} {j : Nat} (hj : j < ks.length) : (priL cs ks).getD j default = (cs.getD (ks.getD j default).toNat default).2 := by
  have h : j < (priL cs ks).length := by simpa [priL] using hj
  rw [getD_at h, getD_at hj]
  simp [priL]
theorem lin_bd {cs : List Cd} (hc : ∀ x ∈ cs, cdB x) {ks : List Int} (hk : ∀ v ∈ ks, 0 ≤ v ∧ v < (cs.length : Int)) : ∀ v ∈ linL cs ks, 0 ≤ v ∧ v ≤ 1000000000 := by
  intro v hv
  obtain ⟨w, hw, rfl⟩ := List.mem_map.1 hv
  have h1 := hk w hw
  have h2 := hc _ (getD_mem (l := cs) (k := w.toNat) (by omega))
  have h3 := h2.1
  omega
theorem pri_bd {cs : List Cd} (hc : ∀ x ∈ cs, cdB x) {ks : List Int} (hk : ∀ v ∈ ks, 0 ≤ v ∧ v < (cs.length : Int)) : ∀ v ∈ priL cs ks, 0 ≤ v ∧ v ≤ 1000000000 := by
  intro v hv
  obtain ⟨w, hw, rfl⟩ := List.mem_map.1 hv
  have h1 := hk w hw
  have h2 := hc _ (getD_mem (l := cs) (k := w.toNat) (by omega))
  have h3 := h2.2
  omega
theorem lin_len (cs : List Cd) (ks : List Int) : (linL cs ks).length = ks.length := by simp [linL]
theorem pri_len (cs : List Cd) (ks : List Int) : (priL cs ks).length = ks.length := by simp [priL]
theorem bold_hands_meets {A : Option Addr} {ca : Nat} (cs : List Cd) (room : Int) (hn : cs.length ≤ 8) (hc : ∀ x ∈ cs, cdB x) : Meets Try.prog F.bold_hands [.slice A cs.length ca, int room] { LI := [Row A (rows cs)], inv := fun x : List Hv × OutC × Hp => x.1.map Hv.dat = handsK cs room (2 ^ cs.length) ∧ Grow T.bold_hand 3 x.2.1.1 x.1.length x.2.1.2 (rows x.1) x.2.2, val := fun x => .slice x.2.1.1 x.1.length x.2.1.2, hpO := fun x => x.2.2, LO := fun x => [innersF x.1 Hv.row] } := by
 refine meets_intro F.bold_hands_f rfl (Nat.le_of_ble_eq_true rfl) fun w0 => ?_
 refine hc_seq (hc_region (r_assign rfl rfl (hl_nil (then_n (hc_seq (hc_region (r_assign rfl rfl (hl_nil (then_n (hc_seq (hc_seq ?_)))))))))))
 refine hc_region (r_move rfl rfl ?_)
 refine r_len_sl rfl T.u_L_api_Card rfl ?_
 obtain ⟨N, hN⟩ : ∃ N, N = 2 ^ cs.length := ⟨_, rfl⟩
 have hN2 : N ≤ 256 := by rw [hN]; exact Nat.pow_le_pow_right (n := 2) (by omega) hn
 refine r_shl1 cs.length N hN rfl rfl rfl rfl (by omega) ?_
 refine r_move rfl rfl (hl_nil (then_n (hc_block ?_)))
 refine hc_facts (Fs := ([] : List Hv).map Hv.row) (by intro F hF; cases hF) ?_
 refine hc_loop (β := Nat × List Hv × OutC × Hp) ⟨fun x => x.1 ≤ N ∧ x.2.1.map Hv.dat = handsK cs room x.1 ∧ Grow T.bold_hand 3 x.2.2.1.1 x.2.1.length x.2.2.1.2 (rows x.2.1) x.2.2.2, fun x => [(0, .slice A cs.length ca), (1, int room), (5, .slice x.2.2.1.1 x.2.1.length x.2.2.1.2), (12, int (N : Int)), (13, int x.1)], fun x => x.2.2.2, fun x => [innersF x.2.1 Hv.row, Row A (rows cs)]⟩ (fun x => N - x.1) (0, [], (none, 0), []) ⟨Nat.zero_le _, rfl, Grow.nil _ _⟩ ⟨rfl, rfl, rfl, rfl, rfl, trivial⟩ (.refl _) ⟨(by repeat constructor), (by repeat constructor), trivial⟩ fun x hx => ?_
 obtain ⟨k, hs, ⟨na, nc⟩, og⟩ := x
 obtain ⟨hk, hd, hG⟩ := hx
 simp only at hk hd hG
 have hpl := pickK_len k cs.length
 have hpi : ∀ v ∈ (pickK k cs.length), 0 ≤ v ∧ v < (cs.length : Int) := fun v hv => pickK_in hv
 have hll : hs.length ≤ k := by rw [← List.length_map (f := Hv.dat), hd]; exact handsK_len ..
 refine hc_seq (hc_region (r_lss rfl rfl rfl (hl_nil (then_n (hc_seq ?_)))))
 refine c_dec rfl (fun hb1 => ?_) (fun hb1 => ?_)
 ·have hb1' := hb1; try simp at hb1'
  have hk2 : k < N := by omega
  refine hc_skip (then_n (hc_seq (hc_block (hc_seq (hc_region (r_move rfl rfl (r_assign rfl rfl (hl_nil (then_n (hc_seq (hc_region ?_)))))))))))
  refine r_move rfl rfl ?_
  refine r_conv (k : Int) rfl T.u_int T.u_bold_cards rfl (wrap64 (by omega)) ?_
  refine r_move rfl rfl ?_
  refine r_len_sl rfl T.u_L_api_Card rfl ?_
  refine hl_call F.bold_cards_list_cb rfl rfl (bold_cards_list_meets k cs.length (by omega) (by omega)) (List.Perm.refl _) trivial fun gc _ => ?_
  refine r_build _ rfl rfl (fun _ => T.bd_bold_hand_0 ..) ?_
  refine r_alloc rfl (fun _ => T.al_bold_hand _) fun gh => ?_
  refine r_storeS (cs := #[.slice (some ⟨gc, 0, none⟩) (pickK k cs.length).length (pickK k cs.length).length, int 0, int 0]) rfl rfl (.refl _) T.sz_bold_hand (by rfl) (by rfl) ?_
  refine hl_nil (then_n (hc_seq (hc_seq (hc_region ?_))))
  refine r_fieldAddr ⟨_, 0, none⟩ rfl rfl T.fa_bold_hand_0 rfl ?_
  refine r_load (v := .slice (some ⟨gc, 0, none⟩) (pickK k cs.length).length (pickK k cs.length).length) rfl T.cell_ints rfl (cell_own (by repeat constructor) rfl) ?_
  refine r_len_sl rfl T.u_ints rfl ?_
  refine r_move rfl rfl (hl_nil (then_n (hc_block ?_)))
  refine hc_loop (β := Nat × Int × Int) ⟨fun x => x.1 ≤ (pickK k cs.length).length ∧ x.2.1 = ((linL cs (pickK k cs.length)).take x.1).sum ∧ x.2.2 = ((priL cs (pickK k cs.length)).take x.1).sum, fun x => [(0, .slice A cs.length ca), (1, int room), (5, .slice na hs.length nc), (7, .pointer (some ⟨gh, 0, none⟩)), (12, int (N : Int)), (13, int k), (23, .slice (some ⟨gc, 0, none⟩) (pickK k cs.length).length (pickK k cs.length).length), (24, int (pickK k cs.length).length), (25, int x.1)], fun x => (gh, Obj.cells #[.slice (some ⟨gc, 0, none⟩) (pickK k cs.length).length (pickK k cs.length).length, int x.2.1, int x.2.2] T.bold_hand (0, 0)) :: og, fun _ => [Row (some ⟨gc, 0, none⟩) (rows (pickK k cs.length)), innersF hs Hv.row, Row A (rows cs)]⟩ (fun x => (pickK k cs.length).length - x.1) (0, 0, 0) ⟨Nat.zero_le _, rfl, rfl⟩ ⟨rfl, rfl, rfl, rfl, rfl, rfl, rfl, rfl, rfl, trivial⟩ (.refl _) ⟨(by repeat constructor), (by repeat constructor), (by repeat constructor), trivial⟩ fun x hx => ?_
  obtain ⟨j, a, b⟩ := x
  obtain ⟨hj, ha, hb⟩ := hx
  simp only at hj ha hb
  have ha1 := sum_bd (lin_bd hc hpi) j
  have hb1' := sum_bd (pri_bd hc hpi) j
  rw [← ha] at ha1
  rw [← hb] at hb1'
  refine hc_seq (hc_region (r_lss rfl rfl rfl (hl_nil (then_n (hc_seq ?_)))))
  refine c_dec rfl (fun hb2 => ?_) (fun hb2 => ?_)
  ·have hb2' := hb2; try simp at hb2'
   have hj2 : j < (pickK k cs.length).length := by omega
   have hvj := hpi _ (getD_mem hj2)
   obtain ⟨v, hv⟩ : ∃ v : Nat, ((pickK k cs.length).getD j default) = (v : Int) := ⟨_, (Int.toNat_of_nonneg hvj.1).symm⟩
   have hv2 : v < cs.length := by omega
   have hcv := hc _ (getD_mem hv2)
   have hcl := hcv.1
   have hcp := hcv.2
   have ha2 := sum_take (l := linL cs (pickK k cs.length)) (k := j) (by rw [lin_len]; exact hj2)
   rw [← ha, lin_at hj2, hv, Int.toNat_natCast] at ha2
   have hb2' := sum_take (l := priL cs (pickK k cs.length)) (k := j) (by rw [pri_len]; exact hj2)
   rw [← hb, pri_at hj2, hv, Int.toNat_natCast] at hb2'
   refine hc_skip (then_n (hc_seq (hc_block (hc_seq (hc_region ?_)))))
   refine r_elem (α := Int) _ _ rfl T.u_ints T.sz_int rfl rfl rfl (by repeat constructor) rfl (by omega) (by decide) ?_
   refine r_load rfl T.cell_int rfl (cell_row (by repeat constructor) (rows_get0 (by omega) rfl)) ?_
   refine r_assign rfl rfl (hl_nil (then_n ?_))
   refine hc_drawW ([(gh, Obj.cells #[.slice (some ⟨gc, 0, none⟩) (pickK k cs.length).length (pickK k cs.length).length, int a, int b] T.bold_hand (0, 0))]) (og) (List.Perm.refl _) 18 [17, 1000009, 1000001] mixed (by decide) (by decide) (by decide) rfl rfl rfl ?_
   apply hb_ex _ rfl rfl rfl
   ·intro w1
    refine r_fieldAddr ⟨_, 1, none⟩ rfl rfl T.fa_bold_hand_1 rfl ?_
    refine hl_nil ?_
    exact qe_done rfl
   refine hb_rd (int a) rfl rfl rfl ?_ ?_
   ·intro w1
    refine r_load (v := int a) rfl T.cell_int rfl (cell_blk (by repeat constructor) rfl) ?_
    refine hl_nil ?_
    exact qe_done rfl
   apply hb_ex _ rfl rfl rfl
   ·intro w1
    refine r_move rfl rfl (hl_nil ?_)
    exact qe_done rfl
   apply hb_ex _ rfl rfl rfl
   ·intro w1
    refine r_move rfl rfl (hl_nil ?_)
    exact qe_done rfl
   apply hb_ex _ rfl rfl rfl
   ·intro w1
    refine r_elem (α := Cd) cs v rfl T.u_L_api_Card T.sz_api_Card rfl rfl hv (List.mem_append_right _ (by repeat constructor)) rfl hv2 (by decide) ?_
    refine hl_nil ?_
    exact qe_done rfl
   apply hb_ex _ rfl rfl rfl
   ·intro w1
    refine r_fieldAddr _ rfl rfl T.fa_api_Card_0 rfl (hl_nil ?_)
    exact qe_done rfl
   apply hb_ex _ rfl rfl rfl
   ·intro w1
    refine r_load (v := int (cs.getD v default).1) rfl T.cell_int rfl (cell_row (List.mem_append_right _ (by repeat constructor)) (rows_get0 hv2 rfl)) ?_
    refine hl_nil ?_
    exact qe_done rfl
   apply hb_ex _ rfl rfl rfl
   ·intro w1
    intro _ _
    refine r_add (a := a) (b := (cs.getD v default).1) (a + (cs.getD v default).1) rfl rfl rfl rfl (by unfold I64; omega) ?_
    refine hl_nil ?_
    exact qe_done rfl
   apply hb_ex _ rfl rfl rfl
   ·intro w1
    refine r_fieldAddr ⟨_, 2, none⟩ rfl rfl T.fa_bold_hand_2 rfl ?_
    refine hl_nil ?_
    exact qe_done rfl
   refine hb_rd (int b) rfl rfl rfl ?_ ?_
   ·intro w1
    refine r_load (v := int b) rfl T.cell_int rfl (cell_blk (by repeat constructor) rfl) ?_
    refine hl_nil ?_
    exact qe_done rfl
   apply hb_ex _ rfl rfl rfl
   ·intro w1
    refine r_move rfl rfl (hl_nil ?_)
    exact qe_done rfl
   apply hb_ex _ rfl rfl rfl
   ·intro w1
    refine r_move rfl rfl (hl_nil ?_)
    exact qe_done rfl
   apply hb_ex _ rfl rfl rfl
   ·intro w1
    refine r_elem (α := Cd) cs v rfl T.u_L_api_Card T.sz_api_Card rfl rfl hv (List.mem_append_right _ (by repeat constructor)) rfl hv2 (by decide) ?_
    refine hl_nil ?_
    exact qe_done rfl
   apply hb_ex _ rfl rfl rfl
   ·intro w1
    refine r_fieldAddr _ rfl rfl T.fa_api_Card_1 rfl (hl_nil ?_)
    exact qe_done rfl
   apply hb_ex _ rfl rfl rfl
   ·intro w1
    refine r_load (v := int (cs.getD v default).2) rfl T.cell_int rfl (cell_row_f (List.mem_append_right _ (by repeat constructor)) (rows_get hv2 (j := 1) rfl)) ?_
    refine hl_nil ?_
    exact qe_done rfl
   apply hb_ex _ rfl rfl rfl
   ·intro w1
    intro _ _
    refine r_add (a := b) (b := (cs.getD v default).2) (b + (cs.getD v default).2) rfl rfl rfl rfl (by unfold I64; omega) ?_
    refine hl_nil ?_
    exact qe_done rfl
   apply hb_ex _ rfl rfl rfl
   ·intro w1
    refine r_fieldAddr ⟨_, 1, none⟩ rfl rfl T.fa_bold_hand_1 rfl ?_
    refine hl_nil ?_
    exact qe_done rfl
   refine hb_st ⟨Unit, fun _ => True, fun _ => undef, fun _ => [], fun _ => [(gh, Obj.cells ((#[.slice (some ⟨gc, 0, none⟩) (pickK k cs.length).length (pickK k cs.length).length, int a, int b]).setIfInBounds 1 (int (a + (cs.getD v default).1))) T.bold_hand (0, 0))]⟩ rfl rfl ?_ ?_
   ·skip; intro w1
    refine r_store rfl rfl (.refl _) T.sz_int rfl rfl ?_
    refine hl_nil ?_
    exact qw_done () trivial (fun h => by cases h) (.refl _) trivial
   refine hb_nil ⟨rfl, ?_⟩
   intro _ _ _ _ _ _
   refine r_fieldAddr ⟨_, 2, none⟩ rfl rfl T.fa_bold_hand_2 rfl ?_
   refine r_store rfl rfl (.refl _) T.sz_int rfl rfl ?_
   refine hl_nil (inb_n (then_n (hc_region ?_)))
   refine r_add _ rfl rfl rfl rfl (by unfold I64; omega) ?_
   refine r_move rfl rfl (hl_nil ?_)
   exact again _ (j + 1, a + (cs.getD v default).1, b + (cs.getD v default).2) ⟨by show j + 1 ≤ _; omega, ha2.symm, hb2'.symm⟩ (by show (pickK k cs.length).length - (j + 1) < (pickK k cs.length).length - j; omega) ⟨rfl, rfl, rfl, rfl, rfl, rfl, rfl, rfl, rfl, trivial⟩ (.refl _) ⟨(by repeat constructor), (by repeat constructor), (by repeat constructor), trivial⟩
  ·have hb2' := hb2; try simp at hb2'
   have hj2 : j = (pickK k cs.length).length := by omega
   rw [hj2, List.take_of_length_le (Nat.le_of_eq (lin_len ..))] at ha
   rw [hj2, List.take_of_length_le (Nat.le_of_eq (pri_len ..))] at hb
   have hX : Hv.dat ((⟨some ⟨gc, 0, none⟩, (pickK k cs.length).length, (pickK k cs.length)⟩, a, b) : Hv) = handK cs k := by show (_, a, b) = _; rw [ha, hb]; rfl
   refine hc_exit (then_exit (then_exit (inb_hit (then_n (hc_seq (hc_region ?_))))))
   refine r_fieldAddr ⟨_, 1, none⟩ rfl rfl T.fa_bold_hand_1 rfl ?_
   refine r_load (v := int a) rfl T.cell_int rfl (cell_own (by repeat constructor) rfl) ?_
   refine r_move rfl rfl (r_leq rfl rfl rfl (hl_nil (then_n ?_)))
   refine c_dec rfl (fun hb3 => ?_) (fun hb3 => ?_)
   ·have hb3' := hb3; try simp at hb3'
    have hH : handsK cs room (k + 1) = handsK cs room k ++ [Hv.dat ((⟨some ⟨gc, 0, none⟩, (pickK k cs.length).length, (pickK k cs.length)⟩, a, b) : Hv)] := by rw [handsK_succ, hX, if_pos (by rw [← hX]; show a ≤ room; omega)]
    refine hc_region (r_move rfl rfl ?_)
    refine r_loadA (cs := #[.slice (some ⟨gc, 0, none⟩) (pickK k cs.length).length (pickK k cs.length).length, int a, int b]) rfl T.row_bold_hand T.sz_bold_hand rfl (by repeat constructor) rfl ?_
    refine r_buildSlice _ rfl rfl (fun _ => T.bs_L_bold_hand_1 ..) fun gS => ?_
    refine hl_letgo (rows [((⟨some ⟨gc, 0, none⟩, (pickK k cs.length).length, (pickK k cs.length)⟩, a, b) : Hv)]) (List.prefix_refl _) ?_
    refine r_append (hp' := [(gh, Obj.cells #[.slice (some ⟨gc, 0, none⟩) (pickK k cs.length).length (pickK k cs.length).length, int a, int b] T.bold_hand (0, 0))]) (hs.length + 1) (rows (hs ++ [((⟨some ⟨gc, 0, none⟩, (pickK k cs.length).length, (pickK k cs.length)⟩, a, b) : Hv)])) T.el_L_bold_hand rfl rfl rfl hG (perm_of fun q => by simp only [Option.toList_none, List.append_eq, List.cons_append, List.nil_append, List.countP_append, List.countP_cons, List.countP_nil]; omega) (Src.row (news := rows [((⟨some ⟨gc, 0, none⟩, (pickK k cs.length).length, (pickK k cs.length)⟩, a, b) : Hv)]) (m := 1) m0 rfl (rows_one _) (by decide)) rfl (rows_append _ _).symm (by unfold maxLen; omega) (by omega) fun A' c' og' hG' => ?_
    refine r_assign rfl rfl (hl_nil (inb_n (then_n (hc_region ?_))))
    refine r_add _ rfl rfl rfl rfl (by unfold I64; omega) ?_
    refine r_move rfl rfl (hl_nil ?_)
    refine hq_facts (innerF_snoc (p := ((⟨some ⟨gc, 0, none⟩, (pickK k cs.length).length, (pickK k cs.length)⟩, a, b) : Hv)) (ps := hs) (f := Hv.row) (by repeat constructor) (by repeat constructor)) ?_
    exact again _ (k + 1, hs ++ [((⟨some ⟨gc, 0, none⟩, (pickK k cs.length).length, (pickK k cs.length)⟩, a, b) : Hv)], (A', c'), og') ⟨by show k + 1 ≤ N; omega, by show (hs ++ [((⟨some ⟨gc, 0, none⟩, (pickK k cs.length).length, (pickK k cs.length)⟩, a, b) : Hv)]).map Hv.dat = _; rw [hH, List.map_append, hd]; rfl, by show Grow T.bold_hand 3 A' (hs ++ [((⟨some ⟨gc, 0, none⟩, (pickK k cs.length).length, (pickK k cs.length)⟩, a, b) : Hv)]).length c' _ og'; rw [List.length_append]; exact hG'⟩ (by show N - (k + 1) < N - k; omega) ⟨rfl, rfl, by show some (Value.slice A' (hs.length + 1) c') = some (Value.slice A' (hs ++ [((⟨some ⟨gc, 0, none⟩, (pickK k cs.length).length, (pickK k cs.length)⟩, a, b) : Hv)]).length c'); rw [List.length_append]; rfl, rfl, rfl, trivial⟩ (List.sublist_append_left _ _) ⟨(by repeat constructor), (by repeat constructor), trivial⟩
   ·have hb3' := hb3; try simp at hb3'
    have hH : handsK cs room (k + 1) = handsK cs room k := by rw [handsK_succ, if_neg (by rw [← hX]; show ¬ a ≤ room; omega)]
    refine hc_skip (inb_n (then_n (hc_region ?_)))
    refine r_add _ rfl rfl rfl rfl (by unfold I64; omega) ?_
    refine r_move rfl rfl (hl_nil ?_)
    exact again _ (k + 1, hs, (na, nc), og) ⟨by show k + 1 ≤ N; omega, by show hs.map Hv.dat = _; rw [hH, hd], hG⟩ (by show N - (k + 1) < N - k; omega) ⟨rfl, rfl, rfl, rfl, rfl, trivial⟩ (.cons _ (.refl _)) ⟨(by repeat constructor), (by repeat constructor), trivial⟩
 ·have hb1' := hb1; try simp at hb1'
  have hk2 : k = N := by omega
  refine hc_exit (then_exit (then_exit (inb_hit (then_n (hc_seq (hc_region (r_move rfl rfl (r_assign rfl rfl (hl_nil (then_n (hc_ret ?_)))))))))))
  exact ret1 (hs, (na, nc), og) rfl rfl rfl ⟨by show hs.map Hv.dat = _; rw [hd, hk2, hN], hG⟩ (.refl _) ⟨(by repeat constructor), trivial⟩
end Go.Proofs.Ytdlbbfcfahahdaa
end
section
namespace Go.Proofs.Ytdlbbfcfahahdaa
open Go Go.W
set_option linter.unusedVariables false
set_option linter.unusedSimpArgs false
set_option maxRecDepth 20000
attribute [local irreducible] HL HC HQ HB Row Rows2 Blk Facts
abbrev fnV (f : Nat) : Value := .func (.func f) #[] #[]
abbrev offA (y : Hv) (ok : Bool) (f : Nat) : Array Value := #[.slice y.1.a y.1.l.length y.1.c, int y.2.1, int y.2.2, .bool ok, fnV f]
theorem off_head (a b c d e : Value) : ∀ (i : Nat) (u : Value), ([a, b, c] : List Value)[i]? = some u → (#[a, b, c, d, e] : Array Value)[0 + i]? = some u := by
  intro i u h
  rcases i with _ | _ | _ | i
  · exact h
  · exact h
  · exact h
  · simp at h
/-- One offered: the better of the two stays. -/
def offS (o : Hn → Hn → Int) (s : Hn × Bool) (x : Hn) : Hn × Bool := if s.2 = false ∨ o x s.1 < 0 then (x, true) else s
structure OrdF (f : Nat) (o : Hn → Hn → Int) : Prop where
  cb : Callable Try.prog f
  m : ∀ x y : Hv, x.1.l.length ≤ 1000000 → y.1.l.length ≤ 1000000 → Meets Try.prog f [x.v, y.v] { LI := [x.row, y.row], val := fun _ : Unit => int (o x.dat y.dat) }
theorem ord_Fill : OrdF F.bold_Fill_1 ordF := ⟨F.bold_Fill_1_cb, bold_Fill_1_meets⟩
theorem ord_Found : OrdF F.bold_Found_1 ordP := ⟨F.bold_Found_1_cb, bold_Found_1_meets⟩
theorem bold_best_bold_hand_offer_meets {gB f : Nat} {o : Hn → Hn → Int} (hf : OrdF f o) (x y : Hv) (ok : Bool) (hx : x.1.l.length ≤ 1000000) (hy : y.1.l.length ≤ 1000000) : Meets Try.prog F.bold_best_bold_hand_offer [.pointer (some ⟨gB, 0, none⟩), x.v] { hpI := [(gB, Obj.cells (offA y ok f) T.bold_best_wayzgoose_bold_hand (0, 0))], LI := [x.row, y.row], inv := fun z : Hv × Bool => (z.1.dat, z.2) = offS o (y.dat, ok) x.dat ∧ (z.1 = x ∨ z.1 = y), val := fun _ => .tuple #[], hpO := fun z => [(gB, Obj.cells (offA z.1 z.2 f) T.bold_best_wayzgoose_bold_hand (0, 0))] } := by
 refine meets_intro F.bold_best_bold_hand_offer_f rfl (Nat.le_of_ble_eq_true rfl) fun w0 => ?_
 refine hc_seq (hc_region ?_)
 refine r_box rfl rfl fun gT => ?_
 refine hl_nil (then_n (hc_seq (hc_letgoB ?_)))
 refine hc_draw 15 mixed (by decide) (by decide) rfl rfl ?_
 apply hb_ex _ rfl rfl rfl
 ·intro w1
  refine r_move rfl rfl (hl_nil ?_)
  exact qe_done rfl
 apply hb_ex _ rfl rfl rfl
 ·intro w1
  refine r_nilCheck rfl rfl (hl_nil ?_)
  exact qe_done rfl
 apply hb_ex _ rfl rfl rfl
 ·intro w1
  refine r_fieldAddr ⟨_, 3, none⟩ rfl rfl T.fa_bold_best_wayzgoose_bold_hand_1 rfl ?_
  refine hl_nil ?_
  exact qe_done rfl
 apply hb_ex _ rfl rfl rfl
 ·intro w1
  refine r_load (v := .bool ok) rfl T.cell_bool rfl (cell_blk (by repeat constructor) rfl) ?_
  refine hl_nil ?_
  exact qe_done rfl
 apply hb_ex _ rfl rfl rfl
 ·intro w1
  refine r_not rfl rfl (hl_nil ?_)
  exact qe_done rfl
 apply hb_ex _ rfl rfl rfl
 ·intro w1
  refine r_move rfl rfl (hl_nil ?_)
  exact qe_done rfl
 refine hb_split (t := 9) (want := false) rfl ?_ ?_
 ·intro hg1; have hg1' := hg1; try simp at hg1'
  apply hb_ex _ rfl rfl rfl
  ·intro w1
   refine g_yes rfl rfl hg1 (r_move rfl rfl (hl_nil ?_))
   exact qe_done rfl
  apply hb_ex _ rfl rfl rfl
  ·intro w1
   refine g_yes rfl rfl hg1 (r_nilCheck rfl rfl (hl_nil ?_))
   exact qe_done rfl
  apply hb_ex _ rfl rfl rfl
  ·intro w1
   refine g_yes rfl rfl hg1 ?_
   refine r_fieldAddr ⟨_, 4, none⟩ rfl rfl T.fa_bold_best_wayzgoose_bold_hand_2 rfl ?_
   refine hl_nil ?_
   exact qe_done rfl
  apply hb_ex _ rfl rfl rfl
  ·intro w1
   refine g_yes rfl rfl hg1 ?_
   refine r_load (v := fnV f) rfl T.cell_func_bold_hand_bold_hand_int rfl (cell_blk (by repeat constructor) rfl) ?_
   refine hl_nil ?_
   exact qe_done rfl
  apply hb_ex _ rfl rfl rfl
  ·intro w1
   refine g_yes rfl rfl hg1 ?_
   refine r_loadB (cs := #[.slice x.1.a x.1.l.length x.1.c, int x.2.1, int x.2.2]) rfl T.row_bold_hand T.sz_bold_hand rfl (by repeat constructor) rfl ?_
   refine hl_nil ?_
   exact qe_done rfl
  apply hb_ex _ rfl rfl rfl
  ·intro w1
   refine g_yes rfl rfl hg1 (r_move rfl rfl (hl_nil ?_))
   exact qe_done rfl
  apply hb_ex _ rfl rfl rfl
  ·intro w1
   refine g_yes rfl rfl hg1 (r_nilCheck rfl rfl (hl_nil ?_))
   exact qe_done rfl
  apply hb_ex _ rfl rfl rfl
  ·intro w1
   refine g_yes rfl rfl hg1 ?_
   refine r_fieldAddr ⟨_, 0, none⟩ rfl rfl T.fa_bold_best_wayzgoose_bold_hand_0 rfl ?_
   refine hl_nil ?_
   exact qe_done rfl
  apply hb_ex _ rfl rfl rfl
  ·intro w1
   refine g_yes rfl rfl hg1 ?_
   refine r_loadS (cs := [.slice y.1.a y.1.l.length y.1.c, int y.2.1, int y.2.2]) rfl T.row_bold_hand T.sz_bold_hand rfl rfl (cells_blk (by repeat constructor) (off_head _ _ _ _ _)) ?_
   refine hl_nil ?_
   exact qe_done rfl
  refine hb_nil ⟨rfl, ?_⟩
  refine g_yes rfl rfl hg1 ?_
  refine hl_callv (vs := [x.v, y.v]) (cap := []) hf.cb rfl rfl rfl (hf.m x y hx hy) (List.Perm.refl _) ⟨(by repeat constructor), (by repeat constructor), trivial⟩ fun _ _ => ?_
  refine g_yes rfl rfl hg1 (r_lss rfl rfl rfl ?_)
  refine p_f rfl rfl (bf1 hg1) rfl ?_
  refine hl_nil (then_n ?_)
  refine c_dec rfl (fun hb1 => ?_) (fun hb1 => ?_)
  ·have hb1' := hb1; try simp at hb1'
   refine hc_region (r_move rfl rfl (r_move rfl rfl ?_))
   refine r_loadB (cs := #[.slice x.1.a x.1.l.length x.1.c, int x.2.1, int x.2.2]) rfl T.row_bold_hand T.sz_bold_hand rfl (by repeat constructor) rfl ?_
   refine r_nilCheck rfl rfl ?_
   refine r_fieldAddr ⟨_, 0, none⟩ rfl rfl T.fa_bold_best_wayzgoose_bold_hand_0 rfl ?_
   refine r_storeR rfl rfl (.refl _) T.sz_bold_hand (show 0 + 3 ≤ 5 by decide) (by rfl) ?_
   refine r_nilCheck rfl rfl ?_
   refine r_fieldAddr ⟨_, 3, none⟩ rfl rfl T.fa_bold_best_wayzgoose_bold_hand_1 rfl ?_
   refine r_store rfl rfl (.refl _) T.sz_bool rfl rfl ?_
   refine hl_nil ?_
   exact ret0n (x, true) rfl rfl rfl ⟨by show (x.dat, true) = offS o (y.dat, ok) x.dat; rw [offS, if_pos (.inr hb1)], .inl rfl⟩ (.refl _) trivial
  ·have hb1' := hb1; try simp at hb1'
   refine hc_skip ?_
   exact ret0n (y, ok) rfl rfl rfl ⟨by show (y.dat, ok) = offS o (y.dat, ok) x.dat; rw [offS, if_neg (fun h => h.elim (fun h => by rw [show ok = true from hg1'] at h; cases h) hb1)], .inr rfl⟩ (.refl _) trivial
 ·intro hg1; have hg1' := hg1; try simp at hg1'
  apply hb_ex _ rfl rfl rfl
  ·intro w1
   refine g_no rfl rfl rfl rfl rfl hg1 (hl_nil ?_)
   exact qe_done rfl
  apply hb_ex _ rfl rfl rfl
  ·intro w1
   refine g_no rfl rfl rfl rfl rfl hg1 (hl_nil ?_)
   exact qe_done rfl
  apply hb_ex _ rfl rfl rfl
  ·intro w1
   refine g_no rfl rfl rfl rfl rfl hg1 (hl_nil ?_)
   exact qe_done rfl
  apply hb_ex _ rfl rfl rfl
  ·intro w1
   refine g_no rfl rfl rfl rfl rfl hg1 (hl_nil ?_)
   exact qe_done rfl
  apply hb_ex _ rfl rfl rfl
  ·intro w1
   refine g_no rfl rfl rfl rfl rfl hg1 (hl_nil ?_)
   exact qe_done rfl
  apply hb_ex _ rfl rfl rfl
  ·intro w1
   refine g_no rfl rfl rfl rfl rfl hg1 (hl_nil ?_)
   exact qe_done rfl
  apply hb_ex _ rfl rfl rfl
  ·intro w1
   refine g_no rfl rfl rfl rfl rfl hg1 (hl_nil ?_)
   exact qe_done rfl
  apply hb_ex _ rfl rfl rfl
  ·intro w1
   refine g_no rfl rfl rfl rfl rfl hg1 (hl_nil ?_)
   exact qe_done rfl
  apply hb_ex _ rfl rfl rfl
  ·intro w1
   refine g_no rfl rfl rfl rfl rfl hg1 (hl_nil ?_)
   exact qe_done rfl
  refine hb_nil ⟨rfl, ?_⟩
  refine g_no rfl rfl rfl rfl rfl hg1 (g_no rfl rfl rfl rfl rfl hg1 ?_)
  refine p_t rfl rfl (bt2 hg1) rfl ?_
  refine hl_nil (then_n (c_t rfl rfl (hc_region (r_move rfl rfl (r_move rfl rfl ?_)))))
  refine r_loadB (cs := #[.slice x.1.a x.1.l.length x.1.c, int x.2.1, int x.2.2]) rfl T.row_bold_hand T.sz_bold_hand rfl (by repeat constructor) rfl ?_
  refine r_nilCheck rfl rfl ?_
  refine r_fieldAddr ⟨_, 0, none⟩ rfl rfl T.fa_bold_best_wayzgoose_bold_hand_0 rfl ?_
  refine r_storeR rfl rfl (.refl _) T.sz_bold_hand (show 0 + 3 ≤ 5 by decide) (by rfl) ?_
  refine r_nilCheck rfl rfl ?_
  refine r_fieldAddr ⟨_, 3, none⟩ rfl rfl T.fa_bold_best_wayzgoose_bold_hand_1 rfl ?_
  refine r_store rfl rfl (.refl _) T.sz_bool rfl rfl ?_
  refine hl_nil ?_
  exact ret0n (x, true) rfl rfl rfl ⟨by show (x.dat, true) = offS o (y.dat, ok) x.dat; rw [offS, if_pos (.inl (show ok = false from hg1'))], .inl rfl⟩ (.refl _) trivial
end Go.Proofs.Ytdlbbfcfahahdaa
end
section
namespace Go.Proofs.Ytdlbbfcfahahdaa
open Go Go.W
set_option linter.unusedVariables false
set_option linter.unusedSimpArgs false
set_option maxRecDepth 20000
attribute [local irreducible] HL HC HQ HB Row Rows2 Blk Facts
theorem cards_ok {cs : List Cd} {room : Int} (h : cardsE cs room = 0) : cs.length ≤ 8 ∧ (∀ x ∈ cs, cdB x) ∧ 0 ≤ room ∧ room ≤ 60 := by
  unfold cardsE at h
  split at h
  · cases h
  · split at h
    · cases h
    · rename_i h1 h2
      split at h
      · cases h
      · rename_i h3
        exact ⟨by omega, Classical.not_not.1 h2, (Classical.not_not.1 h3).1, (Classical.not_not.1 h3).2⟩
theorem hands_in {cs : List Cd} {room : Int} {k : Nat} {hs : List Hv} (hd : hs.map Hv.dat = handsK cs room k) (hn : cs.length ≤ 8) : ∀ x ∈ hs, x.1.l.length ≤ 8 := by
  intro x hx
  have h : x.dat ∈ handsK cs room k := hd ▸ List.mem_map.2 ⟨x, hx, rfl⟩
  obtain ⟨s, _, hs⟩ := List.mem_map.1 (List.mem_filter.1 h).1
  have h2 := congrArg (fun y : Hn => y.1.length) hs
  simp only [handK, Hv.dat] at h2
  have := pickK_len s cs.length
  omega
theorem hands_len {cs : List Cd} {room : Int} {k : Nat} {hs : List Hv} (hd : hs.map Hv.dat = handsK cs room k) : hs.length ≤ k := by
  rw [← List.length_map (f := Hv.dat), hd]; exact handsK_len ..
def noB : Hn × Bool := (([], 0, 0), false)
def bestL (o : Hn → Hn → Int) (l : List Hn) : Hn × Bool := l.foldl (offS o) noB
theorem best_snoc (o : Hn → Hn → Int) (l : List Hn) (x : Hn) : bestL o (l ++ [x]) = offS o (bestL o l) x := by simp [bestL]
theorem take_map_succ {hs : List Hv} {k : Nat} (hk : k < hs.length) : (hs.take (k + 1)).map Hv.dat = (hs.take k).map Hv.dat ++ [Hv.dat (hs.getD k default)] := by
  rw [List.take_succ_eq_append_getElem hk, getD_at hk, List.map_append]; rfl
def fillE (cs : List Cd) (room : Int) : Hn := if ¬ cardsE cs room = 0 then ([], 0, cardsE cs room) else ((bestL ordF (handsK cs room (2 ^ cs.length))).1.1, (bestL ordF (handsK cs room (2 ^ cs.length))).1.2.2, 0)
def exactL (cs : List Cd) (room : Int) : Hn × Bool := bestL ordX ((handsK cs room (2 ^ cs.length)).filter fun x => decide (x.2.1 = room))
def exactE (cs : List Cd) (room : Int) : List Int × Int := if ¬ cardsE cs room = 0 then ([], cardsE cs room) else if (exactL cs room).2 = false then ([], 11) else ((exactL cs room).1.1, 0)
theorem bold_Fill_meets {A : Option Addr} {ca : Nat} (cs : List Cd) (room : Int) (hn : cs.length ≤ 1000000) : Meets Try.prog F.bold_Fill [.slice A cs.length ca, int room] { LI := [Row A (rows cs)], val := fun x : OutC => .tuple #[.slice x.1 (fillE cs room).1.length x.2, int (fillE cs room).2.1, int (fillE cs room).2.2], LO := fun x => [Row x.1 (rows (fillE cs room).1)] } := by
 refine meets_intro F.bold_Fill_f rfl (Nat.le_of_ble_eq_true rfl) fun w0 => ?_
 refine hc_seq (hc_region (r_assign rfl rfl (r_assign rfl rfl (r_assign rfl rfl (hl_nil (then_n (hc_seq (hc_seq (hc_region (r_move rfl rfl (r_move rfl rfl ?_)))))))))))
 refine hl_call F.bold_cardsError_cb rfl rfl (bold_cardsError_meets cs room hn) (List.Perm.refl _) ⟨(by repeat constructor), trivial⟩ fun _ _ => ?_
 refine r_assign rfl rfl (hl_nil (then_n (hc_seq (hc_region (r_move rfl rfl (r_neq rfl rfl rfl (hl_nil (then_n ?_))))))))
 refine c_dec rfl (fun hb1 => ?_) (fun hb1 => ?_)
 ·have hb1' := hb1; try simp at hb1'
  refine hc_seq (hc_region (r_move rfl rfl (r_assign rfl rfl (r_assign rfl rfl (r_assign rfl rfl (hl_nil (then_n (hc_ret (then_ret ?_)))))))))
  refine hq_nilrow (α := Int) ?_
  exact ret3 (none, 0) rfl rfl rfl rfl (by show Value.tuple #[.slice none (fillE cs room).1.length 0, int (fillE cs room).2.1, int (fillE cs room).2.2] = _; rw [fillE, if_pos hb1]; rfl) rfl trivial (List.nil_sublist _) (by show LSub _ [Row none (rows (fillE cs room).1)]; rw [fillE, if_pos hb1]; exact ⟨m0, trivial⟩)
 ·have hb1' := hb1; try simp at hb1'
  have h0 : cardsE cs room = 0 := Classical.not_not.1 hb1
  obtain ⟨hn8, hcd, hr0, hr1⟩ := cards_ok h0
  refine hc_skip (then_n (hc_seq (hc_region ?_)))
  refine r_build _ rfl rfl (fun _ => T.bd_bold_best_wayzgoose_bold_hand_2 ..) ?_
  refine r_alloc rfl (fun _ => T.al_bold_best_wayzgoose_bold_hand _) fun gB => ?_
  refine r_storeS (cs := offA ((⟨none, 0, []⟩, 0, 0) : Hv) false F.bold_Fill_1) rfl rfl (.refl _) T.sz_bold_best_wayzgoose_bold_hand (by rfl) (by rfl) ?_
  refine hl_nil (then_n (hc_seq (hc_seq (hc_region (r_move rfl rfl (r_move rfl rfl ?_))))))
  refine hl_call F.bold_hands_cb rfl rfl (bold_hands_meets cs room hn8 hcd) (List.Perm.refl _) ⟨(by repeat constructor), trivial⟩ fun x hx => ?_
  obtain ⟨hs, ⟨na, nc⟩, og⟩ := x
  obtain ⟨hd, hG⟩ := hx
  simp only at hd hG
  have hi8 := hands_in hd hn8
  have hll := hands_len hd
  have hN2 : 2 ^ cs.length ≤ 256 := Nat.pow_le_pow_right (n := 2) (by omega) hn8
  refine hl_grown hG ?_
  refine hl_nilrow (α := Int) ?_
  refine r_len_sl rfl T.u_L_bold_hand rfl ?_
  refine r_move rfl rfl (hl_nil (then_n (hc_block ?_)))
  refine hc_loop (β := Nat × Hv × Bool) ⟨fun x => x.1 ≤ hs.length ∧ (x.2.1.dat, x.2.2) = bestL ordF ((hs.take x.1).map Hv.dat) ∧ x.2.1.1.l.length ≤ 8, fun x => [(0, .slice A cs.length ca), (1, int room), (8, .pointer (some ⟨gB, 0, none⟩)), (20, .slice na hs.length nc), (21, int hs.length), (22, int x.1)], fun x => [(gB, Obj.cells (offA x.2.1 x.2.2 F.bold_Fill_1) T.bold_best_wayzgoose_bold_hand (0, 0))], fun x => [Row na (rows hs), innersF hs Hv.row, x.2.1.row]⟩ (fun x => hs.length - x.1) (0, ((⟨none, 0, []⟩, 0, 0) : Hv), false) ⟨Nat.zero_le _, rfl, Nat.zero_le _⟩ ⟨rfl, rfl, rfl, rfl, rfl, rfl, trivial⟩ (.refl _) ⟨(by repeat constructor), (by repeat constructor), (by repeat constructor), trivial⟩ fun x hx => ?_
  obtain ⟨k, y, ok⟩ := x
  obtain ⟨hk, ha, hy⟩ := hx
  simp only at hk ha hy
  refine hc_seq (hc_region (r_lss rfl rfl rfl (hl_nil (then_n (hc_seq ?_)))))
  refine c_dec rfl (fun hb2 => ?_) (fun hb2 => ?_)
  ·have hb2' := hb2; try simp at hb2'
   have hk2 : k < hs.length := by omega
   have hx8 := hi8 _ (getD_mem hk2)
   refine hc_skip (then_n (hc_seq (hc_block (hc_seq (hc_region ?_)))))
   refine r_elem (α := _) _ _ rfl T.u_L_bold_hand T.sz_bold_hand rfl rfl rfl (by repeat constructor) rfl (by omega) (by decide) ?_
   refine r_loadS rfl T.row_bold_hand T.sz_bold_hand rfl rfl (cells_row (by repeat constructor) (rows_all (by omega))) ?_
   refine r_alloc rfl (fun _ => T.al_bold_hand _) fun gA => ?_
   refine r_storeS (cs := #[.slice (hs.getD k default).1.a (hs.getD k default).1.l.length (hs.getD k default).1.c, int (hs.getD k default).2.1, int (hs.getD k default).2.2]) rfl rfl (.refl _) T.sz_bold_hand (by rfl) (by rfl) ?_
   refine hl_nil (then_n (hc_region ?_))
   refine r_loadA (cs := #[.slice (hs.getD k default).1.a (hs.getD k default).1.l.length (hs.getD k default).1.c, int (hs.getD k default).2.1, int (hs.getD k default).2.2]) rfl T.row_bold_hand T.sz_bold_hand rfl (by repeat constructor) rfl ?_
   refine hl_pick (F := Hv.row (hs.getD k default)) (Fs := hs.map Hv.row) (by repeat constructor) (List.mem_map.2 ⟨_, getD_mem hk2, rfl⟩) ?_
   refine hl_call F.bold_best_bold_hand_offer_cb rfl rfl (bold_best_bold_hand_offer_meets ord_Fill (hs.getD k default) y ok (by omega) (by omega)) (List.Perm.swap _ _ _) ⟨(by repeat constructor), (by repeat constructor), trivial⟩ fun z hz => ?_
   obtain ⟨z, zk⟩ := z
   obtain ⟨hz, hzi⟩ := hz
   refine hl_nil (inb_n (then_n (hc_region ?_)))
   refine r_add _ rfl rfl rfl rfl (by unfold I64; omega) ?_
   refine r_move rfl rfl (hl_nil ?_)
   rcases hzi with rfl | rfl
   · exact again _ (k + 1, (hs.getD k default), zk) ⟨by show k + 1 ≤ hs.length; omega, by show ((hs.getD k default).dat, zk) = bestL ordF ((hs.take (k + 1)).map Hv.dat); rw [take_map_succ hk2, best_snoc, ← ha]; exact hz, by first | exact hy | exact Nat.le_trans hx8 (Nat.le_refl _)⟩ (by show hs.length - (k + 1) < hs.length - k; omega) ⟨rfl, rfl, rfl, rfl, rfl, rfl, trivial⟩ (by first | exact .cons_cons _ (List.nil_sublist _) | exact .cons _ (.refl _)) ⟨(by repeat constructor), (by repeat constructor), (by repeat constructor), trivial⟩
   · exact again _ (k + 1, z, zk) ⟨by show k + 1 ≤ hs.length; omega, by show (z.dat, zk) = bestL ordF ((hs.take (k + 1)).map Hv.dat); rw [take_map_succ hk2, best_snoc, ← ha]; exact hz, by first | exact hy | exact Nat.le_trans hx8 (Nat.le_refl _)⟩ (by show hs.length - (k + 1) < hs.length - k; omega) ⟨rfl, rfl, rfl, rfl, rfl, rfl, trivial⟩ (by first | exact .cons_cons _ (List.nil_sublist _) | exact .cons _ (.refl _)) ⟨(by repeat constructor), (by repeat constructor), (by repeat constructor), trivial⟩
  ·have hb2' := hb2; try simp at hb2'
   have hk2 : k = hs.length := by omega
   rw [hk2, List.take_length, hd] at ha
   refine hc_exit (then_exit (then_exit (inb_hit (then_n (hc_seq ?_)))))
   refine hc_draw 7 mixed (by decide) (by decide) rfl rfl ?_
   apply hb_ex _ rfl rfl rfl
   ·intro w1
    refine r_fieldAddr ⟨_, 0, none⟩ rfl rfl T.fa_bold_best_wayzgoose_bold_hand_0 rfl ?_
    refine hl_nil ?_
    exact qe_done rfl
   apply hb_ex _ rfl rfl rfl
   ·intro w1
    refine r_fieldAddr ⟨_, 0, none⟩ rfl rfl T.fa_bold_hand_0 rfl ?_
    refine hl_nil ?_
    exact qe_done rfl
   apply hb_ex _ rfl rfl rfl
   ·intro w1
    refine r_load rfl T.cell_ints rfl (cell_blk (by repeat constructor) rfl) ?_
    refine hl_nil ?_
    exact qe_done rfl
   apply hb_ex _ rfl rfl rfl
   ·intro w1
    refine r_fieldAddr ⟨_, 0, none⟩ rfl rfl T.fa_bold_best_wayzgoose_bold_hand_0 rfl ?_
    refine hl_nil ?_
    exact qe_done rfl
   apply hb_ex _ rfl rfl rfl
   ·intro w1
    refine r_fieldAddr ⟨_, 2, none⟩ rfl rfl T.fa_bold_hand_2 rfl ?_
    refine hl_nil ?_
    exact qe_done rfl
   apply hb_ex _ rfl rfl rfl
   ·intro w1
    refine r_load rfl T.cell_int rfl (cell_blk (by repeat constructor) rfl) ?_
    refine hl_nil ?_
    exact qe_done rfl
   apply hb_ex _ rfl rfl rfl
   ·intro w1
    refine r_assign rfl rfl (hl_nil ?_)
    exact qe_done rfl
   refine hb_nil ⟨rfl, ?_⟩
   refine r_assign rfl rfl (r_assign rfl rfl (hl_nil (then_n (hc_ret ?_))))
   have hE : fillE cs room = (y.1.l, y.2.2, 0) := by rw [fillE, if_neg (Classical.not_not.2 h0), ← ha]; rfl
   exact ret3 (y.1.a, y.1.c) rfl rfl rfl rfl (by show Value.tuple #[.slice y.1.a (fillE cs room).1.length y.1.c, int (fillE cs room).2.1, int (fillE cs room).2.2] = _; rw [hE] <;> rfl) rfl trivial (List.nil_sublist _) (by show LSub _ [Row y.1.a (rows (fillE cs room).1)]; rw [hE]; exact ⟨(by repeat constructor), trivial⟩)
end Go.Proofs.Ytdlbbfcfahahdaa
end
section
namespace Go.Proofs.Ytdlbbfcfahahdaa
open Go Go.W
set_option linter.unusedVariables false
set_option linter.unusedSimpArgs false
set_option maxRecDepth 20000
attribute [local irreducible] HL HC HQ HB Row Rows2 Blk Facts
def streetsE (c : Ch) (ss : List Int) (xs : List Ad) : List Int × Int := if ¬ chkS c ss xs = 0 then ([], chkS c ss xs) else (discK c ss xs 10, 0)
def savedE (c : Ch) (ss : List Int) (xs : List Ad) : List Int × Int := if ¬ chkS c ss xs = 0 then ([], chkS c ss xs) else (numsN 102 c ss xs, 0)
def ctrC : Ch := (10, 25, 5, 40, 10, 2)
def ctrA : List Ad := [(0, 1, 1), (1, 2, 2), (2, 3, 3)]
def law_cards : List Cd := [(2, 30), (3, 50), (4, 60)]
theorem law09_cards_meets : Meets Try.prog F.law09_cards [] { val := fun g : Nat => .slice (some ⟨g, 0, none⟩) 3 3, LO := fun g => [Row (some ⟨g, 0, none⟩) (rows law_cards)] } := by
 refine meets_intro F.law09_cards_f rfl (Nat.le_of_ble_eq_true rfl) fun w0 => ?_
 refine hc_seq (hc_region (r_assign rfl rfl (hl_nil (then_n (hc_seq (hc_region ?_))))))
 refine r_build _ rfl rfl (fun _ => T.bd_api_Card_0_1 ..) ?_
 refine r_build _ rfl rfl (fun _ => T.bd_api_Card_0_1 ..) ?_
 refine r_build _ rfl rfl (fun _ => T.bd_api_Card_0_1 ..) ?_
 refine r_buildSlice _ rfl rfl (fun _ => T.bs_L_api_Card_3 ..) fun gS => ?_
 refine r_assign rfl rfl (hl_nil (then_n (hc_ret ?_)))
 refine hq_letgo (rows law_cards) (List.prefix_refl _) ?_
 exact ret1 gS rfl rfl rfl trivial (List.nil_sublist _) ⟨m0, trivial⟩
theorem law09_rates_meets : Meets Try.prog F.law09_rates [] { val := fun g : Nat => .slice (some ⟨g, 0, none⟩) 6 6, LO := fun g => [Row (some ⟨g, 0, none⟩) (rows ([5, 9, 4, 7, 6, 9] : List Int))] } := by
 refine meets_intro F.law09_rates_f rfl (Nat.le_of_ble_eq_true rfl) fun w0 => ?_
 refine hc_seq (hc_region (r_assign rfl rfl (hl_nil (then_n (hc_seq (hc_region ?_))))))
 refine r_buildSlice _ rfl rfl (fun _ => T.bs_ints_6 ..) fun gS => ?_
 refine r_assign rfl rfl (hl_nil (then_n (hc_ret ?_)))
 refine hq_letgo (rows ([5, 9, 4, 7, 6, 9] : List Int)) (List.prefix_refl _) ?_
 exact ret1 gS rfl rfl rfl trivial (List.nil_sublist _) ⟨m0, trivial⟩
end Go.Proofs.Ytdlbbfcfahahdaa
end
section
namespace Go.Proofs.Ytdlbbfcfahahdaa
open Go Go.W
set_option linter.unusedVariables false
set_option linter.unusedSimpArgs false
set_option maxRecDepth 20000
attribute [local irreducible] HL HC HQ HB Row Rows2 Blk Facts
abbrev ctrP (g : Nat) : Sl Int := ⟨some ⟨g, 0, none⟩, 3, [0, 0, 3]⟩
abbrev ctrQ (g : Nat) : Sl Ad := ⟨some ⟨g, 0, none⟩, 3, ctrA⟩
def someA : List Ad := [(0, 1, 1), (2, 3, 3)]
abbrev someQ (g : Nat) : Sl Ad := ⟨some ⟨g, 0, none⟩, 2, someA⟩
theorem law09_counter_meets : Meets Try.prog F.law09_counter [] { val := fun x : Nat × Nat => saV ctrC (ctrP x.1) (ctrQ x.2), LO := fun x => saL (ctrP x.1) (ctrQ x.2) } := by
 refine meets_intro F.law09_counter_f rfl (Nat.le_of_ble_eq_true rfl) fun w0 => ?_
 refine hc_seq (hc_region ?_)
 refine r_alloc rfl (fun _ => T.al_api_Sales _) fun g0 => ?_
 refine hl_nil (then_n (hc_seq (hc_region ?_)))
 refine r_build _ rfl rfl (fun _ => T.bd_api_Charges_0_1_2_3_4_5 ..) ?_
 refine r_buildSlice _ rfl rfl (fun _ => T.bs_ints_3 ..) fun gp => ?_
 refine hl_letgo (rows ([0, 0, 3] : List Int)) (List.prefix_refl _) ?_
 refine r_build _ rfl rfl (fun _ => T.bd_api_Advert_0_1_2 ..) ?_
 refine r_build _ rfl rfl (fun _ => T.bd_api_Advert_0_1_2 ..) ?_
 refine r_build _ rfl rfl (fun _ => T.bd_api_Advert_0_1_2 ..) ?_
 refine r_buildSlice _ rfl rfl (fun _ => T.bs_L_api_Advert_3 ..) fun gq => ?_
 refine hl_letgo (rows ctrA) (List.prefix_refl _) ?_
 refine r_build _ rfl rfl (fun _ => T.bd_api_Sales_0_1_2 ..) ?_
 refine r_storeS rfl rfl (by first | exact .refl _ | exact perm2 _ _ _ | exact perm3 _ _ _ _ | exact perm4 _ _ _ _ _) T.sz_api_Sales (by rfl) (by rfl) ?_
 refine hl_nil (then_n (hc_ret ?_))
 exact ret_row (gp, gq) rfl rfl T.row_api_Sales T.sz_api_Sales rfl m0 rfl rfl trivial (List.nil_sublist _) ⟨(by repeat constructor), (by repeat constructor), trivial⟩
theorem law09_some_meets : Meets Try.prog F.law09_some [] { val := fun x : Nat × Nat => saV ctrC (ctrP x.1) (someQ x.2), LO := fun x => saL (ctrP x.1) (someQ x.2) } := by
 refine meets_intro F.law09_some_f rfl (Nat.le_of_ble_eq_true rfl) fun w0 => ?_
 refine hc_seq (hc_region ?_)
 refine r_alloc rfl (fun _ => T.al_api_Sales _) fun g0 => ?_
 refine hl_nil (then_n (hc_seq (hc_region ?_)))
 refine hl_call F.law09_counter_cb rfl rfl (law09_counter_meets) (List.Perm.refl _) trivial fun x _ => ?_
 obtain ⟨gp, gq⟩ := x
 refine r_alloc rfl (fun _ => T.al_api_Sales _) fun g1 => ?_
 refine r_storeS (cs := #[int 10, int 25, int 5, int 40, int 10, int 2, .slice (some ⟨gp, 0, none⟩) 3 3, .slice (some ⟨gq, 0, none⟩) 3 3]) rfl rfl (.refl _) T.sz_api_Sales (by rfl) (by rfl) ?_
 refine hl_nil (then_n (hc_seq ?_))
 refine hc_draw 8 mixed (by decide) (by decide) rfl rfl ?_
 apply hb_ex _ rfl rfl rfl
 ·intro w1
  refine r_fieldAddr ⟨_, 7, none⟩ rfl rfl T.fa_api_Sales_2 rfl ?_
  refine hl_nil ?_
  exact qe_done rfl
 apply hb_ex _ rfl rfl rfl
 ·intro w1
  refine r_load (v := .slice (some ⟨gq, 0, none⟩) 3 3) rfl T.cell_L_api_Advert rfl (cell_blk (by repeat constructor) rfl) ?_
  refine hl_nil ?_
  exact qe_done rfl
 apply hb_ex _ rfl rfl rfl
 ·intro w1
  refine r_elem (α := Ad) ctrA 0 rfl T.u_L_api_Advert T.sz_api_Advert rfl rfl rfl (by repeat constructor) rfl (by decide) (by decide) ?_
  refine hl_nil ?_
  exact qe_done rfl
 apply hb_ex _ rfl rfl rfl
 ·intro w1
  refine r_loadS (cs := [int 0, int 1, int 1]) rfl T.row_api_Advert T.sz_api_Advert rfl rfl (cells_row (by repeat constructor) (rows_all (l := ctrA) (i := 0) (by decide))) ?_
  refine hl_nil ?_
  exact qe_done rfl
 apply hb_ex _ rfl rfl rfl
 ·intro w1
  refine r_fieldAddr ⟨_, 7, none⟩ rfl rfl T.fa_api_Sales_2 rfl ?_
  refine hl_nil ?_
  exact qe_done rfl
 apply hb_ex _ rfl rfl rfl
 ·intro w1
  refine r_load (v := .slice (some ⟨gq, 0, none⟩) 3 3) rfl T.cell_L_api_Advert rfl (cell_blk (by repeat constructor) rfl) ?_
  refine hl_nil ?_
  exact qe_done rfl
 apply hb_ex _ rfl rfl rfl
 ·intro w1
  refine r_elem (α := Ad) ctrA 2 rfl T.u_L_api_Advert T.sz_api_Advert rfl rfl rfl (by repeat constructor) rfl (by decide) (by decide) ?_
  refine hl_nil ?_
  exact qe_done rfl
 apply hb_ex _ rfl rfl rfl
 ·intro w1
  refine r_loadS (cs := [int 2, int 3, int 3]) rfl T.row_api_Advert T.sz_api_Advert rfl rfl (cells_row (by repeat constructor) (rows_all (l := ctrA) (i := 2) (by decide))) ?_
  refine hl_nil ?_
  exact qe_done rfl
 refine hb_nil ⟨rfl, ?_⟩
 refine r_buildSlice _ rfl rfl (fun _ => T.bs_L_api_Advert_2 ..) fun gr => ?_
 refine hl_letgo (rows someA) (List.prefix_refl _) ?_
 refine r_fieldAddr ⟨_, 7, none⟩ rfl rfl T.fa_api_Sales_2 rfl ?_
 refine r_store rfl rfl (.refl _) T.sz_L_api_Advert rfl rfl ?_
 refine hl_nil (then_n (hc_seq (hc_region ?_)))
 refine r_loadA (cs := #[int 10, int 25, int 5, int 40, int 10, int 2, .slice (some ⟨gp, 0, none⟩) 3 3, .slice (some ⟨gr, 0, none⟩) 2 2]) rfl T.row_api_Sales T.sz_api_Sales rfl m0 rfl ?_
 refine r_storeS (cs := #[int 10, int 25, int 5, int 40, int 10, int 2, .slice (some ⟨gp, 0, none⟩) 3 3, .slice (some ⟨gr, 0, none⟩) 2 2]) rfl rfl (List.Perm.swap _ _ _) T.sz_api_Sales (by rfl) (by rfl) ?_
 refine hl_nil (then_n (hc_ret ?_))
 exact ret_row (gp, gr) rfl rfl T.row_api_Sales T.sz_api_Sales rfl m0 rfl rfl trivial (List.nil_sublist _) ⟨(by repeat constructor), (by repeat constructor), trivial⟩
def shopsC : List Cl := [([102, 111, 111, 100], -1), ([98, 114, 101, 97, 100], 0), ([99, 108, 111, 116, 104], -1), ([104, 97, 116, 115], 2)]
def shopsH (g1 g2 : Nat) : List Hd := [([98, 97, 107, 101, 114], 1, -1, ⟨none, 0, []⟩), ([98, 111, 110, 110, 101, 116, 115], -1, 3, ⟨none, 0, []⟩), ([99, 111, 110, 102, 101, 99, 116, 105, 111, 110, 101, 114], 0, -1, ⟨some ⟨g1, 0, none⟩, 1, [0]⟩), ([104, 97, 116, 116, 101, 114], 3, -1, ⟨none, 0, []⟩), ([109, 101, 114, 99, 101, 114], 2, -1, ⟨some ⟨g2, 0, none⟩, 1, [3]⟩), ([109, 105, 108, 108, 105, 110, 101, 114], -1, 1, ⟨none, 0, []⟩)]
set_option maxHeartbeats 1000000 in
theorem law09_shops_meets : Meets Try.prog F.law09_shops [] { val := fun x : Nat × Nat × Nat × Nat => .agg #[.slice (some ⟨x.1, 0, none⟩) 4 4, .slice (some ⟨x.2.1, 0, none⟩) 6 6], LO := fun x => [Row (some ⟨x.1, 0, none⟩) (rows shopsC), RowsF (some ⟨x.2.1, 0, none⟩) (shopsH x.2.2.1 x.2.2.2) Hd.row] } := by
 refine meets_intro F.law09_shops_f rfl (Nat.le_of_ble_eq_true rfl) fun w0 => ?_
 refine hc_seq (hc_region ?_)
 refine r_alloc rfl (fun _ => T.al_api_Trades _) fun g0 => ?_
 refine hl_nil (then_n (hc_seq (hc_region ?_)))
 refine r_build _ rfl rfl (fun _ => T.bd_api_Class_0_1 ..) ?_
 refine r_build _ rfl rfl (fun _ => T.bd_api_Class_0 ..) ?_
 refine r_build _ rfl rfl (fun _ => T.bd_api_Class_0_1 ..) ?_
 refine r_build _ rfl rfl (fun _ => T.bd_api_Class_0_1 ..) ?_
 refine r_buildSlice _ rfl rfl (fun _ => T.bs_L_api_Class_4 ..) fun gC => ?_
 refine hl_letgo (rows shopsC) (List.prefix_refl _) ?_
 refine r_build _ rfl rfl (fun _ => T.bd_api_Head_0_1_2 ..) ?_
 refine r_build _ rfl rfl (fun _ => T.bd_api_Head_0_1_2 ..) ?_
 refine r_buildSlice _ rfl rfl (fun _ => T.bs_ints_1 ..) fun g1 => ?_
 refine hl_letgo (rows [(0 : Int)]) (List.prefix_refl _) ?_
 refine r_build _ rfl rfl (fun _ => T.bd_api_Head_0_2_3 ..) ?_
 refine r_build _ rfl rfl (fun _ => T.bd_api_Head_0_1_2 ..) ?_
 refine r_buildSlice _ rfl rfl (fun _ => T.bs_ints_1 ..) fun g2 => ?_
 refine hl_letgo (rows [(3 : Int)]) (List.prefix_refl _) ?_
 refine r_build _ rfl rfl (fun _ => T.bd_api_Head_0_1_2_3 ..) ?_
 refine r_build _ rfl rfl (fun _ => T.bd_api_Head_0_1_2 ..) ?_
 refine r_buildSlice _ rfl rfl (fun _ => T.bs_L_api_Head_6 ..) fun gH => ?_
 refine hl_letgo (rows (shopsH g1 g2)) (List.prefix_refl _) ?_
 refine r_build _ rfl rfl (fun _ => T.bd_api_Trades_0_1 ..) ?_
 refine r_storeS rfl rfl (by first | exact .refl _ | exact perm2 _ _ _ | exact perm3 _ _ _ _ | exact perm4 _ _ _ _ _) T.sz_api_Trades (by rfl) (by rfl) ?_
 refine hl_nil (then_n (hc_ret ?_))
 refine hq_nilrow (α := Int) ?_
 refine hq_facts (Fs := (shopsH g1 g2).map Hd.row) (by intro F hF; left; simp only [shopsH, List.map_cons, List.map_nil, List.mem_cons, List.not_mem_nil, or_false] at hF; rcases hF with rfl | rfl | rfl | rfl | rfl | rfl <;> repeat constructor) ?_
 refine hq_rowsF (A := some ⟨gH, 0, none⟩) (ps := shopsH g1 g2) (f := Hd.row) (by repeat constructor) m0 ?_
 exact ret_row (gC, gH, g1, g2) rfl rfl T.row_api_Trades T.sz_api_Trades rfl m0 rfl rfl trivial (List.nil_sublist _) ⟨(by repeat constructor), m0, trivial⟩
end Go.Proofs.Ytdlbbfcfahahdaa
end
section
namespace Go.Proofs.Ytdlbbfcfahahdaa
open Go Go.W
set_option linter.unusedVariables false
set_option linter.unusedSimpArgs false
set_option maxRecDepth 20000
attribute [local irreducible] HL HC HQ HB Row Rows2 Blk Facts
instance : El Bool where
  default := false
  cells b := [.bool b]
  sz := 1
  len _ := rfl
  one a u h := by simp at h; subst h; rfl
def rdK (p : Int) (l : List Int) : List Bool := l.map fun v => decide (0 ≤ v ∧ v ≤ p)
theorem rdK_succ {p : Int} {l : List Int} {k : Nat} (hk : k < l.length) : rdK p (l.take (k + 1)) = rdK p (l.take k) ++ [decide (0 ≤ l.getD k default ∧ l.getD k default ≤ p)] := by
  unfold rdK
  rw [List.take_succ_eq_append_getElem hk, getD_at hk, List.map_append]; rfl
theorem rdK_len (p : Int) (l : List Int) : (rdK p l).length = l.length := by simp [rdK]
def reachK (t : Tr) (p : Int) (k : Nat) : List (List Bool) := (List.range k).map fun i : Nat => rdK p (stepsE t (i : Int)).1
theorem reachK_succ (t : Tr) (p : Int) (k : Nat) : reachK t p (k + 1) = reachK t p k ++ [rdK p (stepsE t (k : Int)).1] := by
  unfold reachK
  rw [List.range_succ, List.map_append]; rfl
abbrev N0 : Sl Bool := ⟨none, 0, []⟩
theorem at_cur {ps r : List (Sl Bool)} {x : Sl Bool} {i : Nat} (h : ps.length = i) : (ps ++ x :: r).getD i default = x := by
  subst h; simp [List.getD_eq_getElem?_getD]
theorem set_cur {ps r : List (Sl Bool)} {x y : Sl Bool} {i : Nat} (h : ps.length = i) : (ps ++ x :: r).set i y = ps ++ y :: r := by
  subst h; simp
theorem bold_reached_meets {A B : Option Addr} {ca cb : Nat} (cs : List Cl) (hs : List Hd) (p : Int) (hca : cs.length ≤ ca) (hcb : hs.length ≤ cb) (ha : ∀ h ∈ hs, h.2.2.2.l.length ≤ 1000000) (hn : hs.length ≤ 1000000) (hst : ∀ i : Nat, (stepsE (trOf cs hs) (i : Int)).1.length ≤ 1000000) : Meets Try.prog F.bold_reached [.agg #[.slice A cs.length ca, .slice B hs.length cb], int p] { LI := [Row A (rows cs), RowsF B hs Hd.row], inv := fun x : Nat × List (Sl Bool) => x.2.length = hs.length ∧ x.2.map (·.l) = reachK (trOf cs hs) p hs.length, val := fun x => .slice (some ⟨x.1, 0, none⟩) hs.length hs.length, LO := fun x => [Row (some ⟨x.1, 0, none⟩) (rows x.2), innerF x.2] } := by
 refine meets_intro F.bold_reached_f rfl (Nat.le_of_ble_eq_true rfl) fun w0 => ?_
 refine hc_seq (hc_region ?_)
 refine r_box rfl rfl fun gB => ?_
 refine r_assign rfl rfl (hl_nil (then_n (hc_seq (hc_letgoB (hc_region ?_)))))
 refine r_fieldAddr ⟨_, 1, none⟩ rfl rfl T.fa_api_Trades_1 rfl ?_
 refine r_load (v := .slice B hs.length cb) rfl T.cell_L_api_Head rfl (cell_blk (by repeat constructor) rfl) ?_
 refine r_len_sl rfl T.u_L_api_Head rfl ?_
 refine r_makeR (α := Sl Bool) (n := hs.length) (bytes := 24) (z := .slice none 0 0) N0 rfl T.u_L_L_bool (by kernel_rfl) rfl rfl rfl rfl (by omega) (by omega) fun go => ?_
 refine r_assign rfl rfl (hl_nil (then_n (hc_seq (hc_seq (hc_region (r_move rfl rfl ?_))))))
 refine r_len_sl rfl T.u_L_L_bool rfl ?_
 refine r_move rfl rfl (hl_nil (then_n (hc_block ?_)))
 refine hc_facts (Fs := ([] : List (Sl Bool)).map fun p => Row p.a (rows p.l)) (by intro F hF; cases hF) ?_
 refine hc_loop (β := Nat × List (Sl Bool)) ⟨fun x => x.1 ≤ hs.length ∧ x.2.length = x.1 ∧ x.2.map (·.l) = reachK (trOf cs hs) p x.1, fun x => [(1, int p), (2, .pointer (some ⟨gB, 0, none⟩)), (5, .slice (some ⟨go, 0, none⟩) hs.length hs.length), (16, int hs.length), (17, int x.1)], fun x => [(go, Obj.cells (rows (x.2 ++ List.replicate (hs.length - x.1) N0)).toArray T.L_bool (0, 0))], fun x => [Blk gB (Obj.cells #[.slice A cs.length ca, .slice B hs.length cb] T.api_Trades (0, 0)), Row A (rows cs), RowsF B hs Hd.row, innerF x.2]⟩ (fun x => hs.length - x.1) (0, []) ⟨Nat.zero_le _, rfl, rfl⟩ ⟨rfl, rfl, rfl, rfl, rfl, trivial⟩ (.refl _) ⟨(by repeat constructor), (by repeat constructor), (by repeat constructor), (by repeat constructor), trivial⟩ fun x hx => ?_
 obtain ⟨i, ps⟩ := x
 obtain ⟨hi, hpl, hpm⟩ := hx
 simp only at hi hpl hpm
 have hs1 := hst i
 refine hc_seq (hc_region (r_lss rfl rfl rfl (hl_nil (then_n (hc_seq ?_)))))
 refine c_dec rfl (fun hb1 => ?_) (fun hb1 => ?_)
 ·have hb1' := hb1; try simp at hb1'
  have hi2 : i < hs.length := by omega
  obtain ⟨q, hq⟩ : ∃ q, hs.length - i = q + 1 := ⟨hs.length - i - 1, by omega⟩
  refine hc_skip (then_n (hc_seq (hc_block (hc_seq (hc_region (r_move rfl rfl (r_assign rfl rfl (hl_nil (then_n (hc_seq (hc_region ?_)))))))))))
  refine r_loadB (cs := #[.slice A cs.length ca, .slice B hs.length cb]) rfl T.row_api_Trades T.sz_api_Trades rfl (by repeat constructor) rfl ?_
  refine r_move rfl rfl ?_
  refine hl_call F.trade_Steps_cb rfl rfl (trade_Steps_meets cs hs (i : Int) hca hcb ha) (List.Perm.refl _) ⟨(by repeat constructor), (by repeat constructor), trivial⟩ fun x hx => ?_
  obtain ⟨xa, xc⟩ := x
  refine r_move rfl rfl (r_extract rfl rfl rfl (r_extract rfl rfl rfl (r_assign rfl rfl (r_assign rfl rfl (hl_nil (then_n (hc_seq (hc_region (r_move rfl rfl ?_)))))))))
  refine r_len_sl rfl T.u_ints rfl ?_
  refine r_move rfl rfl (hl_nil (then_n (hc_block ?_)))
  refine hc_perm (hp' := [(go, Obj.cells (rows (ps ++ N0 :: List.replicate q N0)).toArray T.L_bool (0, 0))]) (by show List.Perm [(go, Obj.cells (rows (ps ++ List.replicate (hs.length - i) N0)).toArray T.L_bool (0, 0))] _; rw [hq]; exact .refl _) ?_
  refine hc_loop (β := Nat × OutC × Hp) ⟨fun x => x.1 ≤ (stepsE (trOf cs hs) (i : Int)).1.length ∧ Grow T.bool 1 x.2.1.1 (rdK p ((stepsE (trOf cs hs) (i : Int)).1.take (x.1))).length x.2.1.2 (rows (rdK p ((stepsE (trOf cs hs) (i : Int)).1.take (x.1)))) x.2.2, fun x => [(1, int p), (2, .pointer (some ⟨gB, 0, none⟩)), (5, .slice (some ⟨go, 0, none⟩) hs.length hs.length), (6, int i), (16, int hs.length), (17, int i), (26, .slice xa (stepsE (trOf cs hs) (i : Int)).1.length xc), (27, int (stepsE (trOf cs hs) (i : Int)).1.length), (28, int x.1)], fun x => (go, Obj.cells (rows (ps ++ ⟨x.2.1.1, x.2.1.2, (rdK p ((stepsE (trOf cs hs) (i : Int)).1.take (x.1)))⟩ :: List.replicate q N0)).toArray T.L_bool (0, 0)) :: x.2.2, fun _ => [Row xa (rows (stepsE (trOf cs hs) (i : Int)).1), Blk gB (Obj.cells #[.slice A cs.length ca, .slice B hs.length cb] T.api_Trades (0, 0)), Row A (rows cs), RowsF B hs Hd.row, innerF ps]⟩ (fun x => (stepsE (trOf cs hs) (i : Int)).1.length - x.1) (0, (none, 0), []) ⟨Nat.zero_le _, Grow.nil _ _⟩ ⟨rfl, rfl, rfl, rfl, rfl, rfl, rfl, rfl, rfl, trivial⟩ (.refl _) ⟨(by repeat constructor), (by repeat constructor), (by repeat constructor), (by repeat constructor), (by repeat constructor), trivial⟩ fun x hx => ?_
  obtain ⟨j, ⟨na, nc⟩, og⟩ := x
  obtain ⟨hj, hG⟩ := hx
  simp only at hj hG
  have hlen : (rdK p ((stepsE (trOf cs hs) (i : Int)).1.take (j))).length ≤ j := by rw [rdK_len, List.length_take]; exact Nat.min_le_left _ _
  refine hc_seq (hc_region (r_lss rfl rfl rfl (hl_nil (then_n (hc_seq ?_)))))
  refine c_dec rfl (fun hb2 => ?_) (fun hb2 => ?_)
  ·have hb2' := hb2; try simp at hb2'
   have hj2 : j < (stepsE (trOf cs hs) (i : Int)).1.length := by omega
   have hbs := rdK_succ (p := p) hj2
   refine hc_skip (then_n (hc_seq (hc_block (hc_seq (hc_region ?_)))))
   refine r_elem (α := Int) _ _ rfl T.u_ints T.sz_int rfl rfl rfl (by repeat constructor) rfl (by omega) (by decide) ?_
   refine r_load rfl T.cell_int rfl (cell_row (by repeat constructor) (rows_get0 (by omega) rfl)) ?_
   refine r_assign rfl rfl (hl_nil (then_n ?_))
   refine hc_drawW (og) ([(go, Obj.cells (rows (ps ++ ⟨na, nc, (rdK p ((stepsE (trOf cs hs) (i : Int)).1.take (j)))⟩ :: List.replicate q N0)).toArray T.L_bool (0, 0))]) (List.perm_append_comm (l₁ := [_]) (l₂ := og)) 11 [10] mixed (by decide) (by decide) (by decide) rfl rfl rfl ?_
   apply hb_ex _ rfl rfl rfl
   ·intro w1
    refine r_move rfl rfl (hl_nil ?_)
    exact qe_done rfl
   apply hb_ex _ rfl rfl rfl
   ·intro w1
    refine r_move rfl rfl (hl_nil ?_)
    exact qe_done rfl
   apply hb_ex _ rfl rfl rfl
   ·intro w1
    refine r_move rfl rfl (hl_nil ?_)
    exact qe_done rfl
   apply hb_ex _ rfl rfl rfl
   ·intro w1
    refine r_move rfl rfl (hl_nil ?_)
    exact qe_done rfl
   apply hb_ex _ rfl rfl rfl
   ·intro w1
    refine r_indexAddr_own i (0 + i * 1) rfl T.u_L_L_bool T.sz_L_bool rfl rfl rfl (by omega) rfl ?_
    refine hl_nil ?_
    exact qe_done rfl
   apply hb_ex _ rfl rfl rfl
   ·intro w1
    refine r_load (v := .slice na (rdK p ((stepsE (trOf cs hs) (i : Int)).1.take (j))).length nc) rfl T.cell_L_bool rfl (cell_blkf (α := Sl Bool) (k := i) (f := 0) (by repeat constructor) (by show 0 + i * 1 = i * 1 + 0; omega) (by rw [List.length_append, hpl]; simp) (by rw [at_cur hpl]; rfl)) ?_
    refine hl_nil ?_
    exact qe_done rfl
   apply hb_ex _ rfl rfl rfl
   ·intro w1
    refine r_move rfl rfl (hl_nil ?_)
    exact qe_done rfl
   apply hb_ex _ rfl rfl rfl
   ·intro w1
    refine r_move rfl rfl (hl_nil ?_)
    exact qe_done rfl
   apply hb_ex _ rfl rfl rfl
   ·intro w1
    refine hl_call F.bold_between_cb rfl rfl (bold_between_meets _ _ _) (List.Perm.refl _) trivial fun _ _ => ?_
    refine hl_nil ?_
    exact qe_done rfl
   refine hb_vs ⟨Nat, fun _ => True, fun g1 => .slice (some ⟨g1, 0, none⟩) 1 1, fun g1 => [Row (some ⟨g1, 0, none⟩) (rows [(decide (0 ≤ (stepsE (trOf cs hs) (i : Int)).1.getD j default ∧ (stepsE (trOf cs hs) (i : Int)).1.getD j default ≤ p))])]⟩ rfl rfl rfl ?_ ?_
   ·intro w1
    refine r_buildSlice _ rfl rfl (fun _ => T.bs_L_bool_1 ..) fun gS => ?_
    refine hl_nil ?_
    refine hq_letgo (rows [(decide (0 ≤ (stepsE (trOf cs hs) (i : Int)).1.getD j default ∧ (stepsE (trOf cs hs) (i : Int)).1.getD j default ≤ p))]) (List.prefix_refl _) ?_
    exact qv_done gS trivial rfl ⟨m0, trivial⟩
   refine hb_wr ⟨OutC × Hp, fun x => Grow T.bool 1 x.1.1 ((rdK p ((stepsE (trOf cs hs) (i : Int)).1.take (j))).length + 1) x.1.2 (rows ((rdK p ((stepsE (trOf cs hs) (i : Int)).1.take (j))) ++ [(decide (0 ≤ (stepsE (trOf cs hs) (i : Int)).1.getD j default ∧ (stepsE (trOf cs hs) (i : Int)).1.getD j default ≤ p))])) x.2, fun x => .slice x.1.1 ((rdK p ((stepsE (trOf cs hs) (i : Int)).1.take (j))).length + 1) x.1.2, fun _ => [], fun x => x.2⟩ rfl rfl rfl ?_ ?_
   ·intro g1 _; intro w1
    refine r_append (hp' := []) ((rdK p ((stepsE (trOf cs hs) (i : Int)).1.take (j))).length + 1) (rows ((rdK p ((stepsE (trOf cs hs) (i : Int)).1.take (j))) ++ [(decide (0 ≤ (stepsE (trOf cs hs) (i : Int)).1.getD j default ∧ (stepsE (trOf cs hs) (i : Int)).1.getD j default ≤ p))])) T.el_L_bool rfl rfl rfl hG (by rw [List.append_nil]) (Src.row (news := rows [(decide (0 ≤ (stepsE (trOf cs hs) (i : Int)).1.getD j default ∧ (stepsE (trOf cs hs) (i : Int)).1.getD j default ≤ p))]) (m := 1) (by repeat constructor) rfl (rows_one _) (by decide)) rfl (rows_append _ _).symm (by unfold maxLen; omega) (by omega) fun A' c' og' hG' => ?_
    refine hl_nil ?_
    exact qw_done ((A', c'), og') hG' (fun _ => rfl) (List.sublist_append_left _ _) trivial
   refine hb_nil ⟨rfl, ?_⟩
   intro g1 _ y hy
   obtain ⟨⟨A', c'⟩, og'⟩ := y
   refine r_indexAddr_own i (0 + i * 1) rfl T.u_L_L_bool T.sz_L_bool rfl rfl rfl (by omega) rfl ?_
   refine r_storef (α := Sl Bool) (k := i) (f := 0) (hp' := og') ⟨A', c', (rdK p ((stepsE (trOf cs hs) (i : Int)).1.take (j))) ++ [(decide (0 ≤ (stepsE (trOf cs hs) (i : Int)).1.getD j default ∧ (stepsE (trOf cs hs) (i : Int)).1.getD j default ≤ p))]⟩ rfl (by show 0 + i * 1 = i * 1 + 0; omega) rfl (List.perm_append_comm (l₁ := og') (l₂ := [_])) T.sz_L_bool (by rw [List.length_append, hpl]; simp) (by decide) (by rw [at_cur hpl]; show [_] = [_]; rw [List.length_append]; rfl) rfl ?_
   rw [set_cur hpl]
   refine hl_nil (inb_n (then_n (hc_region ?_)))
   refine r_add _ rfl rfl rfl rfl (by unfold I64; omega) ?_
   refine r_move rfl rfl (hl_nil ?_)
   exact again _ (j + 1, (A', c'), og') ⟨by show j + 1 ≤ _; omega, by show Grow T.bool 1 A' (rdK p ((stepsE (trOf cs hs) (i : Int)).1.take (j + 1))).length c' (rows (rdK p ((stepsE (trOf cs hs) (i : Int)).1.take (j + 1)))) og'; rw [hbs, List.length_append]; exact hy⟩ (by show (stepsE (trOf cs hs) (i : Int)).1.length - (j + 1) < (stepsE (trOf cs hs) (i : Int)).1.length - j; omega) ⟨rfl, rfl, rfl, rfl, rfl, rfl, rfl, rfl, rfl, trivial⟩ (by show List.Sublist ((go, Obj.cells (rows (ps ++ ⟨A', c', (rdK p ((stepsE (trOf cs hs) (i : Int)).1.take (j + 1)))⟩ :: List.replicate q N0)).toArray T.L_bool (0, 0)) :: og') _; rw [hbs]; exact .refl _) ⟨(by repeat constructor), (by repeat constructor), (by repeat constructor), (by repeat constructor), (by repeat constructor), trivial⟩
  ·have hb2' := hb2; try simp at hb2'
   have hj2 : j = (stepsE (trOf cs hs) (i : Int)).1.length := by omega
   subst hj2
   refine hc_exit (then_exit (then_exit (inb_hit (inb_n (then_n (hc_region ?_))))))
   refine r_add _ rfl rfl rfl rfl (by unfold I64; omega) ?_
   refine r_move rfl rfl (hl_nil ?_)
   refine hq_perm (hp' := og ++ [(go, Obj.cells (rows (ps ++ ⟨na, nc, (rdK p ((stepsE (trOf cs hs) (i : Int)).1.take ((stepsE (trOf cs hs) (i : Int)).1.length)))⟩ :: List.replicate q N0)).toArray T.L_bool (0, 0))]) (List.perm_append_comm (l₁ := [_]) (l₂ := og)) ?_
   refine hq_grown hG ?_
   refine hq_facts (innerF_snoc (p := ((⟨na, nc, (rdK p ((stepsE (trOf cs hs) (i : Int)).1.take ((stepsE (trOf cs hs) (i : Int)).1.length)))⟩) : Sl Bool)) (ps := ps) (f := fun p => Row p.a (rows p.l)) (by repeat constructor) (by repeat constructor)) ?_
   exact again _ (i + 1, ps ++ [⟨na, nc, (rdK p ((stepsE (trOf cs hs) (i : Int)).1.take ((stepsE (trOf cs hs) (i : Int)).1.length)))⟩]) ⟨by show i + 1 ≤ hs.length; omega, by show (ps ++ [_]).length = i + 1; simp [hpl], by show (ps ++ [_]).map (fun x : Sl Bool => x.l) = _; rw [reachK_succ, List.map_append, hpm]; show _ ++ [rdK p (List.take _ _)] = _; rw [List.take_length]⟩ (by show hs.length - (i + 1) < hs.length - i; omega) ⟨rfl, rfl, rfl, rfl, rfl, trivial⟩ (by show List.Sublist [(go, Obj.cells (rows ((ps ++ [⟨na, nc, (rdK p ((stepsE (trOf cs hs) (i : Int)).1.take ((stepsE (trOf cs hs) (i : Int)).1.length)))⟩]) ++ List.replicate (hs.length - (i + 1)) N0)).toArray T.L_bool (0, 0))] _; rw [List.append_assoc, show hs.length - (i + 1) = q by omega]; exact .refl _) ⟨(by repeat constructor), (by repeat constructor), (by repeat constructor), (by repeat constructor), trivial⟩
 ·have hb1' := hb1; try simp at hb1'
  have hi2 : i = hs.length := by omega
  refine hc_exit (then_exit (then_exit (inb_hit (then_n (hc_seq (hc_region (r_move rfl rfl (r_assign rfl rfl (hl_nil (then_n (hc_ret ?_)))))))))))
  refine hq_letgo (rows ps) (by show rows ps <+: rows (ps ++ _); rw [rows_append]; exact List.prefix_append ..) ?_
  exact ret1 (go, ps) rfl rfl rfl ⟨hpl.trans hi2, by show ps.map _ = _; rw [hpm, hi2]⟩ (List.nil_sublist _) ⟨(by repeat constructor), (by repeat constructor), trivial⟩
end Go.Proofs.Ytdlbbfcfahahdaa
end
section
namespace Go.Proofs.Ytdlbbfcfahahdaa
open Go Go.W
set_option linter.unusedVariables false
set_option linter.unusedSimpArgs false
set_option maxRecDepth 20000
attribute [local irreducible] HL HC HQ HB Row Rows2 Blk Facts
theorem any_take {l : List Int} {b : Int → Bool} {k : Nat} (hk : k < l.length) (h : (l.take k).any b = false) (h2 : b (l.getD k default) = false) : (l.take (k + 1)).any b = false := by
  rw [List.take_succ_eq_append_getElem hk, ← getD_at hk, List.any_append, h]
  simpa using h2
theorem slices_IndexFunc_ints_meets {A : Option Addr} {cp f : Nat} {cap : List Value} {L0 : List Fact} (l : List Int) (b : Int → Bool) (hl : l.length ≤ 1000000) (hcb : Callable Try.prog f) (hm : ∀ x ∈ l, Meets Try.prog f ([int x] ++ cap) { LI := L0, val := fun _ : Unit => .bool (b x) }) : Meets Try.prog F.slices_IndexFunc_ints [.slice A l.length cp, .func (.func f) #[] cap.toArray] { LI := Row A (rows l) :: L0, inv := fun z : Int => (0 ≤ z ↔ l.any b = true), val := fun z => int z } := by
 refine meets_intro F.slices_IndexFunc_ints_f rfl (Nat.le_of_ble_eq_true rfl) fun w0 => ?_
 refine hc_seq (hc_region (r_assign rfl rfl (hl_nil (then_n (hc_seq (hc_seq (hc_region (r_move rfl rfl ?_))))))))
 refine r_len_sl rfl T.u_ints rfl ?_
 refine r_move rfl rfl (hl_nil (then_n (hc_block ?_)))
 refine hc_loop (β := Nat) ⟨fun k => k ≤ l.length ∧ (l.take k).any b = false, fun k => [(0, .slice A l.length cp), (1, .func (.func f) #[] cap.toArray), (7, int l.length), (8, int k)], fun _ => [], fun _ => Row A (rows l) :: L0⟩ (fun k => l.length - k) 0 ⟨Nat.zero_le _, rfl⟩ ⟨rfl, rfl, rfl, rfl, trivial⟩ (.refl _) ⟨m0, (LSub.of_mem fun F hF => List.mem_cons_of_mem _ hF)⟩ fun k hk => ?_
 obtain ⟨hk, ht⟩ := hk
 refine hc_seq (hc_region (r_lss rfl rfl rfl (hl_nil (then_n (hc_seq ?_)))))
 first | refine c_dec rfl (fun hb1 => ?_) (fun hb1 => ?_) | refine hc_cond rfl (fun hb1 => ?_) (fun hb1 => ?_)
 ·have hb1' := hb1; try simp at hb1'
  have hk2 : k < l.length := by omega
  refine hc_skip (then_n (hc_seq (hc_block (hc_seq (hc_region (r_move rfl rfl (r_assign rfl rfl (hl_nil (then_n (hc_seq (hc_region ?_)))))))))))
  refine r_move rfl rfl (r_move rfl rfl (r_move rfl rfl ?_))
  refine r_elem (α := Int) _ _ rfl T.u_ints T.sz_int rfl rfl rfl (by repeat constructor) rfl (by omega) (by decide) ?_
  refine r_load rfl T.cell_int rfl (cell_row (by repeat constructor) (rows_get0 (by omega) rfl)) ?_
  refine hl_callv (vs := [int (l.getD k default)]) (cap := cap) hcb rfl rfl rfl (hm _ (getD_mem hk2)) (List.Perm.refl _) (LSub.of_mem fun F hF => List.mem_cons_of_mem _ hF) fun _ _ => ?_
  refine hl_nil (then_n ?_)
  first | refine c_dec rfl (fun hb2 => ?_) (fun hb2 => ?_) | refine hc_cond rfl (fun hb2 => ?_) (fun hb2 => ?_)
  ·have hb2' := hb2; try simp at hb2'
   refine hc_seq (hc_region (r_move rfl rfl (r_assign rfl rfl (hl_nil (then_n (hc_ret (inb_ret (then_ret (then_ret (inb_ret (then_ret ?_)))))))))))
   exact ret1 (k : Int) rfl rfl rfl ⟨fun _ => List.any_eq_true.2 ⟨_, getD_mem hk2, hb2⟩, fun _ => by omega⟩ (List.nil_sublist _) trivial
  ·have hb2' := hb2; try simp at hb2'
   refine hc_skip (inb_n (then_n (hc_region ?_)))
   refine r_add _ rfl rfl rfl rfl (by unfold I64; omega) ?_
   refine r_move rfl rfl (hl_nil ?_)
   exact again _ (k + 1) ⟨by show k + 1 ≤ l.length; omega, any_take hk2 ht (by simpa using hb2)⟩ (by show l.length - (k + 1) < l.length - k; omega) ⟨rfl, rfl, rfl, rfl, trivial⟩ (List.nil_sublist _) ⟨by first | exact m0 | exact List.mem_cons_self .., LSub.of_mem fun F hF => by first | exact List.mem_cons_of_mem _ hF | exact List.mem_append_right _ (List.mem_cons_of_mem _ hF)⟩
 ·have hb1' := hb1; try simp at hb1'
  have hk2 : k = l.length := by omega
  rw [hk2, List.take_length] at ht
  refine hc_exit (then_exit (then_exit (inb_hit (then_n (hc_seq (hc_region (r_assign rfl rfl (hl_nil (then_n (hc_ret ?_))))))))))
  exact ret1 (-1) rfl rfl rfl ⟨fun h => by omega, fun h => by rw [ht] at h; cases h⟩ (.refl _) trivial
theorem slices_ContainsFunc_ints_meets {A : Option Addr} {cp f : Nat} {cap : List Value} {L0 : List Fact} (l : List Int) (b : Int → Bool) (hl : l.length ≤ 1000000) (hcb : Callable Try.prog f) (hm : ∀ x ∈ l, Meets Try.prog f ([int x] ++ cap) { LI := L0, val := fun _ : Unit => .bool (b x) }) : Meets Try.prog F.slices_ContainsFunc_ints [.slice A l.length cp, .func (.func f) #[] cap.toArray] { LI := Row A (rows l) :: L0, val := fun _ : Unit => .bool (l.any b) } := by
 refine meets_intro F.slices_ContainsFunc_ints_f rfl (Nat.le_of_ble_eq_true rfl) fun w0 => ?_
 refine hc_seq (hc_region (r_assign rfl rfl (hl_nil (then_n (hc_seq (hc_region (r_move rfl rfl (r_move rfl rfl ?_))))))))
 refine hl_call F.slices_IndexFunc_ints_cb rfl rfl (slices_IndexFunc_ints_meets l b hl hcb hm) (List.Perm.refl _) ⟨m0, (LSub.of_mem fun F hF => List.mem_cons_of_mem _ hF)⟩ fun z hz => ?_
 refine r_geq rfl rfl rfl (r_assign rfl rfl (hl_nil (then_n (hc_ret ?_))))
 exact ret1 () rfl (congrArg (fun b => some (Value.bool b)) (by have hz : (0 ≤ z ↔ l.any b = true) := hz; cases e : l.any b <;> simp_all)) rfl trivial (List.nil_sublist _) trivial
theorem bold_Found_2_meets {g1 g2 : Nat} {A : Option Addr} {c : Nat} (ps : List (Sl Bool)) (v x : Nat) (hv : v < ps.length) (hx : x < (ps.getD v default).l.length) : Meets Try.prog F.bold_Found_2 [int x, .pointer (some ⟨g1, 0, none⟩), .pointer (some ⟨g2, 0, none⟩)] { LI := [Row (some ⟨g1, 0, none⟩) (rows [(⟨A, c, ps⟩ : Sl (Sl Bool))]), Row (some ⟨g2, 0, none⟩) (rows [(v : Int)]), Row A (rows ps), innerF ps], val := fun _ : Unit => .bool ((ps.getD v default).l.getD x default) } := by
 refine meets_intro F.bold_Found_2_f rfl (Nat.le_of_ble_eq_true rfl) fun w0 => ?_
 refine hc_seq (hc_region (r_assign rfl rfl (hl_nil (then_n (hc_seq (hc_region ?_))))))
 refine r_load (v := .slice A ps.length c) rfl T.cell_L_L_bool rfl (cell_row (A := some ⟨g1, 0, none⟩) (by repeat constructor) (rows_get0 (l := [(⟨A, c, ps⟩ : Sl (Sl Bool))]) (i := 0) Nat.zero_lt_one rfl)) ?_
 refine r_load (v := int v) rfl T.cell_int rfl (cell_row (A := some ⟨g2, 0, none⟩) (by repeat constructor) (rows_get0 (l := [(v : Int)]) (i := 0) Nat.zero_lt_one rfl)) ?_
 refine r_elem (α := Sl Bool) ps v rfl T.u_L_L_bool T.sz_L_bool rfl rfl rfl (by repeat constructor) rfl hv (by decide) ?_
 refine r_load (v := .slice (ps.getD v default).a (ps.getD v default).l.length (ps.getD v default).c) rfl T.cell_L_bool rfl (cell_row (by repeat constructor) (rows_get0 hv rfl)) ?_
 refine hl_pick (F := Row (ps.getD v default).a (rows (ps.getD v default).l)) (Fs := ps.map fun p => Row p.a (rows p.l)) (by repeat constructor) (List.mem_map.2 ⟨_, getD_mem hv, rfl⟩) ?_
 refine r_move rfl rfl ?_
 refine r_elem (α := Bool) (ps.getD v default).l x rfl T.u_L_bool T.sz_bool rfl rfl rfl (by repeat constructor) rfl hx (by decide) ?_
 refine r_load (v := .bool ((ps.getD v default).l.getD x default)) rfl T.cell_bool rfl (cell_row (by repeat constructor) (rows_get0 hx rfl)) ?_
 refine r_assign rfl rfl (hl_nil (then_n (hc_ret ?_)))
 exact ret1 () rfl rfl rfl trivial (List.nil_sublist _) trivial
end Go.Proofs.Ytdlbbfcfahahdaa
end
section
namespace Go.Proofs.Ytdlbbfcfahahdaa
open Go Go.W
set_option linter.unusedVariables false
set_option linter.unusedSimpArgs false
set_option maxRecDepth 20000
attribute [local irreducible] HL HC HQ HB Row Rows2 Blk Facts
theorem trade_Check_meets {A B : Option Addr} {ca cb : Nat} (cs : List Cl) (hs : List Hd) (hca : cs.length ≤ ca) (hcb : hs.length ≤ cb) (ha : ∀ h ∈ hs, h.2.2.2.l.length ≤ 1000000) : Meets Try.prog F.trade_Check [.agg #[.slice A cs.length ca, .slice B hs.length cb]] { LI := [Row A (rows cs), RowsF B hs Hd.row], val := fun _ : Unit => int (checkT (trOf cs hs)) } := by
 refine meets_intro F.trade_Check_f rfl (Nat.le_of_ble_eq_true rfl) fun w0 => ?_
 refine hc_seq (hc_region ?_)
 refine r_box rfl rfl fun gB => ?_
 refine r_assign rfl rfl (hl_nil (then_n (hc_seq (hc_region ?_))))
 first | refine r_loadA rfl T.row_api_Trades T.sz_api_Trades rfl (by repeat constructor) (by rfl) ?_ | refine r_loadB rfl T.row_api_Trades T.sz_api_Trades rfl (by repeat constructor) (by rfl) ?_ | refine r_loadS rfl T.row_api_Trades T.sz_api_Trades rfl rfl (cells_row (by repeat constructor) (rows_all (by omega))) ?_
 refine hl_call F.trade_check_cb rfl rfl (trade_check_meets cs hs hca hcb ha) (List.Perm.refl _) ⟨(by repeat constructor), (by repeat constructor), trivial⟩ fun _ _ => ?_
 refine r_assign rfl rfl (hl_nil (then_n (hc_ret ?_)))
 exact ret1 () rfl rfl rfl trivial (List.nil_sublist _) trivial
theorem reach_len {cs : List Cl} {hs : List Hd} (h0 : checkT (trOf cs hs) = 0) {i : Nat} (hi : i < hs.length) : (stepsE (trOf cs hs) (i : Int)).1.length = hs.length := by
  have hl := hs_len cs hs
  have hh : 0 ≤ (i : Int) ∧ (i : Int) ≤ ((trOf cs hs).hs.length : Int) - 1 := by omega
  rw [show stepsE (trOf cs hs) i = (stepsT (trOf cs hs) i, 0) by rw [stepsE, if_neg (not_not_intro (ask_one h0 hh))]]
  show (stepsT (trOf cs hs) i).length = _
  rw [steps_len, hl]
theorem steps_bd (cs : List Cl) (hs : List Hd) (hn : hs.length ≤ 1000000) (i : Nat) : (stepsE (trOf cs hs) (i : Int)).1.length ≤ 1000000 := by
  unfold stepsE
  split
  · simp
  · show (stepsT (trOf cs hs) i).length ≤ _
    rw [steps_len, hs_len]; exact hn
/-- The heads of a hand can all be bought, and reach all that is wanted. -/
def fndOK (hs : List Hd) (rs : List (List Bool)) (ws : List Int) (s : List Int) : Bool := (s.all fun k => decide (0 ≤ (hs.getD k.toNat default).2.1)) && ws.all fun w => s.any fun k => (rs.getD w.toNat default).getD k.toNat default
def fndH (pr : List Int) (s : List Int) : Hn := (s, 0, (s.map fun k => pr.getD k.toNat default).sum)
def fndL (hs : List Hd) (rs : List (List Bool)) (pr ws : List Int) (k : Nat) : List Hn := (((List.range k).map fun s => pickK s hs.length).filter (fndOK hs rs ws)).map (fndH pr)
def fndB (t : Tr) (hs : List Hd) (pr ws : List Int) (p : Int) : Hn × Bool := bestL ordP (fndL hs (reachK t p hs.length) pr ws (2 ^ hs.length))
def prB (x : Int) : Prop := 0 ≤ x ∧ x ≤ 999
instance (x : Int) : Decidable (prB x) := by unfold prB; infer_instance
def foundE (cs : List Cl) (hs : List Hd) (pr ws : List Int) (p : Int) : Hn :=
  if ¬ checkT (trOf cs hs) = 0 then ([], 0, checkT (trOf cs hs)) else if pr.length < hs.length then ([], 0, 7) else if hs.length < pr.length then ([], 0, 6)
  else if ¬ ∀ x ∈ pr, prB x then ([], 0, 1) else if ¬ ∀ w ∈ ws, 0 ≤ w ∧ w ≤ (hs.length : Int) - 1 then ([], 0, 3) else if ¬ (0 ≤ p ∧ p ≤ 6) then ([], 0, 1)
  else if (fndB (trOf cs hs) hs pr ws p).2 = false then ([], 0, 11) else ((fndB (trOf cs hs) hs pr ws p).1.1, (fndB (trOf cs hs) hs pr ws p).1.2.2, 0)
theorem fndL_succ (hs : List Hd) (rs : List (List Bool)) (pr ws : List Int) (k : Nat) : fndL hs rs pr ws (k + 1) = if fndOK hs rs ws (pickK k hs.length) = true then fndL hs rs pr ws k ++ [fndH pr (pickK k hs.length)] else fndL hs rs pr ws k := by
  unfold fndL
  rw [List.range_succ, List.map_append, List.filter_append, List.map_append]
  by_cases e : fndOK hs rs ws (pickK k hs.length) = true
  · rw [if_pos e]; simp [e]
  · rw [if_neg e]; simp [e]
theorem fnd_no_price {hs : List Hd} {rs : List (List Bool)} {ws s : List Int} {j : Nat} (hj : j < s.length) (h : (hs.getD (s.getD j default).toNat default).2.1 < 0) : ¬ fndOK hs rs ws s = true := by
  intro e
  unfold fndOK at e
  rw [Bool.and_eq_true] at e
  have := of_decide_eq_true (List.all_eq_true.1 e.1 _ (getD_mem hj))
  omega
theorem fnd_no_want {hs : List Hd} {rs : List (List Bool)} {ws s : List Int} {j : Nat} (hj : j < ws.length) (h : (s.any fun k => (rs.getD (ws.getD j default).toNat default).getD k.toNat default) = false) : ¬ fndOK hs rs ws s = true := by
  intro e
  unfold fndOK at e
  rw [Bool.and_eq_true] at e
  have := List.all_eq_true.1 e.2 _ (getD_mem hj)
  rw [h] at this
  cases this
theorem fnd_yes {hs : List Hd} {rs : List (List Bool)} {ws s : List Int} (h1 : ∀ k ∈ s, 0 ≤ (hs.getD k.toNat default).2.1) (h2 : ∀ w ∈ ws, (s.any fun k => (rs.getD w.toNat default).getD k.toNat default) = true) : fndOK hs rs ws s = true := by
  unfold fndOK
  rw [Bool.and_eq_true]
  exact ⟨List.all_eq_true.2 fun k hk => decide_eq_true (h1 k hk), List.all_eq_true.2 h2⟩
end Go.Proofs.Ytdlbbfcfahahdaa
end
