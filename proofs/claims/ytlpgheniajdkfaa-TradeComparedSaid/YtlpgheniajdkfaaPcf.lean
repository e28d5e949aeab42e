/- The walk of the statement TradeCompared. -/
import Derived.Test.YtlpgheniajdkfaaPbf
namespace Go.Proofs.Ytlpgheniajdkfaa
open Go Go.W
set_option linter.unusedVariables false
set_option linter.unusedSimpArgs false
set_option maxRecDepth 20000
attribute [local irreducible] HL HC HQ HB Row Rows2 Blk Facts

theorem insU_len (s : Str) : ∀ l : List Str, (insU s l).length ≤ l.length + 1
  | [] => Nat.le_refl _
  | x :: l => by
    rw [insU]
    split
    · exact Nat.le_refl _
    · split
      · simp
      · have := insU_len s l
        simp only [List.length_cons]; omega
theorem sortU_le : ∀ l : List Str, (sortU l).length ≤ l.length
  | [] => Nat.le_refl _
  | x :: l => by
    have h1 := insU_len x (sortU l)
    have h2 := sortU_le l
    show (insU x (sortU l)).length ≤ _
    rw [List.length_cons]; omega
theorem compare_len (a b : Tr) : (compareT a b).length ≤ a.hs.length + b.hs.length := by
  unfold compareT
  have h1 := List.length_filterMap_le (moveN a b) (sortU (wordsT a ++ wordsT b))
  have h2 := sortU_le (wordsT a ++ wordsT b)
  have h3 : (wordsT a ++ wordsT b).length = a.hs.length + b.hs.length := by simp [wordsT]
  omega
theorem uniq_hd {t : Tr} (hok : TrOK t) {i j : Nat} (hi : i < t.hs.length) (hj : j < t.hs.length) (h : (t.hs.getD i default).1 = (t.hs.getD j default).1) : i = j := by
  have key : ∀ i j, i < j → j < t.hs.length → ¬ (t.hs.getD i default).1 = (t.hs.getD j default).1 := by
    intro i j hij hj e
    refine (hok.h j hj).n ?_
    rw [← e]
    refine List.mem_map.2 ⟨_, ?_, rfl⟩
    rw [getD_at (show i < t.hs.length by omega), List.mem_take_iff_getElem]
    exact ⟨i, by omega, rfl⟩
  rcases Nat.lt_trichotomy i j with h1 | h1 | h1
  · exact absurd h (key i j h1 hj)
  · exact h1
  · exact absurd h.symm (key j i h1 hi)
/-- Whether the word stands for a trade, as its heading tells. -/
theorem word_is {cs : List Cl} {hs : List Hd} (hok : TrOK (trOf cs hs)) {s : Str} {z : Int} (hz : (∃ k : Nat, z = k ∧ k < hs.length ∧ (hs.getD k default).1 = s) ∨ (z = -1 ∧ s ∉ hs.map (·.1))) :
    (namesN (trOf cs hs) s).isSome = (decide (0 ≤ z) && decide (0 ≤ (hs.getD z.toNat default).2.1)) := by
  have hln := hs_len cs hs
  have hg : ∀ k, k < hs.length → (trOf cs hs).hs.getD k default = (hs.getD k default).p := fun k hk => hd_get hk
  rw [Bool.eq_iff_iff, names_some, Bool.and_eq_true, decide_eq_true_eq, decide_eq_true_eq]
  have hp1 : ∀ h : Hd, h.p.1 = h.1 := fun _ => rfl
  have hp2 : ∀ h : Hd, h.p.2.1 = h.2.1 := fun _ => rfl
  rcases hz with ⟨k, rfl, hk, hs1⟩ | ⟨rfl, hn⟩
  · have hck := (hok.h k (by rw [hln]; exact hk)).c
    rw [hg k hk, hp2] at hck
    rw [Int.toNat_natCast]
    constructor
    · rintro ⟨h, hh, h1, h2⟩
      obtain ⟨j, hj, rfl⟩ := List.getElem_of_mem hh
      rw [← getD_at hj] at h1 h2
      rw [hln] at hj
      obtain rfl : j = k := uniq_hd hok (by rw [hln]; exact hj) (by rw [hln]; exact hk) (by rw [h1, hg k hk, hp1, hs1])
      rw [hg j hj, hp2] at h2
      omega
    · rintro ⟨_, h2⟩
      refine ⟨(trOf cs hs).hs.getD k default, getD_mem (by rw [hln]; exact hk), by rw [hg k hk, hp1, hs1], ?_⟩
      rw [hg k hk, hp2]
      omega
  · constructor
    · rintro ⟨h, hh, h1, _⟩
      refine absurd ?_ hn
      obtain ⟨j, hj, rfl⟩ := List.getElem_of_mem hh
      rw [← getD_at hj] at h1
      rw [hln] at hj
      rw [hg j hj, hp1] at h1
      rw [← h1]
      exact List.mem_map_of_mem (getD_mem hj)
    · rintro ⟨h, _⟩; omega
def flE (e : Int) : Int := if e = 1 then 2 else if e = 2 then 1 else e
theorem flip_fl (m : Str × Int) : flipK m = (m.1, flE m.2) := rfl
theorem names_mv {a b : Tr} {m : Str × Int} (h : MoveOK a b m) : (namesN a m.1).isSome = decide (¬ m.2 = 2) ∧ (namesN b m.1).isSome = decide (¬ m.2 = 1) := by
  rcases h.k with e | e | e
  · have := h.k1 e; rw [this.1, this.2, e]; decide
  · have := h.k2 e; rw [this.1, this.2, e]; decide
  · have := h.k3 e; rw [this.1, this.2, e]; decide
theorem asc_no {l : List (Str × Int)} (h : l.Pairwise (fun x y => x.1 < y.1)) {k : Nat} (hk : k < l.length) (h0 : 0 < k) : (Op.bytesLess (l.getD k default).1 (l.getD (k - 1) default).1 || (l.getD k default).1 == (l.getD (k - 1) default).1) = false := by
  have h1 := List.pairwise_iff_getElem.1 h (k - 1) k (by omega) hk (by omega)
  rw [← getD_at hk, ← getD_at (show k - 1 < l.length by omega)] at h1
  rw [str_lt_dec, Bool.or_eq_false_iff]
  refine ⟨decide_eq_false (fun e => List.lt_asymm h1 e), ?_⟩
  rw [beq_eq_false_iff_ne]
  intro e
  rw [e] at h1
  exact List.lt_irrefl _ h1
theorem compare_is {A B A2 B2 : Option Addr} {ca cb ca2 cb2 : Nat} (cs : List Cl) (hs : List Hd) (cs2 : List Cl) (hs2 : List Hd) (hca : cs.length ≤ ca) (hcb : hs.length ≤ cb) (ha : ∀ h ∈ hs, h.2.2.2.l.length ≤ 1000000) (hca2 : cs2.length ≤ ca2) (hcb2 : hs2.length ≤ cb2) (ha2 : ∀ h ∈ hs2, h.2.2.2.l.length ≤ 1000000) (h0 : checkT (trOf cs hs) = 0) (h02 : checkT (trOf cs2 hs2) = 0) {l : List Cl} (hl : compareT (trOf cs hs) (trOf cs2 hs2) = l) :
    Meets Try.prog F.trade_Compare [.agg #[.slice A cs.length ca, .slice B hs.length cb], .agg #[.slice A2 cs2.length ca2, .slice B2 hs2.length cb2]] { LI := [Row A (rows cs), RowsF B hs Hd.row, Row A2 (rows cs2), RowsF B2 hs2 Hd.row], inv := fun x : OutC => l.length ≤ x.2, val := fun x => .tuple #[.slice x.1 l.length x.2, int 0], LO := fun x => [Row x.1 (rows l)] } := by
  subst hl
  have h := trade_Compare_meets (A := A) (B := B) (A2 := A2) (B2 := B2) (ca := ca) (cb := cb) (ca2 := ca2) (cb2 := cb2) cs hs cs2 hs2 hca hcb ha hca2 hcb2 ha2
  rw [show compareE (trOf cs hs) (trOf cs2 hs2) = (compareT (trOf cs hs) (trOf cs2 hs2), 0) by unfold compareE; rw [if_neg (not_not_intro h0), if_neg (not_not_intro h02)]] at h
  exact h
theorem flip_get {l : List Cl} {k : Nat} (hk : k < l.length) : (l.map flipK).getD k default = flipK (l.getD k default) := by
  rw [getD_at (by rw [List.length_map]; exact hk), getD_at hk, List.getElem_map]

set_option maxHeartbeats 8000000 in
theorem law04_TradeCompared_meets {A : Option Addr} {c0 : Nat} (nums : List Int) (hn : nums.length ≤ 9223372036854775807) : Meets Try.prog F.law04_TradeCompared [.slice A nums.length c0] { LI := [Row A (rows nums)], val := fun _ : Unit => .bool true } := by
 refine meets_intro F.law04_TradeCompared_f rfl (Nat.le_of_ble_eq_true rfl) fun w0 => ?_
 refine hc_seq ?_
 refine hc_region ?_
 refine r_assign rfl rfl ?_
 refine hl_nil ?_
 refine then_n ?_
 refine hc_seq ?_
 refine hc_region ?_
 refine r_move rfl rfl ?_
 refine hl_call F.kit_NewDice_cb rfl rfl (kit_NewDice_meets nums) (List.Perm.refl _) ⟨(by repeat constructor), trivial⟩ fun g _ => ?_
 refine r_assign rfl rfl ?_
 refine hl_nil ?_
 refine then_n ?_
 refine hc_seq ?_
 refine hc_region ?_
 refine r_move rfl rfl ?_
 refine hl_call F.kit_TradesOf_cb rfl rfl (kit_TradesOf_meets 4 6 hn (dok0 nums) (by decide) (by decide)) (List.Perm.refl _) ⟨(by repeat constructor), trivial⟩ fun x hx => ?_
 obtain ⟨sd, cs, hs, ⟨CA, ca⟩, ⟨HB, cb⟩⟩ := x
 obtain ⟨hsd, hT⟩ := hx
 have hca : cs.length ≤ ca := hT.ca
 have hcb : hs.length ≤ cb := hT.cb
 have ha : ∀ h ∈ hs, h.2.2.2.l.length ≤ 1000000 := hT.ha
 have hT0 : checkT (trOf cs hs) = 0 := hT.ok
 have hok : TrOK (trOf cs hs) := tr_ok hT0
 clear hT
 have h6 : cs.length ≤ 6 := hok.c6
 have h6h := hok.h6
 have hln := hs_len cs hs
 rw [hln] at h6h
 have hcl : ∀ i, i < cs.length → ClsOK cs i := hok.c
 refine r_move rfl rfl ?_
 refine hl_call F.kit_TradesOf_cb rfl rfl (kit_TradesOf_meets 4 6 hn hsd (by decide) (by decide)) (List.Perm.refl _) ⟨(by repeat constructor), trivial⟩ fun x hx => ?_
 obtain ⟨sd2, cs2, hs2, ⟨CA2, ca2⟩, ⟨HB2, cb2⟩⟩ := x
 obtain ⟨hsd2, hT⟩ := hx
 have hca2 : cs2.length ≤ ca2 := hT.ca
 have hcb2 : hs2.length ≤ cb2 := hT.cb
 have ha2 : ∀ h ∈ hs2, h.2.2.2.l.length ≤ 1000000 := hT.ha
 have hT02 : checkT (trOf cs2 hs2) = 0 := hT.ok
 have hok2 : TrOK (trOf cs2 hs2) := tr_ok hT02
 clear hT
 have h62 : cs2.length ≤ 6 := hok2.c6
 have h6h2 := hok2.h6
 have hln2 := hs_len cs2 hs2
 rw [hln2] at h6h2
 have hcl2 : ∀ i, i < cs2.length → ClsOK cs2 i := hok2.c
 refine r_alloc rfl (fun _ => T.al_api_Trades _) fun gT => ?_
 refine r_alloc rfl (fun _ => T.al_api_Trades _) fun gU => ?_
 refine r_storeS (cs := #[.slice CA cs.length ca, .slice HB hs.length cb]) rfl rfl (.swap _ _ _) T.sz_api_Trades (by rfl) (by rfl) ?_
 refine r_storeS (cs := #[.slice CA2 cs2.length ca2, .slice HB2 hs2.length cb2]) rfl rfl (.swap _ _ _) T.sz_api_Trades (by rfl) (by rfl) ?_
 refine hl_nil ?_
 refine then_n ?_
 refine hc_seq ?_
 refine hc_letgoB ?_
 refine hc_letgoB ?_
 refine hc_outerF (ps := hs) (A := HB) (f := Hd.row) (by repeat constructor) ?_
 refine hc_outerF (ps := hs2) (A := HB2) (f := Hd.row) (by repeat constructor) ?_
 have hlen := compare_len (trOf cs hs) (trOf cs2 hs2)
 rw [hln, hln2] at hlen
 have hasc := compare_asc (trOf cs hs) (trOf cs2 hs2)
 have hmv := fun m hm => compare_ok (a := (trOf cs hs)) (b := (trOf cs2 hs2)) (m := m) hm
 have hfl := compare_flip (trOf cs hs) (trOf cs2 hs2)
 generalize hl : compareT (trOf cs hs) (trOf cs2 hs2) = l at hlen hasc hmv hfl
 refine hc_region ?_
 first | refine r_loadA rfl T.row_api_Trades T.sz_api_Trades rfl (by repeat constructor) (by rfl) ?_ | refine r_loadB rfl T.row_api_Trades T.sz_api_Trades rfl (by repeat constructor) (by rfl) ?_ | refine r_loadS rfl T.row_api_Trades T.sz_api_Trades rfl rfl (cells_row (by repeat constructor) (rows_all (by omega))) ?_
 first | refine r_loadA rfl T.row_api_Trades T.sz_api_Trades rfl (by repeat constructor) (by rfl) ?_ | refine r_loadB rfl T.row_api_Trades T.sz_api_Trades rfl (by repeat constructor) (by rfl) ?_ | refine r_loadS rfl T.row_api_Trades T.sz_api_Trades rfl rfl (cells_row (by repeat constructor) (rows_all (by omega))) ?_
 refine hl_call F.trade_Compare_cb rfl rfl (compare_is cs hs cs hs hca hcb ha hca hcb ha hT0 hT0 (compare_self (trOf cs hs))) (List.Perm.refl _) ⟨(by repeat constructor), (by repeat constructor), (by repeat constructor), (by repeat constructor), trivial⟩ fun y1 hy1 => ?_
 refine r_move rfl rfl ?_
 refine r_extract rfl rfl rfl ?_
 refine r_extract rfl rfl rfl ?_
 refine r_assign rfl rfl ?_
 refine r_assign rfl rfl ?_
 refine hl_nil ?_
 refine then_n ?_
 refine hc_seq ?_
 refine hc_region ?_
 first | refine r_loadA rfl T.row_api_Trades T.sz_api_Trades rfl (by repeat constructor) (by rfl) ?_ | refine r_loadB rfl T.row_api_Trades T.sz_api_Trades rfl (by repeat constructor) (by rfl) ?_ | refine r_loadS rfl T.row_api_Trades T.sz_api_Trades rfl rfl (cells_row (by repeat constructor) (rows_all (by omega))) ?_
 first | refine r_loadA rfl T.row_api_Trades T.sz_api_Trades rfl (by repeat constructor) (by rfl) ?_ | refine r_loadB rfl T.row_api_Trades T.sz_api_Trades rfl (by repeat constructor) (by rfl) ?_ | refine r_loadS rfl T.row_api_Trades T.sz_api_Trades rfl rfl (cells_row (by repeat constructor) (rows_all (by omega))) ?_
 refine hl_call F.trade_Compare_cb rfl rfl (compare_is cs hs cs2 hs2 hca hcb ha hca2 hcb2 ha2 hT0 hT02 hl) (List.Perm.refl _) ⟨(by repeat constructor), (by repeat constructor), (by repeat constructor), (by repeat constructor), trivial⟩ fun y2 hy2 => ?_
 refine r_move rfl rfl ?_
 refine r_extract rfl rfl rfl ?_
 refine r_extract rfl rfl rfl ?_
 refine r_assign rfl rfl ?_
 refine r_assign rfl rfl ?_
 refine hl_nil ?_
 refine then_n ?_
 refine hc_seq ?_
 refine hc_region ?_
 first | refine r_loadA rfl T.row_api_Trades T.sz_api_Trades rfl (by repeat constructor) (by rfl) ?_ | refine r_loadB rfl T.row_api_Trades T.sz_api_Trades rfl (by repeat constructor) (by rfl) ?_ | refine r_loadS rfl T.row_api_Trades T.sz_api_Trades rfl rfl (cells_row (by repeat constructor) (rows_all (by omega))) ?_
 first | refine r_loadA rfl T.row_api_Trades T.sz_api_Trades rfl (by repeat constructor) (by rfl) ?_ | refine r_loadB rfl T.row_api_Trades T.sz_api_Trades rfl (by repeat constructor) (by rfl) ?_ | refine r_loadS rfl T.row_api_Trades T.sz_api_Trades rfl rfl (cells_row (by repeat constructor) (rows_all (by omega))) ?_
 refine hl_call F.trade_Compare_cb rfl rfl (compare_is cs2 hs2 cs hs hca2 hcb2 ha2 hca hcb ha hT02 hT0 hfl) (List.Perm.refl _) ⟨(by repeat constructor), (by repeat constructor), (by repeat constructor), (by repeat constructor), trivial⟩ fun y3 hy3 => ?_
 refine r_move rfl rfl ?_
 refine r_extract rfl rfl rfl ?_
 refine r_extract rfl rfl rfl ?_
 refine r_assign rfl rfl ?_
 refine r_assign rfl rfl ?_
 refine hl_nil ?_
 refine then_n ?_
 refine hc_seq ?_
 refine hc_seq ?_
 refine hc_region ?_
 refine r_move rfl rfl ?_
 refine r_neq rfl rfl rfl ?_
 refine r_move rfl rfl ?_
 refine g_split rfl rfl ?_ ?_
 ·intro hg1; have hg1' := hg1; try simp at hg1'
  refine g_yes rfl rfl hg1 ?_
  refine r_move rfl rfl ?_
  refine g_yes rfl rfl hg1 ?_
  refine r_neq rfl rfl rfl ?_
  refine p_f rfl rfl (bf1 hg1) rfl ?_
  refine r_move rfl rfl ?_
  refine g_split rfl rfl ?_ ?_
  ·intro hg2; have hg2' := hg2; try simp at hg2'
   refine g_yes rfl rfl hg2 ?_
   refine r_move rfl rfl ?_
   refine g_yes rfl rfl hg2 ?_
   refine r_neq rfl rfl rfl ?_
   refine p_f rfl rfl (bf1 hg2) rfl ?_
   refine r_move rfl rfl ?_
   refine g_split rfl rfl ?_ ?_
   ·intro hg3; have hg3' := hg3; try simp at hg3'
    refine g_yes rfl rfl hg3 ?_
    refine r_move rfl rfl ?_
    refine g_yes rfl rfl hg3 ?_
    refine r_len_sl rfl T.u_L_api_Move rfl ?_
    refine g_yes rfl rfl hg3 ?_
    refine r_gtr rfl rfl rfl ?_
    refine p_f rfl rfl (bf1 hg3) rfl ?_
    refine r_move rfl rfl ?_
    refine g_split rfl rfl ?_ ?_
    ·intro hg4; have hg4' := hg4; try simp at hg4'
     refine g_yes rfl rfl hg4 ?_
     refine r_move rfl rfl ?_
     refine g_yes rfl rfl hg4 ?_
     refine r_len_sl rfl T.u_L_api_Move rfl ?_
     refine g_yes rfl rfl hg4 ?_
     refine r_move rfl rfl ?_
     refine g_yes rfl rfl hg4 ?_
     refine r_len_sl rfl T.u_L_api_Move rfl ?_
     refine g_yes rfl rfl hg4 ?_
     refine r_neq rfl rfl rfl ?_
     refine p_f rfl rfl (bf1 hg4) rfl ?_
     refine hl_nil ?_
     refine then_n ?_
     first | refine c_dec rfl (fun hb1 => ?_) (fun hb1 => ?_) | refine hc_cond rfl (fun hb1 => ?_) (fun hb1 => ?_)
     ·exact absurd (by rw [List.length_map]) hb1
     ·have hb1' := hb1; try simp at hb1'
      refine hc_skip ?_
      refine then_n ?_
      refine hc_seq ?_
      refine hc_seq ?_
      refine hc_region ?_
      refine r_assign rfl rfl ?_
      refine hl_nil ?_
      refine then_n ?_
      refine hc_block ?_
      refine hc_loop (β := Nat) ⟨fun k => k ≤ l.length, fun k => [(4, .pointer (some ⟨gT, 0, none⟩)), (5, .pointer (some ⟨gU, 0, none⟩)), (8, .slice y2.1 l.length y2.2), (10, .slice y3.1 (l.map flipK).length y3.2), (12, int k)], fun _ => [], fun _ => [Blk gT (.cells #[.slice CA cs.length ca, .slice HB hs.length cb] T.api_Trades (0, 0)), Blk gU (.cells #[.slice CA2 cs2.length ca2, .slice HB2 hs2.length cb2] T.api_Trades (0, 0)), Row CA (rows cs), RowsF HB hs Hd.row, Row CA2 (rows cs2), RowsF HB2 hs2 Hd.row, Row HB (rows hs), Row HB2 (rows hs2), Row y2.1 (rows l), Row y3.1 (rows (l.map flipK))]⟩ (fun k => l.length - k) 0 (Nat.zero_le _) ⟨rfl, rfl, rfl, rfl, rfl, trivial⟩ (List.nil_sublist _) ⟨(by repeat constructor), (by repeat constructor), (by repeat constructor), (by repeat constructor), (by repeat constructor), (by repeat constructor), (by repeat constructor), (by repeat constructor), (by repeat constructor), (by repeat constructor), trivial⟩ fun k hk => ?_
      simp only at hk
      refine hc_seq ?_
      refine hc_seq ?_
      refine hc_region ?_
      refine r_move rfl rfl ?_
      refine r_move rfl rfl ?_
      refine r_len_sl rfl T.u_L_api_Move rfl ?_
      refine r_lss rfl rfl rfl ?_
      refine hl_nil ?_
      refine then_n ?_
      first | refine c_dec rfl (fun hb2 => ?_) (fun hb2 => ?_) | refine hc_cond rfl (fun hb2 => ?_) (fun hb2 => ?_)
      ·have hb2' := hb2; try simp at hb2'
       have hk2 : k < l.length := by omega
       have hkf : k < (l.map flipK).length := by rw [List.length_map]; exact hk2
       have hmk := hmv _ (getD_mem hk2)
       have hfg := flip_get hk2
       refine hc_skip ?_
       refine then_n ?_
       refine hc_seq ?_
       refine hc_block ?_
       refine hc_seq ?_
       refine hc_region ?_
       refine r_move rfl rfl ?_
       refine r_move rfl rfl ?_
       refine r_elem (α := Cl) l k rfl T.u_L_api_Move T.sz_api_Move rfl rfl rfl (by repeat constructor) rfl hk2 (by decide) ?_
       refine r_loadS (cs := [str (l.getD k default).1, int (l.getD k default).2]) rfl T.row_api_Move T.sz_api_Move rfl rfl (cells_row (by repeat constructor) (rows_all hk2)) ?_
       refine r_alloc rfl (fun _ => T.al_api_Move _) fun g13 => ?_
       refine r_storeS (cs := #[str (l.getD k default).1, int (l.getD k default).2]) rfl rfl (.refl _) T.sz_api_Move (by rfl) (by rfl) ?_
       refine hl_nil ?_
       refine then_n ?_
       refine hc_cut ⟨fun _ : Unit => True, fun _ => [(4, .pointer (some ⟨gT, 0, none⟩)), (5, .pointer (some ⟨gU, 0, none⟩)), (8, .slice y2.1 l.length y2.2), (10, .slice y3.1 (l.map flipK).length y3.2), (12, int k), (13, .pointer (some ⟨g13, 0, none⟩))], fun _ => [(g13, Obj.cells #[str (l.getD k default).1, int (flE (l.getD k default).2)] T.api_Move (0, 0))], fun _ => [Blk gT (.cells #[.slice CA cs.length ca, .slice HB hs.length cb] T.api_Trades (0, 0)), Blk gU (.cells #[.slice CA2 cs2.length ca2, .slice HB2 hs2.length cb2] T.api_Trades (0, 0)), Row CA (rows cs), RowsF HB hs Hd.row, Row CA2 (rows cs2), RowsF HB2 hs2 Hd.row, Row HB (rows hs), Row HB2 (rows hs2), Row y2.1 (rows l), Row y3.1 (rows (l.map flipK))]⟩ ?_ ?_
       ·skip
        refine hc_seq ?_
        refine hc_region ?_
        first | refine r_fieldAddr ⟨_, 1, none⟩ rfl rfl T.fa_api_Move_1 rfl ?_ | refine r_fieldAddr _ rfl rfl T.fa_api_Move_1 rfl ?_
        first | refine r_load rfl T.cell_int rfl (cell_own (by repeat constructor) rfl) ?_ | refine r_load rfl T.cell_int rfl (cell_blk (by repeat constructor) rfl) ?_ | refine r_load rfl T.cell_int rfl (cell_row (by repeat constructor) (rows_get0 (by omega) rfl)) ?_ | refine r_load rfl T.cell_int rfl (cell_row_f (by repeat constructor) (rows_get (by omega) rfl)) ?_ | refine r_load rfl T.cell_int rfl (cell_rowg (by repeat constructor) rfl) ?_
        refine hl_nil ?_
        refine then_n ?_
        refine hc_block ?_
        refine hc_seq ?_
        refine hc_region ?_
        refine r_eql rfl rfl rfl ?_
        refine r_assign rfl rfl ?_
        refine hl_nil ?_
        refine then_n ?_
        first | refine c_dec rfl (fun hb3 => ?_) (fun hb3 => ?_) | refine hc_cond rfl (fun hb3 => ?_) (fun hb3 => ?_)
        ·have hb3' := hb3; try simp at hb3'
         refine hc_region ?_
         first | refine r_fieldAddr ⟨_, 1, none⟩ rfl rfl T.fa_api_Move_1 rfl ?_ | refine r_fieldAddr _ rfl rfl T.fa_api_Move_1 rfl ?_
         refine r_store rfl rfl (.refl _) T.sz_int (by rfl) (by rfl) ?_
         refine hl_nil ?_
         refine inb_n ?_
         exact cut_n _ () trivial ⟨rfl, rfl, rfl, rfl, rfl, rfl, trivial⟩ (show List.Sublist [(g13, Obj.cells #[str (l.getD k default).1, int (flE (l.getD k default).2)] T.api_Move (0, 0))] _ from by rw [show (flE (l.getD k default).2) = _ from if_pos hb3]; exact List.Sublist.refl _) ⟨(by repeat constructor), (by repeat constructor), (by repeat constructor), (by repeat constructor), (by repeat constructor), (by repeat constructor), (by repeat constructor), (by repeat constructor), (by repeat constructor), (by repeat constructor), trivial⟩
        ·have hb3' := hb3; try simp at hb3'
         refine hc_seq ?_
         refine hc_region ?_
         refine r_eql rfl rfl rfl ?_
         refine r_assign rfl rfl ?_
         refine hl_nil ?_
         refine then_n ?_
         first | refine c_dec rfl (fun hb4 => ?_) (fun hb4 => ?_) | refine hc_cond rfl (fun hb4 => ?_) (fun hb4 => ?_)
         ·have hb4' := hb4; try simp at hb4'
          refine hc_region ?_
          first | refine r_fieldAddr ⟨_, 1, none⟩ rfl rfl T.fa_api_Move_1 rfl ?_ | refine r_fieldAddr _ rfl rfl T.fa_api_Move_1 rfl ?_
          refine r_store rfl rfl (.refl _) T.sz_int (by rfl) (by rfl) ?_
          refine hl_nil ?_
          refine inb_n ?_
          exact cut_n _ () trivial ⟨rfl, rfl, rfl, rfl, rfl, rfl, trivial⟩ (show List.Sublist [(g13, Obj.cells #[str (l.getD k default).1, int (flE (l.getD k default).2)] T.api_Move (0, 0))] _ from by rw [show (flE (l.getD k default).2) = _ from (if_neg hb3).trans (if_pos hb4)]; exact List.Sublist.refl _) ⟨(by repeat constructor), (by repeat constructor), (by repeat constructor), (by repeat constructor), (by repeat constructor), (by repeat constructor), (by repeat constructor), (by repeat constructor), (by repeat constructor), (by repeat constructor), trivial⟩
         ·have hb4' := hb4; try simp at hb4'
          refine hc_skip ?_
          refine inb_n ?_
          exact cut_n _ () trivial ⟨rfl, rfl, rfl, rfl, rfl, rfl, trivial⟩ (show List.Sublist [(g13, Obj.cells #[str (l.getD k default).1, int (flE (l.getD k default).2)] T.api_Move (0, 0))] _ from by rw [show (flE (l.getD k default).2) = _ from (if_neg hb3).trans (if_neg hb4)]; exact List.Sublist.refl _) ⟨(by repeat constructor), (by repeat constructor), (by repeat constructor), (by repeat constructor), (by repeat constructor), (by repeat constructor), (by repeat constructor), (by repeat constructor), (by repeat constructor), (by repeat constructor), trivial⟩
       ·refine fun _ _ => ?_
        refine hc_seq ?_
        refine hc_letgoB ?_
        refine hc_draw 7 mixed (by decide) (by decide) rfl rfl ?_
        apply hb_ex _ rfl rfl rfl
        ·intro w1
         first | refine r_loadA rfl T.row_api_Trades T.sz_api_Trades rfl (by repeat constructor) (by rfl) ?_ | refine r_loadB rfl T.row_api_Trades T.sz_api_Trades rfl (by repeat constructor) (by rfl) ?_ | refine r_loadS rfl T.row_api_Trades T.sz_api_Trades rfl rfl (cells_row (by repeat constructor) (rows_all (by omega))) ?_
         refine hl_nil ?_
         exact qe_done rfl
        apply hb_ex _ rfl rfl rfl
        ·intro w1
         first | refine r_fieldAddr ⟨_, 0, none⟩ rfl rfl T.fa_api_Move_0 rfl ?_ | refine r_fieldAddr _ rfl rfl T.fa_api_Move_0 rfl ?_
         refine hl_nil ?_
         exact qe_done rfl
        apply hb_ex _ rfl rfl rfl
        ·intro w1
         first | refine r_load rfl T.cell_string rfl (cell_blk (by repeat constructor) rfl) ?_ | refine r_load rfl T.cell_string rfl (cell_own (by repeat constructor) rfl) ?_ | refine r_load rfl T.cell_string rfl (cell_row (by repeat constructor) (rows_get0 (by omega) rfl)) ?_ | refine r_load rfl T.cell_string rfl (cell_row_f (by repeat constructor) (rows_get (by omega) rfl)) ?_ | refine r_load rfl T.cell_string rfl (cell_rowg (by repeat constructor) rfl) ?_
         refine hl_nil ?_
         exact qe_done rfl
        refine hb_vs ⟨Int, fun z => (∃ q : Nat, z = q ∧ q < hs.length ∧ (hs.getD q default).1 = (l.getD k default).1) ∨ (z = -1 ∧ (l.getD k default).1 ∉ hs.map (·.1)), fun z => int z, fun _ => []⟩ rfl rfl rfl ?_ ?_
        ·intro w1
         refine hl_call F.law04_word_cb rfl rfl (law04_word_meets (A := CA) (B := HB) (ca := ca) (cb := cb) cs hs (l.getD k default).1 (by omega)) (List.Perm.refl _) ⟨(by repeat constructor), trivial⟩ fun z hz => ?_
         refine hl_nil ?_
         exact qv_done z hz rfl trivial
        apply hb_ex _ rfl rfl rfl
        ·intro w1
         first | refine r_loadA rfl T.row_api_Trades T.sz_api_Trades rfl (by repeat constructor) (by rfl) ?_ | refine r_loadB rfl T.row_api_Trades T.sz_api_Trades rfl (by repeat constructor) (by rfl) ?_ | refine r_loadS rfl T.row_api_Trades T.sz_api_Trades rfl rfl (cells_row (by repeat constructor) (rows_all (by omega))) ?_
         refine hl_nil ?_
         exact qe_done rfl
        apply hb_ex _ rfl rfl rfl
        ·intro w1
         first | refine r_fieldAddr ⟨_, 0, none⟩ rfl rfl T.fa_api_Move_0 rfl ?_ | refine r_fieldAddr _ rfl rfl T.fa_api_Move_0 rfl ?_
         refine hl_nil ?_
         exact qe_done rfl
        apply hb_ex _ rfl rfl rfl
        ·intro w1
         first | refine r_load rfl T.cell_string rfl (cell_blk (by repeat constructor) rfl) ?_ | refine r_load rfl T.cell_string rfl (cell_own (by repeat constructor) rfl) ?_ | refine r_load rfl T.cell_string rfl (cell_row (by repeat constructor) (rows_get0 (by omega) rfl)) ?_ | refine r_load rfl T.cell_string rfl (cell_row_f (by repeat constructor) (rows_get (by omega) rfl)) ?_ | refine r_load rfl T.cell_string rfl (cell_rowg (by repeat constructor) rfl) ?_
         refine hl_nil ?_
         exact qe_done rfl
        refine hb_nil ⟨rfl, ?_⟩
        intro z1 hz1
        refine hl_call F.law04_word_cb rfl rfl (law04_word_meets (A := CA2) (B := HB2) (ca := ca2) (cb := cb2) cs2 hs2 (l.getD k default).1 (by omega)) (List.Perm.refl _) ⟨(by repeat constructor), trivial⟩ fun z2 hz2 => ?_
        refine r_assign rfl rfl ?_
        refine r_assign rfl rfl ?_
        refine hl_nil ?_
        refine then_n ?_
        refine hc_cut ⟨fun _ : Unit => True, fun _ => [(4, .pointer (some ⟨gT, 0, none⟩)), (5, .pointer (some ⟨gU, 0, none⟩)), (8, .slice y2.1 l.length y2.2), (10, .slice y3.1 (l.map flipK).length y3.2), (12, int k), (13, .pointer (some ⟨g13, 0, none⟩)), (16, .bool (decide (¬ (l.getD k default).2 = 2))), (17, .bool (decide (¬ (l.getD k default).2 = 1)))], fun _ => [], fun _ => [Blk gT (.cells #[.slice CA cs.length ca, .slice HB hs.length cb] T.api_Trades (0, 0)), Blk gU (.cells #[.slice CA2 cs2.length ca2, .slice HB2 hs2.length cb2] T.api_Trades (0, 0)), Row CA (rows cs), RowsF HB hs Hd.row, Row CA2 (rows cs2), RowsF HB2 hs2 Hd.row, Row HB (rows hs), Row HB2 (rows hs2), Row y2.1 (rows l), Row y3.1 (rows (l.map flipK)), Blk g13 (.cells #[str (l.getD k default).1, int (flE (l.getD k default).2)] T.api_Move (0, 0))]⟩ ?_ ?_
        ·skip
         have hp1 := word_is hok hz1
         have hp2 := word_is hok2 hz2
         have hnm := names_mv hmk
         rw [hp1, hp2] at hnm
         refine hc_draw 23 mixed (by decide) (by decide) rfl rfl ?_
         apply hb_ex _ rfl rfl rfl
         ·intro w1
          refine r_move rfl rfl ?_
          refine hl_nil ?_
          exact qe_done rfl
         apply hb_ex _ rfl rfl rfl
         ·intro w1
          refine r_geq rfl rfl rfl ?_
          refine hl_nil ?_
          exact qe_done rfl
         apply hb_ex _ rfl rfl rfl
         ·intro w1
          refine r_move rfl rfl ?_
          refine hl_nil ?_
          exact qe_done rfl
         refine hb_split (t := 92) (want := true) rfl ?_ ?_
         ·intro hg5; have hg5' := hg5; try simp at hg5'
          have hy1 : 0 ≤ z1 := of_decide_eq_true (eq_of_beq hg5)
          obtain ⟨k1, rfl, hk1l, hk1s⟩ : ∃ q : Nat, z1 = q ∧ q < hs.length ∧ (hs.getD q default).1 = (l.getD k default).1 := by
            rcases hz1 with h | h
            · exact h
            · omega
          rw [Int.toNat_natCast, decide_eq_true hy1, Bool.true_and] at hnm
          apply hb_ex _ rfl rfl rfl
          ·intro w1
           refine g_yes rfl rfl hg5 ?_
           first | refine r_fieldAddr ⟨_, 1, none⟩ rfl rfl T.fa_api_Trades_1 rfl ?_ | refine r_fieldAddr _ rfl rfl T.fa_api_Trades_1 rfl ?_
           refine hl_nil ?_
           exact qe_done rfl
          apply hb_ex _ rfl rfl rfl
          ·intro w1
           refine g_yes rfl rfl hg5 ?_
           first | refine r_load rfl T.cell_L_api_Head rfl (cell_blk (by repeat constructor) rfl) ?_ | refine r_load rfl T.cell_L_api_Head rfl (cell_own (by repeat constructor) rfl) ?_ | refine r_load rfl T.cell_L_api_Head rfl (cell_row (by repeat constructor) (rows_get0 (by omega) rfl)) ?_ | refine r_load rfl T.cell_L_api_Head rfl (cell_row_f (by repeat constructor) (rows_get (by omega) rfl)) ?_ | refine r_load rfl T.cell_L_api_Head rfl (cell_rowg (by repeat constructor) rfl) ?_
           refine hl_nil ?_
           exact qe_done rfl
          apply hb_ex _ rfl rfl rfl
          ·intro w1
           refine g_yes rfl rfl hg5 ?_
           refine r_move rfl rfl ?_
           refine hl_nil ?_
           exact qe_done rfl
          apply hb_ex _ rfl rfl rfl
          ·intro w1
           refine g_yes rfl rfl hg5 ?_
           refine r_elem (α := Hd) hs k1 rfl T.u_L_api_Head T.sz_api_Head rfl rfl rfl (by repeat constructor) rfl hk1l (by decide) ?_
           refine hl_nil ?_
           exact qe_done rfl
          apply hb_ex _ rfl rfl rfl
          ·intro w1
           refine g_yes rfl rfl hg5 ?_
           first | refine r_fieldAddr ⟨_, 1, none⟩ rfl rfl T.fa_api_Head_1 rfl ?_ | refine r_fieldAddr _ rfl rfl T.fa_api_Head_1 rfl ?_
           refine hl_nil ?_
           exact qe_done rfl
          apply hb_ex _ rfl rfl rfl
          ·intro w1
           refine g_yes rfl rfl hg5 ?_
           refine r_load (v := int (hs.getD k1 default).2.1) rfl T.cell_int rfl (cell_row_f (by repeat constructor) (rows_get hk1l rfl)) ?_
           refine hl_nil ?_
           exact qe_done rfl
          apply hb_ex _ rfl rfl rfl
          ·intro w1
           refine g_yes rfl rfl hg5 ?_
           refine r_geq rfl rfl rfl ?_
           refine hl_nil ?_
           exact qe_done rfl
          apply hb_ex _ rfl rfl rfl
          ·intro w1
           refine p_t rfl rfl (bt1 hg5) rfl ?_
           refine hl_nil ?_
           exact qe_done rfl
          apply hb_ex _ rfl rfl rfl
          ·intro w1
           refine r_move rfl rfl ?_
           refine hl_nil ?_
           exact qe_done rfl
          apply hb_ex _ rfl rfl rfl
          ·intro w1
           refine r_geq rfl rfl rfl ?_
           refine hl_nil ?_
           exact qe_done rfl
          apply hb_ex _ rfl rfl rfl
          ·intro w1
           refine r_move rfl rfl ?_
           refine hl_nil ?_
           exact qe_done rfl
          refine hb_split (t := 103) (want := true) rfl ?_ ?_
          ·intro hg6; have hg6' := hg6; try simp at hg6'
           have hy2 : 0 ≤ z2 := of_decide_eq_true (eq_of_beq hg6)
           obtain ⟨k2, rfl, hk2l, hk2s⟩ : ∃ q : Nat, z2 = q ∧ q < hs2.length ∧ (hs2.getD q default).1 = (l.getD k default).1 := by
             rcases hz2 with h | h
             · exact h
             · omega
           rw [Int.toNat_natCast, decide_eq_true hy2, Bool.true_and] at hnm
           apply hb_ex _ rfl rfl rfl
           ·intro w1
            refine g_yes rfl rfl hg6 ?_
            first | refine r_fieldAddr ⟨_, 1, none⟩ rfl rfl T.fa_api_Trades_1 rfl ?_ | refine r_fieldAddr _ rfl rfl T.fa_api_Trades_1 rfl ?_
            refine hl_nil ?_
            exact qe_done rfl
           apply hb_ex _ rfl rfl rfl
           ·intro w1
            refine g_yes rfl rfl hg6 ?_
            first | refine r_load rfl T.cell_L_api_Head rfl (cell_blk (by repeat constructor) rfl) ?_ | refine r_load rfl T.cell_L_api_Head rfl (cell_own (by repeat constructor) rfl) ?_ | refine r_load rfl T.cell_L_api_Head rfl (cell_row (by repeat constructor) (rows_get0 (by omega) rfl)) ?_ | refine r_load rfl T.cell_L_api_Head rfl (cell_row_f (by repeat constructor) (rows_get (by omega) rfl)) ?_ | refine r_load rfl T.cell_L_api_Head rfl (cell_rowg (by repeat constructor) rfl) ?_
            refine hl_nil ?_
            exact qe_done rfl
           apply hb_ex _ rfl rfl rfl
           ·intro w1
            refine g_yes rfl rfl hg6 ?_
            refine r_move rfl rfl ?_
            refine hl_nil ?_
            exact qe_done rfl
           apply hb_ex _ rfl rfl rfl
           ·intro w1
            refine g_yes rfl rfl hg6 ?_
            refine r_elem (α := Hd) hs2 k2 rfl T.u_L_api_Head T.sz_api_Head rfl rfl rfl (by repeat constructor) rfl hk2l (by decide) ?_
            refine hl_nil ?_
            exact qe_done rfl
           apply hb_ex _ rfl rfl rfl
           ·intro w1
            refine g_yes rfl rfl hg6 ?_
            first | refine r_fieldAddr ⟨_, 1, none⟩ rfl rfl T.fa_api_Head_1 rfl ?_ | refine r_fieldAddr _ rfl rfl T.fa_api_Head_1 rfl ?_
            refine hl_nil ?_
            exact qe_done rfl
           apply hb_ex _ rfl rfl rfl
           ·intro w1
            refine g_yes rfl rfl hg6 ?_
            refine r_load (v := int (hs2.getD k2 default).2.1) rfl T.cell_int rfl (cell_row_f (by repeat constructor) (rows_get hk2l rfl)) ?_
            refine hl_nil ?_
            exact qe_done rfl
           apply hb_ex _ rfl rfl rfl
           ·intro w1
            refine g_yes rfl rfl hg6 ?_
            refine r_geq rfl rfl rfl ?_
            refine hl_nil ?_
            exact qe_done rfl
           apply hb_ex _ rfl rfl rfl
           ·intro w1
            refine p_t rfl rfl (bt1 hg6) rfl ?_
            refine hl_nil ?_
            exact qe_done rfl
           apply hb_ex _ rfl rfl rfl
           ·intro w1
            refine r_assign rfl rfl ?_
            refine hl_nil ?_
            exact qe_done rfl
           refine hb_nil ⟨rfl, ?_⟩
           refine r_assign rfl rfl ?_
           refine hl_nil ?_
           exact cut_n _ () trivial ⟨rfl, rfl, rfl, rfl, rfl, rfl, congrArg (fun b => some (Value.bool b)) hnm.1, congrArg (fun b => some (Value.bool b)) hnm.2, trivial⟩ (List.nil_sublist _) ⟨(by repeat constructor), (by repeat constructor), (by repeat constructor), (by repeat constructor), (by repeat constructor), (by repeat constructor), (by repeat constructor), (by repeat constructor), (by repeat constructor), (by repeat constructor), (by repeat constructor), trivial⟩
          ·intro hg6; have hg6' := hg6; try simp at hg6'
           have hy2 : ¬ 0 ≤ z2 := of_decide_eq_false (bf2 hg6)
           rw [decide_eq_false hy2, Bool.false_and] at hnm
           apply hb_ex _ rfl rfl rfl
           ·intro w1
            refine g_no rfl rfl rfl rfl rfl hg6 ?_
            refine hl_nil ?_
            exact qe_done rfl
           apply hb_ex _ rfl rfl rfl
           ·intro w1
            refine g_no rfl rfl rfl rfl rfl hg6 ?_
            refine hl_nil ?_
            exact qe_done rfl
           apply hb_ex _ rfl rfl rfl
           ·intro w1
            refine g_no rfl rfl rfl rfl rfl hg6 ?_
            refine hl_nil ?_
            exact qe_done rfl
           apply hb_ex _ rfl rfl rfl
           ·intro w1
            refine g_no rfl rfl rfl rfl rfl hg6 ?_
            refine hl_nil ?_
            exact qe_done rfl
           apply hb_ex _ rfl rfl rfl
           ·intro w1
            refine g_no rfl rfl rfl rfl rfl hg6 ?_
            refine hl_nil ?_
            exact qe_done rfl
           apply hb_ex _ rfl rfl rfl
           ·intro w1
            refine g_no rfl rfl rfl rfl rfl hg6 ?_
            refine hl_nil ?_
            exact qe_done rfl
           apply hb_ex _ rfl rfl rfl
           ·intro w1
            refine g_no rfl rfl rfl rfl rfl hg6 ?_
            refine hl_nil ?_
            exact qe_done rfl
           apply hb_ex _ rfl rfl rfl
           ·intro w1
            refine p_f rfl rfl (bf2 hg6) rfl ?_
            refine hl_nil ?_
            exact qe_done rfl
           apply hb_ex _ rfl rfl rfl
           ·intro w1
            refine r_assign rfl rfl ?_
            refine hl_nil ?_
            exact qe_done rfl
           refine hb_nil ⟨rfl, ?_⟩
           refine r_assign rfl rfl ?_
           refine hl_nil ?_
           exact cut_n _ () trivial ⟨rfl, rfl, rfl, rfl, rfl, rfl, congrArg (fun b => some (Value.bool b)) hnm.1, congrArg (fun b => some (Value.bool b)) hnm.2, trivial⟩ (List.nil_sublist _) ⟨(by repeat constructor), (by repeat constructor), (by repeat constructor), (by repeat constructor), (by repeat constructor), (by repeat constructor), (by repeat constructor), (by repeat constructor), (by repeat constructor), (by repeat constructor), (by repeat constructor), trivial⟩
         ·intro hg5; have hg5' := hg5; try simp at hg5'
          have hy1 : ¬ 0 ≤ z1 := of_decide_eq_false (bf2 hg5)
          rw [decide_eq_false hy1, Bool.false_and] at hnm
          apply hb_ex _ rfl rfl rfl
          ·intro w1
           refine g_no rfl rfl rfl rfl rfl hg5 ?_
           refine hl_nil ?_
           exact qe_done rfl
          apply hb_ex _ rfl rfl rfl
          ·intro w1
           refine g_no rfl rfl rfl rfl rfl hg5 ?_
           refine hl_nil ?_
           exact qe_done rfl
          apply hb_ex _ rfl rfl rfl
          ·intro w1
           refine g_no rfl rfl rfl rfl rfl hg5 ?_
           refine hl_nil ?_
           exact qe_done rfl
          apply hb_ex _ rfl rfl rfl
          ·intro w1
           refine g_no rfl rfl rfl rfl rfl hg5 ?_
           refine hl_nil ?_
           exact qe_done rfl
          apply hb_ex _ rfl rfl rfl
          ·intro w1
           refine g_no rfl rfl rfl rfl rfl hg5 ?_
           refine hl_nil ?_
           exact qe_done rfl
          apply hb_ex _ rfl rfl rfl
          ·intro w1
           refine g_no rfl rfl rfl rfl rfl hg5 ?_
           refine hl_nil ?_
           exact qe_done rfl
          apply hb_ex _ rfl rfl rfl
          ·intro w1
           refine g_no rfl rfl rfl rfl rfl hg5 ?_
           refine hl_nil ?_
           exact qe_done rfl
          apply hb_ex _ rfl rfl rfl
          ·intro w1
           refine p_f rfl rfl (bf2 hg5) rfl ?_
           refine hl_nil ?_
           exact qe_done rfl
          apply hb_ex _ rfl rfl rfl
          ·intro w1
           refine r_move rfl rfl ?_
           refine hl_nil ?_
           exact qe_done rfl
          apply hb_ex _ rfl rfl rfl
          ·intro w1
           refine r_geq rfl rfl rfl ?_
           refine hl_nil ?_
           exact qe_done rfl
          apply hb_ex _ rfl rfl rfl
          ·intro w1
           refine r_move rfl rfl ?_
           refine hl_nil ?_
           exact qe_done rfl
          refine hb_split (t := 103) (want := true) rfl ?_ ?_
          ·intro hg7; have hg7' := hg7; try simp at hg7'
           have hy2 : 0 ≤ z2 := of_decide_eq_true (eq_of_beq hg7)
           obtain ⟨k2, rfl, hk2l, hk2s⟩ : ∃ q : Nat, z2 = q ∧ q < hs2.length ∧ (hs2.getD q default).1 = (l.getD k default).1 := by
             rcases hz2 with h | h
             · exact h
             · omega
           rw [Int.toNat_natCast, decide_eq_true hy2, Bool.true_and] at hnm
           apply hb_ex _ rfl rfl rfl
           ·intro w1
            refine g_yes rfl rfl hg7 ?_
            first | refine r_fieldAddr ⟨_, 1, none⟩ rfl rfl T.fa_api_Trades_1 rfl ?_ | refine r_fieldAddr _ rfl rfl T.fa_api_Trades_1 rfl ?_
            refine hl_nil ?_
            exact qe_done rfl
           apply hb_ex _ rfl rfl rfl
           ·intro w1
            refine g_yes rfl rfl hg7 ?_
            first | refine r_load rfl T.cell_L_api_Head rfl (cell_blk (by repeat constructor) rfl) ?_ | refine r_load rfl T.cell_L_api_Head rfl (cell_own (by repeat constructor) rfl) ?_ | refine r_load rfl T.cell_L_api_Head rfl (cell_row (by repeat constructor) (rows_get0 (by omega) rfl)) ?_ | refine r_load rfl T.cell_L_api_Head rfl (cell_row_f (by repeat constructor) (rows_get (by omega) rfl)) ?_ | refine r_load rfl T.cell_L_api_Head rfl (cell_rowg (by repeat constructor) rfl) ?_
            refine hl_nil ?_
            exact qe_done rfl
           apply hb_ex _ rfl rfl rfl
           ·intro w1
            refine g_yes rfl rfl hg7 ?_
            refine r_move rfl rfl ?_
            refine hl_nil ?_
            exact qe_done rfl
           apply hb_ex _ rfl rfl rfl
           ·intro w1
            refine g_yes rfl rfl hg7 ?_
            refine r_elem (α := Hd) hs2 k2 rfl T.u_L_api_Head T.sz_api_Head rfl rfl rfl (by repeat constructor) rfl hk2l (by decide) ?_
            refine hl_nil ?_
            exact qe_done rfl
           apply hb_ex _ rfl rfl rfl
           ·intro w1
            refine g_yes rfl rfl hg7 ?_
            first | refine r_fieldAddr ⟨_, 1, none⟩ rfl rfl T.fa_api_Head_1 rfl ?_ | refine r_fieldAddr _ rfl rfl T.fa_api_Head_1 rfl ?_
            refine hl_nil ?_
            exact qe_done rfl
           apply hb_ex _ rfl rfl rfl
           ·intro w1
            refine g_yes rfl rfl hg7 ?_
            refine r_load (v := int (hs2.getD k2 default).2.1) rfl T.cell_int rfl (cell_row_f (by repeat constructor) (rows_get hk2l rfl)) ?_
            refine hl_nil ?_
            exact qe_done rfl
           apply hb_ex _ rfl rfl rfl
           ·intro w1
            refine g_yes rfl rfl hg7 ?_
            refine r_geq rfl rfl rfl ?_
            refine hl_nil ?_
            exact qe_done rfl
           apply hb_ex _ rfl rfl rfl
           ·intro w1
            refine p_t rfl rfl (bt1 hg7) rfl ?_
            refine hl_nil ?_
            exact qe_done rfl
           apply hb_ex _ rfl rfl rfl
           ·intro w1
            refine r_assign rfl rfl ?_
            refine hl_nil ?_
            exact qe_done rfl
           refine hb_nil ⟨rfl, ?_⟩
           refine r_assign rfl rfl ?_
           refine hl_nil ?_
           exact cut_n _ () trivial ⟨rfl, rfl, rfl, rfl, rfl, rfl, congrArg (fun b => some (Value.bool b)) hnm.1, congrArg (fun b => some (Value.bool b)) hnm.2, trivial⟩ (List.nil_sublist _) ⟨(by repeat constructor), (by repeat constructor), (by repeat constructor), (by repeat constructor), (by repeat constructor), (by repeat constructor), (by repeat constructor), (by repeat constructor), (by repeat constructor), (by repeat constructor), (by repeat constructor), trivial⟩
          ·intro hg7; have hg7' := hg7; try simp at hg7'
           have hy2 : ¬ 0 ≤ z2 := of_decide_eq_false (bf2 hg7)
           rw [decide_eq_false hy2, Bool.false_and] at hnm
           apply hb_ex _ rfl rfl rfl
           ·intro w1
            refine g_no rfl rfl rfl rfl rfl hg7 ?_
            refine hl_nil ?_
            exact qe_done rfl
           apply hb_ex _ rfl rfl rfl
           ·intro w1
            refine g_no rfl rfl rfl rfl rfl hg7 ?_
            refine hl_nil ?_
            exact qe_done rfl
           apply hb_ex _ rfl rfl rfl
           ·intro w1
            refine g_no rfl rfl rfl rfl rfl hg7 ?_
            refine hl_nil ?_
            exact qe_done rfl
           apply hb_ex _ rfl rfl rfl
           ·intro w1
            refine g_no rfl rfl rfl rfl rfl hg7 ?_
            refine hl_nil ?_
            exact qe_done rfl
           apply hb_ex _ rfl rfl rfl
           ·intro w1
            refine g_no rfl rfl rfl rfl rfl hg7 ?_
            refine hl_nil ?_
            exact qe_done rfl
           apply hb_ex _ rfl rfl rfl
           ·intro w1
            refine g_no rfl rfl rfl rfl rfl hg7 ?_
            refine hl_nil ?_
            exact qe_done rfl
           apply hb_ex _ rfl rfl rfl
           ·intro w1
            refine g_no rfl rfl rfl rfl rfl hg7 ?_
            refine hl_nil ?_
            exact qe_done rfl
           apply hb_ex _ rfl rfl rfl
           ·intro w1
            refine p_f rfl rfl (bf2 hg7) rfl ?_
            refine hl_nil ?_
            exact qe_done rfl
           apply hb_ex _ rfl rfl rfl
           ·intro w1
            refine r_assign rfl rfl ?_
            refine hl_nil ?_
            exact qe_done rfl
           refine hb_nil ⟨rfl, ?_⟩
           refine r_assign rfl rfl ?_
           refine hl_nil ?_
           exact cut_n _ () trivial ⟨rfl, rfl, rfl, rfl, rfl, rfl, congrArg (fun b => some (Value.bool b)) hnm.1, congrArg (fun b => some (Value.bool b)) hnm.2, trivial⟩ (List.nil_sublist _) ⟨(by repeat constructor), (by repeat constructor), (by repeat constructor), (by repeat constructor), (by repeat constructor), (by repeat constructor), (by repeat constructor), (by repeat constructor), (by repeat constructor), (by repeat constructor), (by repeat constructor), trivial⟩
        ·refine fun _ _ => ?_
         have hsq := fun h => asc_no hasc hk2 h
         generalize hme : (l.getD k default).2 = e
         rw [flip_fl, hme] at hfg
         generalize hfe : flE e = fe at hfg
         refine hc_seq ?_
         refine hc_draw 67 mixed (by decide) (by decide) rfl rfl ?_
         apply hb_ex _ rfl rfl rfl
         ·intro w1
          refine r_move rfl rfl ?_
          refine hl_nil ?_
          exact qe_done rfl
         apply hb_ex _ rfl rfl rfl
         ·intro w1
          refine r_move rfl rfl ?_
          refine hl_nil ?_
          exact qe_done rfl
         apply hb_ex _ rfl rfl rfl
         ·intro w1
          refine r_elem (α := Cl) (l.map flipK) k rfl T.u_L_api_Move T.sz_api_Move rfl rfl rfl (by repeat constructor) rfl hkf (by decide) ?_
          refine hl_nil ?_
          exact qe_done rfl
         apply hb_ex _ rfl rfl rfl
         ·intro w1
          refine r_loadS (cs := [str (l.getD k default).1, int fe]) rfl T.row_api_Move T.sz_api_Move rfl rfl (by rw [show [str (l.getD k default).1, int fe] = El.cells ((l.map flipK).getD k default) by rw [hfg]; rfl]; exact cells_row (by repeat constructor) (rows_all hkf)) ?_
          refine hl_nil ?_
          exact qe_done rfl
         apply hb_ex _ rfl rfl rfl
         ·intro w1
          first | refine r_loadA rfl T.row_api_Move T.sz_api_Move rfl (by repeat constructor) (by rfl) ?_ | refine r_loadB rfl T.row_api_Move T.sz_api_Move rfl (by repeat constructor) (by rfl) ?_ | refine r_loadS rfl T.row_api_Move T.sz_api_Move rfl rfl (cells_row (by repeat constructor) (rows_all (by omega))) ?_
          refine hl_nil ?_
          exact qe_done rfl
         apply hb_ex _ rfl rfl rfl
         ·intro w1
          refine r_bin _ rfl rfl rfl (fun _ => T.eqg_api_Move ..) (fun _ => T.neq_api_Move (l.getD k default).1 (l.getD k default).1 fe fe _) ?_
          refine hl_nil ?_
          exact qe_done rfl
         apply hb_ex _ rfl rfl rfl
         ·intro w1
          refine r_move rfl rfl ?_
          refine hl_nil ?_
          exact qe_done rfl
         refine hb_split (t := 118) (want := false) rfl ?_ ?_
         ·intro hg8; have hg8' := hg8; try simp at hg8'
          apply hb_ex _ rfl rfl rfl
          ·intro w1
           refine g_yes rfl rfl hg8 ?_
           refine r_move rfl rfl ?_
           refine hl_nil ?_
           exact qe_done rfl
          apply hb_ex _ rfl rfl rfl
          ·intro w1
           refine g_yes rfl rfl hg8 ?_
           refine r_move rfl rfl ?_
           refine hl_nil ?_
           exact qe_done rfl
          apply hb_ex _ rfl rfl rfl
          ·intro w1
           refine g_yes rfl rfl hg8 ?_
           refine r_elem (α := Cl) l k rfl T.u_L_api_Move T.sz_api_Move rfl rfl rfl (by repeat constructor) rfl hk2 (by decide) ?_
           refine hl_nil ?_
           exact qe_done rfl
          apply hb_ex _ rfl rfl rfl
          ·intro w1
           refine g_yes rfl rfl hg8 ?_
           first | refine r_fieldAddr ⟨_, 1, none⟩ rfl rfl T.fa_api_Move_1 rfl ?_ | refine r_fieldAddr _ rfl rfl T.fa_api_Move_1 rfl ?_
           refine hl_nil ?_
           exact qe_done rfl
          apply hb_ex _ rfl rfl rfl
          ·intro w1
           refine g_yes rfl rfl hg8 ?_
           refine r_load (v := int e) rfl T.cell_int rfl (cell_row_f (by repeat constructor) (rows_get hk2 (by rw [← hme]; rfl))) ?_
           refine hl_nil ?_
           exact qe_done rfl
          apply hb_ex _ rfl rfl rfl
          ·intro w1
           refine g_yes rfl rfl hg8 ?_
           refine r_eql rfl rfl rfl ?_
           refine hl_nil ?_
           exact qe_done rfl
          apply hb_ex _ rfl rfl rfl
          ·intro w1
           refine g_yes rfl rfl hg8 ?_
           refine r_move rfl rfl ?_
           refine hl_nil ?_
           exact qe_done rfl
          refine hb_split (t := 125) (want := true) rfl ?_ ?_
          ·intro hg9; have hg9' := hg9; try simp at hg9'
           apply hb_ex _ rfl rfl rfl
           ·intro w1
            refine g_yes rfl rfl hg9 ?_
            refine r_move rfl rfl ?_
            refine hl_nil ?_
            exact qe_done rfl
           apply hb_ex _ rfl rfl rfl
           ·intro w1
            refine g_yes rfl rfl hg9 ?_
            refine r_not rfl rfl ?_
            refine hl_nil ?_
            exact qe_done rfl
           apply hb_ex _ rfl rfl rfl
           ·intro w1
            refine g_yes rfl rfl hg9 ?_
            refine r_move rfl rfl ?_
            refine hl_nil ?_
            exact qe_done rfl
           refine hb_split (t := 128) (want := false) rfl ?_ ?_
           ·intro hg10; have hg10' := hg10; try simp at hg10'
            apply hb_ex _ rfl rfl rfl
            ·intro w1
             refine g_yes rfl rfl hg10 ?_
             refine r_move rfl rfl ?_
             refine hl_nil ?_
             exact qe_done rfl
            apply hb_ex _ rfl rfl rfl
            ·intro w1
             refine g_yes rfl rfl hg9 ?_
             refine p_f rfl rfl (bf1 hg10) rfl ?_
             refine hl_nil ?_
             exact qe_done rfl
            apply hb_ex _ rfl rfl rfl
            ·intro w1
             refine g_yes rfl rfl hg8 ?_
             refine p_t rfl rfl (bt1 hg9) rfl ?_
             refine hl_nil ?_
             exact qe_done rfl
            apply hb_ex _ rfl rfl rfl
            ·intro w1
             refine p_f rfl rfl (bf1 hg8) rfl ?_
             refine hl_nil ?_
             exact qe_done rfl
            apply hb_ex _ rfl rfl rfl
            ·intro w1
             refine r_move rfl rfl ?_
             refine hl_nil ?_
             exact qe_done rfl
            refine hb_split (t := 133) (want := false) rfl ?_ ?_
            ·intro hg11; have hg11' := hg11; try simp at hg11'
             apply hb_ex _ rfl rfl rfl
             ·intro w1
              refine g_yes rfl rfl hg11 ?_
              refine r_move rfl rfl ?_
              refine hl_nil ?_
              exact qe_done rfl
             apply hb_ex _ rfl rfl rfl
             ·intro w1
              refine g_yes rfl rfl hg11 ?_
              refine r_move rfl rfl ?_
              refine hl_nil ?_
              exact qe_done rfl
             apply hb_ex _ rfl rfl rfl
             ·intro w1
              refine g_yes rfl rfl hg11 ?_
              refine r_elem (α := Cl) l k rfl T.u_L_api_Move T.sz_api_Move rfl rfl rfl (by repeat constructor) rfl hk2 (by decide) ?_
              refine hl_nil ?_
              exact qe_done rfl
             apply hb_ex _ rfl rfl rfl
             ·intro w1
              refine g_yes rfl rfl hg11 ?_
              first | refine r_fieldAddr ⟨_, 1, none⟩ rfl rfl T.fa_api_Move_1 rfl ?_ | refine r_fieldAddr _ rfl rfl T.fa_api_Move_1 rfl ?_
              refine hl_nil ?_
              exact qe_done rfl
             apply hb_ex _ rfl rfl rfl
             ·intro w1
              refine g_yes rfl rfl hg11 ?_
              refine r_load (v := int e) rfl T.cell_int rfl (cell_row_f (by repeat constructor) (rows_get hk2 (by rw [← hme]; rfl))) ?_
              refine hl_nil ?_
              exact qe_done rfl
             apply hb_ex _ rfl rfl rfl
             ·intro w1
              refine g_yes rfl rfl hg11 ?_
              refine r_eql rfl rfl rfl ?_
              refine hl_nil ?_
              exact qe_done rfl
             apply hb_ex _ rfl rfl rfl
             ·intro w1
              refine g_yes rfl rfl hg11 ?_
              refine r_move rfl rfl ?_
              refine hl_nil ?_
              exact qe_done rfl
             refine hb_split (t := 140) (want := true) rfl ?_ ?_
             ·intro hg12; have hg12' := hg12; try simp at hg12'
              apply hb_ex _ rfl rfl rfl
              ·intro w1
               refine g_yes rfl rfl hg12 ?_
               refine r_move rfl rfl ?_
               refine hl_nil ?_
               exact qe_done rfl
              apply hb_ex _ rfl rfl rfl
              ·intro w1
               refine g_yes rfl rfl hg12 ?_
               refine r_move rfl rfl ?_
               refine hl_nil ?_
               exact qe_done rfl
              refine hb_split (t := 142) (want := false) rfl ?_ ?_
              ·intro hg13; have hg13' := hg13; try simp at hg13'
               apply hb_ex _ rfl rfl rfl
               ·intro w1
                refine g_yes rfl rfl hg13 ?_
                refine r_move rfl rfl ?_
                refine hl_nil ?_
                exact qe_done rfl
               apply hb_ex _ rfl rfl rfl
               ·intro w1
                refine g_yes rfl rfl hg13 ?_
                refine r_not rfl rfl ?_
                refine hl_nil ?_
                exact qe_done rfl
               apply hb_ex _ rfl rfl rfl
               ·intro w1
                refine g_yes rfl rfl hg12 ?_
                refine p_f rfl rfl (bf1 hg13) rfl ?_
                refine hl_nil ?_
                exact qe_done rfl
               apply hb_ex _ rfl rfl rfl
               ·intro w1
                refine g_yes rfl rfl hg11 ?_
                refine p_t rfl rfl (bt1 hg12) rfl ?_
                refine hl_nil ?_
                exact qe_done rfl
               apply hb_ex _ rfl rfl rfl
               ·intro w1
                refine p_f rfl rfl (bf1 hg11) rfl ?_
                refine hl_nil ?_
                exact qe_done rfl
               apply hb_ex _ rfl rfl rfl
               ·intro w1
                refine r_move rfl rfl ?_
                refine hl_nil ?_
                exact qe_done rfl
               refine hb_split (t := 148) (want := false) rfl ?_ ?_
               ·intro hg14; have hg14' := hg14; try simp at hg14'
                apply hb_ex _ rfl rfl rfl
                ·intro w1
                 refine g_yes rfl rfl hg14 ?_
                 refine r_move rfl rfl ?_
                 refine hl_nil ?_
                 exact qe_done rfl
                apply hb_ex _ rfl rfl rfl
                ·intro w1
                 refine g_yes rfl rfl hg14 ?_
                 refine r_move rfl rfl ?_
                 refine hl_nil ?_
                 exact qe_done rfl
                apply hb_ex _ rfl rfl rfl
                ·intro w1
                 refine g_yes rfl rfl hg14 ?_
                 refine r_elem (α := Cl) l k rfl T.u_L_api_Move T.sz_api_Move rfl rfl rfl (by repeat constructor) rfl hk2 (by decide) ?_
                 refine hl_nil ?_
                 exact qe_done rfl
                apply hb_ex _ rfl rfl rfl
                ·intro w1
                 refine g_yes rfl rfl hg14 ?_
                 first | refine r_fieldAddr ⟨_, 1, none⟩ rfl rfl T.fa_api_Move_1 rfl ?_ | refine r_fieldAddr _ rfl rfl T.fa_api_Move_1 rfl ?_
                 refine hl_nil ?_
                 exact qe_done rfl
                apply hb_ex _ rfl rfl rfl
                ·intro w1
                 refine g_yes rfl rfl hg14 ?_
                 refine r_load (v := int e) rfl T.cell_int rfl (cell_row_f (by repeat constructor) (rows_get hk2 (by rw [← hme]; rfl))) ?_
                 refine hl_nil ?_
                 exact qe_done rfl
                apply hb_ex _ rfl rfl rfl
                ·intro w1
                 refine g_yes rfl rfl hg14 ?_
                 refine r_eql rfl rfl rfl ?_
                 refine hl_nil ?_
                 exact qe_done rfl
                apply hb_ex _ rfl rfl rfl
                ·intro w1
                 refine g_yes rfl rfl hg14 ?_
                 refine r_move rfl rfl ?_
                 refine hl_nil ?_
                 exact qe_done rfl
                refine hb_split (t := 155) (want := true) rfl ?_ ?_
                ·intro hg15; have hg15' := hg15; try simp at hg15'
                 apply hb_ex _ rfl rfl rfl
                 ·intro w1
                  refine g_yes rfl rfl hg15 ?_
                  refine r_move rfl rfl ?_
                  refine hl_nil ?_
                  exact qe_done rfl
                 apply hb_ex _ rfl rfl rfl
                 ·intro w1
                  refine g_yes rfl rfl hg15 ?_
                  refine r_not rfl rfl ?_
                  refine hl_nil ?_
                  exact qe_done rfl
                 apply hb_ex _ rfl rfl rfl
                 ·intro w1
                  refine g_yes rfl rfl hg15 ?_
                  refine r_move rfl rfl ?_
                  refine hl_nil ?_
                  exact qe_done rfl
                 refine hb_split (t := 158) (want := false) rfl ?_ ?_
                 ·intro hg16; have hg16' := hg16; try simp at hg16'
                  apply hb_ex _ rfl rfl rfl
                  ·intro w1
                   refine g_yes rfl rfl hg16 ?_
                   refine r_move rfl rfl ?_
                   refine hl_nil ?_
                   exact qe_done rfl
                  apply hb_ex _ rfl rfl rfl
                  ·intro w1
                   refine g_yes rfl rfl hg16 ?_
                   refine r_not rfl rfl ?_
                   refine hl_nil ?_
                   exact qe_done rfl
                  apply hb_ex _ rfl rfl rfl
                  ·intro w1
                   refine g_yes rfl rfl hg15 ?_
                   refine p_f rfl rfl (bf1 hg16) rfl ?_
                   refine hl_nil ?_
                   exact qe_done rfl
                  apply hb_ex _ rfl rfl rfl
                  ·intro w1
                   refine g_yes rfl rfl hg14 ?_
                   refine p_t rfl rfl (bt1 hg15) rfl ?_
                   refine hl_nil ?_
                   exact qe_done rfl
                  apply hb_ex _ rfl rfl rfl
                  ·intro w1
                   refine p_f rfl rfl (bf1 hg14) rfl ?_
                   refine hl_nil ?_
                   exact qe_done rfl
                  apply hb_ex _ rfl rfl rfl
                  ·intro w1
                   refine r_move rfl rfl ?_
                   refine hl_nil ?_
                   exact qe_done rfl
                  refine hb_split (t := 164) (want := false) rfl ?_ ?_
                  ·intro hg17; have hg17' := hg17; try simp at hg17'
                   apply hb_ex _ rfl rfl rfl
                   ·intro w1
                    refine g_yes rfl rfl hg17 ?_
                    refine r_move rfl rfl ?_
                    refine hl_nil ?_
                    exact qe_done rfl
                   apply hb_ex _ rfl rfl rfl
                   ·intro w1
                    refine g_yes rfl rfl hg17 ?_
                    refine r_gtr rfl rfl rfl ?_
                    refine hl_nil ?_
                    exact qe_done rfl
                   apply hb_ex _ rfl rfl rfl
                   ·intro w1
                    refine g_yes rfl rfl hg17 ?_
                    refine r_move rfl rfl ?_
                    refine hl_nil ?_
                    exact qe_done rfl
                   refine hb_split (t := 167) (want := true) rfl ?_ ?_
                   ·intro hg18; have hg18' := hg18; try simp at hg18'
                    have hk0 : 0 < k := by simp at hg18; omega
                    apply hb_ex _ rfl rfl rfl
                    ·intro w1
                     refine g_yes rfl rfl hg18 ?_
                     refine r_move rfl rfl ?_
                     refine hl_nil ?_
                     exact qe_done rfl
                    apply hb_ex _ rfl rfl rfl
                    ·intro w1
                     refine g_yes rfl rfl hg18 ?_
                     refine r_move rfl rfl ?_
                     refine hl_nil ?_
                     exact qe_done rfl
                    apply hb_ex _ rfl rfl rfl
                    ·intro w1
                     refine g_yes rfl rfl hg18 ?_
                     refine r_elem (α := Cl) l k rfl T.u_L_api_Move T.sz_api_Move rfl rfl rfl (by repeat constructor) rfl hk2 (by decide) ?_
                     refine hl_nil ?_
                     exact qe_done rfl
                    apply hb_ex _ rfl rfl rfl
                    ·intro w1
                     refine g_yes rfl rfl hg18 ?_
                     first | refine r_fieldAddr ⟨_, 0, none⟩ rfl rfl T.fa_api_Move_0 rfl ?_ | refine r_fieldAddr _ rfl rfl T.fa_api_Move_0 rfl ?_
                     refine hl_nil ?_
                     exact qe_done rfl
                    apply hb_ex _ rfl rfl rfl
                    ·intro w1
                     refine g_yes rfl rfl hg18 ?_
                     refine r_load (v := str (l.getD k default).1) rfl T.cell_string rfl (cell_row_f (by repeat constructor) (rows_get hk2 rfl)) ?_
                     refine hl_nil ?_
                     exact qe_done rfl
                    apply hb_ex _ rfl rfl rfl
                    ·intro w1
                     refine g_yes rfl rfl hg18 ?_
                     refine r_move rfl rfl ?_
                     refine hl_nil ?_
                     exact qe_done rfl
                    apply hb_ex _ rfl rfl rfl
                    ·intro w1
                     refine g_yes rfl rfl hg18 ?_
                     refine r_move rfl rfl ?_
                     refine hl_nil ?_
                     exact qe_done rfl
                    apply hb_ex _ rfl rfl rfl
                    ·intro w1
                     refine g_yes rfl rfl hg18 ?_
                     refine r_sub _ rfl rfl rfl rfl (by unfold I64; omega) ?_
                     refine hl_nil ?_
                     exact qe_done rfl
                    apply hb_ex _ rfl rfl rfl
                    ·intro w1
                     refine g_yes rfl rfl hg18 ?_
                     refine r_elem (α := Cl) l (k - 1) rfl T.u_L_api_Move T.sz_api_Move rfl rfl (by omega) (by repeat constructor) rfl (by omega) (by decide) ?_
                     refine hl_nil ?_
                     exact qe_done rfl
                    apply hb_ex _ rfl rfl rfl
                    ·intro w1
                     refine g_yes rfl rfl hg18 ?_
                     first | refine r_fieldAddr ⟨_, 0, none⟩ rfl rfl T.fa_api_Move_0 rfl ?_ | refine r_fieldAddr _ rfl rfl T.fa_api_Move_0 rfl ?_
                     refine hl_nil ?_
                     exact qe_done rfl
                    apply hb_ex _ rfl rfl rfl
                    ·intro w1
                     refine g_yes rfl rfl hg18 ?_
                     refine r_load (v := str (l.getD (k - 1) default).1) rfl T.cell_string rfl (cell_row_f (by repeat constructor) (rows_get (by omega) rfl)) ?_
                     refine hl_nil ?_
                     exact qe_done rfl
                    refine hb_nil ⟨rfl, ?_⟩
                    refine g_yes rfl rfl hg18 ?_
                    refine r_sleq rfl rfl rfl ?_
                    refine g_yes rfl rfl hg17 ?_
                    refine p_t rfl rfl (bt1 hg18) rfl ?_
                    refine p_f rfl rfl (bf1 hg17) rfl ?_
                    refine hl_nil ?_
                    refine then_n ?_
                    first | refine c_dec rfl (fun hb5 => ?_) (fun hb5 => ?_) | refine hc_cond rfl (fun hb5 => ?_) (fun hb5 => ?_)
                    ·first | (cases hb5; done) | exact absurd hb5 (by rw [hsq (by omega)]; decide)
                    ·have hb5' := hb5; try simp at hb5'
                     refine hc_skip ?_
                     refine inb_n ?_
                     refine then_n ?_
                     refine hc_region ?_
                     refine r_move rfl rfl ?_
                     refine r_add _ rfl rfl rfl rfl (by unfold I64; omega) ?_
                     refine r_assign rfl rfl ?_
                     refine hl_nil ?_
                     exact again _ (k + 1) (by show k + 1 ≤ l.length; omega) (by show l.length - (k + 1) < l.length - k; omega) ⟨rfl, rfl, rfl, rfl, rfl, trivial⟩ (List.nil_sublist _) ⟨(by repeat constructor), (by repeat constructor), (by repeat constructor), (by repeat constructor), (by repeat constructor), (by repeat constructor), (by repeat constructor), (by repeat constructor), (by repeat constructor), (by repeat constructor), trivial⟩
                   ·intro hg18; have hg18' := hg18; try simp at hg18'
                    apply hb_ex _ rfl rfl rfl
                    ·intro w1
                     refine g_no rfl rfl rfl rfl rfl hg18 ?_
                     refine hl_nil ?_
                     exact qe_done rfl
                    apply hb_ex _ rfl rfl rfl
                    ·intro w1
                     refine g_no rfl rfl rfl rfl rfl hg18 ?_
                     refine hl_nil ?_
                     exact qe_done rfl
                    apply hb_ex _ rfl rfl rfl
                    ·intro w1
                     refine g_no rfl rfl rfl rfl rfl hg18 ?_
                     refine hl_nil ?_
                     exact qe_done rfl
                    apply hb_ex _ rfl rfl rfl
                    ·intro w1
                     refine g_no rfl rfl rfl rfl rfl hg18 ?_
                     refine hl_nil ?_
                     exact qe_done rfl
                    apply hb_ex _ rfl rfl rfl
                    ·intro w1
                     refine g_no rfl rfl rfl rfl rfl hg18 ?_
                     refine hl_nil ?_
                     exact qe_done rfl
                    apply hb_ex _ rfl rfl rfl
                    ·intro w1
                     refine g_no rfl rfl rfl rfl rfl hg18 ?_
                     refine hl_nil ?_
                     exact qe_done rfl
                    apply hb_ex _ rfl rfl rfl
                    ·intro w1
                     refine g_no rfl rfl rfl rfl rfl hg18 ?_
                     refine hl_nil ?_
                     exact qe_done rfl
                    apply hb_ex _ rfl rfl rfl
                    ·intro w1
                     refine g_no rfl rfl rfl rfl rfl hg18 ?_
                     refine hl_nil ?_
                     exact qe_done rfl
                    apply hb_ex _ rfl rfl rfl
                    ·intro w1
                     refine g_no rfl rfl rfl rfl rfl hg18 ?_
                     refine hl_nil ?_
                     exact qe_done rfl
                    apply hb_ex _ rfl rfl rfl
                    ·intro w1
                     refine g_no rfl rfl rfl rfl rfl hg18 ?_
                     refine hl_nil ?_
                     exact qe_done rfl
                    apply hb_ex _ rfl rfl rfl
                    ·intro w1
                     refine g_no rfl rfl rfl rfl rfl hg18 ?_
                     refine hl_nil ?_
                     exact qe_done rfl
                    refine hb_nil ⟨rfl, ?_⟩
                    refine g_no rfl rfl rfl rfl rfl hg18 ?_
                    refine g_yes rfl rfl hg17 ?_
                    refine p_f rfl rfl (bf2 hg18) rfl ?_
                    refine p_f rfl rfl (bf1 hg17) rfl ?_
                    refine hl_nil ?_
                    refine then_n ?_
                    refine c_f rfl rfl ?_
                    refine hc_skip ?_
                    refine inb_n ?_
                    refine then_n ?_
                    refine hc_region ?_
                    refine r_move rfl rfl ?_
                    refine r_add _ rfl rfl rfl rfl (by unfold I64; omega) ?_
                    refine r_assign rfl rfl ?_
                    refine hl_nil ?_
                    exact again _ (k + 1) (by show k + 1 ≤ l.length; omega) (by show l.length - (k + 1) < l.length - k; omega) ⟨rfl, rfl, rfl, rfl, rfl, trivial⟩ (List.nil_sublist _) ⟨(by repeat constructor), (by repeat constructor), (by repeat constructor), (by repeat constructor), (by repeat constructor), (by repeat constructor), (by repeat constructor), (by repeat constructor), (by repeat constructor), (by repeat constructor), trivial⟩
                  ·intro hg17; have hg17' := hg17; try simp at hg17'
                   exfalso; simp at hg17; omega
                 ·intro hg16; have hg16' := hg16; try simp at hg16'
                  exfalso; simp at hg16; omega
                ·intro hg15; have hg15' := hg15; try simp at hg15'
                 apply hb_ex _ rfl rfl rfl
                 ·intro w1
                  refine g_no rfl rfl rfl rfl rfl hg15 ?_
                  refine hl_nil ?_
                  exact qe_done rfl
                 apply hb_ex _ rfl rfl rfl
                 ·intro w1
                  refine g_no rfl rfl rfl rfl rfl hg15 ?_
                  refine hl_nil ?_
                  exact qe_done rfl
                 apply hb_ex _ rfl rfl rfl
                 ·intro w1
                  refine g_no rfl rfl rfl rfl rfl hg15 ?_
                  refine hl_nil ?_
                  exact qe_done rfl
                 apply hb_ex _ rfl rfl rfl
                 ·intro w1
                  refine g_und rfl rfl rfl rfl rfl rfl ?_
                  refine hl_nil ?_
                  exact qe_done rfl
                 apply hb_ex _ rfl rfl rfl
                 ·intro w1
                  refine g_und rfl rfl rfl rfl rfl rfl ?_
                  refine hl_nil ?_
                  exact qe_done rfl
                 apply hb_ex _ rfl rfl rfl
                 ·intro w1
                  refine g_no rfl rfl rfl rfl rfl hg15 ?_
                  refine hl_nil ?_
                  exact qe_done rfl
                 apply hb_ex _ rfl rfl rfl
                 ·intro w1
                  refine g_yes rfl rfl hg14 ?_
                  refine p_f rfl rfl (bf2 hg15) rfl ?_
                  refine hl_nil ?_
                  exact qe_done rfl
                 apply hb_ex _ rfl rfl rfl
                 ·intro w1
                  refine p_f rfl rfl (bf1 hg14) rfl ?_
                  refine hl_nil ?_
                  exact qe_done rfl
                 apply hb_ex _ rfl rfl rfl
                 ·intro w1
                  refine r_move rfl rfl ?_
                  refine hl_nil ?_
                  exact qe_done rfl
                 apply hb_ex _ rfl rfl rfl
                 ·intro w1
                  refine g_yes rfl rfl rfl ?_
                  refine r_move rfl rfl ?_
                  refine hl_nil ?_
                  exact qe_done rfl
                 apply hb_ex _ rfl rfl rfl
                 ·intro w1
                  refine g_yes rfl rfl rfl ?_
                  refine r_gtr rfl rfl rfl ?_
                  refine hl_nil ?_
                  exact qe_done rfl
                 apply hb_ex _ rfl rfl rfl
                 ·intro w1
                  refine g_yes rfl rfl rfl ?_
                  refine r_move rfl rfl ?_
                  refine hl_nil ?_
                  exact qe_done rfl
                 refine hb_split (t := 167) (want := true) rfl ?_ ?_
                 ·intro hg19; have hg19' := hg19; try simp at hg19'
                  have hk0 : 0 < k := by simp at hg19; omega
                  apply hb_ex _ rfl rfl rfl
                  ·intro w1
                   refine g_yes rfl rfl hg19 ?_
                   refine r_move rfl rfl ?_
                   refine hl_nil ?_
                   exact qe_done rfl
                  apply hb_ex _ rfl rfl rfl
                  ·intro w1
                   refine g_yes rfl rfl hg19 ?_
                   refine r_move rfl rfl ?_
                   refine hl_nil ?_
                   exact qe_done rfl
                  apply hb_ex _ rfl rfl rfl
                  ·intro w1
                   refine g_yes rfl rfl hg19 ?_
                   refine r_elem (α := Cl) l k rfl T.u_L_api_Move T.sz_api_Move rfl rfl rfl (by repeat constructor) rfl hk2 (by decide) ?_
                   refine hl_nil ?_
                   exact qe_done rfl
                  apply hb_ex _ rfl rfl rfl
                  ·intro w1
                   refine g_yes rfl rfl hg19 ?_
                   first | refine r_fieldAddr ⟨_, 0, none⟩ rfl rfl T.fa_api_Move_0 rfl ?_ | refine r_fieldAddr _ rfl rfl T.fa_api_Move_0 rfl ?_
                   refine hl_nil ?_
                   exact qe_done rfl
                  apply hb_ex _ rfl rfl rfl
                  ·intro w1
                   refine g_yes rfl rfl hg19 ?_
                   refine r_load (v := str (l.getD k default).1) rfl T.cell_string rfl (cell_row_f (by repeat constructor) (rows_get hk2 rfl)) ?_
                   refine hl_nil ?_
                   exact qe_done rfl
                  apply hb_ex _ rfl rfl rfl
                  ·intro w1
                   refine g_yes rfl rfl hg19 ?_
                   refine r_move rfl rfl ?_
                   refine hl_nil ?_
                   exact qe_done rfl
                  apply hb_ex _ rfl rfl rfl
                  ·intro w1
                   refine g_yes rfl rfl hg19 ?_
                   refine r_move rfl rfl ?_
                   refine hl_nil ?_
                   exact qe_done rfl
                  apply hb_ex _ rfl rfl rfl
                  ·intro w1
                   refine g_yes rfl rfl hg19 ?_
                   refine r_sub _ rfl rfl rfl rfl (by unfold I64; omega) ?_
                   refine hl_nil ?_
                   exact qe_done rfl
                  apply hb_ex _ rfl rfl rfl
                  ·intro w1
                   refine g_yes rfl rfl hg19 ?_
                   refine r_elem (α := Cl) l (k - 1) rfl T.u_L_api_Move T.sz_api_Move rfl rfl (by omega) (by repeat constructor) rfl (by omega) (by decide) ?_
                   refine hl_nil ?_
                   exact qe_done rfl
                  apply hb_ex _ rfl rfl rfl
                  ·intro w1
                   refine g_yes rfl rfl hg19 ?_
                   first | refine r_fieldAddr ⟨_, 0, none⟩ rfl rfl T.fa_api_Move_0 rfl ?_ | refine r_fieldAddr _ rfl rfl T.fa_api_Move_0 rfl ?_
                   refine hl_nil ?_
                   exact qe_done rfl
                  apply hb_ex _ rfl rfl rfl
                  ·intro w1
                   refine g_yes rfl rfl hg19 ?_
                   refine r_load (v := str (l.getD (k - 1) default).1) rfl T.cell_string rfl (cell_row_f (by repeat constructor) (rows_get (by omega) rfl)) ?_
                   refine hl_nil ?_
                   exact qe_done rfl
                  refine hb_nil ⟨rfl, ?_⟩
                  refine g_yes rfl rfl hg19 ?_
                  refine r_sleq rfl rfl rfl ?_
                  refine g_yes rfl rfl rfl ?_
                  refine p_t rfl rfl (bt1 hg19) rfl ?_
                  refine p_f rfl rfl rfl rfl ?_
                  refine hl_nil ?_
                  refine then_n ?_
                  first | refine c_dec rfl (fun hb5 => ?_) (fun hb5 => ?_) | refine hc_cond rfl (fun hb5 => ?_) (fun hb5 => ?_)
                  ·first | (cases hb5; done) | exact absurd hb5 (by rw [hsq (by omega)]; decide)
                  ·have hb5' := hb5; try simp at hb5'
                   refine hc_skip ?_
                   refine inb_n ?_
                   refine then_n ?_
                   refine hc_region ?_
                   refine r_move rfl rfl ?_
                   refine r_add _ rfl rfl rfl rfl (by unfold I64; omega) ?_
                   refine r_assign rfl rfl ?_
                   refine hl_nil ?_
                   exact again _ (k + 1) (by show k + 1 ≤ l.length; omega) (by show l.length - (k + 1) < l.length - k; omega) ⟨rfl, rfl, rfl, rfl, rfl, trivial⟩ (List.nil_sublist _) ⟨(by repeat constructor), (by repeat constructor), (by repeat constructor), (by repeat constructor), (by repeat constructor), (by repeat constructor), (by repeat constructor), (by repeat constructor), (by repeat constructor), (by repeat constructor), trivial⟩
                 ·intro hg19; have hg19' := hg19; try simp at hg19'
                  apply hb_ex _ rfl rfl rfl
                  ·intro w1
                   refine g_no rfl rfl rfl rfl rfl hg19 ?_
                   refine hl_nil ?_
                   exact qe_done rfl
                  apply hb_ex _ rfl rfl rfl
                  ·intro w1
                   refine g_no rfl rfl rfl rfl rfl hg19 ?_
                   refine hl_nil ?_
                   exact qe_done rfl
                  apply hb_ex _ rfl rfl rfl
                  ·intro w1
                   refine g_no rfl rfl rfl rfl rfl hg19 ?_
                   refine hl_nil ?_
                   exact qe_done rfl
                  apply hb_ex _ rfl rfl rfl
                  ·intro w1
                   refine g_no rfl rfl rfl rfl rfl hg19 ?_
                   refine hl_nil ?_
                   exact qe_done rfl
                  apply hb_ex _ rfl rfl rfl
                  ·intro w1
                   refine g_no rfl rfl rfl rfl rfl hg19 ?_
                   refine hl_nil ?_
                   exact qe_done rfl
                  apply hb_ex _ rfl rfl rfl
                  ·intro w1
                   refine g_no rfl rfl rfl rfl rfl hg19 ?_
                   refine hl_nil ?_
                   exact qe_done rfl
                  apply hb_ex _ rfl rfl rfl
                  ·intro w1
                   refine g_no rfl rfl rfl rfl rfl hg19 ?_
                   refine hl_nil ?_
                   exact qe_done rfl
                  apply hb_ex _ rfl rfl rfl
                  ·intro w1
                   refine g_no rfl rfl rfl rfl rfl hg19 ?_
                   refine hl_nil ?_
                   exact qe_done rfl
                  apply hb_ex _ rfl rfl rfl
                  ·intro w1
                   refine g_no rfl rfl rfl rfl rfl hg19 ?_
                   refine hl_nil ?_
                   exact qe_done rfl
                  apply hb_ex _ rfl rfl rfl
                  ·intro w1
                   refine g_no rfl rfl rfl rfl rfl hg19 ?_
                   refine hl_nil ?_
                   exact qe_done rfl
                  apply hb_ex _ rfl rfl rfl
                  ·intro w1
                   refine g_no rfl rfl rfl rfl rfl hg19 ?_
                   refine hl_nil ?_
                   exact qe_done rfl
                  refine hb_nil ⟨rfl, ?_⟩
                  refine g_no rfl rfl rfl rfl rfl hg19 ?_
                  refine g_yes rfl rfl rfl ?_
                  refine p_f rfl rfl (bf2 hg19) rfl ?_
                  refine p_f rfl rfl rfl rfl ?_
                  refine hl_nil ?_
                  refine then_n ?_
                  refine c_f rfl rfl ?_
                  refine hc_skip ?_
                  refine inb_n ?_
                  refine then_n ?_
                  refine hc_region ?_
                  refine r_move rfl rfl ?_
                  refine r_add _ rfl rfl rfl rfl (by unfold I64; omega) ?_
                  refine r_assign rfl rfl ?_
                  refine hl_nil ?_
                  exact again _ (k + 1) (by show k + 1 ≤ l.length; omega) (by show l.length - (k + 1) < l.length - k; omega) ⟨rfl, rfl, rfl, rfl, rfl, trivial⟩ (List.nil_sublist _) ⟨(by repeat constructor), (by repeat constructor), (by repeat constructor), (by repeat constructor), (by repeat constructor), (by repeat constructor), (by repeat constructor), (by repeat constructor), (by repeat constructor), (by repeat constructor), trivial⟩
               ·intro hg14; have hg14' := hg14; try simp at hg14'
                exfalso; simp at hg14; omega
              ·intro hg13; have hg13' := hg13; try simp at hg13'
               exfalso; simp at hg13; omega
             ·intro hg12; have hg12' := hg12; try simp at hg12'
              apply hb_ex _ rfl rfl rfl
              ·intro w1
               refine g_no rfl rfl rfl rfl rfl hg12 ?_
               refine hl_nil ?_
               exact qe_done rfl
              apply hb_ex _ rfl rfl rfl
              ·intro w1
               refine g_no rfl rfl rfl rfl rfl hg12 ?_
               refine hl_nil ?_
               exact qe_done rfl
              apply hb_ex _ rfl rfl rfl
              ·intro w1
               refine g_und rfl rfl rfl rfl rfl rfl ?_
               refine hl_nil ?_
               exact qe_done rfl
              apply hb_ex _ rfl rfl rfl
              ·intro w1
               refine g_und rfl rfl rfl rfl rfl rfl ?_
               refine hl_nil ?_
               exact qe_done rfl
              apply hb_ex _ rfl rfl rfl
              ·intro w1
               refine g_no rfl rfl rfl rfl rfl hg12 ?_
               refine hl_nil ?_
               exact qe_done rfl
              apply hb_ex _ rfl rfl rfl
              ·intro w1
               refine g_yes rfl rfl hg11 ?_
               refine p_f rfl rfl (bf2 hg12) rfl ?_
               refine hl_nil ?_
               exact qe_done rfl
              apply hb_ex _ rfl rfl rfl
              ·intro w1
               refine p_f rfl rfl (bf1 hg11) rfl ?_
               refine hl_nil ?_
               exact qe_done rfl
              apply hb_ex _ rfl rfl rfl
              ·intro w1
               refine r_move rfl rfl ?_
               refine hl_nil ?_
               exact qe_done rfl
              apply hb_ex _ rfl rfl rfl
              ·intro w1
               refine g_yes rfl rfl rfl ?_
               refine r_move rfl rfl ?_
               refine hl_nil ?_
               exact qe_done rfl
              apply hb_ex _ rfl rfl rfl
              ·intro w1
               refine g_yes rfl rfl rfl ?_
               refine r_move rfl rfl ?_
               refine hl_nil ?_
               exact qe_done rfl
              apply hb_ex _ rfl rfl rfl
              ·intro w1
               refine g_yes rfl rfl rfl ?_
               refine r_elem (α := Cl) l k rfl T.u_L_api_Move T.sz_api_Move rfl rfl rfl (by repeat constructor) rfl hk2 (by decide) ?_
               refine hl_nil ?_
               exact qe_done rfl
              apply hb_ex _ rfl rfl rfl
              ·intro w1
               refine g_yes rfl rfl rfl ?_
               first | refine r_fieldAddr ⟨_, 1, none⟩ rfl rfl T.fa_api_Move_1 rfl ?_ | refine r_fieldAddr _ rfl rfl T.fa_api_Move_1 rfl ?_
               refine hl_nil ?_
               exact qe_done rfl
              apply hb_ex _ rfl rfl rfl
              ·intro w1
               refine g_yes rfl rfl rfl ?_
               refine r_load (v := int e) rfl T.cell_int rfl (cell_row_f (by repeat constructor) (rows_get hk2 (by rw [← hme]; rfl))) ?_
               refine hl_nil ?_
               exact qe_done rfl
              apply hb_ex _ rfl rfl rfl
              ·intro w1
               refine g_yes rfl rfl rfl ?_
               refine r_eql rfl rfl rfl ?_
               refine hl_nil ?_
               exact qe_done rfl
              apply hb_ex _ rfl rfl rfl
              ·intro w1
               refine g_yes rfl rfl rfl ?_
               refine r_move rfl rfl ?_
               refine hl_nil ?_
               exact qe_done rfl
              refine hb_split (t := 155) (want := true) rfl ?_ ?_
              ·intro hg20; have hg20' := hg20; try simp at hg20'
               apply hb_ex _ rfl rfl rfl
               ·intro w1
                refine g_yes rfl rfl hg20 ?_
                refine r_move rfl rfl ?_
                refine hl_nil ?_
                exact qe_done rfl
               apply hb_ex _ rfl rfl rfl
               ·intro w1
                refine g_yes rfl rfl hg20 ?_
                refine r_not rfl rfl ?_
                refine hl_nil ?_
                exact qe_done rfl
               apply hb_ex _ rfl rfl rfl
               ·intro w1
                refine g_yes rfl rfl hg20 ?_
                refine r_move rfl rfl ?_
                refine hl_nil ?_
                exact qe_done rfl
               refine hb_split (t := 158) (want := false) rfl ?_ ?_
               ·intro hg21; have hg21' := hg21; try simp at hg21'
                apply hb_ex _ rfl rfl rfl
                ·intro w1
                 refine g_yes rfl rfl hg21 ?_
                 refine r_move rfl rfl ?_
                 refine hl_nil ?_
                 exact qe_done rfl
                apply hb_ex _ rfl rfl rfl
                ·intro w1
                 refine g_yes rfl rfl hg21 ?_
                 refine r_not rfl rfl ?_
                 refine hl_nil ?_
                 exact qe_done rfl
                apply hb_ex _ rfl rfl rfl
                ·intro w1
                 refine g_yes rfl rfl hg20 ?_
                 refine p_f rfl rfl (bf1 hg21) rfl ?_
                 refine hl_nil ?_
                 exact qe_done rfl
                apply hb_ex _ rfl rfl rfl
                ·intro w1
                 refine g_yes rfl rfl rfl ?_
                 refine p_t rfl rfl (bt1 hg20) rfl ?_
                 refine hl_nil ?_
                 exact qe_done rfl
                apply hb_ex _ rfl rfl rfl
                ·intro w1
                 refine p_f rfl rfl rfl rfl ?_
                 refine hl_nil ?_
                 exact qe_done rfl
                apply hb_ex _ rfl rfl rfl
                ·intro w1
                 refine r_move rfl rfl ?_
                 refine hl_nil ?_
                 exact qe_done rfl
                refine hb_split (t := 164) (want := false) rfl ?_ ?_
                ·intro hg22; have hg22' := hg22; try simp at hg22'
                 apply hb_ex _ rfl rfl rfl
                 ·intro w1
                  refine g_yes rfl rfl hg22 ?_
                  refine r_move rfl rfl ?_
                  refine hl_nil ?_
                  exact qe_done rfl
                 apply hb_ex _ rfl rfl rfl
                 ·intro w1
                  refine g_yes rfl rfl hg22 ?_
                  refine r_gtr rfl rfl rfl ?_
                  refine hl_nil ?_
                  exact qe_done rfl
                 apply hb_ex _ rfl rfl rfl
                 ·intro w1
                  refine g_yes rfl rfl hg22 ?_
                  refine r_move rfl rfl ?_
                  refine hl_nil ?_
                  exact qe_done rfl
                 refine hb_split (t := 167) (want := true) rfl ?_ ?_
                 ·intro hg23; have hg23' := hg23; try simp at hg23'
                  have hk0 : 0 < k := by simp at hg23; omega
                  apply hb_ex _ rfl rfl rfl
                  ·intro w1
                   refine g_yes rfl rfl hg23 ?_
                   refine r_move rfl rfl ?_
                   refine hl_nil ?_
                   exact qe_done rfl
                  apply hb_ex _ rfl rfl rfl
                  ·intro w1
                   refine g_yes rfl rfl hg23 ?_
                   refine r_move rfl rfl ?_
                   refine hl_nil ?_
                   exact qe_done rfl
                  apply hb_ex _ rfl rfl rfl
                  ·intro w1
                   refine g_yes rfl rfl hg23 ?_
                   refine r_elem (α := Cl) l k rfl T.u_L_api_Move T.sz_api_Move rfl rfl rfl (by repeat constructor) rfl hk2 (by decide) ?_
                   refine hl_nil ?_
                   exact qe_done rfl
                  apply hb_ex _ rfl rfl rfl
                  ·intro w1
                   refine g_yes rfl rfl hg23 ?_
                   first | refine r_fieldAddr ⟨_, 0, none⟩ rfl rfl T.fa_api_Move_0 rfl ?_ | refine r_fieldAddr _ rfl rfl T.fa_api_Move_0 rfl ?_
                   refine hl_nil ?_
                   exact qe_done rfl
                  apply hb_ex _ rfl rfl rfl
                  ·intro w1
                   refine g_yes rfl rfl hg23 ?_
                   refine r_load (v := str (l.getD k default).1) rfl T.cell_string rfl (cell_row_f (by repeat constructor) (rows_get hk2 rfl)) ?_
                   refine hl_nil ?_
                   exact qe_done rfl
                  apply hb_ex _ rfl rfl rfl
                  ·intro w1
                   refine g_yes rfl rfl hg23 ?_
                   refine r_move rfl rfl ?_
                   refine hl_nil ?_
                   exact qe_done rfl
                  apply hb_ex _ rfl rfl rfl
                  ·intro w1
                   refine g_yes rfl rfl hg23 ?_
                   refine r_move rfl rfl ?_
                   refine hl_nil ?_
                   exact qe_done rfl
                  apply hb_ex _ rfl rfl rfl
                  ·intro w1
                   refine g_yes rfl rfl hg23 ?_
                   refine r_sub _ rfl rfl rfl rfl (by unfold I64; omega) ?_
                   refine hl_nil ?_
                   exact qe_done rfl
                  apply hb_ex _ rfl rfl rfl
                  ·intro w1
                   refine g_yes rfl rfl hg23 ?_
                   refine r_elem (α := Cl) l (k - 1) rfl T.u_L_api_Move T.sz_api_Move rfl rfl (by omega) (by repeat constructor) rfl (by omega) (by decide) ?_
                   refine hl_nil ?_
                   exact qe_done rfl
                  apply hb_ex _ rfl rfl rfl
                  ·intro w1
                   refine g_yes rfl rfl hg23 ?_
                   first | refine r_fieldAddr ⟨_, 0, none⟩ rfl rfl T.fa_api_Move_0 rfl ?_ | refine r_fieldAddr _ rfl rfl T.fa_api_Move_0 rfl ?_
                   refine hl_nil ?_
                   exact qe_done rfl
                  apply hb_ex _ rfl rfl rfl
                  ·intro w1
                   refine g_yes rfl rfl hg23 ?_
                   refine r_load (v := str (l.getD (k - 1) default).1) rfl T.cell_string rfl (cell_row_f (by repeat constructor) (rows_get (by omega) rfl)) ?_
                   refine hl_nil ?_
                   exact qe_done rfl
                  refine hb_nil ⟨rfl, ?_⟩
                  refine g_yes rfl rfl hg23 ?_
                  refine r_sleq rfl rfl rfl ?_
                  refine g_yes rfl rfl hg22 ?_
                  refine p_t rfl rfl (bt1 hg23) rfl ?_
                  refine p_f rfl rfl (bf1 hg22) rfl ?_
                  refine hl_nil ?_
                  refine then_n ?_
                  first | refine c_dec rfl (fun hb5 => ?_) (fun hb5 => ?_) | refine hc_cond rfl (fun hb5 => ?_) (fun hb5 => ?_)
                  ·first | (cases hb5; done) | exact absurd hb5 (by rw [hsq (by omega)]; decide)
                  ·have hb5' := hb5; try simp at hb5'
                   refine hc_skip ?_
                   refine inb_n ?_
                   refine then_n ?_
                   refine hc_region ?_
                   refine r_move rfl rfl ?_
                   refine r_add _ rfl rfl rfl rfl (by unfold I64; omega) ?_
                   refine r_assign rfl rfl ?_
                   refine hl_nil ?_
                   exact again _ (k + 1) (by show k + 1 ≤ l.length; omega) (by show l.length - (k + 1) < l.length - k; omega) ⟨rfl, rfl, rfl, rfl, rfl, trivial⟩ (List.nil_sublist _) ⟨(by repeat constructor), (by repeat constructor), (by repeat constructor), (by repeat constructor), (by repeat constructor), (by repeat constructor), (by repeat constructor), (by repeat constructor), (by repeat constructor), (by repeat constructor), trivial⟩
                 ·intro hg23; have hg23' := hg23; try simp at hg23'
                  apply hb_ex _ rfl rfl rfl
                  ·intro w1
                   refine g_no rfl rfl rfl rfl rfl hg23 ?_
                   refine hl_nil ?_
                   exact qe_done rfl
                  apply hb_ex _ rfl rfl rfl
                  ·intro w1
                   refine g_no rfl rfl rfl rfl rfl hg23 ?_
                   refine hl_nil ?_
                   exact qe_done rfl
                  apply hb_ex _ rfl rfl rfl
                  ·intro w1
                   refine g_no rfl rfl rfl rfl rfl hg23 ?_
                   refine hl_nil ?_
                   exact qe_done rfl
                  apply hb_ex _ rfl rfl rfl
                  ·intro w1
                   refine g_no rfl rfl rfl rfl rfl hg23 ?_
                   refine hl_nil ?_
                   exact qe_done rfl
                  apply hb_ex _ rfl rfl rfl
                  ·intro w1
                   refine g_no rfl rfl rfl rfl rfl hg23 ?_
                   refine hl_nil ?_
                   exact qe_done rfl
                  apply hb_ex _ rfl rfl rfl
                  ·intro w1
                   refine g_no rfl rfl rfl rfl rfl hg23 ?_
                   refine hl_nil ?_
                   exact qe_done rfl
                  apply hb_ex _ rfl rfl rfl
                  ·intro w1
                   refine g_no rfl rfl rfl rfl rfl hg23 ?_
                   refine hl_nil ?_
                   exact qe_done rfl
                  apply hb_ex _ rfl rfl rfl
                  ·intro w1
                   refine g_no rfl rfl rfl rfl rfl hg23 ?_
                   refine hl_nil ?_
                   exact qe_done rfl
                  apply hb_ex _ rfl rfl rfl
                  ·intro w1
                   refine g_no rfl rfl rfl rfl rfl hg23 ?_
                   refine hl_nil ?_
                   exact qe_done rfl
                  apply hb_ex _ rfl rfl rfl
                  ·intro w1
                   refine g_no rfl rfl rfl rfl rfl hg23 ?_
                   refine hl_nil ?_
                   exact qe_done rfl
                  apply hb_ex _ rfl rfl rfl
                  ·intro w1
                   refine g_no rfl rfl rfl rfl rfl hg23 ?_
                   refine hl_nil ?_
                   exact qe_done rfl
                  refine hb_nil ⟨rfl, ?_⟩
                  refine g_no rfl rfl rfl rfl rfl hg23 ?_
                  refine g_yes rfl rfl hg22 ?_
                  refine p_f rfl rfl (bf2 hg23) rfl ?_
                  refine p_f rfl rfl (bf1 hg22) rfl ?_
                  refine hl_nil ?_
                  refine then_n ?_
                  refine c_f rfl rfl ?_
                  refine hc_skip ?_
                  refine inb_n ?_
                  refine then_n ?_
                  refine hc_region ?_
                  refine r_move rfl rfl ?_
                  refine r_add _ rfl rfl rfl rfl (by unfold I64; omega) ?_
                  refine r_assign rfl rfl ?_
                  refine hl_nil ?_
                  exact again _ (k + 1) (by show k + 1 ≤ l.length; omega) (by show l.length - (k + 1) < l.length - k; omega) ⟨rfl, rfl, rfl, rfl, rfl, trivial⟩ (List.nil_sublist _) ⟨(by repeat constructor), (by repeat constructor), (by repeat constructor), (by repeat constructor), (by repeat constructor), (by repeat constructor), (by repeat constructor), (by repeat constructor), (by repeat constructor), (by repeat constructor), trivial⟩
                ·intro hg22; have hg22' := hg22; try simp at hg22'
                 exfalso; simp at hg22; omega
               ·intro hg21; have hg21' := hg21; try simp at hg21'
                exfalso; simp at hg21; omega
              ·intro hg20; have hg20' := hg20; try simp at hg20'
               apply hb_ex _ rfl rfl rfl
               ·intro w1
                refine g_no rfl rfl rfl rfl rfl hg20 ?_
                refine hl_nil ?_
                exact qe_done rfl
               apply hb_ex _ rfl rfl rfl
               ·intro w1
                refine g_no rfl rfl rfl rfl rfl hg20 ?_
                refine hl_nil ?_
                exact qe_done rfl
               apply hb_ex _ rfl rfl rfl
               ·intro w1
                refine g_no rfl rfl rfl rfl rfl hg20 ?_
                refine hl_nil ?_
                exact qe_done rfl
               apply hb_ex _ rfl rfl rfl
               ·intro w1
                refine g_und rfl rfl rfl rfl rfl rfl ?_
                refine hl_nil ?_
                exact qe_done rfl
               apply hb_ex _ rfl rfl rfl
               ·intro w1
                refine g_und rfl rfl rfl rfl rfl rfl ?_
                refine hl_nil ?_
                exact qe_done rfl
               apply hb_ex _ rfl rfl rfl
               ·intro w1
                refine g_no rfl rfl rfl rfl rfl hg20 ?_
                refine hl_nil ?_
                exact qe_done rfl
               apply hb_ex _ rfl rfl rfl
               ·intro w1
                refine g_yes rfl rfl rfl ?_
                refine p_f rfl rfl (bf2 hg20) rfl ?_
                refine hl_nil ?_
                exact qe_done rfl
               apply hb_ex _ rfl rfl rfl
               ·intro w1
                refine p_f rfl rfl rfl rfl ?_
                refine hl_nil ?_
                exact qe_done rfl
               apply hb_ex _ rfl rfl rfl
               ·intro w1
                refine r_move rfl rfl ?_
                refine hl_nil ?_
                exact qe_done rfl
               apply hb_ex _ rfl rfl rfl
               ·intro w1
                refine g_yes rfl rfl rfl ?_
                refine r_move rfl rfl ?_
                refine hl_nil ?_
                exact qe_done rfl
               apply hb_ex _ rfl rfl rfl
               ·intro w1
                refine g_yes rfl rfl rfl ?_
                refine r_gtr rfl rfl rfl ?_
                refine hl_nil ?_
                exact qe_done rfl
               apply hb_ex _ rfl rfl rfl
               ·intro w1
                refine g_yes rfl rfl rfl ?_
                refine r_move rfl rfl ?_
                refine hl_nil ?_
                exact qe_done rfl
               refine hb_split (t := 167) (want := true) rfl ?_ ?_
               ·intro hg24; have hg24' := hg24; try simp at hg24'
                have hk0 : 0 < k := by simp at hg24; omega
                apply hb_ex _ rfl rfl rfl
                ·intro w1
                 refine g_yes rfl rfl hg24 ?_
                 refine r_move rfl rfl ?_
                 refine hl_nil ?_
                 exact qe_done rfl
                apply hb_ex _ rfl rfl rfl
                ·intro w1
                 refine g_yes rfl rfl hg24 ?_
                 refine r_move rfl rfl ?_
                 refine hl_nil ?_
                 exact qe_done rfl
                apply hb_ex _ rfl rfl rfl
                ·intro w1
                 refine g_yes rfl rfl hg24 ?_
                 refine r_elem (α := Cl) l k rfl T.u_L_api_Move T.sz_api_Move rfl rfl rfl (by repeat constructor) rfl hk2 (by decide) ?_
                 refine hl_nil ?_
                 exact qe_done rfl
                apply hb_ex _ rfl rfl rfl
                ·intro w1
                 refine g_yes rfl rfl hg24 ?_
                 first | refine r_fieldAddr ⟨_, 0, none⟩ rfl rfl T.fa_api_Move_0 rfl ?_ | refine r_fieldAddr _ rfl rfl T.fa_api_Move_0 rfl ?_
                 refine hl_nil ?_
                 exact qe_done rfl
                apply hb_ex _ rfl rfl rfl
                ·intro w1
                 refine g_yes rfl rfl hg24 ?_
                 refine r_load (v := str (l.getD k default).1) rfl T.cell_string rfl (cell_row_f (by repeat constructor) (rows_get hk2 rfl)) ?_
                 refine hl_nil ?_
                 exact qe_done rfl
                apply hb_ex _ rfl rfl rfl
                ·intro w1
                 refine g_yes rfl rfl hg24 ?_
                 refine r_move rfl rfl ?_
                 refine hl_nil ?_
                 exact qe_done rfl
                apply hb_ex _ rfl rfl rfl
                ·intro w1
                 refine g_yes rfl rfl hg24 ?_
                 refine r_move rfl rfl ?_
                 refine hl_nil ?_
                 exact qe_done rfl
                apply hb_ex _ rfl rfl rfl
                ·intro w1
                 refine g_yes rfl rfl hg24 ?_
                 refine r_sub _ rfl rfl rfl rfl (by unfold I64; omega) ?_
                 refine hl_nil ?_
                 exact qe_done rfl
                apply hb_ex _ rfl rfl rfl
                ·intro w1
                 refine g_yes rfl rfl hg24 ?_
                 refine r_elem (α := Cl) l (k - 1) rfl T.u_L_api_Move T.sz_api_Move rfl rfl (by omega) (by repeat constructor) rfl (by omega) (by decide) ?_
                 refine hl_nil ?_
                 exact qe_done rfl
                apply hb_ex _ rfl rfl rfl
                ·intro w1
                 refine g_yes rfl rfl hg24 ?_
                 first | refine r_fieldAddr ⟨_, 0, none⟩ rfl rfl T.fa_api_Move_0 rfl ?_ | refine r_fieldAddr _ rfl rfl T.fa_api_Move_0 rfl ?_
                 refine hl_nil ?_
                 exact qe_done rfl
                apply hb_ex _ rfl rfl rfl
                ·intro w1
                 refine g_yes rfl rfl hg24 ?_
                 refine r_load (v := str (l.getD (k - 1) default).1) rfl T.cell_string rfl (cell_row_f (by repeat constructor) (rows_get (by omega) rfl)) ?_
                 refine hl_nil ?_
                 exact qe_done rfl
                refine hb_nil ⟨rfl, ?_⟩
                refine g_yes rfl rfl hg24 ?_
                refine r_sleq rfl rfl rfl ?_
                refine g_yes rfl rfl rfl ?_
                refine p_t rfl rfl (bt1 hg24) rfl ?_
                refine p_f rfl rfl rfl rfl ?_
                refine hl_nil ?_
                refine then_n ?_
                first | refine c_dec rfl (fun hb5 => ?_) (fun hb5 => ?_) | refine hc_cond rfl (fun hb5 => ?_) (fun hb5 => ?_)
                ·first | (cases hb5; done) | exact absurd hb5 (by rw [hsq (by omega)]; decide)
                ·have hb5' := hb5; try simp at hb5'
                 refine hc_skip ?_
                 refine inb_n ?_
                 refine then_n ?_
                 refine hc_region ?_
                 refine r_move rfl rfl ?_
                 refine r_add _ rfl rfl rfl rfl (by unfold I64; omega) ?_
                 refine r_assign rfl rfl ?_
                 refine hl_nil ?_
                 exact again _ (k + 1) (by show k + 1 ≤ l.length; omega) (by show l.length - (k + 1) < l.length - k; omega) ⟨rfl, rfl, rfl, rfl, rfl, trivial⟩ (List.nil_sublist _) ⟨(by repeat constructor), (by repeat constructor), (by repeat constructor), (by repeat constructor), (by repeat constructor), (by repeat constructor), (by repeat constructor), (by repeat constructor), (by repeat constructor), (by repeat constructor), trivial⟩
               ·intro hg24; have hg24' := hg24; try simp at hg24'
                apply hb_ex _ rfl rfl rfl
                ·intro w1
                 refine g_no rfl rfl rfl rfl rfl hg24 ?_
                 refine hl_nil ?_
                 exact qe_done rfl
                apply hb_ex _ rfl rfl rfl
                ·intro w1
                 refine g_no rfl rfl rfl rfl rfl hg24 ?_
                 refine hl_nil ?_
                 exact qe_done rfl
                apply hb_ex _ rfl rfl rfl
                ·intro w1
                 refine g_no rfl rfl rfl rfl rfl hg24 ?_
                 refine hl_nil ?_
                 exact qe_done rfl
                apply hb_ex _ rfl rfl rfl
                ·intro w1
                 refine g_no rfl rfl rfl rfl rfl hg24 ?_
                 refine hl_nil ?_
                 exact qe_done rfl
                apply hb_ex _ rfl rfl rfl
                ·intro w1
                 refine g_no rfl rfl rfl rfl rfl hg24 ?_
                 refine hl_nil ?_
                 exact qe_done rfl
                apply hb_ex _ rfl rfl rfl
                ·intro w1
                 refine g_no rfl rfl rfl rfl rfl hg24 ?_
                 refine hl_nil ?_
                 exact qe_done rfl
                apply hb_ex _ rfl rfl rfl
                ·intro w1
                 refine g_no rfl rfl rfl rfl rfl hg24 ?_
                 refine hl_nil ?_
                 exact qe_done rfl
                apply hb_ex _ rfl rfl rfl
                ·intro w1
                 refine g_no rfl rfl rfl rfl rfl hg24 ?_
                 refine hl_nil ?_
                 exact qe_done rfl
                apply hb_ex _ rfl rfl rfl
                ·intro w1
                 refine g_no rfl rfl rfl rfl rfl hg24 ?_
                 refine hl_nil ?_
                 exact qe_done rfl
                apply hb_ex _ rfl rfl rfl
                ·intro w1
                 refine g_no rfl rfl rfl rfl rfl hg24 ?_
                 refine hl_nil ?_
                 exact qe_done rfl
                apply hb_ex _ rfl rfl rfl
                ·intro w1
                 refine g_no rfl rfl rfl rfl rfl hg24 ?_
                 refine hl_nil ?_
                 exact qe_done rfl
                refine hb_nil ⟨rfl, ?_⟩
                refine g_no rfl rfl rfl rfl rfl hg24 ?_
                refine g_yes rfl rfl rfl ?_
                refine p_f rfl rfl (bf2 hg24) rfl ?_
                refine p_f rfl rfl rfl rfl ?_
                refine hl_nil ?_
                refine then_n ?_
                refine c_f rfl rfl ?_
                refine hc_skip ?_
                refine inb_n ?_
                refine then_n ?_
                refine hc_region ?_
                refine r_move rfl rfl ?_
                refine r_add _ rfl rfl rfl rfl (by unfold I64; omega) ?_
                refine r_assign rfl rfl ?_
                refine hl_nil ?_
                exact again _ (k + 1) (by show k + 1 ≤ l.length; omega) (by show l.length - (k + 1) < l.length - k; omega) ⟨rfl, rfl, rfl, rfl, rfl, trivial⟩ (List.nil_sublist _) ⟨(by repeat constructor), (by repeat constructor), (by repeat constructor), (by repeat constructor), (by repeat constructor), (by repeat constructor), (by repeat constructor), (by repeat constructor), (by repeat constructor), (by repeat constructor), trivial⟩
            ·intro hg11; have hg11' := hg11; try simp at hg11'
             exfalso; simp at hg11; omega
           ·intro hg10; have hg10' := hg10; try simp at hg10'
            exfalso; simp at hg10; omega
          ·intro hg9; have hg9' := hg9; try simp at hg9'
           apply hb_ex _ rfl rfl rfl
           ·intro w1
            refine g_no rfl rfl rfl rfl rfl hg9 ?_
            refine hl_nil ?_
            exact qe_done rfl
           apply hb_ex _ rfl rfl rfl
           ·intro w1
            refine g_no rfl rfl rfl rfl rfl hg9 ?_
            refine hl_nil ?_
            exact qe_done rfl
           apply hb_ex _ rfl rfl rfl
           ·intro w1
            refine g_no rfl rfl rfl rfl rfl hg9 ?_
            refine hl_nil ?_
            exact qe_done rfl
           apply hb_ex _ rfl rfl rfl
           ·intro w1
            refine g_und rfl rfl rfl rfl rfl rfl ?_
            refine hl_nil ?_
            exact qe_done rfl
           apply hb_ex _ rfl rfl rfl
           ·intro w1
            refine g_no rfl rfl rfl rfl rfl hg9 ?_
            refine hl_nil ?_
            exact qe_done rfl
           apply hb_ex _ rfl rfl rfl
           ·intro w1
            refine g_yes rfl rfl hg8 ?_
            refine p_f rfl rfl (bf2 hg9) rfl ?_
            refine hl_nil ?_
            exact qe_done rfl
           apply hb_ex _ rfl rfl rfl
           ·intro w1
            refine p_f rfl rfl (bf1 hg8) rfl ?_
            refine hl_nil ?_
            exact qe_done rfl
           apply hb_ex _ rfl rfl rfl
           ·intro w1
            refine r_move rfl rfl ?_
            refine hl_nil ?_
            exact qe_done rfl
           apply hb_ex _ rfl rfl rfl
           ·intro w1
            refine g_yes rfl rfl rfl ?_
            refine r_move rfl rfl ?_
            refine hl_nil ?_
            exact qe_done rfl
           apply hb_ex _ rfl rfl rfl
           ·intro w1
            refine g_yes rfl rfl rfl ?_
            refine r_move rfl rfl ?_
            refine hl_nil ?_
            exact qe_done rfl
           apply hb_ex _ rfl rfl rfl
           ·intro w1
            refine g_yes rfl rfl rfl ?_
            refine r_elem (α := Cl) l k rfl T.u_L_api_Move T.sz_api_Move rfl rfl rfl (by repeat constructor) rfl hk2 (by decide) ?_
            refine hl_nil ?_
            exact qe_done rfl
           apply hb_ex _ rfl rfl rfl
           ·intro w1
            refine g_yes rfl rfl rfl ?_
            first | refine r_fieldAddr ⟨_, 1, none⟩ rfl rfl T.fa_api_Move_1 rfl ?_ | refine r_fieldAddr _ rfl rfl T.fa_api_Move_1 rfl ?_
            refine hl_nil ?_
            exact qe_done rfl
           apply hb_ex _ rfl rfl rfl
           ·intro w1
            refine g_yes rfl rfl rfl ?_
            refine r_load (v := int e) rfl T.cell_int rfl (cell_row_f (by repeat constructor) (rows_get hk2 (by rw [← hme]; rfl))) ?_
            refine hl_nil ?_
            exact qe_done rfl
           apply hb_ex _ rfl rfl rfl
           ·intro w1
            refine g_yes rfl rfl rfl ?_
            refine r_eql rfl rfl rfl ?_
            refine hl_nil ?_
            exact qe_done rfl
           apply hb_ex _ rfl rfl rfl
           ·intro w1
            refine g_yes rfl rfl rfl ?_
            refine r_move rfl rfl ?_
            refine hl_nil ?_
            exact qe_done rfl
           refine hb_split (t := 140) (want := true) rfl ?_ ?_
           ·intro hg25; have hg25' := hg25; try simp at hg25'
            apply hb_ex _ rfl rfl rfl
            ·intro w1
             refine g_yes rfl rfl hg25 ?_
             refine r_move rfl rfl ?_
             refine hl_nil ?_
             exact qe_done rfl
            apply hb_ex _ rfl rfl rfl
            ·intro w1
             refine g_yes rfl rfl hg25 ?_
             refine r_move rfl rfl ?_
             refine hl_nil ?_
             exact qe_done rfl
            refine hb_split (t := 142) (want := false) rfl ?_ ?_
            ·intro hg26; have hg26' := hg26; try simp at hg26'
             apply hb_ex _ rfl rfl rfl
             ·intro w1
              refine g_yes rfl rfl hg26 ?_
              refine r_move rfl rfl ?_
              refine hl_nil ?_
              exact qe_done rfl
             apply hb_ex _ rfl rfl rfl
             ·intro w1
              refine g_yes rfl rfl hg26 ?_
              refine r_not rfl rfl ?_
              refine hl_nil ?_
              exact qe_done rfl
             apply hb_ex _ rfl rfl rfl
             ·intro w1
              refine g_yes rfl rfl hg25 ?_
              refine p_f rfl rfl (bf1 hg26) rfl ?_
              refine hl_nil ?_
              exact qe_done rfl
             apply hb_ex _ rfl rfl rfl
             ·intro w1
              refine g_yes rfl rfl rfl ?_
              refine p_t rfl rfl (bt1 hg25) rfl ?_
              refine hl_nil ?_
              exact qe_done rfl
             apply hb_ex _ rfl rfl rfl
             ·intro w1
              refine p_f rfl rfl rfl rfl ?_
              refine hl_nil ?_
              exact qe_done rfl
             apply hb_ex _ rfl rfl rfl
             ·intro w1
              refine r_move rfl rfl ?_
              refine hl_nil ?_
              exact qe_done rfl
             refine hb_split (t := 148) (want := false) rfl ?_ ?_
             ·intro hg27; have hg27' := hg27; try simp at hg27'
              apply hb_ex _ rfl rfl rfl
              ·intro w1
               refine g_yes rfl rfl hg27 ?_
               refine r_move rfl rfl ?_
               refine hl_nil ?_
               exact qe_done rfl
              apply hb_ex _ rfl rfl rfl
              ·intro w1
               refine g_yes rfl rfl hg27 ?_
               refine r_move rfl rfl ?_
               refine hl_nil ?_
               exact qe_done rfl
              apply hb_ex _ rfl rfl rfl
              ·intro w1
               refine g_yes rfl rfl hg27 ?_
               refine r_elem (α := Cl) l k rfl T.u_L_api_Move T.sz_api_Move rfl rfl rfl (by repeat constructor) rfl hk2 (by decide) ?_
               refine hl_nil ?_
               exact qe_done rfl
              apply hb_ex _ rfl rfl rfl
              ·intro w1
               refine g_yes rfl rfl hg27 ?_
               first | refine r_fieldAddr ⟨_, 1, none⟩ rfl rfl T.fa_api_Move_1 rfl ?_ | refine r_fieldAddr _ rfl rfl T.fa_api_Move_1 rfl ?_
               refine hl_nil ?_
               exact qe_done rfl
              apply hb_ex _ rfl rfl rfl
              ·intro w1
               refine g_yes rfl rfl hg27 ?_
               refine r_load (v := int e) rfl T.cell_int rfl (cell_row_f (by repeat constructor) (rows_get hk2 (by rw [← hme]; rfl))) ?_
               refine hl_nil ?_
               exact qe_done rfl
              apply hb_ex _ rfl rfl rfl
              ·intro w1
               refine g_yes rfl rfl hg27 ?_
               refine r_eql rfl rfl rfl ?_
               refine hl_nil ?_
               exact qe_done rfl
              apply hb_ex _ rfl rfl rfl
              ·intro w1
               refine g_yes rfl rfl hg27 ?_
               refine r_move rfl rfl ?_
               refine hl_nil ?_
               exact qe_done rfl
              refine hb_split (t := 155) (want := true) rfl ?_ ?_
              ·intro hg28; have hg28' := hg28; try simp at hg28'
               apply hb_ex _ rfl rfl rfl
               ·intro w1
                refine g_yes rfl rfl hg28 ?_
                refine r_move rfl rfl ?_
                refine hl_nil ?_
                exact qe_done rfl
               apply hb_ex _ rfl rfl rfl
               ·intro w1
                refine g_yes rfl rfl hg28 ?_
                refine r_not rfl rfl ?_
                refine hl_nil ?_
                exact qe_done rfl
               apply hb_ex _ rfl rfl rfl
               ·intro w1
                refine g_yes rfl rfl hg28 ?_
                refine r_move rfl rfl ?_
                refine hl_nil ?_
                exact qe_done rfl
               refine hb_split (t := 158) (want := false) rfl ?_ ?_
               ·intro hg29; have hg29' := hg29; try simp at hg29'
                apply hb_ex _ rfl rfl rfl
                ·intro w1
                 refine g_yes rfl rfl hg29 ?_
                 refine r_move rfl rfl ?_
                 refine hl_nil ?_
                 exact qe_done rfl
                apply hb_ex _ rfl rfl rfl
                ·intro w1
                 refine g_yes rfl rfl hg29 ?_
                 refine r_not rfl rfl ?_
                 refine hl_nil ?_
                 exact qe_done rfl
                apply hb_ex _ rfl rfl rfl
                ·intro w1
                 refine g_yes rfl rfl hg28 ?_
                 refine p_f rfl rfl (bf1 hg29) rfl ?_
                 refine hl_nil ?_
                 exact qe_done rfl
                apply hb_ex _ rfl rfl rfl
                ·intro w1
                 refine g_yes rfl rfl hg27 ?_
                 refine p_t rfl rfl (bt1 hg28) rfl ?_
                 refine hl_nil ?_
                 exact qe_done rfl
                apply hb_ex _ rfl rfl rfl
                ·intro w1
                 refine p_f rfl rfl (bf1 hg27) rfl ?_
                 refine hl_nil ?_
                 exact qe_done rfl
                apply hb_ex _ rfl rfl rfl
                ·intro w1
                 refine r_move rfl rfl ?_
                 refine hl_nil ?_
                 exact qe_done rfl
                refine hb_split (t := 164) (want := false) rfl ?_ ?_
                ·intro hg30; have hg30' := hg30; try simp at hg30'
                 apply hb_ex _ rfl rfl rfl
                 ·intro w1
                  refine g_yes rfl rfl hg30 ?_
                  refine r_move rfl rfl ?_
                  refine hl_nil ?_
                  exact qe_done rfl
                 apply hb_ex _ rfl rfl rfl
                 ·intro w1
                  refine g_yes rfl rfl hg30 ?_
                  refine r_gtr rfl rfl rfl ?_
                  refine hl_nil ?_
                  exact qe_done rfl
                 apply hb_ex _ rfl rfl rfl
                 ·intro w1
                  refine g_yes rfl rfl hg30 ?_
                  refine r_move rfl rfl ?_
                  refine hl_nil ?_
                  exact qe_done rfl
                 refine hb_split (t := 167) (want := true) rfl ?_ ?_
                 ·intro hg31; have hg31' := hg31; try simp at hg31'
                  have hk0 : 0 < k := by simp at hg31; omega
                  apply hb_ex _ rfl rfl rfl
                  ·intro w1
                   refine g_yes rfl rfl hg31 ?_
                   refine r_move rfl rfl ?_
                   refine hl_nil ?_
                   exact qe_done rfl
                  apply hb_ex _ rfl rfl rfl
                  ·intro w1
                   refine g_yes rfl rfl hg31 ?_
                   refine r_move rfl rfl ?_
                   refine hl_nil ?_
                   exact qe_done rfl
                  apply hb_ex _ rfl rfl rfl
                  ·intro w1
                   refine g_yes rfl rfl hg31 ?_
                   refine r_elem (α := Cl) l k rfl T.u_L_api_Move T.sz_api_Move rfl rfl rfl (by repeat constructor) rfl hk2 (by decide) ?_
                   refine hl_nil ?_
                   exact qe_done rfl
                  apply hb_ex _ rfl rfl rfl
                  ·intro w1
                   refine g_yes rfl rfl hg31 ?_
                   first | refine r_fieldAddr ⟨_, 0, none⟩ rfl rfl T.fa_api_Move_0 rfl ?_ | refine r_fieldAddr _ rfl rfl T.fa_api_Move_0 rfl ?_
                   refine hl_nil ?_
                   exact qe_done rfl
                  apply hb_ex _ rfl rfl rfl
                  ·intro w1
                   refine g_yes rfl rfl hg31 ?_
                   refine r_load (v := str (l.getD k default).1) rfl T.cell_string rfl (cell_row_f (by repeat constructor) (rows_get hk2 rfl)) ?_
                   refine hl_nil ?_
                   exact qe_done rfl
                  apply hb_ex _ rfl rfl rfl
                  ·intro w1
                   refine g_yes rfl rfl hg31 ?_
                   refine r_move rfl rfl ?_
                   refine hl_nil ?_
                   exact qe_done rfl
                  apply hb_ex _ rfl rfl rfl
                  ·intro w1
                   refine g_yes rfl rfl hg31 ?_
                   refine r_move rfl rfl ?_
                   refine hl_nil ?_
                   exact qe_done rfl
                  apply hb_ex _ rfl rfl rfl
                  ·intro w1
                   refine g_yes rfl rfl hg31 ?_
                   refine r_sub _ rfl rfl rfl rfl (by unfold I64; omega) ?_
                   refine hl_nil ?_
                   exact qe_done rfl
                  apply hb_ex _ rfl rfl rfl
                  ·intro w1
                   refine g_yes rfl rfl hg31 ?_
                   refine r_elem (α := Cl) l (k - 1) rfl T.u_L_api_Move T.sz_api_Move rfl rfl (by omega) (by repeat constructor) rfl (by omega) (by decide) ?_
                   refine hl_nil ?_
                   exact qe_done rfl
                  apply hb_ex _ rfl rfl rfl
                  ·intro w1
                   refine g_yes rfl rfl hg31 ?_
                   first | refine r_fieldAddr ⟨_, 0, none⟩ rfl rfl T.fa_api_Move_0 rfl ?_ | refine r_fieldAddr _ rfl rfl T.fa_api_Move_0 rfl ?_
                   refine hl_nil ?_
                   exact qe_done rfl
                  apply hb_ex _ rfl rfl rfl
                  ·intro w1
                   refine g_yes rfl rfl hg31 ?_
                   refine r_load (v := str (l.getD (k - 1) default).1) rfl T.cell_string rfl (cell_row_f (by repeat constructor) (rows_get (by omega) rfl)) ?_
                   refine hl_nil ?_
                   exact qe_done rfl
                  refine hb_nil ⟨rfl, ?_⟩
                  refine g_yes rfl rfl hg31 ?_
                  refine r_sleq rfl rfl rfl ?_
                  refine g_yes rfl rfl hg30 ?_
                  refine p_t rfl rfl (bt1 hg31) rfl ?_
                  refine p_f rfl rfl (bf1 hg30) rfl ?_
                  refine hl_nil ?_
                  refine then_n ?_
                  first | refine c_dec rfl (fun hb5 => ?_) (fun hb5 => ?_) | refine hc_cond rfl (fun hb5 => ?_) (fun hb5 => ?_)
                  ·first | (cases hb5; done) | exact absurd hb5 (by rw [hsq (by omega)]; decide)
                  ·have hb5' := hb5; try simp at hb5'
                   refine hc_skip ?_
                   refine inb_n ?_
                   refine then_n ?_
                   refine hc_region ?_
                   refine r_move rfl rfl ?_
                   refine r_add _ rfl rfl rfl rfl (by unfold I64; omega) ?_
                   refine r_assign rfl rfl ?_
                   refine hl_nil ?_
                   exact again _ (k + 1) (by show k + 1 ≤ l.length; omega) (by show l.length - (k + 1) < l.length - k; omega) ⟨rfl, rfl, rfl, rfl, rfl, trivial⟩ (List.nil_sublist _) ⟨(by repeat constructor), (by repeat constructor), (by repeat constructor), (by repeat constructor), (by repeat constructor), (by repeat constructor), (by repeat constructor), (by repeat constructor), (by repeat constructor), (by repeat constructor), trivial⟩
                 ·intro hg31; have hg31' := hg31; try simp at hg31'
                  apply hb_ex _ rfl rfl rfl
                  ·intro w1
                   refine g_no rfl rfl rfl rfl rfl hg31 ?_
                   refine hl_nil ?_
                   exact qe_done rfl
                  apply hb_ex _ rfl rfl rfl
                  ·intro w1
                   refine g_no rfl rfl rfl rfl rfl hg31 ?_
                   refine hl_nil ?_
                   exact qe_done rfl
                  apply hb_ex _ rfl rfl rfl
                  ·intro w1
                   refine g_no rfl rfl rfl rfl rfl hg31 ?_
                   refine hl_nil ?_
                   exact qe_done rfl
                  apply hb_ex _ rfl rfl rfl
                  ·intro w1
                   refine g_no rfl rfl rfl rfl rfl hg31 ?_
                   refine hl_nil ?_
                   exact qe_done rfl
                  apply hb_ex _ rfl rfl rfl
                  ·intro w1
                   refine g_no rfl rfl rfl rfl rfl hg31 ?_
                   refine hl_nil ?_
                   exact qe_done rfl
                  apply hb_ex _ rfl rfl rfl
                  ·intro w1
                   refine g_no rfl rfl rfl rfl rfl hg31 ?_
                   refine hl_nil ?_
                   exact qe_done rfl
                  apply hb_ex _ rfl rfl rfl
                  ·intro w1
                   refine g_no rfl rfl rfl rfl rfl hg31 ?_
                   refine hl_nil ?_
                   exact qe_done rfl
                  apply hb_ex _ rfl rfl rfl
                  ·intro w1
                   refine g_no rfl rfl rfl rfl rfl hg31 ?_
                   refine hl_nil ?_
                   exact qe_done rfl
                  apply hb_ex _ rfl rfl rfl
                  ·intro w1
                   refine g_no rfl rfl rfl rfl rfl hg31 ?_
                   refine hl_nil ?_
                   exact qe_done rfl
                  apply hb_ex _ rfl rfl rfl
                  ·intro w1
                   refine g_no rfl rfl rfl rfl rfl hg31 ?_
                   refine hl_nil ?_
                   exact qe_done rfl
                  apply hb_ex _ rfl rfl rfl
                  ·intro w1
                   refine g_no rfl rfl rfl rfl rfl hg31 ?_
                   refine hl_nil ?_
                   exact qe_done rfl
                  refine hb_nil ⟨rfl, ?_⟩
                  refine g_no rfl rfl rfl rfl rfl hg31 ?_
                  refine g_yes rfl rfl hg30 ?_
                  refine p_f rfl rfl (bf2 hg31) rfl ?_
                  refine p_f rfl rfl (bf1 hg30) rfl ?_
                  refine hl_nil ?_
                  refine then_n ?_
                  refine c_f rfl rfl ?_
                  refine hc_skip ?_
                  refine inb_n ?_
                  refine then_n ?_
                  refine hc_region ?_
                  refine r_move rfl rfl ?_
                  refine r_add _ rfl rfl rfl rfl (by unfold I64; omega) ?_
                  refine r_assign rfl rfl ?_
                  refine hl_nil ?_
                  exact again _ (k + 1) (by show k + 1 ≤ l.length; omega) (by show l.length - (k + 1) < l.length - k; omega) ⟨rfl, rfl, rfl, rfl, rfl, trivial⟩ (List.nil_sublist _) ⟨(by repeat constructor), (by repeat constructor), (by repeat constructor), (by repeat constructor), (by repeat constructor), (by repeat constructor), (by repeat constructor), (by repeat constructor), (by repeat constructor), (by repeat constructor), trivial⟩
                ·intro hg30; have hg30' := hg30; try simp at hg30'
                 exfalso; simp at hg30; omega
               ·intro hg29; have hg29' := hg29; try simp at hg29'
                exfalso; simp at hg29; omega
              ·intro hg28; have hg28' := hg28; try simp at hg28'
               apply hb_ex _ rfl rfl rfl
               ·intro w1
                refine g_no rfl rfl rfl rfl rfl hg28 ?_
                refine hl_nil ?_
                exact qe_done rfl
               apply hb_ex _ rfl rfl rfl
               ·intro w1
                refine g_no rfl rfl rfl rfl rfl hg28 ?_
                refine hl_nil ?_
                exact qe_done rfl
               apply hb_ex _ rfl rfl rfl
               ·intro w1
                refine g_no rfl rfl rfl rfl rfl hg28 ?_
                refine hl_nil ?_
                exact qe_done rfl
               apply hb_ex _ rfl rfl rfl
               ·intro w1
                refine g_und rfl rfl rfl rfl rfl rfl ?_
                refine hl_nil ?_
                exact qe_done rfl
               apply hb_ex _ rfl rfl rfl
               ·intro w1
                refine g_und rfl rfl rfl rfl rfl rfl ?_
                refine hl_nil ?_
                exact qe_done rfl
               apply hb_ex _ rfl rfl rfl
               ·intro w1
                refine g_no rfl rfl rfl rfl rfl hg28 ?_
                refine hl_nil ?_
                exact qe_done rfl
               apply hb_ex _ rfl rfl rfl
               ·intro w1
                refine g_yes rfl rfl hg27 ?_
                refine p_f rfl rfl (bf2 hg28) rfl ?_
                refine hl_nil ?_
                exact qe_done rfl
               apply hb_ex _ rfl rfl rfl
               ·intro w1
                refine p_f rfl rfl (bf1 hg27) rfl ?_
                refine hl_nil ?_
                exact qe_done rfl
               apply hb_ex _ rfl rfl rfl
               ·intro w1
                refine r_move rfl rfl ?_
                refine hl_nil ?_
                exact qe_done rfl
               apply hb_ex _ rfl rfl rfl
               ·intro w1
                refine g_yes rfl rfl rfl ?_
                refine r_move rfl rfl ?_
                refine hl_nil ?_
                exact qe_done rfl
               apply hb_ex _ rfl rfl rfl
               ·intro w1
                refine g_yes rfl rfl rfl ?_
                refine r_gtr rfl rfl rfl ?_
                refine hl_nil ?_
                exact qe_done rfl
               apply hb_ex _ rfl rfl rfl
               ·intro w1
                refine g_yes rfl rfl rfl ?_
                refine r_move rfl rfl ?_
                refine hl_nil ?_
                exact qe_done rfl
               refine hb_split (t := 167) (want := true) rfl ?_ ?_
               ·intro hg32; have hg32' := hg32; try simp at hg32'
                have hk0 : 0 < k := by simp at hg32; omega
                apply hb_ex _ rfl rfl rfl
                ·intro w1
                 refine g_yes rfl rfl hg32 ?_
                 refine r_move rfl rfl ?_
                 refine hl_nil ?_
                 exact qe_done rfl
                apply hb_ex _ rfl rfl rfl
                ·intro w1
                 refine g_yes rfl rfl hg32 ?_
                 refine r_move rfl rfl ?_
                 refine hl_nil ?_
                 exact qe_done rfl
                apply hb_ex _ rfl rfl rfl
                ·intro w1
                 refine g_yes rfl rfl hg32 ?_
                 refine r_elem (α := Cl) l k rfl T.u_L_api_Move T.sz_api_Move rfl rfl rfl (by repeat constructor) rfl hk2 (by decide) ?_
                 refine hl_nil ?_
                 exact qe_done rfl
                apply hb_ex _ rfl rfl rfl
                ·intro w1
                 refine g_yes rfl rfl hg32 ?_
                 first | refine r_fieldAddr ⟨_, 0, none⟩ rfl rfl T.fa_api_Move_0 rfl ?_ | refine r_fieldAddr _ rfl rfl T.fa_api_Move_0 rfl ?_
                 refine hl_nil ?_
                 exact qe_done rfl
                apply hb_ex _ rfl rfl rfl
                ·intro w1
                 refine g_yes rfl rfl hg32 ?_
                 refine r_load (v := str (l.getD k default).1) rfl T.cell_string rfl (cell_row_f (by repeat constructor) (rows_get hk2 rfl)) ?_
                 refine hl_nil ?_
                 exact qe_done rfl
                apply hb_ex _ rfl rfl rfl
                ·intro w1
                 refine g_yes rfl rfl hg32 ?_
                 refine r_move rfl rfl ?_
                 refine hl_nil ?_
                 exact qe_done rfl
                apply hb_ex _ rfl rfl rfl
                ·intro w1
                 refine g_yes rfl rfl hg32 ?_
                 refine r_move rfl rfl ?_
                 refine hl_nil ?_
                 exact qe_done rfl
                apply hb_ex _ rfl rfl rfl
                ·intro w1
                 refine g_yes rfl rfl hg32 ?_
                 refine r_sub _ rfl rfl rfl rfl (by unfold I64; omega) ?_
                 refine hl_nil ?_
                 exact qe_done rfl
                apply hb_ex _ rfl rfl rfl
                ·intro w1
                 refine g_yes rfl rfl hg32 ?_
                 refine r_elem (α := Cl) l (k - 1) rfl T.u_L_api_Move T.sz_api_Move rfl rfl (by omega) (by repeat constructor) rfl (by omega) (by decide) ?_
                 refine hl_nil ?_
                 exact qe_done rfl
                apply hb_ex _ rfl rfl rfl
                ·intro w1
                 refine g_yes rfl rfl hg32 ?_
                 first | refine r_fieldAddr ⟨_, 0, none⟩ rfl rfl T.fa_api_Move_0 rfl ?_ | refine r_fieldAddr _ rfl rfl T.fa_api_Move_0 rfl ?_
                 refine hl_nil ?_
                 exact qe_done rfl
                apply hb_ex _ rfl rfl rfl
                ·intro w1
                 refine g_yes rfl rfl hg32 ?_
                 refine r_load (v := str (l.getD (k - 1) default).1) rfl T.cell_string rfl (cell_row_f (by repeat constructor) (rows_get (by omega) rfl)) ?_
                 refine hl_nil ?_
                 exact qe_done rfl
                refine hb_nil ⟨rfl, ?_⟩
                refine g_yes rfl rfl hg32 ?_
                refine r_sleq rfl rfl rfl ?_
                refine g_yes rfl rfl rfl ?_
                refine p_t rfl rfl (bt1 hg32) rfl ?_
                refine p_f rfl rfl rfl rfl ?_
                refine hl_nil ?_
                refine then_n ?_
                first | refine c_dec rfl (fun hb5 => ?_) (fun hb5 => ?_) | refine hc_cond rfl (fun hb5 => ?_) (fun hb5 => ?_)
                ·first | (cases hb5; done) | exact absurd hb5 (by rw [hsq (by omega)]; decide)
                ·have hb5' := hb5; try simp at hb5'
                 refine hc_skip ?_
                 refine inb_n ?_
                 refine then_n ?_
                 refine hc_region ?_
                 refine r_move rfl rfl ?_
                 refine r_add _ rfl rfl rfl rfl (by unfold I64; omega) ?_
                 refine r_assign rfl rfl ?_
                 refine hl_nil ?_
                 exact again _ (k + 1) (by show k + 1 ≤ l.length; omega) (by show l.length - (k + 1) < l.length - k; omega) ⟨rfl, rfl, rfl, rfl, rfl, trivial⟩ (List.nil_sublist _) ⟨(by repeat constructor), (by repeat constructor), (by repeat constructor), (by repeat constructor), (by repeat constructor), (by repeat constructor), (by repeat constructor), (by repeat constructor), (by repeat constructor), (by repeat constructor), trivial⟩
               ·intro hg32; have hg32' := hg32; try simp at hg32'
                apply hb_ex _ rfl rfl rfl
                ·intro w1
                 refine g_no rfl rfl rfl rfl rfl hg32 ?_
                 refine hl_nil ?_
                 exact qe_done rfl
                apply hb_ex _ rfl rfl rfl
                ·intro w1
                 refine g_no rfl rfl rfl rfl rfl hg32 ?_
                 refine hl_nil ?_
                 exact qe_done rfl
                apply hb_ex _ rfl rfl rfl
                ·intro w1
                 refine g_no rfl rfl rfl rfl rfl hg32 ?_
                 refine hl_nil ?_
                 exact qe_done rfl
                apply hb_ex _ rfl rfl rfl
                ·intro w1
                 refine g_no rfl rfl rfl rfl rfl hg32 ?_
                 refine hl_nil ?_
                 exact qe_done rfl
                apply hb_ex _ rfl rfl rfl
                ·intro w1
                 refine g_no rfl rfl rfl rfl rfl hg32 ?_
                 refine hl_nil ?_
                 exact qe_done rfl
                apply hb_ex _ rfl rfl rfl
                ·intro w1
                 refine g_no rfl rfl rfl rfl rfl hg32 ?_
                 refine hl_nil ?_
                 exact qe_done rfl
                apply hb_ex _ rfl rfl rfl
                ·intro w1
                 refine g_no rfl rfl rfl rfl rfl hg32 ?_
                 refine hl_nil ?_
                 exact qe_done rfl
                apply hb_ex _ rfl rfl rfl
                ·intro w1
                 refine g_no rfl rfl rfl rfl rfl hg32 ?_
                 refine hl_nil ?_
                 exact qe_done rfl
                apply hb_ex _ rfl rfl rfl
                ·intro w1
                 refine g_no rfl rfl rfl rfl rfl hg32 ?_
                 refine hl_nil ?_
                 exact qe_done rfl
                apply hb_ex _ rfl rfl rfl
                ·intro w1
                 refine g_no rfl rfl rfl rfl rfl hg32 ?_
                 refine hl_nil ?_
                 exact qe_done rfl
                apply hb_ex _ rfl rfl rfl
                ·intro w1
                 refine g_no rfl rfl rfl rfl rfl hg32 ?_
                 refine hl_nil ?_
                 exact qe_done rfl
                refine hb_nil ⟨rfl, ?_⟩
                refine g_no rfl rfl rfl rfl rfl hg32 ?_
                refine g_yes rfl rfl rfl ?_
                refine p_f rfl rfl (bf2 hg32) rfl ?_
                refine p_f rfl rfl rfl rfl ?_
                refine hl_nil ?_
                refine then_n ?_
                refine c_f rfl rfl ?_
                refine hc_skip ?_
                refine inb_n ?_
                refine then_n ?_
                refine hc_region ?_
                refine r_move rfl rfl ?_
                refine r_add _ rfl rfl rfl rfl (by unfold I64; omega) ?_
                refine r_assign rfl rfl ?_
                refine hl_nil ?_
                exact again _ (k + 1) (by show k + 1 ≤ l.length; omega) (by show l.length - (k + 1) < l.length - k; omega) ⟨rfl, rfl, rfl, rfl, rfl, trivial⟩ (List.nil_sublist _) ⟨(by repeat constructor), (by repeat constructor), (by repeat constructor), (by repeat constructor), (by repeat constructor), (by repeat constructor), (by repeat constructor), (by repeat constructor), (by repeat constructor), (by repeat constructor), trivial⟩
             ·intro hg27; have hg27' := hg27; try simp at hg27'
              exfalso; simp at hg27; omega
            ·intro hg26; have hg26' := hg26; try simp at hg26'
             exfalso; simp at hg26; omega
           ·intro hg25; have hg25' := hg25; try simp at hg25'
            apply hb_ex _ rfl rfl rfl
            ·intro w1
             refine g_no rfl rfl rfl rfl rfl hg25 ?_
             refine hl_nil ?_
             exact qe_done rfl
            apply hb_ex _ rfl rfl rfl
            ·intro w1
             refine g_no rfl rfl rfl rfl rfl hg25 ?_
             refine hl_nil ?_
             exact qe_done rfl
            apply hb_ex _ rfl rfl rfl
            ·intro w1
             refine g_und rfl rfl rfl rfl rfl rfl ?_
             refine hl_nil ?_
             exact qe_done rfl
            apply hb_ex _ rfl rfl rfl
            ·intro w1
             refine g_und rfl rfl rfl rfl rfl rfl ?_
             refine hl_nil ?_
             exact qe_done rfl
            apply hb_ex _ rfl rfl rfl
            ·intro w1
             refine g_no rfl rfl rfl rfl rfl hg25 ?_
             refine hl_nil ?_
             exact qe_done rfl
            apply hb_ex _ rfl rfl rfl
            ·intro w1
             refine g_yes rfl rfl rfl ?_
             refine p_f rfl rfl (bf2 hg25) rfl ?_
             refine hl_nil ?_
             exact qe_done rfl
            apply hb_ex _ rfl rfl rfl
            ·intro w1
             refine p_f rfl rfl rfl rfl ?_
             refine hl_nil ?_
             exact qe_done rfl
            apply hb_ex _ rfl rfl rfl
            ·intro w1
             refine r_move rfl rfl ?_
             refine hl_nil ?_
             exact qe_done rfl
            apply hb_ex _ rfl rfl rfl
            ·intro w1
             refine g_yes rfl rfl rfl ?_
             refine r_move rfl rfl ?_
             refine hl_nil ?_
             exact qe_done rfl
            apply hb_ex _ rfl rfl rfl
            ·intro w1
             refine g_yes rfl rfl rfl ?_
             refine r_move rfl rfl ?_
             refine hl_nil ?_
             exact qe_done rfl
            apply hb_ex _ rfl rfl rfl
            ·intro w1
             refine g_yes rfl rfl rfl ?_
             refine r_elem (α := Cl) l k rfl T.u_L_api_Move T.sz_api_Move rfl rfl rfl (by repeat constructor) rfl hk2 (by decide) ?_
             refine hl_nil ?_
             exact qe_done rfl
            apply hb_ex _ rfl rfl rfl
            ·intro w1
             refine g_yes rfl rfl rfl ?_
             first | refine r_fieldAddr ⟨_, 1, none⟩ rfl rfl T.fa_api_Move_1 rfl ?_ | refine r_fieldAddr _ rfl rfl T.fa_api_Move_1 rfl ?_
             refine hl_nil ?_
             exact qe_done rfl
            apply hb_ex _ rfl rfl rfl
            ·intro w1
             refine g_yes rfl rfl rfl ?_
             refine r_load (v := int e) rfl T.cell_int rfl (cell_row_f (by repeat constructor) (rows_get hk2 (by rw [← hme]; rfl))) ?_
             refine hl_nil ?_
             exact qe_done rfl
            apply hb_ex _ rfl rfl rfl
            ·intro w1
             refine g_yes rfl rfl rfl ?_
             refine r_eql rfl rfl rfl ?_
             refine hl_nil ?_
             exact qe_done rfl
            apply hb_ex _ rfl rfl rfl
            ·intro w1
             refine g_yes rfl rfl rfl ?_
             refine r_move rfl rfl ?_
             refine hl_nil ?_
             exact qe_done rfl
            refine hb_split (t := 155) (want := true) rfl ?_ ?_
            ·intro hg33; have hg33' := hg33; try simp at hg33'
             apply hb_ex _ rfl rfl rfl
             ·intro w1
              refine g_yes rfl rfl hg33 ?_
              refine r_move rfl rfl ?_
              refine hl_nil ?_
              exact qe_done rfl
             apply hb_ex _ rfl rfl rfl
             ·intro w1
              refine g_yes rfl rfl hg33 ?_
              refine r_not rfl rfl ?_
              refine hl_nil ?_
              exact qe_done rfl
             apply hb_ex _ rfl rfl rfl
             ·intro w1
              refine g_yes rfl rfl hg33 ?_
              refine r_move rfl rfl ?_
              refine hl_nil ?_
              exact qe_done rfl
             refine hb_split (t := 158) (want := false) rfl ?_ ?_
             ·intro hg34; have hg34' := hg34; try simp at hg34'
              apply hb_ex _ rfl rfl rfl
              ·intro w1
               refine g_yes rfl rfl hg34 ?_
               refine r_move rfl rfl ?_
               refine hl_nil ?_
               exact qe_done rfl
              apply hb_ex _ rfl rfl rfl
              ·intro w1
               refine g_yes rfl rfl hg34 ?_
               refine r_not rfl rfl ?_
               refine hl_nil ?_
               exact qe_done rfl
              apply hb_ex _ rfl rfl rfl
              ·intro w1
               refine g_yes rfl rfl hg33 ?_
               refine p_f rfl rfl (bf1 hg34) rfl ?_
               refine hl_nil ?_
               exact qe_done rfl
              apply hb_ex _ rfl rfl rfl
              ·intro w1
               refine g_yes rfl rfl rfl ?_
               refine p_t rfl rfl (bt1 hg33) rfl ?_
               refine hl_nil ?_
               exact qe_done rfl
              apply hb_ex _ rfl rfl rfl
              ·intro w1
               refine p_f rfl rfl rfl rfl ?_
               refine hl_nil ?_
               exact qe_done rfl
              apply hb_ex _ rfl rfl rfl
              ·intro w1
               refine r_move rfl rfl ?_
               refine hl_nil ?_
               exact qe_done rfl
              refine hb_split (t := 164) (want := false) rfl ?_ ?_
              ·intro hg35; have hg35' := hg35; try simp at hg35'
               apply hb_ex _ rfl rfl rfl
               ·intro w1
                refine g_yes rfl rfl hg35 ?_
                refine r_move rfl rfl ?_
                refine hl_nil ?_
                exact qe_done rfl
               apply hb_ex _ rfl rfl rfl
               ·intro w1
                refine g_yes rfl rfl hg35 ?_
                refine r_gtr rfl rfl rfl ?_
                refine hl_nil ?_
                exact qe_done rfl
               apply hb_ex _ rfl rfl rfl
               ·intro w1
                refine g_yes rfl rfl hg35 ?_
                refine r_move rfl rfl ?_
                refine hl_nil ?_
                exact qe_done rfl
               refine hb_split (t := 167) (want := true) rfl ?_ ?_
               ·intro hg36; have hg36' := hg36; try simp at hg36'
                have hk0 : 0 < k := by simp at hg36; omega
                apply hb_ex _ rfl rfl rfl
                ·intro w1
                 refine g_yes rfl rfl hg36 ?_
                 refine r_move rfl rfl ?_
                 refine hl_nil ?_
                 exact qe_done rfl
                apply hb_ex _ rfl rfl rfl
                ·intro w1
                 refine g_yes rfl rfl hg36 ?_
                 refine r_move rfl rfl ?_
                 refine hl_nil ?_
                 exact qe_done rfl
                apply hb_ex _ rfl rfl rfl
                ·intro w1
                 refine g_yes rfl rfl hg36 ?_
                 refine r_elem (α := Cl) l k rfl T.u_L_api_Move T.sz_api_Move rfl rfl rfl (by repeat constructor) rfl hk2 (by decide) ?_
                 refine hl_nil ?_
                 exact qe_done rfl
                apply hb_ex _ rfl rfl rfl
                ·intro w1
                 refine g_yes rfl rfl hg36 ?_
                 first | refine r_fieldAddr ⟨_, 0, none⟩ rfl rfl T.fa_api_Move_0 rfl ?_ | refine r_fieldAddr _ rfl rfl T.fa_api_Move_0 rfl ?_
                 refine hl_nil ?_
                 exact qe_done rfl
                apply hb_ex _ rfl rfl rfl
                ·intro w1
                 refine g_yes rfl rfl hg36 ?_
                 refine r_load (v := str (l.getD k default).1) rfl T.cell_string rfl (cell_row_f (by repeat constructor) (rows_get hk2 rfl)) ?_
                 refine hl_nil ?_
                 exact qe_done rfl
                apply hb_ex _ rfl rfl rfl
                ·intro w1
                 refine g_yes rfl rfl hg36 ?_
                 refine r_move rfl rfl ?_
                 refine hl_nil ?_
                 exact qe_done rfl
                apply hb_ex _ rfl rfl rfl
                ·intro w1
                 refine g_yes rfl rfl hg36 ?_
                 refine r_move rfl rfl ?_
                 refine hl_nil ?_
                 exact qe_done rfl
                apply hb_ex _ rfl rfl rfl
                ·intro w1
                 refine g_yes rfl rfl hg36 ?_
                 refine r_sub _ rfl rfl rfl rfl (by unfold I64; omega) ?_
                 refine hl_nil ?_
                 exact qe_done rfl
                apply hb_ex _ rfl rfl rfl
                ·intro w1
                 refine g_yes rfl rfl hg36 ?_
                 refine r_elem (α := Cl) l (k - 1) rfl T.u_L_api_Move T.sz_api_Move rfl rfl (by omega) (by repeat constructor) rfl (by omega) (by decide) ?_
                 refine hl_nil ?_
                 exact qe_done rfl
                apply hb_ex _ rfl rfl rfl
                ·intro w1
                 refine g_yes rfl rfl hg36 ?_
                 first | refine r_fieldAddr ⟨_, 0, none⟩ rfl rfl T.fa_api_Move_0 rfl ?_ | refine r_fieldAddr _ rfl rfl T.fa_api_Move_0 rfl ?_
                 refine hl_nil ?_
                 exact qe_done rfl
                apply hb_ex _ rfl rfl rfl
                ·intro w1
                 refine g_yes rfl rfl hg36 ?_
                 refine r_load (v := str (l.getD (k - 1) default).1) rfl T.cell_string rfl (cell_row_f (by repeat constructor) (rows_get (by omega) rfl)) ?_
                 refine hl_nil ?_
                 exact qe_done rfl
                refine hb_nil ⟨rfl, ?_⟩
                refine g_yes rfl rfl hg36 ?_
                refine r_sleq rfl rfl rfl ?_
                refine g_yes rfl rfl hg35 ?_
                refine p_t rfl rfl (bt1 hg36) rfl ?_
                refine p_f rfl rfl (bf1 hg35) rfl ?_
                refine hl_nil ?_
                refine then_n ?_
                first | refine c_dec rfl (fun hb5 => ?_) (fun hb5 => ?_) | refine hc_cond rfl (fun hb5 => ?_) (fun hb5 => ?_)
                ·first | (cases hb5; done) | exact absurd hb5 (by rw [hsq (by omega)]; decide)
                ·have hb5' := hb5; try simp at hb5'
                 refine hc_skip ?_
                 refine inb_n ?_
                 refine then_n ?_
                 refine hc_region ?_
                 refine r_move rfl rfl ?_
                 refine r_add _ rfl rfl rfl rfl (by unfold I64; omega) ?_
                 refine r_assign rfl rfl ?_
                 refine hl_nil ?_
                 exact again _ (k + 1) (by show k + 1 ≤ l.length; omega) (by show l.length - (k + 1) < l.length - k; omega) ⟨rfl, rfl, rfl, rfl, rfl, trivial⟩ (List.nil_sublist _) ⟨(by repeat constructor), (by repeat constructor), (by repeat constructor), (by repeat constructor), (by repeat constructor), (by repeat constructor), (by repeat constructor), (by repeat constructor), (by repeat constructor), (by repeat constructor), trivial⟩
               ·intro hg36; have hg36' := hg36; try simp at hg36'
                apply hb_ex _ rfl rfl rfl
                ·intro w1
                 refine g_no rfl rfl rfl rfl rfl hg36 ?_
                 refine hl_nil ?_
                 exact qe_done rfl
                apply hb_ex _ rfl rfl rfl
                ·intro w1
                 refine g_no rfl rfl rfl rfl rfl hg36 ?_
                 refine hl_nil ?_
                 exact qe_done rfl
                apply hb_ex _ rfl rfl rfl
                ·intro w1
                 refine g_no rfl rfl rfl rfl rfl hg36 ?_
                 refine hl_nil ?_
                 exact qe_done rfl
                apply hb_ex _ rfl rfl rfl
                ·intro w1
                 refine g_no rfl rfl rfl rfl rfl hg36 ?_
                 refine hl_nil ?_
                 exact qe_done rfl
                apply hb_ex _ rfl rfl rfl
                ·intro w1
                 refine g_no rfl rfl rfl rfl rfl hg36 ?_
                 refine hl_nil ?_
                 exact qe_done rfl
                apply hb_ex _ rfl rfl rfl
                ·intro w1
                 refine g_no rfl rfl rfl rfl rfl hg36 ?_
                 refine hl_nil ?_
                 exact qe_done rfl
                apply hb_ex _ rfl rfl rfl
                ·intro w1
                 refine g_no rfl rfl rfl rfl rfl hg36 ?_
                 refine hl_nil ?_
                 exact qe_done rfl
                apply hb_ex _ rfl rfl rfl
                ·intro w1
                 refine g_no rfl rfl rfl rfl rfl hg36 ?_
                 refine hl_nil ?_
                 exact qe_done rfl
                apply hb_ex _ rfl rfl rfl
                ·intro w1
                 refine g_no rfl rfl rfl rfl rfl hg36 ?_
                 refine hl_nil ?_
                 exact qe_done rfl
                apply hb_ex _ rfl rfl rfl
                ·intro w1
                 refine g_no rfl rfl rfl rfl rfl hg36 ?_
                 refine hl_nil ?_
                 exact qe_done rfl
                apply hb_ex _ rfl rfl rfl
                ·intro w1
                 refine g_no rfl rfl rfl rfl rfl hg36 ?_
                 refine hl_nil ?_
                 exact qe_done rfl
                refine hb_nil ⟨rfl, ?_⟩
                refine g_no rfl rfl rfl rfl rfl hg36 ?_
                refine g_yes rfl rfl hg35 ?_
                refine p_f rfl rfl (bf2 hg36) rfl ?_
                refine p_f rfl rfl (bf1 hg35) rfl ?_
                refine hl_nil ?_
                refine then_n ?_
                refine c_f rfl rfl ?_
                refine hc_skip ?_
                refine inb_n ?_
                refine then_n ?_
                refine hc_region ?_
                refine r_move rfl rfl ?_
                refine r_add _ rfl rfl rfl rfl (by unfold I64; omega) ?_
                refine r_assign rfl rfl ?_
                refine hl_nil ?_
                exact again _ (k + 1) (by show k + 1 ≤ l.length; omega) (by show l.length - (k + 1) < l.length - k; omega) ⟨rfl, rfl, rfl, rfl, rfl, trivial⟩ (List.nil_sublist _) ⟨(by repeat constructor), (by repeat constructor), (by repeat constructor), (by repeat constructor), (by repeat constructor), (by repeat constructor), (by repeat constructor), (by repeat constructor), (by repeat constructor), (by repeat constructor), trivial⟩
              ·intro hg35; have hg35' := hg35; try simp at hg35'
               exfalso; simp at hg35; omega
             ·intro hg34; have hg34' := hg34; try simp at hg34'
              exfalso; simp at hg34; omega
            ·intro hg33; have hg33' := hg33; try simp at hg33'
             apply hb_ex _ rfl rfl rfl
             ·intro w1
              refine g_no rfl rfl rfl rfl rfl hg33 ?_
              refine hl_nil ?_
              exact qe_done rfl
             apply hb_ex _ rfl rfl rfl
             ·intro w1
              refine g_no rfl rfl rfl rfl rfl hg33 ?_
              refine hl_nil ?_
              exact qe_done rfl
             apply hb_ex _ rfl rfl rfl
             ·intro w1
              refine g_no rfl rfl rfl rfl rfl hg33 ?_
              refine hl_nil ?_
              exact qe_done rfl
             apply hb_ex _ rfl rfl rfl
             ·intro w1
              refine g_und rfl rfl rfl rfl rfl rfl ?_
              refine hl_nil ?_
              exact qe_done rfl
             apply hb_ex _ rfl rfl rfl
             ·intro w1
              refine g_und rfl rfl rfl rfl rfl rfl ?_
              refine hl_nil ?_
              exact qe_done rfl
             apply hb_ex _ rfl rfl rfl
             ·intro w1
              refine g_no rfl rfl rfl rfl rfl hg33 ?_
              refine hl_nil ?_
              exact qe_done rfl
             apply hb_ex _ rfl rfl rfl
             ·intro w1
              refine g_yes rfl rfl rfl ?_
              refine p_f rfl rfl (bf2 hg33) rfl ?_
              refine hl_nil ?_
              exact qe_done rfl
             apply hb_ex _ rfl rfl rfl
             ·intro w1
              refine p_f rfl rfl rfl rfl ?_
              refine hl_nil ?_
              exact qe_done rfl
             apply hb_ex _ rfl rfl rfl
             ·intro w1
              refine r_move rfl rfl ?_
              refine hl_nil ?_
              exact qe_done rfl
             apply hb_ex _ rfl rfl rfl
             ·intro w1
              refine g_yes rfl rfl rfl ?_
              refine r_move rfl rfl ?_
              refine hl_nil ?_
              exact qe_done rfl
             apply hb_ex _ rfl rfl rfl
             ·intro w1
              refine g_yes rfl rfl rfl ?_
              refine r_gtr rfl rfl rfl ?_
              refine hl_nil ?_
              exact qe_done rfl
             apply hb_ex _ rfl rfl rfl
             ·intro w1
              refine g_yes rfl rfl rfl ?_
              refine r_move rfl rfl ?_
              refine hl_nil ?_
              exact qe_done rfl
             refine hb_split (t := 167) (want := true) rfl ?_ ?_
             ·intro hg37; have hg37' := hg37; try simp at hg37'
              have hk0 : 0 < k := by simp at hg37; omega
              apply hb_ex _ rfl rfl rfl
              ·intro w1
               refine g_yes rfl rfl hg37 ?_
               refine r_move rfl rfl ?_
               refine hl_nil ?_
               exact qe_done rfl
              apply hb_ex _ rfl rfl rfl
              ·intro w1
               refine g_yes rfl rfl hg37 ?_
               refine r_move rfl rfl ?_
               refine hl_nil ?_
               exact qe_done rfl
              apply hb_ex _ rfl rfl rfl
              ·intro w1
               refine g_yes rfl rfl hg37 ?_
               refine r_elem (α := Cl) l k rfl T.u_L_api_Move T.sz_api_Move rfl rfl rfl (by repeat constructor) rfl hk2 (by decide) ?_
               refine hl_nil ?_
               exact qe_done rfl
              apply hb_ex _ rfl rfl rfl
              ·intro w1
               refine g_yes rfl rfl hg37 ?_
               first | refine r_fieldAddr ⟨_, 0, none⟩ rfl rfl T.fa_api_Move_0 rfl ?_ | refine r_fieldAddr _ rfl rfl T.fa_api_Move_0 rfl ?_
               refine hl_nil ?_
               exact qe_done rfl
              apply hb_ex _ rfl rfl rfl
              ·intro w1
               refine g_yes rfl rfl hg37 ?_
               refine r_load (v := str (l.getD k default).1) rfl T.cell_string rfl (cell_row_f (by repeat constructor) (rows_get hk2 rfl)) ?_
               refine hl_nil ?_
               exact qe_done rfl
              apply hb_ex _ rfl rfl rfl
              ·intro w1
               refine g_yes rfl rfl hg37 ?_
               refine r_move rfl rfl ?_
               refine hl_nil ?_
               exact qe_done rfl
              apply hb_ex _ rfl rfl rfl
              ·intro w1
               refine g_yes rfl rfl hg37 ?_
               refine r_move rfl rfl ?_
               refine hl_nil ?_
               exact qe_done rfl
              apply hb_ex _ rfl rfl rfl
              ·intro w1
               refine g_yes rfl rfl hg37 ?_
               refine r_sub _ rfl rfl rfl rfl (by unfold I64; omega) ?_
               refine hl_nil ?_
               exact qe_done rfl
              apply hb_ex _ rfl rfl rfl
              ·intro w1
               refine g_yes rfl rfl hg37 ?_
               refine r_elem (α := Cl) l (k - 1) rfl T.u_L_api_Move T.sz_api_Move rfl rfl (by omega) (by repeat constructor) rfl (by omega) (by decide) ?_
               refine hl_nil ?_
               exact qe_done rfl
              apply hb_ex _ rfl rfl rfl
              ·intro w1
               refine g_yes rfl rfl hg37 ?_
               first | refine r_fieldAddr ⟨_, 0, none⟩ rfl rfl T.fa_api_Move_0 rfl ?_ | refine r_fieldAddr _ rfl rfl T.fa_api_Move_0 rfl ?_
               refine hl_nil ?_
               exact qe_done rfl
              apply hb_ex _ rfl rfl rfl
              ·intro w1
               refine g_yes rfl rfl hg37 ?_
               refine r_load (v := str (l.getD (k - 1) default).1) rfl T.cell_string rfl (cell_row_f (by repeat constructor) (rows_get (by omega) rfl)) ?_
               refine hl_nil ?_
               exact qe_done rfl
              refine hb_nil ⟨rfl, ?_⟩
              refine g_yes rfl rfl hg37 ?_
              refine r_sleq rfl rfl rfl ?_
              refine g_yes rfl rfl rfl ?_
              refine p_t rfl rfl (bt1 hg37) rfl ?_
              refine p_f rfl rfl rfl rfl ?_
              refine hl_nil ?_
              refine then_n ?_
              first | refine c_dec rfl (fun hb5 => ?_) (fun hb5 => ?_) | refine hc_cond rfl (fun hb5 => ?_) (fun hb5 => ?_)
              ·first | (cases hb5; done) | exact absurd hb5 (by rw [hsq (by omega)]; decide)
              ·have hb5' := hb5; try simp at hb5'
               refine hc_skip ?_
               refine inb_n ?_
               refine then_n ?_
               refine hc_region ?_
               refine r_move rfl rfl ?_
               refine r_add _ rfl rfl rfl rfl (by unfold I64; omega) ?_
               refine r_assign rfl rfl ?_
               refine hl_nil ?_
               exact again _ (k + 1) (by show k + 1 ≤ l.length; omega) (by show l.length - (k + 1) < l.length - k; omega) ⟨rfl, rfl, rfl, rfl, rfl, trivial⟩ (List.nil_sublist _) ⟨(by repeat constructor), (by repeat constructor), (by repeat constructor), (by repeat constructor), (by repeat constructor), (by repeat constructor), (by repeat constructor), (by repeat constructor), (by repeat constructor), (by repeat constructor), trivial⟩
             ·intro hg37; have hg37' := hg37; try simp at hg37'
              apply hb_ex _ rfl rfl rfl
              ·intro w1
               refine g_no rfl rfl rfl rfl rfl hg37 ?_
               refine hl_nil ?_
               exact qe_done rfl
              apply hb_ex _ rfl rfl rfl
              ·intro w1
               refine g_no rfl rfl rfl rfl rfl hg37 ?_
               refine hl_nil ?_
               exact qe_done rfl
              apply hb_ex _ rfl rfl rfl
              ·intro w1
               refine g_no rfl rfl rfl rfl rfl hg37 ?_
               refine hl_nil ?_
               exact qe_done rfl
              apply hb_ex _ rfl rfl rfl
              ·intro w1
               refine g_no rfl rfl rfl rfl rfl hg37 ?_
               refine hl_nil ?_
               exact qe_done rfl
              apply hb_ex _ rfl rfl rfl
              ·intro w1
               refine g_no rfl rfl rfl rfl rfl hg37 ?_
               refine hl_nil ?_
               exact qe_done rfl
              apply hb_ex _ rfl rfl rfl
              ·intro w1
               refine g_no rfl rfl rfl rfl rfl hg37 ?_
               refine hl_nil ?_
               exact qe_done rfl
              apply hb_ex _ rfl rfl rfl
              ·intro w1
               refine g_no rfl rfl rfl rfl rfl hg37 ?_
               refine hl_nil ?_
               exact qe_done rfl
              apply hb_ex _ rfl rfl rfl
              ·intro w1
               refine g_no rfl rfl rfl rfl rfl hg37 ?_
               refine hl_nil ?_
               exact qe_done rfl
              apply hb_ex _ rfl rfl rfl
              ·intro w1
               refine g_no rfl rfl rfl rfl rfl hg37 ?_
               refine hl_nil ?_
               exact qe_done rfl
              apply hb_ex _ rfl rfl rfl
              ·intro w1
               refine g_no rfl rfl rfl rfl rfl hg37 ?_
               refine hl_nil ?_
               exact qe_done rfl
              apply hb_ex _ rfl rfl rfl
              ·intro w1
               refine g_no rfl rfl rfl rfl rfl hg37 ?_
               refine hl_nil ?_
               exact qe_done rfl
              refine hb_nil ⟨rfl, ?_⟩
              refine g_no rfl rfl rfl rfl rfl hg37 ?_
              refine g_yes rfl rfl rfl ?_
              refine p_f rfl rfl (bf2 hg37) rfl ?_
              refine p_f rfl rfl rfl rfl ?_
              refine hl_nil ?_
              refine then_n ?_
              refine c_f rfl rfl ?_
              refine hc_skip ?_
              refine inb_n ?_
              refine then_n ?_
              refine hc_region ?_
              refine r_move rfl rfl ?_
              refine r_add _ rfl rfl rfl rfl (by unfold I64; omega) ?_
              refine r_assign rfl rfl ?_
              refine hl_nil ?_
              exact again _ (k + 1) (by show k + 1 ≤ l.length; omega) (by show l.length - (k + 1) < l.length - k; omega) ⟨rfl, rfl, rfl, rfl, rfl, trivial⟩ (List.nil_sublist _) ⟨(by repeat constructor), (by repeat constructor), (by repeat constructor), (by repeat constructor), (by repeat constructor), (by repeat constructor), (by repeat constructor), (by repeat constructor), (by repeat constructor), (by repeat constructor), trivial⟩
         ·intro hg8; have hg8' := hg8; try simp at hg8'
      ·have hb2' := hb2; try simp at hb2'
       refine hc_exit ?_
       refine then_exit ?_
       refine then_exit ?_
       refine inb_hit ?_
       refine then_n ?_
       refine hc_seq ?_
       refine hc_region ?_
       refine hl_call F.law04_indexed_cb rfl rfl (law04_indexed_meets) (List.Perm.refl _) trivial fun _ _ => ?_
       refine r_assign rfl rfl ?_
       refine hl_nil ?_
       refine then_n ?_
       refine hc_ret ?_
       exact ret1 () rfl rfl rfl trivial (List.nil_sublist _) trivial
    ·intro hg4; have hg4' := hg4; try simp at hg4'
   ·intro hg3; have hg3' := hg3; try simp at hg3'
  ·intro hg2; have hg2' := hg2; try simp at hg2'
 ·intro hg1; have hg1' := hg1; try simp at hg1'

end Go.Proofs.Ytlpgheniajdkfaa
