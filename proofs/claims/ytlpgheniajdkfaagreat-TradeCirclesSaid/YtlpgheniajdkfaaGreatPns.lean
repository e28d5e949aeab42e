/- The walk of the statement TradeCircles. -/
import Derived.Test.YtlpgheniajdkfaaGreatPnr
namespace Go.Proofs.YtlpgheniajdkfaaGreat
open Go Go.W
set_option linter.unusedVariables false
set_option linter.unusedSimpArgs false
set_option maxRecDepth 20000
attribute [local irreducible] HL HC HQ HB Row Rows2 Blk Facts


set_option maxHeartbeats 2000000 in
theorem law04_TradeCircles_meets {N : Option Addr} {nc : Nat} (nums : List Int) (hn : nums.length ≤ 9223372036854775807) : Meets Tryz.prog F.law04_TradeCircles [.slice N nums.length nc] { LI := [Row N (rows nums)], val := fun _ : Unit => .bool true } := by
 refine meets_intro F.law04_TradeCircles_f rfl (Nat.le_of_ble_eq_true rfl) fun w0 => ?_
 refine hc_seq (hc_region (r_assign rfl rfl (hl_nil (then_n (hc_seq (hc_region (r_move rfl rfl ?_)))))))
 refine hl_call F.kit_NewDice_cb rfl rfl (kit_NewDice_meets nums) (List.Perm.refl _) ⟨(by repeat constructor), trivial⟩ fun g _ => ?_
 refine hl_call F.kit_TradesOf_cb rfl rfl (kit_TradesOf_meets 2 6 hn (dok0 nums) (by decide) (by decide)) (List.Perm.refl _) ⟨(by repeat constructor), trivial⟩ fun x hx => ?_
 obtain ⟨sd, cs, hs, ⟨CA, ca⟩, ⟨HB, cb⟩⟩ := x
 obtain ⟨hsd, hT⟩ := hx
 have hca : cs.length ≤ ca := hT.ca
 have hcb : hs.length ≤ cb := hT.cb
 have ha : ∀ h ∈ hs, h.2.2.2.l.length ≤ 1000000 := hT.ha
 have hT0 : checkT (trOf cs hs) = 0 := hT.ok
 have hok : TrOK (trOf cs hs) := tr_ok hT0
 clear hT
 have h6 : cs.length ≤ 6 := hok.c6
 have h6h := hok.h6
 have hln := hs_len cs hs
 rw [hln] at h6h
 have hcl : ∀ i, i < cs.length → ClsOK cs i := hok.c
 refine r_alloc rfl (fun _ => T.al_api_Trades _) fun gT => ?_
 refine r_storeS (cs := #[.slice CA cs.length ca, .slice HB hs.length cb]) rfl rfl (.refl _) T.sz_api_Trades (by rfl) (by rfl) ?_
 refine hl_nil (then_n (hc_seq (hc_letgoB (hc_region ?_))))
 refine r_loadB rfl T.row_api_Trades T.sz_api_Trades rfl (by repeat constructor) (by rfl) ?_
 refine hl_call F.trade_Circles_cb rfl rfl (trade_Circles_meets (A := CA) (B := HB) (ca := ca) (cb := cb) cs hs hca hcb ha) (hpR := [_]) (List.Perm.refl _) ⟨(by repeat constructor), (by repeat constructor), trivial⟩ fun y hy => ?_
 refine r_move rfl rfl (r_extract rfl rfl rfl (r_extract rfl rfl rfl (r_assign rfl rfl (r_assign rfl rfl (hl_nil (then_n (hc_seq (hc_seq ?_))))))))
 have hE : circlesE (trOf cs hs) = (cirK (hs.map Hd.p) (hs.map Hd.p).length, 0) := by unfold circlesE; rw [if_neg (not_not_intro hT0)]
 have hH : (hs.map Hd.p).length = hs.length := List.length_map ..
 have hS0 := sees_ok hok
 have hS := see_p hok
 have hsne : ∀ k, k < (hs.map Hd.p).length → ¬ ((hs.map Hd.p).getD k default).2.2.1 = (k : Int) := fun k hk => (hok.h k hk).s.2.2
 have hy1 : lsts y.1 = (circlesE (trOf cs hs)).1 := hy
 rw [hE] at hy1
 have hcir := cir_ok hS hy1
 clear hy
 obtain ⟨ps, A9, c9⟩ := y
 simp only at hy1 hcir
 have hp6 : ps.length ≤ 6 := by have h1 := congrArg List.length hy1; rw [lsts, List.length_map] at h1; have := cirK_len (hs.map Hd.p) (hs.map Hd.p).length; omega
 have hl6 : ∀ q, q < ps.length → (ps.getD q default).l.length ≤ 6 := fun q hq => by have := cir_long hcir hq; omega
 refine hc_outer (A := A9) (ps := ps) (by repeat constructor) ?_
 refine hc_outerF (ps := hs) (A := HB) (f := Hd.row) (by repeat constructor) ?_
 refine hc_region (r_move rfl rfl (r_neq rfl rfl rfl (hl_nil (then_n ?_))))
 refine c_dec rfl (fun hb1 => ?_) (fun hb1 => ?_)
 ·exact absurd (by rw [hE]) hb1
 ·have hb1' := hb1; try simp at hb1'
  refine hc_skip (then_n (hc_seq (hc_seq (hc_region (r_assign rfl rfl (hl_nil (then_n (hc_block ?_))))))))
  refine hc_loop (β := Nat) ⟨fun i => i ≤ hs.length, fun i => [(3, .pointer (some ⟨gT, 0, none⟩)), (4, .slice A9 ps.length c9), (6, int i)], fun _ => [], fun _ => [Row A9 (rows ps), Rows2 A9 ps, Row HB (rows hs), Blk gT (.cells #[.slice CA cs.length ca, .slice HB hs.length cb] T.api_Trades (0, 0)), Row CA (rows cs), RowsF HB hs Hd.row]⟩ (fun i => hs.length - i) 0 (Nat.zero_le _) ⟨rfl, rfl, rfl, trivial⟩ (List.nil_sublist _) ⟨(by repeat constructor), (by repeat constructor), (by repeat constructor), (by repeat constructor), (by repeat constructor), (by repeat constructor), trivial⟩ fun i hi => ?_
  simp only at hi
  refine hc_seq (hc_seq (hc_region (r_move rfl rfl ?_)))
  refine r_fieldAddr ⟨_, 1, none⟩ rfl rfl T.fa_api_Trades_1 rfl ?_
  refine r_load rfl T.cell_L_api_Head rfl (cell_blk (by repeat constructor) rfl) ?_
  refine r_len_sl rfl T.u_L_api_Head rfl ?_
  refine r_lss rfl rfl rfl (hl_nil (then_n ?_))
  refine c_dec rfl (fun hb2 => ?_) (fun hb2 => ?_)
  ·have hb2' := hb2; try simp at hb2'
   have hi2 : i < hs.length := by omega
   have hiz : 0 ≤ (i : Int) ∧ (i : Int) < ((hs.map Hd.p).length : Int) := ⟨by omega, by rw [hH]; omega⟩
   have hos1 : (hs.getD i default).2.2.1 = (orb (hs.map Hd.p) (i : Int) 1) := by rw [show (1 : Nat) = 0 + 1 from rfl, orb_succ, orb_zero]; unfold seeZ; rw [if_neg (by omega), Int.toNat_natCast, hd_get hi2]; rfl
   refine hc_skip (then_n (hc_seq (hc_block (hc_seq (hc_region (r_assign rfl rfl (r_assign rfl rfl (hl_nil (then_n (hc_seq (hc_seq ?_)))))))))))
   refine hc_region (r_assign rfl rfl (hl_nil (then_n (hc_block ?_))))
   refine hc_loop (β := Nat × Int × Int) ⟨fun x => x.1 ≤ ps.length ∧ ((x.2.2 = 0 ∧ ∀ q, q < x.1 → (i : Int) ∉ (ps.getD q default).l) ∨ (x.2.2 = 1 ∧ ∃ q, q < x.1 ∧ x.2.1 = (q : Int) ∧ (i : Int) ∈ (ps.getD q default).l)), fun x => [(3, .pointer (some ⟨gT, 0, none⟩)), (4, .slice A9 ps.length c9), (6, int i), (7, int x.2.1), (8, int x.2.2), (9, int x.1)], fun _ => [], fun _ => [Row A9 (rows ps), Rows2 A9 ps, Row HB (rows hs), Blk gT (.cells #[.slice CA cs.length ca, .slice HB hs.length cb] T.api_Trades (0, 0)), Row CA (rows cs), RowsF HB hs Hd.row]⟩ (fun x => ps.length - x.1) (0, -1, 0) ⟨Nat.zero_le _, .inl ⟨rfl, fun q hq => by have hq : q < 0 := hq; omega⟩⟩ ⟨rfl, rfl, rfl, rfl, rfl, rfl, trivial⟩ (List.nil_sublist _) ⟨(by repeat constructor), (by repeat constructor), (by repeat constructor), (by repeat constructor), (by repeat constructor), (by repeat constructor), trivial⟩ fun x hx => ?_
   obtain ⟨c, tin, tm⟩ := x
   obtain ⟨hc, htm⟩ := hx
   simp only at hc htm
   refine hc_seq (hc_seq (hc_region (r_move rfl rfl (r_move rfl rfl ?_))))
   refine r_len_sl rfl T.u_intss rfl ?_
   refine r_lss rfl rfl rfl (hl_nil (then_n ?_))
   refine c_dec rfl (fun hb3 => ?_) (fun hb3 => ?_)
   ·have hb3' := hb3; try simp at hb3'
    have hc2 : c < ps.length := by omega
    have hlc := hl6 c hc2
    have ht01 : tm = 0 ∨ tm = 1 := htm.elim (fun e => .inl e.1) (fun e => .inr e.1)
    refine hc_skip (then_n (hc_seq (hc_block (hc_seq (hc_region (r_move rfl rfl (r_move rfl rfl ?_)))))))
    refine r_elem (α := Sl Int) ps c rfl T.u_intss T.sz_ints rfl rfl rfl (by repeat constructor) rfl hc2 (by decide) ?_
    refine r_load (v := .slice (ps.getD c default).a (ps.getD c default).l.length (ps.getD c default).c) rfl T.cell_ints rfl (cell_row (by repeat constructor) (rows_get0 hc2 rfl)) ?_
    refine r_move rfl rfl ?_
    refine hl_inner (A := A9) (ps := ps) (p := (ps.getD c default)) (by repeat constructor) (getD_mem hc2) ?_
    refine hl_call F.kit_Index_cb rfl rfl (kit_Index_meets (ps.getD c default).l (i : Int) (by omega)) (List.Perm.refl _) ⟨(by repeat constructor), trivial⟩ fun z hz => ?_
    refine r_geq rfl rfl rfl (hl_nil (then_n ?_))
    refine c_dec rfl (fun hb4 => ?_) (fun hb4 => ?_)
    ·have hb4' := hb4; try simp at hb4'
     have hm : (i : Int) ∈ (ps.getD c default).l := hz.1.1 hb4
     refine hc_seq (hc_region (r_move rfl rfl (r_assign rfl rfl (hl_nil (then_n (hc_region (r_move rfl rfl ?_)))))))
     refine r_add (tm + 1) rfl rfl rfl rfl (by unfold I64; omega) ?_
     refine r_assign rfl rfl (hl_nil (inb_n (then_n (hc_region (r_move rfl rfl ?_)))))
     refine r_add _ rfl rfl rfl rfl (by unfold I64; omega) ?_
     refine r_assign rfl rfl (hl_nil ?_)
     exact again _ (c + 1, (c : Int), tm + 1) ⟨by show c + 1 ≤ ps.length; omega, .inr ⟨by rcases htm with e | ⟨_, q, hq, _, hqm⟩; show tm + 1 = 1; rw [e.1]; rfl; exact absurd hm ((hcir.pr q c hq hc2).2 _ hqm), c, Nat.lt_succ_self c, rfl, hm⟩⟩ (by show ps.length - (c + 1) < ps.length - c; omega) ⟨rfl, rfl, rfl, rfl, rfl, rfl, trivial⟩ (List.nil_sublist _) ⟨(by repeat constructor), (by repeat constructor), (by repeat constructor), (by repeat constructor), (by repeat constructor), (by repeat constructor), trivial⟩
    ·have hb4' := hb4; try simp at hb4'
     have hm : ¬ (i : Int) ∈ (ps.getD c default).l := fun e => hb4 (hz.1.2 e)
     refine hc_skip (inb_n (then_n (hc_region (r_move rfl rfl ?_))))
     refine r_add _ rfl rfl rfl rfl (by unfold I64; omega) ?_
     refine r_assign rfl rfl (hl_nil ?_)
     exact again _ (c + 1, tin, tm) ⟨by show c + 1 ≤ ps.length; omega, htm.elim (fun e => .inl ⟨e.1, fun q hq => by rcases Nat.lt_or_ge q c with h1 | h1; exact e.2 q h1; rw [show q = c by have hq : q < c + 1 := hq; omega]; exact hm⟩) (fun e => .inr ⟨e.1, e.2.elim fun q hq => ⟨q, by show q < c + 1; have := hq.1; omega, hq.2⟩⟩)⟩ (by show ps.length - (c + 1) < ps.length - c; omega) ⟨rfl, rfl, rfl, rfl, rfl, rfl, trivial⟩ (List.nil_sublist _) ⟨(by repeat constructor), (by repeat constructor), (by repeat constructor), (by repeat constructor), (by repeat constructor), (by repeat constructor), trivial⟩
   ·have hb3' := hb3; try simp at hb3'
    obtain rfl : c = ps.length := by omega
    refine hc_exit (then_exit (then_exit (inb_hit (then_n (hc_seq (hc_region ?_))))))
    refine r_fieldAddr ⟨_, 1, none⟩ rfl rfl T.fa_api_Trades_1 rfl ?_
    refine r_load rfl T.cell_L_api_Head rfl (cell_blk (by repeat constructor) rfl) ?_
    refine r_move rfl rfl ?_
    refine r_elem (α := Hd) hs i rfl T.u_L_api_Head T.sz_api_Head rfl rfl rfl (by repeat constructor) rfl hi2 (by decide) ?_
    refine r_fieldAddr _ rfl rfl T.fa_api_Head_2 rfl ?_
    refine r_load (v := int (hs.getD i default).2.2.1) rfl T.cell_int rfl (cell_row_f (by repeat constructor) (rows_get hi2 rfl)) ?_
    refine r_assign rfl rfl (hl_nil (then_n (hc_seq (hc_region (r_move rfl rfl ?_)))))
    refine r_buildSlice _ rfl rfl (fun _ => T.bs_ints_1 ..) fun gS => ?_
    refine r_assign rfl rfl (hl_nil (then_n ?_))
    refine hc_cut ⟨fun x : (Nat × Int) × OutC × Hp => ((x.1.2 = (i : Int) ∧ Cyc (hs.map Hd.p) (i : Int) x.1.1) ∨ (¬ x.1.2 = (i : Int) ∧ ∀ j, 1 ≤ j → j ≤ (hs.map Hd.p).length → ¬ (orb (hs.map Hd.p) (i : Int) j) = (i : Int))) ∧ 1 ≤ x.1.1 ∧ x.1.1 ≤ hs.length + 1 ∧ Grow T.int 1 x.2.1.1 (pthN (hs.map Hd.p) (i : Int) x.1.1).length x.2.1.2 (rows (pthN (hs.map Hd.p) (i : Int) x.1.1)) x.2.2, fun x => [(3, .pointer (some ⟨gT, 0, none⟩)), (4, .slice A9 ps.length c9), (6, int i), (7, int tin), (8, int tm), (10, int x.1.2), (11, .slice x.2.1.1 (pthN (hs.map Hd.p) (i : Int) x.1.1).length x.2.1.2)], fun x => x.2.2, fun x => [Row A9 (rows ps), Rows2 A9 ps, Row HB (rows hs), Blk gT (.cells #[.slice CA cs.length ca, .slice HB hs.length cb] T.api_Trades (0, 0)), Row CA (rows cs), RowsF HB hs Hd.row]⟩ ?_ ?_
    ·skip
     refine hc_seq (hc_region (r_assign rfl rfl (hl_nil (then_n (hc_block ?_)))))
     refine hc_loop (β := Nat × OutC × Hp) ⟨fun x => x.1 ≤ hs.length ∧ Grow T.int 1 x.2.1.1 (pthN (hs.map Hd.p) (i : Int) (x.1 + 1)).length x.2.1.2 (rows (pthN (hs.map Hd.p) (i : Int) (x.1 + 1))) x.2.2 ∧ ∀ j, 1 ≤ j → j ≤ x.1 → ¬ (orb (hs.map Hd.p) (i : Int) j) = (i : Int), fun x => [(3, .pointer (some ⟨gT, 0, none⟩)), (4, .slice A9 ps.length c9), (6, int i), (7, int tin), (8, int tm), (10, int (orb (hs.map Hd.p) (i : Int) (x.1 + 1))), (11, .slice x.2.1.1 (pthN (hs.map Hd.p) (i : Int) (x.1 + 1)).length x.2.1.2), (12, int x.1)], fun x => x.2.2, fun _ => [Row A9 (rows ps), Rows2 A9 ps, Row HB (rows hs), Blk gT (.cells #[.slice CA cs.length ca, .slice HB hs.length cb] T.api_Trades (0, 0)), Row CA (rows cs), RowsF HB hs Hd.row]⟩ (fun x => hs.length - x.1) (0, (some ⟨gS, 0, none⟩, 1), [(gS, Obj.cells #[int (i : Int)] T.int (0, 0))]) ⟨Nat.zero_le _, Grow.new (cs := #[int (i : Int)]) (n := 1) rfl (by decide), fun j h1 h2 => by have h2 : j ≤ 0 := h2; omega⟩ ⟨rfl, rfl, rfl, rfl, rfl, congrArg (fun z : Int => some (int z)) hos1, rfl, rfl, trivial⟩ (List.Sublist.refl _) ⟨(by repeat constructor), (by repeat constructor), (by repeat constructor), (by repeat constructor), (by repeat constructor), (by repeat constructor), trivial⟩ fun x hx => ?_
     obtain ⟨r, ⟨da, dc⟩, og2⟩ := x
     obtain ⟨hr, hG2, hne⟩ := hx
     simp only at hr hG2 hne
     have hpn := pthN_len (hs.map Hd.p) (i : Int) (r + 1)
     have hob := orb_bd hS hiz (r + 1)
     rw [hH] at hob
     have hpsc := pthN_succ (hs.map Hd.p) (i : Int) (r + 1)
     refine hc_seq (hc_seq (hc_region (r_move rfl rfl ?_)))
     refine r_fieldAddr ⟨_, 1, none⟩ rfl rfl T.fa_api_Trades_1 rfl ?_
     refine r_load rfl T.cell_L_api_Head rfl (cell_blk (by repeat constructor) rfl) ?_
     refine r_len_sl rfl T.u_L_api_Head rfl ?_
     refine r_lss rfl rfl rfl (r_move rfl rfl ?_)
     refine g_split rfl rfl ?_ ?_
     ·intro hg1; have hg1' := hg1; try simp at hg1'
      have g18_6 : (r : Int) < hs.length := of_decide_eq_true (eq_of_beq hg1)
      refine g_yes rfl rfl hg1 (r_move rfl rfl (g_yes rfl rfl hg1 (r_geq rfl rfl rfl ?_)))
      refine p_t rfl rfl (bt1 hg1) rfl ?_
      refine r_move rfl rfl ?_
      refine g_split rfl rfl ?_ ?_
      ·intro hg2; have hg2' := hg2; try simp at hg2'
       have g18_10 : 0 ≤ (orb (hs.map Hd.p) (i : Int) (r + 1)) := of_decide_eq_true (eq_of_beq hg2)
       refine g_yes rfl rfl hg2 (r_move rfl rfl (g_yes rfl rfl hg2 (r_move rfl rfl (g_yes rfl rfl hg2 (r_neq rfl rfl rfl ?_)))))
       refine p_t rfl rfl (bt1 hg2) rfl ?_
       refine hl_nil (then_n ?_)
       refine c_dec rfl (fun hb5 => ?_) (fun hb5 => ?_)
       ·have hb5' := hb5; try simp at hb5'
        have hosc := orb_succ (hs.map Hd.p) (i : Int) (r + 1)
        unfold seeZ at hosc
        rw [if_neg (by omega), hd_get (by omega)] at hosc
        have hosc2 : (hs.getD (orb (hs.map Hd.p) (i : Int) (r + 1)).toNat default).2.2.1 = (orb (hs.map Hd.p) (i : Int) (r + 1 + 1)) := hosc.symm
        refine hc_skip (then_n (hc_seq (hc_block ?_)))
        refine hc_drawW (og2) ([]) (by rw [List.append_nil]) 11 [10, 3] mixed (by decide) (by decide) (by decide) rfl rfl rfl ?_
        apply hb_ex _ rfl rfl rfl
        ·intro w1
         refine r_move rfl rfl (hl_nil ?_)
         exact qe_done rfl
        apply hb_ex _ rfl rfl rfl
        ·intro w1
         refine r_move rfl rfl (hl_nil ?_)
         exact qe_done rfl
        refine hb_vs ⟨Nat, fun _ => True, fun g => .slice (some ⟨g, 0, none⟩) 1 1, fun g => [Row (some ⟨g, 0, none⟩) (rows [(orb (hs.map Hd.p) (i : Int) (r + 1))])]⟩ rfl rfl rfl ?_ ?_
        ·intro w1
         refine r_buildSlice _ rfl rfl (fun _ => T.bs_ints_1 ..) fun gS => ?_
         refine hl_nil ?_
         refine hq_letgo (rows [(orb (hs.map Hd.p) (i : Int) (r + 1))]) (List.prefix_refl _) ?_
         exact qv_done gS trivial rfl ⟨m0, trivial⟩
        refine hb_wr ⟨OutC × Hp, fun x => Grow T.int 1 x.1.1 (pthN (hs.map Hd.p) (i : Int) (r + 1 + 1)).length x.1.2 (rows (pthN (hs.map Hd.p) (i : Int) (r + 1 + 1))) x.2, fun x => .slice x.1.1 (pthN (hs.map Hd.p) (i : Int) (r + 1 + 1)).length x.1.2, fun _ => [], fun x => x.2⟩ rfl rfl rfl ?_ ?_
        ·intro g9 _; intro w1
         refine r_append ((pthN (hs.map Hd.p) (i : Int) (r + 1)).length + 1) (rows ((pthN (hs.map Hd.p) (i : Int) (r + 1)) ++ [(orb (hs.map Hd.p) (i : Int) (r + 1))])) T.el_ints rfl rfl rfl hG2 (hp' := []) (by rw [List.append_nil]) (Src.row (news := rows [(orb (hs.map Hd.p) (i : Int) (r + 1))]) (m := 1) m0 rfl (rows_one _) (by decide)) rfl (rows_append _ _).symm (by unfold maxLen; omega) (by omega) fun A' c' og' hG' => ?_
         refine hl_nil ?_
         exact qw_done ((A', c'), og') (by show Grow _ _ _ _ _ (rows _) _; rw [hpsc, List.length_append]; exact hG') (fun _ => by rw [hpsc, List.length_append]; rfl) (by rw [List.append_nil]; exact List.Sublist.refl _) trivial
        apply hb_ex _ rfl rfl rfl
        ·intro w1
         refine r_fieldAddr ⟨_, 1, none⟩ rfl rfl T.fa_api_Trades_1 rfl ?_
         refine hl_nil ?_
         exact qe_done rfl
        apply hb_ex _ rfl rfl rfl
        ·intro w1
         refine r_load rfl T.cell_L_api_Head rfl (cell_blk (by repeat constructor) rfl) ?_
         refine hl_nil ?_
         exact qe_done rfl
        apply hb_ex _ rfl rfl rfl
        ·intro w1
         refine r_move rfl rfl (hl_nil ?_)
         exact qe_done rfl
        apply hb_ex _ rfl rfl rfl
        ·intro w1
         refine r_elem (α := Hd) hs (orb (hs.map Hd.p) (i : Int) (r + 1)).toNat rfl T.u_L_api_Head T.sz_api_Head rfl rfl (Int.toNat_of_nonneg g18_10).symm (by repeat constructor) rfl (by omega) (by decide) ?_
         refine hl_nil ?_
         exact qe_done rfl
        apply hb_ex _ rfl rfl rfl
        ·intro w1
         refine r_fieldAddr _ rfl rfl T.fa_api_Head_2 rfl (hl_nil ?_)
         exact qe_done rfl
        apply hb_ex _ rfl rfl rfl
        ·intro w1
         refine r_load (v := int (hs.getD (orb (hs.map Hd.p) (i : Int) (r + 1)).toNat default).2.2.1) rfl T.cell_int rfl (cell_row_f (by repeat constructor) (rows_get (by omega) rfl)) ?_
         refine hl_nil ?_
         exact qe_done rfl
        refine hb_wr ⟨OutC × Hp, fun x => Grow T.int 1 x.1.1 (pthN (hs.map Hd.p) (i : Int) (r + 1 + 1)).length x.1.2 (rows (pthN (hs.map Hd.p) (i : Int) (r + 1 + 1))) x.2, fun x => .slice x.1.1 (pthN (hs.map Hd.p) (i : Int) (r + 1 + 1)).length x.1.2, fun _ => [], fun x => x.2⟩ rfl rfl rfl ?_ ?_
        ·intro x hx; intro w1
         refine r_assign rfl rfl (hl_nil ?_)
         exact qw_done x hx (fun _ => rfl) (List.Sublist.refl _) trivial
        refine hb_nil ⟨rfl, ?_⟩
        clear hG2
        intro _ _ _ _ x6 hG2
        obtain ⟨⟨da, dc⟩, og2⟩ := x6
        simp only at hG2
        refine r_assign rfl rfl (hl_nil (inb_n (then_n (hc_region (r_move rfl rfl ?_)))))
        refine r_add _ rfl rfl rfl rfl (by unfold I64; omega) ?_
        refine r_assign rfl rfl (hl_nil ?_)
        exact again _ (r + 1, (da, dc), og2) ⟨by show r + 1 ≤ hs.length; omega, hG2, fun j h1 h2 => by rcases Nat.lt_or_ge r j with h3 | h3; rw [show j = r + 1 by have h2 : j ≤ r + 1 := h2; omega]; exact hb5; exact hne j h1 h3⟩ (by show hs.length - (r + 1) < hs.length - r; omega) ⟨rfl, rfl, rfl, rfl, rfl, congrArg (fun z : Int => some (int z)) hosc2, rfl, rfl, trivial⟩ (by first | exact List.Sublist.refl _ | (rw [List.append_nil]; exact List.Sublist.refl _)) ⟨(by repeat constructor), (by repeat constructor), (by repeat constructor), (by repeat constructor), (by repeat constructor), (by repeat constructor), trivial⟩
       ·have hb5' := hb5; try simp at hb5'
        refine hc_exit (then_exit (then_exit (inb_hit ?_)))
        exact cut_n _ ((r + 1, (orb (hs.map Hd.p) (i : Int) (r + 1))), (da, dc), og2) ⟨.inl ⟨Classical.not_not.1 hb5, by show 1 ≤ r + 1; omega, Classical.not_not.1 hb5, fun j h1 h2 => hne j h1 (by have h2 : j < r + 1 := h2; omega)⟩, by show 1 ≤ r + 1; omega, by show r + 1 ≤ hs.length + 1; omega, hG2⟩ ⟨rfl, rfl, rfl, rfl, rfl, rfl, rfl, trivial⟩ (by first | exact List.Sublist.refl _ | (rw [List.append_nil]; exact List.Sublist.refl _)) ⟨(by repeat constructor), (by repeat constructor), (by repeat constructor), (by repeat constructor), (by repeat constructor), (by repeat constructor), trivial⟩
      ·intro hg2; have hg2' := hg2; try simp at hg2'
       have g18_10 : ¬ 0 ≤ (orb (hs.map Hd.p) (i : Int) (r + 1)) := of_decide_eq_false (bf2 hg2)
       refine g_no rfl rfl rfl rfl rfl hg2 (g_no rfl rfl rfl rfl rfl hg2 (g_no rfl rfl rfl rfl rfl hg2 ?_))
       refine p_f rfl rfl (bf2 hg2) rfl ?_
       refine hl_nil (then_n (c_f rfl rfl (hc_exit (then_exit (then_exit (inb_hit ?_))))))
       exact cut_n _ ((r + 1, (orb (hs.map Hd.p) (i : Int) (r + 1))), (da, dc), og2) ⟨.inr ⟨by show ¬ (orb (hs.map Hd.p) (i : Int) (r + 1)) = (i : Int); omega, fun j h1 h2 => by rcases Nat.lt_or_ge r j with h3 | h3; rcases Nat.lt_or_ge (r + 1) j with h4 | h4; have h5 := orb_neg (H := (hs.map Hd.p)) (i := (i : Int)) (k := r + 1) (by omega) (j - (r + 2)); rw [show r + 1 + 1 + (j - (r + 2)) = j by omega] at h5; omega; rw [show j = r + 1 by omega]; omega; exact hne j h1 h3⟩, by show 1 ≤ r + 1; omega, by show r + 1 ≤ hs.length + 1; omega, hG2⟩ ⟨rfl, rfl, rfl, rfl, rfl, rfl, rfl, trivial⟩ (by first | exact List.Sublist.refl _ | (rw [List.append_nil]; exact List.Sublist.refl _)) ⟨(by repeat constructor), (by repeat constructor), (by repeat constructor), (by repeat constructor), (by repeat constructor), (by repeat constructor), trivial⟩
     ·intro hg1; have hg1' := hg1; try simp at hg1'
      have g18_6 : ¬ (r : Int) < hs.length := of_decide_eq_false (bf2 hg1)
      refine g_no rfl rfl rfl rfl rfl hg1 (g_no rfl rfl rfl rfl rfl hg1 ?_)
      refine p_f rfl rfl (bf2 hg1) rfl ?_
      refine r_move rfl rfl (g_no rfl rfl rfl rfl rfl rfl (g_no rfl rfl rfl rfl rfl rfl (g_no rfl rfl rfl rfl rfl rfl (p_f rfl rfl rfl rfl (hl_nil (then_n (c_f rfl rfl (hc_exit (then_exit (then_exit (inb_hit ?_)))))))))))
      exact cut_n _ ((r + 1, (orb (hs.map Hd.p) (i : Int) (r + 1))), (da, dc), og2) ⟨.inr ⟨fun e => by have h3 := cyc_le hS hiz (m := r + 1) ⟨by omega, e, fun j h1 h2 => hne j h1 (by omega)⟩; rw [hH] at h3; omega, fun j h1 h2 => hne j h1 (by omega)⟩, by show 1 ≤ r + 1; omega, by show r + 1 ≤ hs.length + 1; omega, hG2⟩ ⟨rfl, rfl, rfl, rfl, rfl, rfl, rfl, trivial⟩ (by first | exact List.Sublist.refl _ | (rw [List.append_nil]; exact List.Sublist.refl _)) ⟨(by repeat constructor), (by repeat constructor), (by repeat constructor), (by repeat constructor), (by repeat constructor), (by repeat constructor), trivial⟩
    ·intro x hx
     obtain ⟨⟨m, z⟩, ⟨A2, c2⟩, og2⟩ := x
     obtain ⟨hcz, hm1, hm6, hG2⟩ := hx
     simp only at hcz hm1 hm6 hG2
     have hpm := pthN_len (hs.map Hd.p) (i : Int) m
     have ht1 : tm = 1 → ∃ q, q < ps.length ∧ tin = (q : Int) ∧ (i : Int) ∈ (ps.getD q default).l := fun e => htm.elim (fun e2 => by rw [e2.1] at e; cases e) (fun e2 => e2.2)
     have hbb : z = (i : Int) ↔ tm = 1 := ⟨fun e => htm.elim (fun e2 => by obtain ⟨q, hq, hqm⟩ := hcir.ex (i : Int) m hiz (hcz.resolve_right (fun e3 => e3.1 e)).2; exact absurd hqm (e2.2 q hq)) (fun e2 => e2.1), fun e => Classical.byContradiction fun hn => by obtain ⟨q, hq, _, hqm⟩ := ht1 e; obtain ⟨m2, hc2, _⟩ := cir_at hS hcir hq hqm; have hle := cyc_le hS hiz hc2; exact (hcz.resolve_left (fun e3 => hn e3.1)).2 m2 hc2.1 hle hc2.2.1⟩
     have ht01 : tm = 0 ∨ tm = 1 := htm.elim (fun e => .inl e.1) (fun e => .inr e.1)
     refine hc_seq (hc_seq (hc_region (r_move rfl rfl (r_move rfl rfl (r_eql rfl rfl rfl (r_move rfl rfl (r_eql rfl rfl rfl (r_bneq rfl T.u_bool rfl rfl ?_))))))))
     rw [show (!(decide (z = (i : Int)) == decide (tm = 1))) = false from by by_cases e : tm = 1; rw [decide_eq_true e, decide_eq_true (hbb.2 e)]; rfl; rw [decide_eq_false e, decide_eq_false (fun e2 => e (hbb.1 e2))]; rfl]
     refine r_move rfl rfl ?_
     refine g_split rfl rfl ?_ ?_
     ·intro hg3; have hg3' := hg3; try simp at hg3'
      refine g_yes rfl rfl hg3 (r_move rfl rfl (g_yes rfl rfl hg3 (r_gtr rfl rfl rfl ?_)))
      refine p_f rfl rfl (bf1 hg3) rfl ?_
      refine hl_nil (then_n ?_)
      refine c_dec rfl (fun hb6 => ?_) (fun hb6 => ?_)
      ·exact absurd hb6 (by omega)
      ·have hb6' := hb6; try simp at hb6'
       refine hc_skip (then_n (hc_seq (hc_region (r_move rfl rfl (r_eql rfl rfl rfl (hl_nil (then_n ?_)))))))
       refine c_dec rfl (fun hb7 => ?_) (fun hb7 => ?_)
       ·have hb7' := hb7; try simp at hb7'
        obtain ⟨q, hq, rfl, hqm⟩ := ht1 hb7
        obtain ⟨m2, hcy2, hql, hqi⟩ := cir_at hS hcir hq hqm
        have hcy := (hcz.resolve_right (fun e => e.1 (hbb.2 hb7))).2
        obtain rfl := cyc_uniq hcy2 hcy
        have hG2c := hG2.le
        have hlq := hl6 q hq
        have hql0 : 0 < (ps.getD q default).l.length := by omega
        refine hc_grown0 hG2 (hc_seq (hc_seq ?_))
        refine hc_draw 24 mixed (by decide) (by decide) rfl rfl ?_
        apply hb_ex _ rfl rfl rfl
        ·intro w1
         refine r_move rfl rfl (hl_nil ?_)
         exact qe_done rfl
        apply hb_ex _ rfl rfl rfl
        ·intro w1
         refine r_move rfl rfl (hl_nil ?_)
         exact qe_done rfl
        apply hb_ex _ rfl rfl rfl
        ·intro w1
         refine r_elem (α := Sl Int) ps q rfl T.u_intss T.sz_ints rfl rfl rfl (by repeat constructor) rfl hq (by decide) ?_
         refine hl_nil ?_
         exact qe_done rfl
        apply hb_ex _ rfl rfl rfl
        ·intro w1
         refine r_load (v := .slice (ps.getD q default).a (ps.getD q default).l.length (ps.getD q default).c) rfl T.cell_ints rfl (cell_row (by repeat constructor) (rows_get0 hq rfl)) ?_
         refine hl_nil ?_
         exact qe_done rfl
        apply hb_ex _ rfl rfl rfl
        ·intro w1
         refine r_len_sl rfl T.u_ints rfl ?_
         refine hl_nil ?_
         exact qe_done rfl
        apply hb_ex _ rfl rfl rfl
        ·intro w1
         refine r_move rfl rfl (hl_nil ?_)
         exact qe_done rfl
        apply hb_ex _ rfl rfl rfl
        ·intro w1
         refine r_len_sl rfl T.u_ints rfl ?_
         refine hl_nil ?_
         exact qe_done rfl
        apply hb_ex _ rfl rfl rfl
        ·intro w1
         refine r_neq rfl rfl rfl (hl_nil ?_)
         exact qe_done rfl
        apply hb_ex _ rfl rfl rfl
        ·intro w1
         refine r_move rfl rfl (hl_nil ?_)
         exact qe_done rfl
        refine hb_split (t := 103) (want := false) rfl ?_ ?_
        ·intro hg4; have hg4' := hg4; try simp at hg4'
         apply hb_ex _ rfl rfl rfl
         ·intro w1
          refine g_yes rfl rfl hg4 (r_move rfl rfl (hl_nil ?_))
          exact qe_done rfl
         apply hb_ex _ rfl rfl rfl
         ·intro w1
          refine g_yes rfl rfl hg4 (r_gtr rfl rfl rfl (hl_nil ?_))
          exact qe_done rfl
         apply hb_ex _ rfl rfl rfl
         ·intro w1
          refine g_yes rfl rfl hg4 (r_move rfl rfl (hl_nil ?_))
          exact qe_done rfl
         refine hb_split (t := 106) (want := true) rfl ?_ ?_
         ·intro hg5; have hg5' := hg5; try simp at hg5'
          have g24_12 : 0 < (q : Int) := of_decide_eq_true (eq_of_beq hg5)
          apply hb_ex _ rfl rfl rfl
          ·intro w1
           refine g_yes rfl rfl hg5 (r_move rfl rfl (hl_nil ?_))
           exact qe_done rfl
          apply hb_ex _ rfl rfl rfl
          ·intro w1
           refine g_yes rfl rfl hg5 (r_move rfl rfl (hl_nil ?_))
           exact qe_done rfl
          apply hb_ex _ rfl rfl rfl
          ·intro w1
           refine g_yes rfl rfl hg5 ?_
           refine r_elem (α := Sl Int) ps q rfl T.u_intss T.sz_ints rfl rfl rfl (by repeat constructor) rfl hq (by decide) ?_
           refine hl_nil ?_
           exact qe_done rfl
          apply hb_ex _ rfl rfl rfl
          ·intro w1
           refine g_yes rfl rfl hg5 ?_
           refine r_load (v := .slice (ps.getD q default).a (ps.getD q default).l.length (ps.getD q default).c) rfl T.cell_ints rfl (cell_row (by repeat constructor) (rows_get0 hq rfl)) ?_
           refine hl_nil ?_
           exact qe_done rfl
          apply hb_ex _ rfl rfl rfl
          ·intro w1
           refine g_yes rfl rfl hg5 ?_
           refine hl_inner (A := A9) (ps := ps) (p := (ps.getD q default)) (by repeat constructor) (getD_mem hq) ?_
           refine r_elem (α := Int) (ps.getD q default).l 0 rfl T.u_ints T.sz_int rfl rfl rfl (by repeat constructor) rfl hql0 (by decide) ?_
           refine hl_nil ?_
           exact qe_done rfl
          apply hb_ex _ rfl rfl rfl
          ·intro w1
           refine g_yes rfl rfl hg5 ?_
           refine hl_inner (A := A9) (ps := ps) (p := (ps.getD q default)) (by repeat constructor) (getD_mem hq) ?_
           refine r_load (v := int ((ps.getD q default).l.getD 0 default)) rfl T.cell_int rfl (cell_row (by repeat constructor) (rows_get0 hql0 rfl)) ?_
           refine hl_nil ?_
           exact qe_done rfl
          apply hb_ex _ rfl rfl rfl
          ·intro w1
           refine g_yes rfl rfl hg5 (r_move rfl rfl (hl_nil ?_))
           exact qe_done rfl
          apply hb_ex _ rfl rfl rfl
          ·intro w1
           refine g_yes rfl rfl hg5 (r_move rfl rfl (hl_nil ?_))
           exact qe_done rfl
          apply hb_ex _ rfl rfl rfl
          ·intro w1
           refine g_yes rfl rfl hg5 ?_
           refine r_sub ((q - 1 : Nat) : Int) rfl rfl rfl (by omega) (by unfold I64; omega) ?_
           refine hl_nil ?_
           exact qe_done rfl
          apply hb_ex _ rfl rfl rfl
          ·intro w1
           refine g_yes rfl rfl hg5 ?_
           refine r_elem (α := Sl Int) ps (q - 1) rfl T.u_intss T.sz_ints rfl rfl rfl (by repeat constructor) rfl (by omega) (by decide) ?_
           refine hl_nil ?_
           exact qe_done rfl
          apply hb_ex _ rfl rfl rfl
          ·intro w1
           refine g_yes rfl rfl hg5 ?_
           refine r_load (v := .slice (ps.getD (q - 1) default).a (ps.getD (q - 1) default).l.length (ps.getD (q - 1) default).c) rfl T.cell_ints rfl (cell_row (by repeat constructor) (rows_get0 (by omega) rfl)) ?_
           refine hl_nil ?_
           exact qe_done rfl
          apply hb_ex _ rfl rfl rfl
          ·intro w1
           refine g_yes rfl rfl hg5 ?_
           refine hl_inner (A := A9) (ps := ps) (p := (ps.getD (q - 1) default)) (by repeat constructor) (getD_mem (by omega)) ?_
           refine hl_call F.law04_first_cb rfl rfl (law04_first_meets (ps.getD (q - 1) default).l (by have := cir_two hS hsne hcir (show q - 1 < ps.length by omega); omega)) (hpR := []) (List.Perm.refl _) ⟨(by repeat constructor), trivial⟩ fun _ _ => ?_
           refine hl_nil ?_
           exact qe_done rfl
          refine hb_nil ⟨rfl, ?_⟩
          refine g_yes rfl rfl hg5 (r_leq rfl rfl rfl (g_yes rfl rfl hg4 ?_))
          refine p_t rfl rfl (bt1 hg5) rfl ?_
          refine p_f rfl rfl (bf1 hg4) rfl ?_
          refine hl_nil (then_n ?_)
          refine c_dec rfl (fun hb8 => ?_) (fun hb8 => ?_)
          ·exact absurd hb8 (Int.not_le.2 (hcir.pr (q - 1) q (by omega) hq).1)
          ·have hb8' := hb8; try simp at hb8'
           refine hc_skip (then_n (hc_seq (hc_region (r_assign rfl rfl (hl_nil (then_n (hc_block ?_)))))))
           refine hc_loop (β := Nat) ⟨fun k => k ≤ m2, fun k => [(3, .pointer (some ⟨gT, 0, none⟩)), (4, .slice A9 ps.length c9), (6, int i), (7, int (q : Int)), (11, .slice A2 (pthN (hs.map Hd.p) (i : Int) m2).length c2), (13, int k)], fun _ => [], fun _ => (Row A2 (rows (pthN (hs.map Hd.p) (i : Int) m2)) :: [Row A9 (rows ps), Rows2 A9 ps, Row HB (rows hs), Blk gT (.cells #[.slice CA cs.length ca, .slice HB hs.length cb] T.api_Trades (0, 0)), Row CA (rows cs), RowsF HB hs Hd.row])⟩ (fun k => m2 - k) 0 (Nat.zero_le _) ⟨rfl, rfl, rfl, rfl, rfl, rfl, trivial⟩ (List.nil_sublist _) ⟨(by repeat constructor), (by repeat constructor), (by repeat constructor), (by repeat constructor), (by repeat constructor), (by repeat constructor), (by repeat constructor), trivial⟩ fun k hk => ?_
           simp only at hk
           refine hc_seq (hc_seq (hc_region (r_move rfl rfl (r_move rfl rfl ?_))))
           refine r_len_sl rfl T.u_ints rfl ?_
           refine r_lss rfl rfl rfl (hl_nil (then_n ?_))
           refine c_dec rfl (fun hb9 => ?_) (fun hb9 => ?_)
           ·have hb9' := hb9; try simp at hb9'
            have hk2 : k < (pthN (hs.map Hd.p) (i : Int) m2).length := by omega
            have hk3 : k < (ps.getD q default).l.length := by omega
            have hpk : ((pthN (hs.map Hd.p) (i : Int) m2).getD k default) ∈ (ps.getD q default).l := (hqi _).2 (getD_mem hk2)
            refine hc_skip (then_n (hc_seq (hc_block (hc_seq ?_))))
            refine hc_draw 29 mixed (by decide) (by decide) rfl rfl ?_
            apply hb_ex _ rfl rfl rfl
            ·intro w1
             refine r_move rfl rfl (hl_nil ?_)
             exact qe_done rfl
            apply hb_ex _ rfl rfl rfl
            ·intro w1
             refine r_move rfl rfl (hl_nil ?_)
             exact qe_done rfl
            apply hb_ex _ rfl rfl rfl
            ·intro w1
             refine r_elem (α := Sl Int) ps q rfl T.u_intss T.sz_ints rfl rfl rfl (by repeat constructor) rfl hq (by decide) ?_
             refine hl_nil ?_
             exact qe_done rfl
            apply hb_ex _ rfl rfl rfl
            ·intro w1
             refine r_load (v := .slice (ps.getD q default).a (ps.getD q default).l.length (ps.getD q default).c) rfl T.cell_ints rfl (cell_row (by repeat constructor) (rows_get0 hq rfl)) ?_
             refine hl_nil ?_
             exact qe_done rfl
            apply hb_ex _ rfl rfl rfl
            ·intro w1
             refine r_move rfl rfl (hl_nil ?_)
             exact qe_done rfl
            apply hb_ex _ rfl rfl rfl
            ·intro w1
             refine r_move rfl rfl (hl_nil ?_)
             exact qe_done rfl
            apply hb_ex _ rfl rfl rfl
            ·intro w1
             refine r_elem (α := Int) (pthN (hs.map Hd.p) (i : Int) m2) k rfl T.u_ints T.sz_int rfl rfl rfl (by repeat constructor) rfl hk2 (by decide) ?_
             refine hl_nil ?_
             exact qe_done rfl
            apply hb_ex _ rfl rfl rfl
            ·intro w1
             refine r_load (v := int ((pthN (hs.map Hd.p) (i : Int) m2).getD k default)) rfl T.cell_int rfl (cell_row (by repeat constructor) (rows_get0 hk2 rfl)) ?_
             refine hl_nil ?_
             exact qe_done rfl
            refine hb_vs ⟨Int, fun z => 0 ≤ z, fun z => int z, fun _ => []⟩ rfl rfl rfl ?_ ?_
            ·intro w1
             refine hl_inner (A := A9) (ps := ps) (p := (ps.getD q default)) (by repeat constructor) (getD_mem hq) ?_
             refine hl_call F.kit_Index_cb rfl rfl (kit_Index_meets (ps.getD q default).l ((pthN (hs.map Hd.p) (i : Int) m2).getD k default) (by omega)) (hpR := []) (List.Perm.refl _) ⟨(by repeat constructor), trivial⟩ fun z2 hz2 => ?_
             refine hl_nil ?_
             exact qv_done z2 (hz2.1.2 hpk) rfl trivial
            apply hb_ex _ rfl rfl rfl
            ·intro z2 hz2; intro w1
             refine r_lss rfl rfl rfl ?_
             have hz2 : 0 ≤ z2 := hz2
             rw [show decide ((z2 : Int) < 0) = false from decide_eq_false (Int.not_lt.2 hz2)]
             refine hl_nil ?_
             exact qe_done rfl
            apply hb_ex _ rfl rfl rfl
            ·intro w1
             refine r_move rfl rfl (hl_nil ?_)
             exact qe_done rfl
            refine hb_split (t := 138) (want := false) rfl ?_ ?_
            ·intro hg6; have hg6' := hg6; try simp at hg6'
             apply hb_ex _ rfl rfl rfl
             ·intro w1
              refine g_yes rfl rfl hg6 (r_move rfl rfl (hl_nil ?_))
              exact qe_done rfl
             apply hb_ex _ rfl rfl rfl
             ·intro w1
              refine g_yes rfl rfl hg6 (r_gtr rfl rfl rfl (hl_nil ?_))
              exact qe_done rfl
             apply hb_ex _ rfl rfl rfl
             ·intro w1
              refine g_yes rfl rfl hg6 (r_move rfl rfl (hl_nil ?_))
              exact qe_done rfl
             refine hb_split (t := 141) (want := true) rfl ?_ ?_
             ·intro hg7; have hg7' := hg7; try simp at hg7'
              have g29_14 : 0 < (k : Int) := of_decide_eq_true (eq_of_beq hg7)
              apply hb_ex _ rfl rfl rfl
              ·intro w1
               refine g_yes rfl rfl hg7 (r_move rfl rfl (hl_nil ?_))
               exact qe_done rfl
              apply hb_ex _ rfl rfl rfl
              ·intro w1
               refine g_yes rfl rfl hg7 (r_move rfl rfl (hl_nil ?_))
               exact qe_done rfl
              apply hb_ex _ rfl rfl rfl
              ·intro w1
               refine g_yes rfl rfl hg7 ?_
               refine r_elem (α := Sl Int) ps q rfl T.u_intss T.sz_ints rfl rfl rfl (by repeat constructor) rfl hq (by decide) ?_
               refine hl_nil ?_
               exact qe_done rfl
              apply hb_ex _ rfl rfl rfl
              ·intro w1
               refine g_yes rfl rfl hg7 ?_
               refine r_load (v := .slice (ps.getD q default).a (ps.getD q default).l.length (ps.getD q default).c) rfl T.cell_ints rfl (cell_row (by repeat constructor) (rows_get0 hq rfl)) ?_
               refine hl_nil ?_
               exact qe_done rfl
              apply hb_ex _ rfl rfl rfl
              ·intro w1
               refine g_yes rfl rfl hg7 (r_move rfl rfl (hl_nil ?_))
               exact qe_done rfl
              apply hb_ex _ rfl rfl rfl
              ·intro w1
               refine g_yes rfl rfl hg7 ?_
               refine hl_inner (A := A9) (ps := ps) (p := (ps.getD q default)) (by repeat constructor) (getD_mem hq) ?_
               refine r_elem (α := Int) (ps.getD q default).l k rfl T.u_ints T.sz_int rfl rfl rfl (by repeat constructor) rfl hk3 (by decide) ?_
               refine hl_nil ?_
               exact qe_done rfl
              apply hb_ex _ rfl rfl rfl
              ·intro w1
               refine g_yes rfl rfl hg7 ?_
               refine hl_inner (A := A9) (ps := ps) (p := (ps.getD q default)) (by repeat constructor) (getD_mem hq) ?_
               refine r_load (v := int ((ps.getD q default).l.getD k default)) rfl T.cell_int rfl (cell_row (by repeat constructor) (rows_get0 hk3 rfl)) ?_
               refine hl_nil ?_
               exact qe_done rfl
              apply hb_ex _ rfl rfl rfl
              ·intro w1
               refine g_yes rfl rfl hg7 (r_move rfl rfl (hl_nil ?_))
               exact qe_done rfl
              apply hb_ex _ rfl rfl rfl
              ·intro w1
               refine g_yes rfl rfl hg7 (r_move rfl rfl (hl_nil ?_))
               exact qe_done rfl
              apply hb_ex _ rfl rfl rfl
              ·intro w1
               refine g_yes rfl rfl hg7 ?_
               refine r_elem (α := Sl Int) ps q rfl T.u_intss T.sz_ints rfl rfl rfl (by repeat constructor) rfl hq (by decide) ?_
               refine hl_nil ?_
               exact qe_done rfl
              apply hb_ex _ rfl rfl rfl
              ·intro w1
               refine g_yes rfl rfl hg7 ?_
               refine r_load (v := .slice (ps.getD q default).a (ps.getD q default).l.length (ps.getD q default).c) rfl T.cell_ints rfl (cell_row (by repeat constructor) (rows_get0 hq rfl)) ?_
               refine hl_nil ?_
               exact qe_done rfl
              apply hb_ex _ rfl rfl rfl
              ·intro w1
               refine g_yes rfl rfl hg7 (r_move rfl rfl (hl_nil ?_))
               exact qe_done rfl
              apply hb_ex _ rfl rfl rfl
              ·intro w1
               refine g_yes rfl rfl hg7 ?_
               refine r_sub ((k - 1 : Nat) : Int) rfl rfl rfl (by omega) (by unfold I64; omega) ?_
               refine hl_nil ?_
               exact qe_done rfl
              apply hb_ex _ rfl rfl rfl
              ·intro w1
               refine g_yes rfl rfl hg7 ?_
               refine hl_inner (A := A9) (ps := ps) (p := (ps.getD q default)) (by repeat constructor) (getD_mem hq) ?_
               refine r_elem (α := Int) (ps.getD q default).l (k - 1) rfl T.u_ints T.sz_int rfl rfl rfl (by repeat constructor) rfl (by omega) (by decide) ?_
               refine hl_nil ?_
               exact qe_done rfl
              apply hb_ex _ rfl rfl rfl
              ·intro w1
               refine g_yes rfl rfl hg7 ?_
               refine hl_inner (A := A9) (ps := ps) (p := (ps.getD q default)) (by repeat constructor) (getD_mem hq) ?_
               refine r_load (v := int ((ps.getD q default).l.getD (k - 1) default)) rfl T.cell_int rfl (cell_row (by repeat constructor) (rows_get0 (by omega) rfl)) ?_
               refine hl_nil ?_
               exact qe_done rfl
              refine hb_nil ⟨rfl, ?_⟩
              intro _ _
              refine g_yes rfl rfl hg7 (r_leq rfl rfl rfl (g_yes rfl rfl hg6 ?_))
              refine p_t rfl rfl (bt1 hg7) rfl ?_
              refine p_f rfl rfl (bf1 hg6) rfl ?_
              refine hl_nil (then_n ?_)
              refine c_dec rfl (fun hb10 => ?_) (fun hb10 => ?_)
              ·exact absurd hb10 (Int.not_le.2 (by have h1 := cir_asc hcir hq (k := k - 1) (by omega); rw [show k - 1 + 1 = k by omega] at h1; exact h1))
              ·have hb10' := hb10; try simp at hb10'
               refine hc_skip (inb_n (then_n (hc_region (r_move rfl rfl ?_))))
               refine r_add _ rfl rfl rfl rfl (by unfold I64; omega) ?_
               refine r_assign rfl rfl (hl_nil ?_)
               exact again _ (k + 1) (by show k + 1 ≤ m2; omega) (by show m2 - (k + 1) < m2 - k; omega) ⟨rfl, rfl, rfl, rfl, rfl, rfl, trivial⟩ (List.nil_sublist _) ⟨(by repeat constructor), (by repeat constructor), (by repeat constructor), (by repeat constructor), (by repeat constructor), (by repeat constructor), (by repeat constructor), trivial⟩
             ·intro hg7; have hg7' := hg7; try simp at hg7'
              have g29_14 : ¬ 0 < (k : Int) := of_decide_eq_false (bf2 hg7)
              apply hb_ex _ rfl rfl rfl
              ·intro w1
               refine g_no rfl rfl rfl rfl rfl hg7 (hl_nil ?_)
               exact qe_done rfl
              apply hb_ex _ rfl rfl rfl
              ·intro w1
               refine g_no rfl rfl rfl rfl rfl hg7 (hl_nil ?_)
               exact qe_done rfl
              apply hb_ex _ rfl rfl rfl
              ·intro w1
               refine g_no rfl rfl rfl rfl rfl hg7 (hl_nil ?_)
               exact qe_done rfl
              apply hb_ex _ rfl rfl rfl
              ·intro w1
               refine g_no rfl rfl rfl rfl rfl hg7 (hl_nil ?_)
               exact qe_done rfl
              apply hb_ex _ rfl rfl rfl
              ·intro w1
               refine g_no rfl rfl rfl rfl rfl hg7 (hl_nil ?_)
               exact qe_done rfl
              apply hb_ex _ rfl rfl rfl
              ·intro w1
               refine g_no rfl rfl rfl rfl rfl hg7 (hl_nil ?_)
               exact qe_done rfl
              apply hb_ex _ rfl rfl rfl
              ·intro w1
               refine g_no rfl rfl rfl rfl rfl hg7 (hl_nil ?_)
               exact qe_done rfl
              apply hb_ex _ rfl rfl rfl
              ·intro w1
               refine g_no rfl rfl rfl rfl rfl hg7 (hl_nil ?_)
               exact qe_done rfl
              apply hb_ex _ rfl rfl rfl
              ·intro w1
               refine g_no rfl rfl rfl rfl rfl hg7 (hl_nil ?_)
               exact qe_done rfl
              apply hb_ex _ rfl rfl rfl
              ·intro w1
               refine g_no rfl rfl rfl rfl rfl hg7 (hl_nil ?_)
               exact qe_done rfl
              apply hb_ex _ rfl rfl rfl
              ·intro w1
               refine g_no rfl rfl rfl rfl rfl hg7 (hl_nil ?_)
               exact qe_done rfl
              apply hb_ex _ rfl rfl rfl
              ·intro w1
               refine g_no rfl rfl rfl rfl rfl hg7 (hl_nil ?_)
               exact qe_done rfl
              apply hb_ex _ rfl rfl rfl
              ·intro w1
               refine g_no rfl rfl rfl rfl rfl hg7 (hl_nil ?_)
               exact qe_done rfl
              apply hb_ex _ rfl rfl rfl
              ·intro w1
               refine g_no rfl rfl rfl rfl rfl hg7 (hl_nil ?_)
               exact qe_done rfl
              apply hb_ex _ rfl rfl rfl
              ·intro w1
               refine g_no rfl rfl rfl rfl rfl hg7 (hl_nil ?_)
               exact qe_done rfl
              refine hb_nil ⟨rfl, ?_⟩
              intro _ _
              refine g_no rfl rfl rfl rfl rfl hg7 (g_yes rfl rfl hg6 ?_)
              refine p_f rfl rfl (bf2 hg7) rfl ?_
              refine p_f rfl rfl (bf1 hg6) rfl ?_
              refine hl_nil (then_n (c_f rfl rfl (hc_skip (inb_n (then_n (hc_region (r_move rfl rfl ?_)))))))
              refine r_add _ rfl rfl rfl rfl (by unfold I64; omega) ?_
              refine r_assign rfl rfl (hl_nil ?_)
              exact again _ (k + 1) (by show k + 1 ≤ m2; omega) (by show m2 - (k + 1) < m2 - k; omega) ⟨rfl, rfl, rfl, rfl, rfl, rfl, trivial⟩ (List.nil_sublist _) ⟨(by repeat constructor), (by repeat constructor), (by repeat constructor), (by repeat constructor), (by repeat constructor), (by repeat constructor), (by repeat constructor), trivial⟩
            ·intro hg6; have hg6' := hg6; try simp at hg6'
           ·have hb9' := hb9; try simp at hb9'
            refine hc_exit (then_exit (then_exit (inb_hit (inb_n (then_n (hc_region (r_move rfl rfl ?_)))))))
            refine r_add _ rfl rfl rfl rfl (by unfold I64; omega) ?_
            refine r_assign rfl rfl (hl_nil ?_)
            exact again _ (i + 1) (by show i + 1 ≤ hs.length; omega) (by show hs.length - (i + 1) < hs.length - i; omega) ⟨rfl, rfl, rfl, trivial⟩ (List.nil_sublist _) ⟨(by repeat constructor), (by repeat constructor), (by repeat constructor), (by repeat constructor), (by repeat constructor), (by repeat constructor), trivial⟩
         ·intro hg5; have hg5' := hg5; try simp at hg5'
          have g24_12 : ¬ 0 < (q : Int) := of_decide_eq_false (bf2 hg5)
          apply hb_ex _ rfl rfl rfl
          ·intro w1
           refine g_no rfl rfl rfl rfl rfl hg5 (hl_nil ?_)
           exact qe_done rfl
          apply hb_ex _ rfl rfl rfl
          ·intro w1
           refine g_no rfl rfl rfl rfl rfl hg5 (hl_nil ?_)
           exact qe_done rfl
          apply hb_ex _ rfl rfl rfl
          ·intro w1
           refine g_no rfl rfl rfl rfl rfl hg5 (hl_nil ?_)
           exact qe_done rfl
          apply hb_ex _ rfl rfl rfl
          ·intro w1
           refine g_no rfl rfl rfl rfl rfl hg5 (hl_nil ?_)
           exact qe_done rfl
          apply hb_ex _ rfl rfl rfl
          ·intro w1
           refine g_no rfl rfl rfl rfl rfl hg5 (hl_nil ?_)
           exact qe_done rfl
          apply hb_ex _ rfl rfl rfl
          ·intro w1
           refine g_no rfl rfl rfl rfl rfl hg5 (hl_nil ?_)
           exact qe_done rfl
          apply hb_ex _ rfl rfl rfl
          ·intro w1
           refine g_no rfl rfl rfl rfl rfl hg5 (hl_nil ?_)
           exact qe_done rfl
          apply hb_ex _ rfl rfl rfl
          ·intro w1
           refine g_no rfl rfl rfl rfl rfl hg5 (hl_nil ?_)
           exact qe_done rfl
          apply hb_ex _ rfl rfl rfl
          ·intro w1
           refine g_no rfl rfl rfl rfl rfl hg5 (hl_nil ?_)
           exact qe_done rfl
          apply hb_ex _ rfl rfl rfl
          ·intro w1
           refine g_no rfl rfl rfl rfl rfl hg5 (hl_nil ?_)
           exact qe_done rfl
          apply hb_ex _ rfl rfl rfl
          ·intro w1
           refine g_no rfl rfl rfl rfl rfl hg5 (hl_nil ?_)
           exact qe_done rfl
          apply hb_ex _ rfl rfl rfl
          ·intro w1
           refine g_no rfl rfl rfl rfl rfl hg5 (hl_nil ?_)
           exact qe_done rfl
          refine hb_nil ⟨rfl, ?_⟩
          refine g_no rfl rfl rfl rfl rfl hg5 (g_yes rfl rfl hg4 ?_)
          refine p_f rfl rfl (bf2 hg5) rfl ?_
          refine p_f rfl rfl (bf1 hg4) rfl ?_
          refine hl_nil (then_n (c_f rfl rfl (hc_skip (then_n (hc_seq (hc_region (r_assign rfl rfl (hl_nil (then_n (hc_block ?_))))))))))
          refine hc_loop (β := Nat) ⟨fun k => k ≤ m2, fun k => [(3, .pointer (some ⟨gT, 0, none⟩)), (4, .slice A9 ps.length c9), (6, int i), (7, int (q : Int)), (11, .slice A2 (pthN (hs.map Hd.p) (i : Int) m2).length c2), (13, int k)], fun _ => [], fun _ => (Row A2 (rows (pthN (hs.map Hd.p) (i : Int) m2)) :: [Row A9 (rows ps), Rows2 A9 ps, Row HB (rows hs), Blk gT (.cells #[.slice CA cs.length ca, .slice HB hs.length cb] T.api_Trades (0, 0)), Row CA (rows cs), RowsF HB hs Hd.row])⟩ (fun k => m2 - k) 0 (Nat.zero_le _) ⟨rfl, rfl, rfl, rfl, rfl, rfl, trivial⟩ (List.nil_sublist _) ⟨(by repeat constructor), (by repeat constructor), (by repeat constructor), (by repeat constructor), (by repeat constructor), (by repeat constructor), (by repeat constructor), trivial⟩ fun k hk => ?_
          simp only at hk
          refine hc_seq (hc_seq (hc_region (r_move rfl rfl (r_move rfl rfl ?_))))
          refine r_len_sl rfl T.u_ints rfl ?_
          refine r_lss rfl rfl rfl (hl_nil (then_n ?_))
          refine c_dec rfl (fun hb9 => ?_) (fun hb9 => ?_)
          ·have hb9' := hb9; try simp at hb9'
           have hk2 : k < (pthN (hs.map Hd.p) (i : Int) m2).length := by omega
           have hk3 : k < (ps.getD q default).l.length := by omega
           have hpk : ((pthN (hs.map Hd.p) (i : Int) m2).getD k default) ∈ (ps.getD q default).l := (hqi _).2 (getD_mem hk2)
           refine hc_skip (then_n (hc_seq (hc_block (hc_seq ?_))))
           refine hc_draw 29 mixed (by decide) (by decide) rfl rfl ?_
           apply hb_ex _ rfl rfl rfl
           ·intro w1
            refine r_move rfl rfl (hl_nil ?_)
            exact qe_done rfl
           apply hb_ex _ rfl rfl rfl
           ·intro w1
            refine r_move rfl rfl (hl_nil ?_)
            exact qe_done rfl
           apply hb_ex _ rfl rfl rfl
           ·intro w1
            refine r_elem (α := Sl Int) ps q rfl T.u_intss T.sz_ints rfl rfl rfl (by repeat constructor) rfl hq (by decide) ?_
            refine hl_nil ?_
            exact qe_done rfl
           apply hb_ex _ rfl rfl rfl
           ·intro w1
            refine r_load (v := .slice (ps.getD q default).a (ps.getD q default).l.length (ps.getD q default).c) rfl T.cell_ints rfl (cell_row (by repeat constructor) (rows_get0 hq rfl)) ?_
            refine hl_nil ?_
            exact qe_done rfl
           apply hb_ex _ rfl rfl rfl
           ·intro w1
            refine r_move rfl rfl (hl_nil ?_)
            exact qe_done rfl
           apply hb_ex _ rfl rfl rfl
           ·intro w1
            refine r_move rfl rfl (hl_nil ?_)
            exact qe_done rfl
           apply hb_ex _ rfl rfl rfl
           ·intro w1
            refine r_elem (α := Int) (pthN (hs.map Hd.p) (i : Int) m2) k rfl T.u_ints T.sz_int rfl rfl rfl (by repeat constructor) rfl hk2 (by decide) ?_
            refine hl_nil ?_
            exact qe_done rfl
           apply hb_ex _ rfl rfl rfl
           ·intro w1
            refine r_load (v := int ((pthN (hs.map Hd.p) (i : Int) m2).getD k default)) rfl T.cell_int rfl (cell_row (by repeat constructor) (rows_get0 hk2 rfl)) ?_
            refine hl_nil ?_
            exact qe_done rfl
           refine hb_vs ⟨Int, fun z => 0 ≤ z, fun z => int z, fun _ => []⟩ rfl rfl rfl ?_ ?_
           ·intro w1
            refine hl_inner (A := A9) (ps := ps) (p := (ps.getD q default)) (by repeat constructor) (getD_mem hq) ?_
            refine hl_call F.kit_Index_cb rfl rfl (kit_Index_meets (ps.getD q default).l ((pthN (hs.map Hd.p) (i : Int) m2).getD k default) (by omega)) (hpR := []) (List.Perm.refl _) ⟨(by repeat constructor), trivial⟩ fun z2 hz2 => ?_
            refine hl_nil ?_
            exact qv_done z2 (hz2.1.2 hpk) rfl trivial
           apply hb_ex _ rfl rfl rfl
           ·intro z2 hz2; intro w1
            refine r_lss rfl rfl rfl ?_
            have hz2 : 0 ≤ z2 := hz2
            rw [show decide ((z2 : Int) < 0) = false from decide_eq_false (Int.not_lt.2 hz2)]
            refine hl_nil ?_
            exact qe_done rfl
           apply hb_ex _ rfl rfl rfl
           ·intro w1
            refine r_move rfl rfl (hl_nil ?_)
            exact qe_done rfl
           refine hb_split (t := 138) (want := false) rfl ?_ ?_
           ·intro hg8; have hg8' := hg8; try simp at hg8'
            apply hb_ex _ rfl rfl rfl
            ·intro w1
             refine g_yes rfl rfl hg8 (r_move rfl rfl (hl_nil ?_))
             exact qe_done rfl
            apply hb_ex _ rfl rfl rfl
            ·intro w1
             refine g_yes rfl rfl hg8 (r_gtr rfl rfl rfl (hl_nil ?_))
             exact qe_done rfl
            apply hb_ex _ rfl rfl rfl
            ·intro w1
             refine g_yes rfl rfl hg8 (r_move rfl rfl (hl_nil ?_))
             exact qe_done rfl
            refine hb_split (t := 141) (want := true) rfl ?_ ?_
            ·intro hg9; have hg9' := hg9; try simp at hg9'
             have g29_14 : 0 < (k : Int) := of_decide_eq_true (eq_of_beq hg9)
             apply hb_ex _ rfl rfl rfl
             ·intro w1
              refine g_yes rfl rfl hg9 (r_move rfl rfl (hl_nil ?_))
              exact qe_done rfl
             apply hb_ex _ rfl rfl rfl
             ·intro w1
              refine g_yes rfl rfl hg9 (r_move rfl rfl (hl_nil ?_))
              exact qe_done rfl
             apply hb_ex _ rfl rfl rfl
             ·intro w1
              refine g_yes rfl rfl hg9 ?_
              refine r_elem (α := Sl Int) ps q rfl T.u_intss T.sz_ints rfl rfl rfl (by repeat constructor) rfl hq (by decide) ?_
              refine hl_nil ?_
              exact qe_done rfl
             apply hb_ex _ rfl rfl rfl
             ·intro w1
              refine g_yes rfl rfl hg9 ?_
              refine r_load (v := .slice (ps.getD q default).a (ps.getD q default).l.length (ps.getD q default).c) rfl T.cell_ints rfl (cell_row (by repeat constructor) (rows_get0 hq rfl)) ?_
              refine hl_nil ?_
              exact qe_done rfl
             apply hb_ex _ rfl rfl rfl
             ·intro w1
              refine g_yes rfl rfl hg9 (r_move rfl rfl (hl_nil ?_))
              exact qe_done rfl
             apply hb_ex _ rfl rfl rfl
             ·intro w1
              refine g_yes rfl rfl hg9 ?_
              refine hl_inner (A := A9) (ps := ps) (p := (ps.getD q default)) (by repeat constructor) (getD_mem hq) ?_
              refine r_elem (α := Int) (ps.getD q default).l k rfl T.u_ints T.sz_int rfl rfl rfl (by repeat constructor) rfl hk3 (by decide) ?_
              refine hl_nil ?_
              exact qe_done rfl
             apply hb_ex _ rfl rfl rfl
             ·intro w1
              refine g_yes rfl rfl hg9 ?_
              refine hl_inner (A := A9) (ps := ps) (p := (ps.getD q default)) (by repeat constructor) (getD_mem hq) ?_
              refine r_load (v := int ((ps.getD q default).l.getD k default)) rfl T.cell_int rfl (cell_row (by repeat constructor) (rows_get0 hk3 rfl)) ?_
              refine hl_nil ?_
              exact qe_done rfl
             apply hb_ex _ rfl rfl rfl
             ·intro w1
              refine g_yes rfl rfl hg9 (r_move rfl rfl (hl_nil ?_))
              exact qe_done rfl
             apply hb_ex _ rfl rfl rfl
             ·intro w1
              refine g_yes rfl rfl hg9 (r_move rfl rfl (hl_nil ?_))
              exact qe_done rfl
             apply hb_ex _ rfl rfl rfl
             ·intro w1
              refine g_yes rfl rfl hg9 ?_
              refine r_elem (α := Sl Int) ps q rfl T.u_intss T.sz_ints rfl rfl rfl (by repeat constructor) rfl hq (by decide) ?_
              refine hl_nil ?_
              exact qe_done rfl
             apply hb_ex _ rfl rfl rfl
             ·intro w1
              refine g_yes rfl rfl hg9 ?_
              refine r_load (v := .slice (ps.getD q default).a (ps.getD q default).l.length (ps.getD q default).c) rfl T.cell_ints rfl (cell_row (by repeat constructor) (rows_get0 hq rfl)) ?_
              refine hl_nil ?_
              exact qe_done rfl
             apply hb_ex _ rfl rfl rfl
             ·intro w1
              refine g_yes rfl rfl hg9 (r_move rfl rfl (hl_nil ?_))
              exact qe_done rfl
             apply hb_ex _ rfl rfl rfl
             ·intro w1
              refine g_yes rfl rfl hg9 ?_
              refine r_sub ((k - 1 : Nat) : Int) rfl rfl rfl (by omega) (by unfold I64; omega) ?_
              refine hl_nil ?_
              exact qe_done rfl
             apply hb_ex _ rfl rfl rfl
             ·intro w1
              refine g_yes rfl rfl hg9 ?_
              refine hl_inner (A := A9) (ps := ps) (p := (ps.getD q default)) (by repeat constructor) (getD_mem hq) ?_
              refine r_elem (α := Int) (ps.getD q default).l (k - 1) rfl T.u_ints T.sz_int rfl rfl rfl (by repeat constructor) rfl (by omega) (by decide) ?_
              refine hl_nil ?_
              exact qe_done rfl
             apply hb_ex _ rfl rfl rfl
             ·intro w1
              refine g_yes rfl rfl hg9 ?_
              refine hl_inner (A := A9) (ps := ps) (p := (ps.getD q default)) (by repeat constructor) (getD_mem hq) ?_
              refine r_load (v := int ((ps.getD q default).l.getD (k - 1) default)) rfl T.cell_int rfl (cell_row (by repeat constructor) (rows_get0 (by omega) rfl)) ?_
              refine hl_nil ?_
              exact qe_done rfl
             refine hb_nil ⟨rfl, ?_⟩
             intro _ _
             refine g_yes rfl rfl hg9 (r_leq rfl rfl rfl (g_yes rfl rfl hg8 ?_))
             refine p_t rfl rfl (bt1 hg9) rfl ?_
             refine p_f rfl rfl (bf1 hg8) rfl ?_
             refine hl_nil (then_n ?_)
             refine c_dec rfl (fun hb10 => ?_) (fun hb10 => ?_)
             ·exact absurd hb10 (Int.not_le.2 (by have h1 := cir_asc hcir hq (k := k - 1) (by omega); rw [show k - 1 + 1 = k by omega] at h1; exact h1))
             ·have hb10' := hb10; try simp at hb10'
              refine hc_skip (inb_n (then_n (hc_region (r_move rfl rfl ?_))))
              refine r_add _ rfl rfl rfl rfl (by unfold I64; omega) ?_
              refine r_assign rfl rfl (hl_nil ?_)
              exact again _ (k + 1) (by show k + 1 ≤ m2; omega) (by show m2 - (k + 1) < m2 - k; omega) ⟨rfl, rfl, rfl, rfl, rfl, rfl, trivial⟩ (List.nil_sublist _) ⟨(by repeat constructor), (by repeat constructor), (by repeat constructor), (by repeat constructor), (by repeat constructor), (by repeat constructor), (by repeat constructor), trivial⟩
            ·intro hg9; have hg9' := hg9; try simp at hg9'
             have g29_14 : ¬ 0 < (k : Int) := of_decide_eq_false (bf2 hg9)
             apply hb_ex _ rfl rfl rfl
             ·intro w1
              refine g_no rfl rfl rfl rfl rfl hg9 (hl_nil ?_)
              exact qe_done rfl
             apply hb_ex _ rfl rfl rfl
             ·intro w1
              refine g_no rfl rfl rfl rfl rfl hg9 (hl_nil ?_)
              exact qe_done rfl
             apply hb_ex _ rfl rfl rfl
             ·intro w1
              refine g_no rfl rfl rfl rfl rfl hg9 (hl_nil ?_)
              exact qe_done rfl
             apply hb_ex _ rfl rfl rfl
             ·intro w1
              refine g_no rfl rfl rfl rfl rfl hg9 (hl_nil ?_)
              exact qe_done rfl
             apply hb_ex _ rfl rfl rfl
             ·intro w1
              refine g_no rfl rfl rfl rfl rfl hg9 (hl_nil ?_)
              exact qe_done rfl
             apply hb_ex _ rfl rfl rfl
             ·intro w1
              refine g_no rfl rfl rfl rfl rfl hg9 (hl_nil ?_)
              exact qe_done rfl
             apply hb_ex _ rfl rfl rfl
             ·intro w1
              refine g_no rfl rfl rfl rfl rfl hg9 (hl_nil ?_)
              exact qe_done rfl
             apply hb_ex _ rfl rfl rfl
             ·intro w1
              refine g_no rfl rfl rfl rfl rfl hg9 (hl_nil ?_)
              exact qe_done rfl
             apply hb_ex _ rfl rfl rfl
             ·intro w1
              refine g_no rfl rfl rfl rfl rfl hg9 (hl_nil ?_)
              exact qe_done rfl
             apply hb_ex _ rfl rfl rfl
             ·intro w1
              refine g_no rfl rfl rfl rfl rfl hg9 (hl_nil ?_)
              exact qe_done rfl
             apply hb_ex _ rfl rfl rfl
             ·intro w1
              refine g_no rfl rfl rfl rfl rfl hg9 (hl_nil ?_)
              exact qe_done rfl
             apply hb_ex _ rfl rfl rfl
             ·intro w1
              refine g_no rfl rfl rfl rfl rfl hg9 (hl_nil ?_)
              exact qe_done rfl
             apply hb_ex _ rfl rfl rfl
             ·intro w1
              refine g_no rfl rfl rfl rfl rfl hg9 (hl_nil ?_)
              exact qe_done rfl
             apply hb_ex _ rfl rfl rfl
             ·intro w1
              refine g_no rfl rfl rfl rfl rfl hg9 (hl_nil ?_)
              exact qe_done rfl
             apply hb_ex _ rfl rfl rfl
             ·intro w1
              refine g_no rfl rfl rfl rfl rfl hg9 (hl_nil ?_)
              exact qe_done rfl
             refine hb_nil ⟨rfl, ?_⟩
             intro _ _
             refine g_no rfl rfl rfl rfl rfl hg9 (g_yes rfl rfl hg8 ?_)
             refine p_f rfl rfl (bf2 hg9) rfl ?_
             refine p_f rfl rfl (bf1 hg8) rfl ?_
             refine hl_nil (then_n (c_f rfl rfl (hc_skip (inb_n (then_n (hc_region (r_move rfl rfl ?_)))))))
             refine r_add _ rfl rfl rfl rfl (by unfold I64; omega) ?_
             refine r_assign rfl rfl (hl_nil ?_)
             exact again _ (k + 1) (by show k + 1 ≤ m2; omega) (by show m2 - (k + 1) < m2 - k; omega) ⟨rfl, rfl, rfl, rfl, rfl, rfl, trivial⟩ (List.nil_sublist _) ⟨(by repeat constructor), (by repeat constructor), (by repeat constructor), (by repeat constructor), (by repeat constructor), (by repeat constructor), (by repeat constructor), trivial⟩
           ·intro hg8; have hg8' := hg8; try simp at hg8'
          ·have hb9' := hb9; try simp at hb9'
           refine hc_exit (then_exit (then_exit (inb_hit (inb_n (then_n (hc_region (r_move rfl rfl ?_)))))))
           refine r_add _ rfl rfl rfl rfl (by unfold I64; omega) ?_
           refine r_assign rfl rfl (hl_nil ?_)
           exact again _ (i + 1) (by show i + 1 ≤ hs.length; omega) (by show hs.length - (i + 1) < hs.length - i; omega) ⟨rfl, rfl, rfl, trivial⟩ (List.nil_sublist _) ⟨(by repeat constructor), (by repeat constructor), (by repeat constructor), (by repeat constructor), (by repeat constructor), (by repeat constructor), trivial⟩
        ·intro hg4; have hg4' := hg4; try simp at hg4'
         exfalso; have hg0 : (decide (¬ (((ps.getD q default).l.length : Nat) : Int) = (((pthN (hs.map Hd.p) (i : Int) m2).length : Nat) : Int)) == false) = false := hg4; rw [decide_eq_false (not_not_intro (by rw [hql, hpm]))] at hg0; cases hg0
       ·have hb7' := hb7; try simp at hb7'
        refine hc_skip (inb_n (then_n (hc_region (r_move rfl rfl ?_))))
        refine r_add _ rfl rfl rfl rfl (by unfold I64; omega) ?_
        refine r_assign rfl rfl (hl_nil ?_)
        exact again _ (i + 1) (by show i + 1 ≤ hs.length; omega) (by show hs.length - (i + 1) < hs.length - i; omega) ⟨rfl, rfl, rfl, trivial⟩ (List.nil_sublist _) ⟨(by repeat constructor), (by repeat constructor), (by repeat constructor), (by repeat constructor), (by repeat constructor), (by repeat constructor), trivial⟩
     ·intro hg3; have hg3' := hg3; try simp at hg3'
  ·have hb2' := hb2; try simp at hb2'
   refine hc_exit (then_exit (then_exit (inb_hit (then_n (hc_seq (hc_region (r_assign rfl rfl (hl_nil (then_n (hc_seq (hc_seq ?_)))))))))))
   refine hc_region (r_assign rfl rfl (hl_nil (then_n (hc_block ?_))))
   refine hc_loop (β := Nat) ⟨fun c => c ≤ ps.length, fun c => [(3, .pointer (some ⟨gT, 0, none⟩)), (4, .slice A9 ps.length c9), (14, int ((((lsts ps).take c).map List.length).sum : Nat)), (15, int c)], fun _ => [], fun _ => [Row A9 (rows ps), Rows2 A9 ps, Row HB (rows hs), Blk gT (.cells #[.slice CA cs.length ca, .slice HB hs.length cb] T.api_Trades (0, 0)), Row CA (rows cs), RowsF HB hs Hd.row]⟩ (fun c => ps.length - c) 0 (Nat.zero_le _) ⟨rfl, rfl, rfl, rfl, trivial⟩ (List.nil_sublist _) ⟨(by repeat constructor), (by repeat constructor), (by repeat constructor), (by repeat constructor), (by repeat constructor), (by repeat constructor), trivial⟩ fun c hc => ?_
   simp only at hc
   refine hc_seq (hc_seq (hc_region (r_move rfl rfl (r_move rfl rfl ?_))))
   refine r_len_sl rfl T.u_intss rfl ?_
   refine r_lss rfl rfl rfl (hl_nil (then_n ?_))
   refine c_dec rfl (fun hb11 => ?_) (fun hb11 => ?_)
   ·have hb11' := hb11; try simp at hb11'
    have hc2 : c < ps.length := by omega
    have hts := tot_succ hc2
    have htt := hcir.tot (c + 1) (by omega)
    rw [hts, hH] at htt
    have hc22 := cir_two hS hsne hcir hc2
    refine hc_skip (then_n (hc_seq (hc_block (hc_seq (hc_region (r_move rfl rfl (r_move rfl rfl (r_move rfl rfl ?_))))))))
    refine r_elem (α := Sl Int) ps c rfl T.u_intss T.sz_ints rfl rfl rfl (by repeat constructor) rfl hc2 (by decide) ?_
    refine r_load (v := .slice (ps.getD c default).a (ps.getD c default).l.length (ps.getD c default).c) rfl T.cell_ints rfl (cell_row (by repeat constructor) (rows_get0 hc2 rfl)) ?_
    refine r_len_sl rfl T.u_ints rfl ?_
    refine r_add (((((lsts ps).take (c + 1)).map List.length).sum : Nat) : Int) rfl rfl rfl (by rw [hts]; rfl) (by unfold I64; omega) ?_
    refine r_assign rfl rfl (hl_nil (then_n (hc_seq (hc_region (r_move rfl rfl (r_move rfl rfl ?_))))))
    refine r_elem (α := Sl Int) ps c rfl T.u_intss T.sz_ints rfl rfl rfl (by repeat constructor) rfl hc2 (by decide) ?_
    refine r_load (v := .slice (ps.getD c default).a (ps.getD c default).l.length (ps.getD c default).c) rfl T.cell_ints rfl (cell_row (by repeat constructor) (rows_get0 hc2 rfl)) ?_
    refine r_len_sl rfl T.u_ints rfl ?_
    refine r_lss rfl rfl rfl (r_move rfl rfl ?_)
    refine g_split rfl rfl ?_ ?_
    ·intro hg10; have hg10' := hg10; try simp at hg10'
     refine g_yes rfl rfl hg10 (r_move rfl rfl (g_yes rfl rfl hg10 ?_))
     refine r_fieldAddr ⟨_, 1, none⟩ rfl rfl T.fa_api_Trades_1 rfl ?_
     refine g_yes rfl rfl hg10 ?_
     refine r_load rfl T.cell_L_api_Head rfl (cell_blk (by repeat constructor) rfl) ?_
     refine g_yes rfl rfl hg10 ?_
     refine r_len_sl rfl T.u_L_api_Head rfl ?_
     refine g_yes rfl rfl hg10 (r_gtr rfl rfl rfl ?_)
     refine p_f rfl rfl (bf1 hg10) rfl ?_
     refine hl_nil (then_n ?_)
     refine c_dec rfl (fun hb12 => ?_) (fun hb12 => ?_)
     ·exact absurd hb12 (by rw [hts]; omega)
     ·have hb12' := hb12; try simp at hb12'
      refine hc_skip (inb_n (then_n (hc_region (r_move rfl rfl ?_))))
      refine r_add _ rfl rfl rfl rfl (by unfold I64; omega) ?_
      refine r_assign rfl rfl (hl_nil ?_)
      exact again _ (c + 1) (by show c + 1 ≤ ps.length; omega) (by show ps.length - (c + 1) < ps.length - c; omega) ⟨rfl, rfl, rfl, rfl, trivial⟩ (List.nil_sublist _) ⟨(by repeat constructor), (by repeat constructor), (by repeat constructor), (by repeat constructor), (by repeat constructor), (by repeat constructor), trivial⟩
    ·intro hg10; have hg10' := hg10; try simp at hg10'
     exfalso; have hg0 : (decide ((((ps.getD c default).l.length : Nat) : Int) < 2) == false) = false := hg10; rw [decide_eq_false (by omega)] at hg0; cases hg0
   ·have hb11' := hb11; try simp at hb11'
    refine hc_exit (then_exit (then_exit (inb_hit (then_n (hc_seq (hc_region ?_))))))
    refine hl_call F.law04_indexed_cb rfl rfl (law04_indexed_meets) (List.Perm.refl _) trivial fun _ _ => ?_
    refine r_assign rfl rfl (hl_nil (then_n (hc_ret ?_)))
    exact ret1 () rfl rfl rfl trivial (List.nil_sublist _) trivial

end Go.Proofs.YtlpgheniajdkfaaGreat
