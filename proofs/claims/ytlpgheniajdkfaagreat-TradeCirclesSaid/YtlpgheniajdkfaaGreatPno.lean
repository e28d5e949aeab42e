/- Circles: the walk. -/
import Derived.Test.YtlpgheniajdkfaaGreatPnm
namespace Go.Proofs.YtlpgheniajdkfaaGreat
open Go Go.W
set_option linter.unusedVariables false
set_option linter.unusedSimpArgs false
set_option maxRecDepth 20000
attribute [local irreducible] HL HC HQ HB Row Rows2 Blk Facts


set_option maxHeartbeats 1000000 in
theorem trade_list_circles_meets {A B oa ka : Option Addr} {ca cb oc kc gl : Nat} (cs : List Cl) (hs : List Hd) (hok : TrOK (trOf cs hs)) : Meets Tryz.prog F.trade_list_circles [.pointer (some ⟨gl, 0, none⟩)] { LI := [Row (some ⟨gl, 0, none⟩) [.slice A cs.length ca, .slice B hs.length cb, .slice oa cs.length oc, .slice ka hs.length kc], Row ka (rows (kindsN hs hs.length))], inv := fun x : OutS => lsts x.1 = (cirK (hs.map Hd.p) hs.length), val := fun x => .slice x.2.1 x.1.length x.2.2, LO := fun x => [Rows2 x.2.1 x.1] } := by
 refine meets_intro F.trade_list_circles_f rfl (Nat.le_of_ble_eq_true rfl) fun w0 => ?_
 refine hc_seq (hc_region (r_assign rfl rfl (hl_nil (then_n (hc_seq ?_)))))
 have h6h := hok.h6
 have hln := hs_len cs hs
 rw [hln] at h6h
 have hS0 := sees_ok hok
 have hS := see_p hok
 have hH : (hs.map Hd.p).length = hs.length := List.length_map ..
 refine hc_facts (Fs := ([] : List (Sl Int)).map (fun p : Sl Int => Row p.a (rows p.l))) (by intro F hF; simp at hF) ?_
 refine hc_region (r_assign rfl rfl (hl_nil (then_n (hc_seq (hc_seq (hc_region (r_move rfl rfl (r_nilCheck rfl rfl ?_))))))))
 refine r_fieldAddr ⟨_, 3, none⟩ rfl rfl T.fa_trade_list_2 rfl ?_
 refine r_load rfl T.cell_L_trade_kind rfl (cell_rowg (by repeat constructor) rfl) ?_
 refine r_len_sl rfl T.u_L_trade_kind rfl ?_
 refine r_move rfl rfl (hl_nil (then_n (hc_block ?_)))
 refine hc_loop (β := Nat × List (Sl Int) × OutC × Hp) ⟨fun x => x.1 ≤ hs.length ∧ Grow T.ints 1 x.2.2.1.1 x.2.1.length x.2.2.1.2 (rows x.2.1) x.2.2.2 ∧ lsts x.2.1 = (cirK (hs.map Hd.p) x.1), fun x => [(0, .pointer (some ⟨gl, 0, none⟩)), (3, .slice x.2.2.1.1 x.2.1.length x.2.2.1.2), (13, int hs.length), (14, int x.1)], fun x => x.2.2.2, fun x => [Facts (x.2.1.map (fun p : Sl Int => Row p.a (rows p.l))), Row (some ⟨gl, 0, none⟩) [.slice A cs.length ca, .slice B hs.length cb, .slice oa cs.length oc, .slice ka hs.length kc], Row ka (rows (kindsN hs hs.length))]⟩ (fun x => hs.length - x.1) (0, [], (none, 0), []) ⟨Nat.zero_le _, Grow.nil _ _, rfl⟩ ⟨rfl, rfl, rfl, rfl, trivial⟩ (List.nil_sublist _) ⟨(by repeat constructor), (by repeat constructor), (by repeat constructor), trivial⟩ fun x hx => ?_
 obtain ⟨i, ps, ⟨na, nc⟩, og⟩ := x
 obtain ⟨hi, hG, hps⟩ := hx
 simp only at hi hG hps
 have hpl : ps.length ≤ i := by have h1 := congrArg List.length hps; rw [lsts, List.length_map] at h1; have := cirK_len (hs.map Hd.p) i; omega
 refine hc_seq (hc_region (r_lss rfl rfl rfl (hl_nil (then_n (hc_seq ?_)))))
 refine c_dec rfl (fun hb1 => ?_) (fun hb1 => ?_)
 ·have hb1' := hb1; try simp at hb1'
  have hi2 : i < hs.length := by omega
  have hiz : 0 ≤ (i : Int) ∧ (i : Int) < ((hs.map Hd.p).length : Int) := ⟨by omega, by rw [hH]; omega⟩
  refine hc_skip (then_n (hc_seq (hc_block (hc_seq (hc_region (r_move rfl rfl (r_assign rfl rfl (hl_nil (then_n (hc_seq (hc_region ?_)))))))))))
  refine r_assign rfl rfl (hl_nil (then_n (hc_seq (hc_region (r_move rfl rfl (r_assign rfl rfl (hl_nil (then_n ?_))))))))
  refine hc_cut ⟨fun x : (Nat × Int) × OutC × Hp => ((x.1.2 = (i : Int) ∧ Cyc (hs.map Hd.p) (i : Int) x.1.1) ∨ ((x.1.1 = 0 ∨ ¬ x.1.2 = (i : Int)) ∧ ∀ j, 1 ≤ j → j ≤ (hs.map Hd.p).length → ¬ (orb (hs.map Hd.p) (i : Int) j) = (i : Int))) ∧ x.1.1 ≤ hs.length ∧ Grow T.int 1 x.2.1.1 (pthN (hs.map Hd.p) (i : Int) x.1.1).length x.2.1.2 (rows (pthN (hs.map Hd.p) (i : Int) x.1.1)) x.2.2, fun x => [(0, .pointer (some ⟨gl, 0, none⟩)), (3, .slice (na, nc).1 ps.length (na, nc).2), (13, int hs.length), (14, int i), (4, int i), (5, .slice x.2.1.1 (pthN (hs.map Hd.p) (i : Int) x.1.1).length x.2.1.2), (6, int x.1.2)], fun x => x.2.2 ++ og, fun x => [Facts (ps.map (fun p : Sl Int => Row p.a (rows p.l))), Row (some ⟨gl, 0, none⟩) [.slice A cs.length ca, .slice B hs.length cb, .slice oa cs.length oc, .slice ka hs.length kc], Row ka (rows (kindsN hs hs.length))]⟩ ?_ ?_
  ·skip
   refine hc_seq (hc_region (r_move rfl rfl (r_nilCheck rfl rfl ?_)))
   refine r_fieldAddr ⟨_, 3, none⟩ rfl rfl T.fa_trade_list_2 rfl ?_
   refine r_load rfl T.cell_L_trade_kind rfl (cell_rowg (by repeat constructor) rfl) ?_
   refine r_len_sl rfl T.u_L_trade_kind rfl ?_
   refine r_move rfl rfl (hl_nil (then_n (hc_block ?_)))
   refine hc_loop (β := Nat × OutC × Hp) ⟨fun x => x.1 ≤ hs.length ∧ Grow T.int 1 x.2.1.1 (pthN (hs.map Hd.p) (i : Int) x.1).length x.2.1.2 (rows (pthN (hs.map Hd.p) (i : Int) x.1)) x.2.2 ∧ 0 ≤ (orb (hs.map Hd.p) (i : Int) x.1) ∧ ∀ j, 1 ≤ j → j ≤ x.1 → ¬ (orb (hs.map Hd.p) (i : Int) j) = (i : Int), fun x => [(0, .pointer (some ⟨gl, 0, none⟩)), (3, .slice (na, nc).1 ps.length (na, nc).2), (13, int hs.length), (14, int i), (4, int i), (5, .slice x.2.1.1 (pthN (hs.map Hd.p) (i : Int) x.1).length x.2.1.2), (6, int (orb (hs.map Hd.p) (i : Int) x.1)), (22, int hs.length), (23, int x.1)], fun x => x.2.2 ++ og, fun _ => [Facts (ps.map (fun p : Sl Int => Row p.a (rows p.l))), Row (some ⟨gl, 0, none⟩) [.slice A cs.length ca, .slice B hs.length cb, .slice oa cs.length oc, .slice ka hs.length kc], Row ka (rows (kindsN hs hs.length))]⟩ (fun x => hs.length - x.1) (0, (none, 0), []) ⟨Nat.zero_le _, Grow.nil _ _, by show 0 ≤ (i : Int); omega, fun j h1 h2 => by have h2 : j ≤ 0 := h2; omega⟩ ⟨rfl, rfl, rfl, rfl, rfl, rfl, rfl, rfl, rfl, trivial⟩ (List.Sublist.refl _) ⟨(by repeat constructor), (by repeat constructor), (by repeat constructor), trivial⟩ fun x hx => ?_
   obtain ⟨r, ⟨da, dc⟩, og2⟩ := x
   obtain ⟨hr, hG2, h0, hne⟩ := hx
   simp only at hr hG2 h0 hne
   have hpn := pthN_len (hs.map Hd.p) (i : Int) r
   have hob := (orb_bd hS hiz r).2
   rw [hH] at hob
   have hpsc := pthN_succ (hs.map Hd.p) (i : Int) r
   have hosc := orb_succ (hs.map Hd.p) (i : Int) r
   unfold seeZ at hosc
   rw [if_neg (by omega), hd_get (by omega)] at hosc
   refine hc_seq (hc_region (r_lss rfl rfl rfl (hl_nil (then_n (hc_seq ?_)))))
   refine c_dec rfl (fun hb2 => ?_) (fun hb2 => ?_)
   ·have hb2' := hb2; try simp at hb2'
    have hr2 : r < hs.length := by omega
    refine hc_skip (then_n (hc_seq (hc_block (hc_seq (hc_region (r_move rfl rfl (r_nilCheck rfl rfl ?_)))))))
    refine r_fieldAddr ⟨_, 3, none⟩ rfl rfl T.fa_trade_list_2 rfl ?_
    refine r_load rfl T.cell_L_trade_kind rfl (cell_rowg (by repeat constructor) rfl) ?_
    refine r_move rfl rfl ?_
    refine r_elem (α := Kd) (kindsN hs hs.length) (orb (hs.map Hd.p) (i : Int) r).toNat rfl T.u_L_trade_kind T.sz_trade_kind rfl rfl (Int.toNat_of_nonneg h0).symm (by repeat constructor) (kinds_len (Nat.le_refl _)).symm (by rw [kinds_len (Nat.le_refl _)]; omega) (by decide) ?_
    refine r_load (v := Kd.v (kindOf (hs.getD (orb (hs.map Hd.p) (i : Int) r).toNat default))) rfl T.cell_trade_kind rfl (cell_row (by repeat constructor) (rows_get0 (by rw [kinds_len (Nat.le_refl _)]; omega) (by rw [kind_get (by omega)]; rfl))) ?_
    obtain ⟨kd, hkd⟩ : ∃ kd, kd = kindOf (hs.getD (orb (hs.map Hd.p) (i : Int) r).toNat default) := ⟨_, rfl⟩
    refine r_asP (kd := kd) rfl rfl (by subst hkd; rfl) ?_
    refine r_move rfl rfl (r_extract rfl rfl rfl (r_extract rfl rfl rfl ?_))
    refine r_alloc rfl (fun _ => T.al_trade_pointer _) fun g8 => ?_
    refine r_storeS (cs := #[int kd.see]) rfl rfl (.refl _) T.sz_trade_pointer (by rfl) (by rfl) ?_
    refine r_assign rfl rfl (hl_nil (then_n (hc_seq (hc_seq (hc_letgoB (hc_region (r_move rfl rfl (r_not rfl rfl (hl_nil (then_n ?_))))))))))
    refine hc_cond rfl (fun hb3 => ?_) (fun hb3 => ?_)
    ·have hb3' := hb3; try simp at hb3'
     have hp0 : kd.isP = false := by simpa using hb3
     rw [hkd, isP_of, decide_eq_false_iff_not] at hp0
     have hnx : (orb (hs.map Hd.p) (i : Int) (r + 1)) = -1 := by rw [hosc]; exact Classical.not_not.1 hp0
     refine hc_exit (then_exit (inb_miss rfl (then_exit (then_exit (inb_hit ?_)))))
     exact cut_n _ ((r, (orb (hs.map Hd.p) (i : Int) r)), (da, dc), og2) ⟨.inr ⟨by show r = 0 ∨ ¬ (orb (hs.map Hd.p) (i : Int) r) = (i : Int); by_cases e : r = 0; exact .inl e; exact .inr (hne r (by omega) (Nat.le_refl _)), fun j hj1 hj2 => by rcases Nat.lt_or_ge r j with h1 | h1; have h2 := orb_neg (H := (hs.map Hd.p)) (i := (i : Int)) (k := r + 1) (by rw [hnx]; decide) ; rcases Nat.lt_or_ge (r + 1) j with h3 | h3; have h4 := h2 (j - (r + 2)); rw [show r + 1 + 1 + (j - (r + 2)) = j by omega] at h4; omega; rw [show j = r + 1 by omega, hnx]; omega; exact hne j hj1 h1⟩, by show r ≤ hs.length; omega, hG2⟩ ⟨rfl, rfl, rfl, rfl, rfl, rfl, rfl, trivial⟩ (List.Sublist.refl _) ⟨(by repeat constructor), (by repeat constructor), (by repeat constructor), trivial⟩
    ·have hb3' := hb3; try simp at hb3'
     have hp0 : kd.isP = true := by simpa using hb3
     rw [hkd, isP_of, decide_eq_true_eq] at hp0
     have hse : kd.see = (orb (hs.map Hd.p) (i : Int) (r + 1)) := by rw [hkd, see_of hp0, hosc]; rfl
     have hnb := (orb_bd hS hiz (r + 1)).1
     have hnz : 0 ≤ (orb (hs.map Hd.p) (i : Int) (r + 1)) := by rw [hosc] at hnb ⊢; have : ¬ (hs.getD (orb (hs.map Hd.p) (i : Int) r).toNat default).p.2.2.1 = -1 := hp0; omega
     refine hc_skip (then_n (hc_seq ?_))
     refine hc_drawW (og2 ++ og) ([]) (by rw [List.append_nil]) 7 [6, 3] mixed (by decide) (by decide) (by decide) rfl rfl rfl ?_
     apply hb_ex _ rfl rfl rfl
     ·intro w1
      refine r_move rfl rfl (hl_nil ?_)
      exact qe_done rfl
     apply hb_ex _ rfl rfl rfl
     ·intro w1
      refine r_move rfl rfl (hl_nil ?_)
      exact qe_done rfl
     refine hb_vs ⟨Nat, fun _ => True, fun g => .slice (some ⟨g, 0, none⟩) 1 1, fun g => [Row (some ⟨g, 0, none⟩) (rows [(orb (hs.map Hd.p) (i : Int) r)])]⟩ rfl rfl rfl ?_ ?_
     ·intro w1
      refine r_buildSlice _ rfl rfl (fun _ => T.bs_ints_1 ..) fun gS => ?_
      refine hl_nil ?_
      refine hq_letgo (rows [(orb (hs.map Hd.p) (i : Int) r)]) (List.prefix_refl _) ?_
      exact qv_done gS trivial rfl ⟨m0, trivial⟩
     refine hb_wr ⟨OutC × Hp, fun x => Grow T.int 1 x.1.1 (pthN (hs.map Hd.p) (i : Int) (r + 1)).length x.1.2 (rows (pthN (hs.map Hd.p) (i : Int) (r + 1))) x.2, fun x => .slice x.1.1 (pthN (hs.map Hd.p) (i : Int) (r + 1)).length x.1.2, fun _ => [], fun x => x.2 ++ og⟩ rfl rfl rfl ?_ ?_
     ·intro g9 _; intro w1
      refine r_append ((pthN (hs.map Hd.p) (i : Int) r).length + 1) (rows ((pthN (hs.map Hd.p) (i : Int) r) ++ [(orb (hs.map Hd.p) (i : Int) r)])) T.el_ints rfl rfl rfl hG2 (hp' := og) (List.Perm.refl _) (Src.row (news := rows [(orb (hs.map Hd.p) (i : Int) r)]) (m := 1) m0 rfl (rows_one _) (by decide)) rfl (rows_append _ _).symm (by unfold maxLen; omega) (by omega) fun A' c' og' hG' => ?_
      refine hl_nil ?_
      exact qw_done ((A', c'), og') (by show Grow _ _ _ _ _ (rows _) _; rw [hpsc, List.length_append]; exact hG') (fun _ => by rw [hpsc, List.length_append]; rfl) (List.Sublist.refl _) trivial
     apply hb_ex _ rfl rfl rfl
     ·intro w1
      refine r_fieldAddr ⟨_, 0, none⟩ rfl rfl T.fa_trade_pointer_0 rfl ?_
      refine hl_nil ?_
      exact qe_done rfl
     apply hb_ex _ rfl rfl rfl
     ·intro w1
      refine r_load rfl T.cell_int rfl (cell_blk (by repeat constructor) rfl) ?_
      refine hl_nil ?_
      exact qe_done rfl
     refine hb_wr ⟨OutC × Hp, fun x => Grow T.int 1 x.1.1 (pthN (hs.map Hd.p) (i : Int) (r + 1)).length x.1.2 (rows (pthN (hs.map Hd.p) (i : Int) (r + 1))) x.2, fun x => .slice x.1.1 (pthN (hs.map Hd.p) (i : Int) (r + 1)).length x.1.2, fun _ => [], fun x => x.2 ++ og⟩ rfl rfl rfl ?_ ?_
     ·intro x hx; intro w1
      refine r_assign rfl rfl (hl_nil ?_)
      exact qw_done x hx (fun _ => rfl) (List.Sublist.refl _) trivial
     refine hb_nil ⟨rfl, ?_⟩
     clear hG2
     intro _ _ _ _ x6 hG2
     obtain ⟨⟨da, dc⟩, og2⟩ := x6
     simp only at hG2
     refine r_assign rfl rfl (hl_nil (then_n (hc_seq (hc_region (r_move rfl rfl (r_move rfl rfl (r_eql rfl rfl rfl (hl_nil (then_n ?_)))))))))
     refine c_dec rfl (fun hb4 => ?_) (fun hb4 => ?_)
     ·have hb4' := hb4; try simp at hb4'
      rw [hse] at hb4
      refine hc_exit (inb_miss rfl (then_exit (then_exit (inb_hit ?_))))
      exact cut_n _ ((r + 1, (orb (hs.map Hd.p) (i : Int) (r + 1))), (da, dc), og2) ⟨.inl ⟨hb4, by show 1 ≤ r + 1; omega, hb4, fun j h1 h2 => hne j h1 (by have h2 : j < r + 1 := h2; omega)⟩, by show r + 1 ≤ hs.length; omega, hG2⟩ ⟨rfl, rfl, rfl, rfl, rfl, rfl, congrArg (fun z : Int => some (int z)) hse, trivial⟩ (by first | exact List.Sublist.refl _ | (rw [List.append_nil]; exact List.Sublist.refl _)) ⟨(by repeat constructor), (by repeat constructor), (by repeat constructor), trivial⟩
     ·have hb4' := hb4; try simp at hb4'
      rw [hse] at hb4
      refine hc_skip (inb_n (then_n (hc_region ?_)))
      refine r_add _ rfl rfl rfl rfl (by unfold I64; omega) ?_
      refine r_move rfl rfl (hl_nil ?_)
      exact again _ (r + 1, (da, dc), og2) ⟨by show r + 1 ≤ hs.length; omega, hG2, hnz, fun j h1 h2 => by rcases Nat.lt_or_ge r j with h3 | h3; rw [show j = r + 1 by have h2 : j ≤ r + 1 := h2; omega]; exact hb4; exact hne j h1 h3⟩ (by show hs.length - (r + 1) < hs.length - r; omega) ⟨rfl, rfl, rfl, rfl, rfl, rfl, congrArg (fun z : Int => some (int z)) hse, rfl, rfl, trivial⟩ (by first | exact List.Sublist.refl _ | (rw [List.append_nil]; exact List.Sublist.refl _)) ⟨(by repeat constructor), (by repeat constructor), (by repeat constructor), trivial⟩
   ·have hb2' := hb2; try simp at hb2'
    obtain rfl : r = hs.length := by omega
    refine hc_exit (then_exit (then_exit (inb_hit ?_)))
    exact cut_n _ ((hs.length, (orb (hs.map Hd.p) (i : Int) hs.length)), (da, dc), og2) ⟨.inr ⟨.inr (hne hs.length (by omega) (Nat.le_refl _)), fun j h1 h2 => hne j h1 (by omega)⟩, Nat.le_refl _, hG2⟩ ⟨rfl, rfl, rfl, rfl, rfl, rfl, rfl, trivial⟩ (List.Sublist.refl _) ⟨(by repeat constructor), (by repeat constructor), (by repeat constructor), trivial⟩
  ·intro x hx
   obtain ⟨⟨m, z⟩, ⟨A2, c2⟩, og2⟩ := x
   obtain ⟨hcz, hm6, hG2⟩ := hx
   simp only at hcz hm6 hG2
   have hpm := pthN_len (hs.map Hd.p) (i : Int) m
   refine hc_seq (hc_seq (hc_region (r_move rfl rfl ?_)))
   refine r_len_sl rfl T.u_ints rfl ?_
   refine r_eql rfl rfl rfl (r_move rfl rfl ?_)
   refine g_split rfl rfl ?_ ?_
   ·intro hg1; have hg1' := hg1; try simp at hg1'
    have hg0 : (decide ((((pthN (hs.map Hd.p) (i : Int) m).length : Nat) : Int) = 0) == false) = true := hg1
    have hm0 : ¬ m = 0 := by have := of_decide_eq_false (eq_of_beq hg0); omega
    refine g_yes rfl rfl hg1 (r_move rfl rfl (g_yes rfl rfl hg1 (r_move rfl rfl (g_yes rfl rfl hg1 (r_neq rfl rfl rfl ?_)))))
    refine p_f rfl rfl (bf1 hg1) rfl ?_
    refine r_move rfl rfl ?_
    refine g_split rfl rfl ?_ ?_
    ·intro hg2; have hg2' := hg2; try simp at hg2'
     have hg0 : (decide (¬ z = (i : Int)) == false) = true := hg2
     have hzi : z = (i : Int) := Classical.not_not.1 (of_decide_eq_false (eq_of_beq hg0))
     have hcy := (hcz.resolve_right (fun e => e.1.elim hm0 (fun e2 => e2 hzi))).2
     have hat := cirI_at hS hiz hcy
     refine g_yes rfl rfl hg2 (r_move rfl rfl (g_yes rfl rfl hg2 ?_))
     refine hl_call (hpR := og) F.trade_least_int_cb rfl rfl (trade_least_int_meets (pthN (hs.map Hd.p) (i : Int) m) og2 hG2 (by omega) (by omega)) (List.Perm.refl _) trivial fun zl hzl => ?_
     refine g_yes rfl rfl hg2 (r_move rfl rfl (g_yes rfl rfl hg2 (r_neq rfl rfl rfl ?_)))
     refine p_f rfl rfl (bf1 hg2) rfl ?_
     refine hl_nil (then_n ?_)
     refine c_dec rfl (fun hb5 => ?_) (fun hb5 => ?_)
     ·have hb5' := hb5; try simp at hb5'
      have hmn : ¬ minB (i : Int) (pthN (hs.map Hd.p) (i : Int) m) = true := fun e => hb5 ((min_of hcy hzl.1 hzl.2).2 e)
      rw [if_neg hmn] at hat
      refine hc_exit (then_exit (inb_hit (then_n (hc_region ?_))))
      refine r_add _ rfl rfl rfl rfl (by unfold I64; omega) ?_
      refine r_move rfl rfl (hl_nil ?_)
      have hn := cirK_succ (hs.map Hd.p) i
      rw [show cirI (hs.map Hd.p) (i : Int) = none from hat, Option.toList_none, List.append_nil] at hn
      exact again _ (i + 1, ps, (na, nc), og) ⟨by show i + 1 ≤ hs.length; omega, hG, by show lsts ps = _; rw [hps, hn]⟩ (by show hs.length - (i + 1) < hs.length - i; omega) ⟨rfl, rfl, rfl, rfl, trivial⟩ (List.sublist_append_right _ _) ⟨(by repeat constructor), (by repeat constructor), (by repeat constructor), trivial⟩
     ·have hb5' := hb5; try simp at hb5'
      have hmn : minB (i : Int) (pthN (hs.map Hd.p) (i : Int) m) = true := (min_of hcy hzl.1 hzl.2).1 (Classical.not_not.1 hb5)
      rw [if_pos hmn] at hat
      refine hc_skip (then_n (hc_seq (hc_region (r_move rfl rfl ?_))))
      refine hl_call (hpR := og) F.slices_Sort_ints_cb rfl rfl (slices_Sort_ints_meets (pthN (hs.map Hd.p) (i : Int) m) og2 hG2 (by omega)) (List.Perm.refl _) trivial fun x hx => ?_
      clear hG2
      obtain ⟨sl, og3⟩ := x
      obtain ⟨⟨hsp, hss⟩, hG3⟩ := hx
      simp only at hsp hss hG3
      have hsl : sl = (cirL (hs.map Hd.p) (i : Int) m) := cir_sort hS hiz hcy hsp (List.pairwise_iff_getElem.2 fun p q hp hq hpq => by have h1 := hss p q hpq hq; unfold iat at h1; rw [getD_at hp, getD_at hq] at h1; exact Int.not_lt.1 h1)
      have hsn : (pthN (hs.map Hd.p) (i : Int) m).length = (cirL (hs.map Hd.p) (i : Int) m).length := by rw [← hsl]; exact hsp.length_eq.symm
      subst hsl
      have hG3c := hG3.le
      refine hl_grown hG3 (hl_nil (then_n (hc_region (r_move rfl rfl (r_move rfl rfl ?_)))))
      refine r_buildSlice _ rfl rfl (fun _ => T.bs_intss_1 ..) fun gS => ?_
      refine hl_letgo (rows [(⟨A2, c2, (cirL (hs.map Hd.p) (i : Int) m)⟩ : Sl Int)]) (by show [Value.slice A2 (cirL (hs.map Hd.p) (i : Int) m).length c2] <+: [Value.slice A2 (pthN (hs.map Hd.p) (i : Int) m).length c2]; rw [hsn]; exact List.prefix_refl _) ?_
      refine r_append (ps.length + 1) (rows (ps ++ [(⟨A2, c2, (cirL (hs.map Hd.p) (i : Int) m)⟩ : Sl Int)])) T.el_intss rfl rfl rfl hG (hp' := []) (by first | (rw [List.append_nil]; done) | (rw [List.append_nil]; exact List.Perm.refl _)) (Src.row (news := rows [(⟨A2, c2, (cirL (hs.map Hd.p) (i : Int) m)⟩ : Sl Int)]) (m := 1) m0 rfl (rows_one _) (by decide)) rfl (rows_append _ _).symm (by unfold maxLen; omega) (by omega) fun A' c' og' hG' => ?_
      refine r_assign rfl rfl (hl_nil (inb_n (then_n (hc_region ?_))))
      refine r_add _ rfl rfl rfl rfl (by unfold I64; omega) ?_
      refine r_move rfl rfl (hl_nil ?_)
      have hn := cirK_succ (hs.map Hd.p) i
      rw [hat] at hn
      refine hq_facts (innerF_snoc (ps := ps) (f := (fun p : Sl Int => Row p.a (rows p.l))) (p := (⟨A2, c2, (cirL (hs.map Hd.p) (i : Int) m)⟩ : Sl Int)) (by repeat constructor) (by repeat constructor)) ?_
      exact again _ (i + 1, ps ++ [(⟨A2, c2, (cirL (hs.map Hd.p) (i : Int) m)⟩ : Sl Int)], (A', c'), og') ⟨by show i + 1 ≤ hs.length; omega, by show Grow _ _ _ (ps ++ [_]).length _ _ _; rw [List.length_append]; exact hG', by show lsts (ps ++ [_]) = _; rw [hn, lsts, List.map_append, ← hps]; rfl⟩ (by show hs.length - (i + 1) < hs.length - i; omega) ⟨rfl, by show some (Value.slice A' (ps.length + 1) c') = some (Value.slice A' (ps ++ [_]).length c'); rw [List.length_append]; rfl, rfl, rfl, trivial⟩ (List.sublist_append_left _ _) ⟨(by repeat constructor), (by repeat constructor), (by repeat constructor), trivial⟩
    ·intro hg2; have hg2' := hg2; try simp at hg2'
     have hg0 : (decide (¬ z = (i : Int)) == false) = false := hg2
     have hzi : ¬ z = (i : Int) := Classical.byContradiction fun e => by rw [decide_eq_false e] at hg0; cases hg0
     have hno := cirI_no (hcz.resolve_left (fun e => hzi e.1)).2
     refine g_no rfl rfl rfl rfl rfl hg2 (g_no rfl rfl rfl rfl rfl hg2 (g_no rfl rfl rfl rfl rfl hg2 (g_no rfl rfl rfl rfl rfl hg2 ?_)))
     refine p_t rfl rfl (bt2 hg2) rfl ?_
     refine hl_nil (then_n (c_t rfl rfl (hc_exit (then_exit (inb_hit (then_n (hc_region ?_)))))))
     refine r_add _ rfl rfl rfl rfl (by unfold I64; omega) ?_
     refine r_move rfl rfl (hl_nil ?_)
     have hn := cirK_succ (hs.map Hd.p) i
     rw [show cirI (hs.map Hd.p) (i : Int) = none from hno, Option.toList_none, List.append_nil] at hn
     exact again _ (i + 1, ps, (na, nc), og) ⟨by show i + 1 ≤ hs.length; omega, hG, by show lsts ps = _; rw [hps, hn]⟩ (by show hs.length - (i + 1) < hs.length - i; omega) ⟨rfl, rfl, rfl, rfl, trivial⟩ (List.sublist_append_right _ _) ⟨(by repeat constructor), (by repeat constructor), (by repeat constructor), trivial⟩
   ·intro hg1; have hg1' := hg1; try simp at hg1'
    have hg0 : (decide ((((pthN (hs.map Hd.p) (i : Int) m).length : Nat) : Int) = 0) == false) = false := hg1
    have hm1 : (((pthN (hs.map Hd.p) (i : Int) m).length : Nat) : Int) = 0 := Classical.byContradiction fun e => by rw [decide_eq_false e] at hg0; cases hg0
    have hm0 : m = 0 := by omega
    refine g_no rfl rfl rfl rfl rfl hg1 (g_no rfl rfl rfl rfl rfl hg1 (g_no rfl rfl rfl rfl rfl hg1 ?_))
    refine p_t rfl rfl (bt2 hg1) rfl ?_
    refine r_move rfl rfl (g_no rfl rfl rfl rfl rfl rfl (g_no rfl rfl rfl rfl rfl rfl (g_no rfl rfl rfl rfl rfl rfl (g_no rfl rfl rfl rfl rfl rfl (p_t rfl rfl rfl rfl (hl_nil (then_n (c_t rfl rfl (hc_exit (then_exit (inb_hit ?_)))))))))))
    refine then_n (hc_region ?_)
    refine r_add _ rfl rfl rfl rfl (by unfold I64; omega) ?_
    refine r_move rfl rfl (hl_nil ?_)
    have hn := cirK_succ (hs.map Hd.p) i
    rw [show cirI (hs.map Hd.p) (i : Int) = none from cirI_no (hcz.resolve_left (fun e => by have := e.2.1; omega)).2, Option.toList_none, List.append_nil] at hn
    exact again _ (i + 1, ps, (na, nc), og) ⟨by show i + 1 ≤ hs.length; omega, hG, by show lsts ps = _; rw [hps, hn]⟩ (by show hs.length - (i + 1) < hs.length - i; omega) ⟨rfl, rfl, rfl, rfl, trivial⟩ (List.sublist_append_right _ _) ⟨(by repeat constructor), (by repeat constructor), (by repeat constructor), trivial⟩
 ·have hb1' := hb1; try simp at hb1'
  obtain rfl : i = hs.length := by omega
  refine hc_exit (then_exit (then_exit (inb_hit (then_n (hc_seq (hc_region (r_move rfl rfl (r_assign rfl rfl (hl_nil (then_n (hc_ret ?_)))))))))))
  refine hq_grown0 hG ?_
  refine hq_rows2F (A := na) (ps := ps) (by repeat constructor) (by repeat constructor) ?_
  exact ret1 (ps, (na, nc)) rfl rfl rfl hps (List.nil_sublist _) ⟨m0, trivial⟩

end Go.Proofs.YtlpgheniajdkfaaGreat
