/- The walk of the statement ProofWay. -/
import Derived.Test.YtpbbgbjidhffoaaPre
import Derived.Test.YtpbbgbjidhffoaaPqg
import Derived.Test.YtpbbgbjidhffoaaPrb
namespace Go.Proofs.Ytpbbgbjidhffoaa
open Go Go.W
set_option linter.unusedVariables false
set_option linter.unusedSimpArgs false
set_option maxRecDepth 20000
attribute [local irreducible] HL HC HQ HB Row Rows2 Blk Facts


set_option maxHeartbeats 2000000 in
theorem law07_ProofWay_meets {N : Option Addr} {cn : Nat} (nums : List Int) (hn : nums.length ≤ 9223372036854775807) :
    Meets Try.prog F.law07_ProofWay [.slice N nums.length cn] { LI := [Row N (rows nums)], val := fun _ : Unit => .bool true } := by
  refine meets_intro F.law07_ProofWay_f rfl (Nat.le_of_ble_eq_true rfl) fun w0 => ?_
  refine hc_seq ?_
  refine hc_region ?_
  refine r_assign rfl rfl ?_
  refine hl_nil ?_
  refine then_n ?_
  refine hc_seq ?_
  refine hc_region ?_
  refine r_move rfl rfl ?_
  refine hl_call F.kit_NewDice_cb rfl rfl (kit_NewDice_meets nums) (List.Perm.refl _) ⟨m0, trivial⟩ fun gd _ => ?_
  refine r_assign rfl rfl ?_
  refine hl_nil ?_
  refine then_n ?_
  refine hc_seq ?_
  refine hc_region ?_
  refine r_move rfl rfl ?_
  refine hl_call F.kit_PageOf_cb rfl rfl (kit_PageOf_meets 5 hn (dok0 nums) (by omega)) (.refl _) ⟨(by repeat constructor), trivial⟩ fun r hr => ?_
  obtain ⟨s1, x, ox⟩ := r
  obtain ⟨hs1, hxn, hxo, hxc⟩ := hr
  simp only at hxn hxc hxo
  refine r_move rfl rfl ?_
  refine hl_call F.kit_PageOf_cb rfl rfl (kit_PageOf_meets 5 hn hs1 (by omega)) (.refl _) ⟨(by repeat constructor), trivial⟩ fun r hr => ?_
  obtain ⟨s2, y, oy⟩ := r
  obtain ⟨hs2, hyn, hyo, hyc⟩ := hr
  simp only at hyn hyc hyo
  refine r_move rfl rfl ?_
  refine hl_call F.kit_PageOf_cb rfl rfl (kit_PageOf_meets 5 hn hs2 (by omega)) (.refl _) ⟨(by repeat constructor), trivial⟩ fun r hr => ?_
  obtain ⟨s3, z, oz⟩ := r
  obtain ⟨hs3, hzn, hzo, hzc⟩ := hr
  simp only at hzn hzc hzo
  refine r_assign rfl rfl ?_
  refine r_assign rfl rfl ?_
  refine r_assign rfl rfl ?_
  refine hl_nil ?_
  refine then_n ?_
  refine hc_cut ⟨fun q : List Str × OutC => PageOK q.1 ∧ q.1.length ≤ 5, fun q => [(4, .slice ox.1 x.length ox.2), (5, .slice q.2.1 q.1.length q.2.2), (6, .slice oz.1 z.length oz.2)], fun _ => [], fun q => [Row ox.1 (rows x), Row q.2.1 (rows q.1), Row oz.1 (rows z)]⟩ ?_ ?_
  · skip
    refine hc_seq ?_
    refine hc_region ?_
    refine r_move rfl rfl ?_
    refine hl_call F.kit_Dice_Once_cb rfl rfl (kit_Dice_Once_meets (3) hn hs3 (by omega)) (.refl _) ⟨(by repeat constructor), trivial⟩ fun r hr => ?_
    obtain ⟨s4, w4⟩ := r
    obtain ⟨hs4, _⟩ := hr
    refine r_move rfl rfl ?_
    refine g_split rfl rfl ?_ ?_
    · intro hg1; have hg1' := hg1; try simp at hg1'
      refine g_yes rfl rfl (by first | rfl | assumption | exact gy (by assumption) | exact gy2 (by assumption)) ?_
      refine r_move rfl rfl ?_
      refine g_yes rfl rfl (by first | rfl | assumption | exact gy (by assumption) | exact gy2 (by assumption)) ?_
      refine r_len_sl rfl T.u_strs rfl ?_
      refine g_yes rfl rfl (by first | rfl | assumption | exact gy (by assumption) | exact gy2 (by assumption)) ?_
      refine r_gtr rfl rfl rfl ?_
      refine p_t rfl rfl (by first | rfl | assumption | exact bt1 (by assumption) | exact bt2 (by assumption)) rfl ?_
      refine hl_nil ?_
      refine then_n ?_
      first | refine c_dec rfl (fun hb1 => ?_) (fun hb1 => ?_) | refine hc_cond rfl (fun hb1 => ?_) (fun hb1 => ?_)
      · have hb1' := hb1; try simp at hb1'
        refine hc_region ?_
        refine r_move rfl rfl ?_
        refine r_slice_lo 1 rfl T.u_strs T.sz_string rfl rfl rfl (by omega) ?_
        refine r_assign rfl rfl ?_
        refine hl_nil ?_
        refine hq_cut (p := x) (ca := ox.2) 1 x.length (by repeat constructor) hxc ?_
        rw [List.take_length]
        exact cut_n _ (x.drop 1, (cutA ox.1 ox.2 1 1, ox.2 - 1)) ⟨hxo.drop, by rw [List.length_drop]; omega⟩ ⟨rfl, by rw [List.length_drop]; rfl, rfl, trivial⟩ (List.nil_sublist _) ⟨(by repeat constructor), (by repeat constructor), (by repeat constructor), trivial⟩
      · have hb1' := hb1; try simp at hb1'
        refine hc_skip ?_
        exact cut_n _ (y, oy) ⟨hyo, hyn⟩ ⟨rfl, rfl, rfl, trivial⟩ (List.nil_sublist _) ⟨(by repeat constructor), (by repeat constructor), (by repeat constructor), trivial⟩
    · intro hg1; have hg1' := hg1; try simp at hg1'
      refine g_no rfl rfl rfl rfl rfl (by first | rfl | assumption | exact gn (by assumption) | exact gn2 (by assumption)) ?_
      refine g_no rfl rfl rfl rfl rfl (by first | rfl | assumption | exact gn (by assumption) | exact gn2 (by assumption)) ?_
      refine g_no rfl rfl rfl rfl rfl (by first | rfl | assumption | exact gn (by assumption) | exact gn2 (by assumption)) ?_
      refine p_f rfl rfl (by first | rfl | assumption | exact bf1 (by assumption) | exact bf2 (by assumption)) rfl ?_
      refine hl_nil ?_
      refine then_n ?_
      refine c_f rfl (by first | rfl | assumption | exact bf1 (by assumption) | exact bf2 (by assumption)) ?_
      refine hc_skip ?_
      exact cut_n _ (y, oy) ⟨hyo, hyn⟩ ⟨rfl, rfl, rfl, trivial⟩ (List.nil_sublist _) ⟨(by repeat constructor), (by repeat constructor), (by repeat constructor), trivial⟩
  · intro q hq
    obtain ⟨q, oq⟩ := q
    obtain ⟨hqo, hqn⟩ := hq
    simp only at hqo hqn
    have hpx := page_ok hxo (by omega)
    have hpq := page_ok hqo (by omega)
    have hpz := page_ok hzo (by omega)
    have hb1 := common_bd x q
    have hb2 := common_bd q z
    have hb3 := common_bd x z
    refine hc_seq ?_
    refine hc_region ?_
    refine r_move rfl rfl ?_
    refine r_move rfl rfl ?_
    refine hl_call F.law07_price_cb rfl rfl (law07_price_meets x q hpx hpq (page_lines hqo)) (List.Perm.refl _) ⟨(by repeat constructor), (by repeat constructor), trivial⟩ fun _ _ => ?_
    refine r_move rfl rfl ?_
    refine r_extract rfl rfl rfl ?_
    refine r_extract rfl rfl rfl ?_
    refine r_assign rfl rfl ?_
    refine r_assign rfl rfl ?_
    refine hl_nil ?_
    refine then_n ?_
    refine hc_seq ?_
    refine hc_region ?_
    refine r_move rfl rfl ?_
    refine r_move rfl rfl ?_
    refine hl_call F.law07_price_cb rfl rfl (law07_price_meets q z hpq hpz (page_lines hzo)) (List.Perm.refl _) ⟨(by repeat constructor), (by repeat constructor), trivial⟩ fun _ _ => ?_
    refine r_move rfl rfl ?_
    refine r_extract rfl rfl rfl ?_
    refine r_extract rfl rfl rfl ?_
    refine r_assign rfl rfl ?_
    refine r_assign rfl rfl ?_
    refine hl_nil ?_
    refine then_n ?_
    refine hc_seq ?_
    refine hc_region ?_
    refine r_move rfl rfl ?_
    refine r_move rfl rfl ?_
    refine hl_call F.law07_price_cb rfl rfl (law07_price_meets x z hpx hpz (page_lines hzo)) (List.Perm.refl _) ⟨(by repeat constructor), (by repeat constructor), trivial⟩ fun _ _ => ?_
    refine r_move rfl rfl ?_
    refine r_extract rfl rfl rfl ?_
    refine r_extract rfl rfl rfl ?_
    refine r_assign rfl rfl ?_
    refine r_assign rfl rfl ?_
    refine hl_nil ?_
    refine then_n ?_
    refine hc_seq ?_
    refine hc_region ?_
    refine r_move rfl rfl ?_
    refine r_move rfl rfl ?_
    refine g_split rfl rfl ?_ ?_
    · intro hg2; have hg2' := hg2; try simp at hg2'
      refine g_yes rfl rfl (by first | rfl | assumption | exact gy (by assumption) | exact gy2 (by assumption)) ?_
      refine r_move rfl rfl ?_
      refine p_t rfl rfl (by first | rfl | assumption | exact bt1 (by assumption) | exact bt2 (by assumption)) rfl ?_
      refine r_move rfl rfl ?_
      refine g_split rfl rfl ?_ ?_
      · intro hg3; have hg3' := hg3; try simp at hg3'
        refine g_yes rfl rfl (by first | rfl | assumption | exact gy (by assumption) | exact gy2 (by assumption)) ?_
        refine r_move rfl rfl ?_
        refine p_t rfl rfl (by first | rfl | assumption | exact bt1 (by assumption) | exact bt2 (by assumption)) rfl ?_
        refine r_move rfl rfl ?_
        refine g_split rfl rfl ?_ ?_
        · intro hg4; have hg4' := hg4; try simp at hg4'
          refine g_yes rfl rfl (by first | rfl | assumption | exact gy (by assumption) | exact gy2 (by assumption)) ?_
          refine r_move rfl rfl ?_
          refine g_yes rfl rfl (by first | rfl | assumption | exact gy (by assumption) | exact gy2 (by assumption)) ?_
          refine r_move rfl rfl ?_
          refine g_yes rfl rfl (by first | rfl | assumption | exact gy (by assumption) | exact gy2 (by assumption)) ?_
          refine r_move rfl rfl ?_
          refine g_yes rfl rfl (by first | rfl | assumption | exact gy (by assumption) | exact gy2 (by assumption)) ?_
          refine r_add _ rfl rfl rfl rfl (by unfold I64; omega) ?_
          refine g_yes rfl rfl (by first | rfl | assumption | exact gy (by assumption) | exact gy2 (by assumption)) ?_
          refine r_leq rfl rfl rfl ?_
          refine p_t rfl rfl (by first | rfl | assumption | exact bt1 (by assumption) | exact bt2 (by assumption)) rfl ?_
          refine r_move rfl rfl ?_
          refine g_split rfl rfl ?_ ?_
          · intro hg5; have hg5' := hg5; try simp at hg5'
            refine g_yes rfl rfl (by first | rfl | assumption | exact gy (by assumption) | exact gy2 (by assumption)) ?_
            refine r_move rfl rfl ?_
            refine g_yes rfl rfl (by first | rfl | assumption | exact gy (by assumption) | exact gy2 (by assumption)) ?_
            refine r_eql rfl rfl rfl ?_
            refine g_yes rfl rfl (by first | rfl | assumption | exact gy (by assumption) | exact gy2 (by assumption)) ?_
            refine r_move rfl rfl ?_
            refine g_yes rfl rfl (by first | rfl | assumption | exact gy (by assumption) | exact gy2 (by assumption)) ?_
            refine r_move rfl rfl ?_
            refine g_yes rfl rfl (by first | rfl | assumption | exact gy (by assumption) | exact gy2 (by assumption)) ?_
            refine hl_call F.law07_within_cb rfl rfl (law07_within_meets q x (by omega) (by omega)) (List.Perm.refl _) ⟨(by repeat constructor), (by repeat constructor), trivial⟩ fun _ _ => ?_
            refine g_yes rfl rfl (by first | rfl | assumption | exact gy (by assumption) | exact gy2 (by assumption)) ?_
            refine r_beq rfl T.u_bool rfl rfl ?_
            refine p_t rfl rfl (by first | rfl | assumption | exact bt1 (by assumption) | exact bt2 (by assumption)) rfl ?_
            refine r_move rfl rfl ?_
            refine g_split rfl rfl ?_ ?_
            · intro hg6; have hg6' := hg6; try simp at hg6'
              refine g_yes rfl rfl (by first | rfl | assumption | exact gy (by assumption) | exact gy2 (by assumption)) ?_
              refine r_move rfl rfl ?_
              refine g_yes rfl rfl (by first | rfl | assumption | exact gy (by assumption) | exact gy2 (by assumption)) ?_
              refine r_eql rfl rfl rfl ?_
              refine g_yes rfl rfl (by first | rfl | assumption | exact gy (by assumption) | exact gy2 (by assumption)) ?_
              refine r_move rfl rfl ?_
              refine g_yes rfl rfl (by first | rfl | assumption | exact gy (by assumption) | exact gy2 (by assumption)) ?_
              refine r_move rfl rfl ?_
              refine g_yes rfl rfl (by first | rfl | assumption | exact gy (by assumption) | exact gy2 (by assumption)) ?_
              refine hl_call F.law07_within_cb rfl rfl (law07_within_meets z q (by omega) (by omega)) (List.Perm.refl _) ⟨(by repeat constructor), (by repeat constructor), trivial⟩ fun _ _ => ?_
              refine g_yes rfl rfl (by first | rfl | assumption | exact gy (by assumption) | exact gy2 (by assumption)) ?_
              refine r_beq rfl T.u_bool rfl rfl ?_
              refine p_t rfl rfl (by first | rfl | assumption | exact bt1 (by assumption) | exact bt2 (by assumption)) rfl ?_
              refine r_move rfl rfl ?_
              refine g_split rfl rfl ?_ ?_
              · intro hg7; have hg7' := hg7; try simp at hg7'
                refine g_yes rfl rfl (by first | rfl | assumption | exact gy (by assumption) | exact gy2 (by assumption)) ?_
                refine hl_call F.law07_correcting_cb rfl rfl (law07_correcting_meets) (List.Perm.refl _) trivial fun _ _ => ?_
                refine p_t rfl rfl (by first | rfl | assumption | exact bt1 (by assumption) | exact bt2 (by assumption)) rfl ?_
                refine r_assign rfl rfl ?_
                refine hl_nil ?_
                refine then_n ?_
                refine hc_ret ?_
                exact ret1 () rfl rfl rfl trivial (List.nil_sublist _) trivial
              · intro hg7; have hg7' := hg7; try simp at hg7'
                have hz := way_zero q z
                by_cases hc : commonI z q = z.length
                · rw [decide_eq_true (hz.2 hc), decide_eq_true hc] at hg7; cases hg7
                · rw [decide_eq_false (fun h => hc (hz.1 h)), decide_eq_false hc] at hg7; cases hg7
            · intro hg6; have hg6' := hg6; try simp at hg6'
              have hz := way_zero x q
              by_cases hc : commonI q x = q.length
              · rw [decide_eq_true (hz.2 hc), decide_eq_true hc] at hg6; cases hg6
              · rw [decide_eq_false (fun h => hc (hz.1 h)), decide_eq_false hc] at hg6; cases hg6
          · intro hg5; have hg5' := hg5; try simp at hg5'
            have hw := way_tri x q z
            have hg := of_decide_eq_false (bf2 hg5)
            omega
        · intro hg4; have hg4' := hg4; try simp at hg4'
      · intro hg3; have hg3' := hg3; try simp at hg3'
    · intro hg2; have hg2' := hg2; try simp at hg2'

end Go.Proofs.Ytpbbgbjidhffoaa
