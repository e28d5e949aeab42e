/- The walk of the statement ProofFlaws. -/
import Derived.Test.YtpbbgbjidhffoaaPw
namespace Go.Proofs.Ytpbbgbjidhffoaa
open Go Go.W
set_option linter.unusedVariables false
set_option linter.unusedSimpArgs false
set_option maxRecDepth 20000
attribute [local irreducible] HL HC HQ HB Row Rows2 Blk Facts

def oldB (M : List (Sl Str)) (s : Str) (n : Nat) : Bool := (List.range n).any fun y => decide (s ∈ (M.getD y default).l)
def bkL (M : List (Sl Str)) (R q : List Str) (n : Nat) : Bool := (List.range n).any fun k => oldB M (q.getD k default) (M.length - 1) && !decide (q.getD k default ∈ R)
theorem any_range (f : Nat → Bool) (n : Nat) : (List.range (n + 1)).any f = ((List.range n).any f || f n) := by rw [List.range_succ, List.any_append]; simp
theorem flaw_back {M : List (Sl Str)} {R q : List Str} {w : Int × Int} (h : FlawOK M R q w) (h2 : w.1 = 2) : bkL M R q q.length = true := by
  obtain ⟨k, hk, hn, y, hy, hm⟩ := h.back h2
  unfold bkL
  rw [List.any_eq_true]
  refine ⟨k, List.mem_range.2 hk, ?_⟩
  rw [decide_eq_false hn]
  have : oldB M (q.getD k default) (M.length - 1) = true := by
    unfold oldB
    rw [List.any_eq_true]
    exact ⟨y, List.mem_range.2 hy, decide_eq_true hm⟩
  rw [this]; rfl


set_option maxHeartbeats 4000000 in
theorem law07_ProofFlaws_meets {N : Option Addr} {cn : Nat} (nums : List Int) (hn : nums.length ≤ 9223372036854775807) :
    Meets Try.prog F.law07_ProofFlaws [.slice N nums.length cn] { LI := [Row N (rows nums)], val := fun _ : Unit => .bool true } := by
 refine meets_intro F.law07_ProofFlaws_f rfl (Nat.le_of_ble_eq_true rfl) fun w0 => ?_
 refine hc_seq ?_
 refine hc_region ?_
 refine r_assign rfl rfl ?_
 refine hl_nil ?_
 refine then_n ?_
 refine hc_seq ?_
 refine hc_region ?_
 refine r_move rfl rfl ?_
 refine hl_call F.kit_NewDice_cb rfl rfl (kit_NewDice_meets nums) (List.Perm.refl _) ⟨(by repeat constructor), trivial⟩ fun gd _ => ?_
 refine r_assign rfl rfl ?_
 refine hl_nil ?_
 refine then_n ?_
 refine hc_cut ⟨fun z : List (Sl Str) × OutC × (Int × Int) => PagesOK z.1 ∧ 0 < z.1.length ∧ z.1.length ≤ 4 ∧ z.1.length ≤ z.2.1.2 ∧ DOK nums z.2.2, fun z => [(3, .pointer (some ⟨gd, 0, none⟩)), (4, .slice z.2.1.1 z.1.length z.2.1.2)], fun z => [dice gd N cn nums z.2.2], fun z => [Row N (rows nums), Rows2 z.2.1.1 z.1]⟩ ?_ ?_
 ·skip
  refine hc_region ?_
  refine r_move rfl rfl ?_
  refine hl_call F.kit_YearsOf_cb rfl rfl (kit_YearsOf_own 3 hn (dok0 nums) (by omega)) (.refl _) ⟨(by repeat constructor), trivial⟩ fun r hr => ?_
  obtain ⟨s1, py, opy, ogy⟩ := r
  obtain ⟨hs1, hyn, hyo, hyG⟩ := hr
  simp only at hs1 hyn hyo hyG
  refine hl_perm (hp' := dice gd N cn nums s1 :: ogy) (perm_of fun p => by show List.countP p ((ogy ++ [dice gd N cn nums s1]) ++ []) = List.countP p (dice gd N cn nums s1 :: ogy); simp only [List.countP_append, List.countP_cons, List.countP_nil]; omega) ?_
  refine r_move rfl rfl ?_
  refine hl_call F.kit_PageOf_cb rfl rfl (kit_PageOf_meets 4 hn hs1 (by omega)) (hpR := ogy) (.refl _) ⟨(by repeat constructor), trivial⟩ fun r hr => ?_
  obtain ⟨s2, x, ox⟩ := r
  obtain ⟨hs2, hxn, hxo, hxc⟩ := hr
  simp only at hs2 hxn hxo hxc
  refine r_buildSlice _ rfl rfl (fun _ => T.bs_pages_1 ..) fun gS => ?_
  refine r_append (hp' := [(gS, Obj.cells #[.slice ox.1 x.length ox.2] T.strs (0, 0)), dice gd N cn nums s2]) (py.length + 1) (rows (py ++ [(⟨ox.1, ox.2, x⟩ : Sl Str)])) T.el_pages rfl rfl rfl hyG (perm_of fun p => by show List.countP p ((gS, Obj.cells #[.slice ox.1 x.length ox.2] T.strs (0, 0)) :: ([dice gd N cn nums s2] ++ ogy)) = List.countP p (ogy ++ [(gS, Obj.cells #[.slice ox.1 x.length ox.2] T.strs (0, 0)), dice gd N cn nums s2]); simp only [List.countP_append, List.countP_cons, List.countP_nil]; omega) (Src.own (g := gS) (cs := #[.slice ox.1 x.length ox.2]) (m := 1) (List.mem_append_right _ m0) rfl rfl) rfl (rows_append py [(⟨ox.1, ox.2, x⟩ : Sl Str)]).symm (by unfold maxLen; omega) (by omega) fun A' c' og' hG' => ?_
  refine r_assign rfl rfl ?_
  refine hl_facts (inner_snoc (ps := py) (p := (⟨ox.1, ox.2, x⟩ : Sl Str)) (by repeat constructor) (by repeat constructor)) ?_
  refine hl_nil ?_
  refine hq_grown hG' ?_
  refine hq_rows2F (ps := py ++ [(⟨ox.1, ox.2, x⟩ : Sl Str)]) (by repeat constructor) (by repeat constructor) ?_
  exact cut_n _ (py ++ [(⟨ox.1, ox.2, x⟩ : Sl Str)], (A', c'), s2) ⟨hyo.snoc ⟨hxo, by simp only; omega, hxc⟩, by rw [len_snoc]; omega, by rw [len_snoc]; omega, by rw [len_snoc]; exact hG'.le, hs2⟩ ⟨rfl, by rw [len_snoc]; rfl, trivial⟩ (.cons _ (.refl _)) ⟨(by repeat constructor), (by repeat constructor), trivial⟩
 ·intro z hz
  obtain ⟨M, oM, s2⟩ := z
  obtain ⟨hMo, hM0, hM4, hMc, hs2⟩ := hz
  simp only at hMo hM0 hM4 hMc hs2
  have hjM : (M, oM, s2).1.length = M.length := rfl
  have hjM2 : (M, oM, s2).2.1.2 = oM.2 := rfl
  have hlm : lastP M ∈ M := getD_mem (by omega)
  have hl6 := (hMo _ hlm).2.1
  have hye := years_ok hMo hM4
  have hcap : ∀ q ∈ M, q.l.length ≤ q.c := fun q hq => (hMo q hq).2.2
  refine hc_seq ?_
  refine hc_outer (ps := M) (by repeat constructor) ?_
  refine hc_region ?_
  refine r_move rfl rfl ?_
  refine r_move rfl rfl ?_
  refine r_len_sl rfl T.u_pages rfl ?_
  refine r_sub ((M.length - 1 : Nat) : Int) rfl rfl rfl (by omega) (by unfold I64; omega) ?_
  refine r_elem (α := Sl Str) M (M.length - 1) rfl T.u_pages T.sz_strs rfl rfl rfl (by repeat constructor) rfl (by omega) (by decide) ?_
  refine r_load rfl T.cell_strs rfl (cell_row (by repeat constructor) (rows_get0 (by omega) rfl)) ?_
  refine r_assign rfl rfl ?_
  refine hl_nil ?_
  refine then_n ?_
  refine hc_seq ?_
  refine hc_region ?_
  refine r_move rfl rfl ?_
  refine r_move rfl rfl ?_
  refine r_len_sl rfl T.u_strs rfl ?_
  refine hl_call F.kit_MarksOf_cb rfl rfl (kit_MarksOf_meets (lastP M).l.length 3 hn hs2 (by omega)) (.refl _) ⟨(by repeat constructor), trivial⟩ fun r hr => ?_
  obtain ⟨s3, y, oy⟩ := r
  obtain ⟨hs3, hyyn, hyyo, hyyc⟩ := hr
  simp only at hs3 hyyn hyyo hyyc
  refine r_assign rfl rfl ?_
  refine hl_nil ?_
  refine then_n ?_
  refine hc_seq ?_
  have hck := check_ok (page_ok (hMo _ hlm).1 hl6) hyyo (by omega)
  have hlook : ∀ q, ¬ (applyP (lastP M).l y).2 = 0 → lookP M y q = ((0, 0), (applyP (lastP M).l y).2) := fun q h => by rw [lookP, if_neg (not_not_intro hye), if_neg (by omega), if_pos h]
  have hlookv : ∀ q, (applyP (lastP M).l y).2 = 0 → pageErr q = 0 → lookP M y q = (flawV M (applyP (lastP M).l y).1 q, 0) := fun q h1 h2 => look_valid hye (by omega) h1 h2
  have hapo := applied_ok (p := (lastP M).l) (l := y)
  have hR6 := applyP_len (lastP M).l y
  have hap := proof_Apply_meets (A := (lastP M).a) (ca := (lastP M).c) (B := oy.1) (cb := oy.2) (lastP M).l y (hcap _ hlm)
  generalize applyP (lastP M).l y = RE at *
  obtain ⟨R, eR⟩ := RE
  simp only at hlook hlookv hapo hR6
  refine hc_region ?_
  refine r_move rfl rfl ?_
  refine r_move rfl rfl ?_
  refine hl_inner (ps := M) (p := lastP M) (by repeat constructor) hlm ?_
  refine hl_call F.proof_Apply_cb rfl rfl (hap) (hpR := [_]) (.refl _) ⟨(by repeat constructor), (by repeat constructor), trivial⟩ fun oR hoR => ?_
  refine r_move rfl rfl ?_
  refine r_extract rfl rfl rfl ?_
  refine r_extract rfl rfl rfl ?_
  refine r_assign rfl rfl ?_
  refine r_assign rfl rfl ?_
  refine hl_nil ?_
  refine then_n ?_
  refine hc_seq ?_
  refine hc_seq ?_
  refine hc_region ?_
  refine r_move rfl rfl ?_
  refine r_neq rfl rfl rfl ?_
  refine hl_nil ?_
  refine then_n ?_
  first | refine c_dec rfl (fun hb1 => ?_) (fun hb1 => ?_) | refine hc_cond rfl (fun hb1 => ?_) (fun hb1 => ?_)
  ·have hb1' := hb1; try simp at hb1'
   refine hc_seq ?_
   refine hc_region ?_
   refine r_move rfl rfl ?_
   refine r_move rfl rfl ?_
   refine hl_nilrow (α := Str) ?_
   have hlk := proof_Look_meets (A := oM.1) (ca := oM.2) (B := oy.1) (cb := oy.2) (C := none) (cc := 0) M y [] hMc hcap
   rw [hlook _ hb1] at hlk
   refine hl_call (vs := [.slice oM.1 M.length oM.2, .slice oy.1 y.length oy.2, .slice none 0 0]) F.proof_Look_cb rfl rfl (hlk) (hpR := [_]) (.refl _) ⟨(by repeat constructor), (by repeat constructor), (by repeat constructor), trivial⟩ fun _ _ => ?_
   refine r_move rfl rfl ?_
   refine r_extract rfl rfl rfl ?_
   refine r_extract rfl rfl rfl ?_
   refine r_alloc rfl (fun _ => T.al_api_Flaw _) fun gA => ?_
   refine r_storeS rfl rfl (by first | exact .refl _ | exact perm2 _ _ _ | exact perm3 _ _ _ _ | exact perm4 _ _ _ _ _) T.sz_api_Flaw (by rfl) (by rfl) ?_
   refine r_assign rfl rfl ?_
   refine hl_nil ?_
   refine then_n ?_
   refine hc_seq ?_
   refine hc_region ?_
   refine r_move rfl rfl ?_
   refine r_move rfl rfl ?_
   refine r_eql rfl rfl rfl ?_
   refine r_move rfl rfl ?_
   refine g_split rfl rfl ?_ ?_
   ·intro hg1; have hg1' := hg1; try simp at hg1'
    refine g_yes rfl rfl hg1 ?_
    refine hl_call F.law07_correcting_cb rfl rfl (law07_correcting_meets) (List.Perm.refl _) trivial fun _ _ => ?_
    refine p_t rfl rfl (bt1 hg1) rfl ?_
    refine r_assign rfl rfl ?_
    refine hl_nil ?_
    refine then_n ?_
    refine hc_ret ?_
    refine then_ret ?_
    exact ret1 () rfl rfl rfl trivial (List.nil_sublist _) trivial
   ·intro hg1; have hg1' := hg1; try simp at hg1'
  ·have hb1' := hb1; try simp at hb1'
   have hR0 : eR = 0 := Classical.not_not.1 hb1
   subst hR0
   have hRp := hapo rfl
   refine hc_skip ?_
   refine then_n ?_
   refine hc_seq ?_
   refine hc_seq ?_
   refine hc_region ?_
   refine r_move rfl rfl ?_
   refine r_len_sl rfl T.u_strs rfl ?_
   refine r_gtr rfl rfl rfl ?_
   refine hl_nil ?_
   refine then_n ?_
   first | refine c_dec rfl (fun hb2 => ?_) (fun hb2 => ?_) | refine hc_cond rfl (fun hb2 => ?_) (fun hb2 => ?_)
   ·have h : ((R, (0 : Int)).1).length = R.length := rfl
    omega
   ·have hb2' := hb2; try simp at hb2'
    refine hc_skip ?_
    refine then_n ?_
    refine hc_seq ?_
    refine hc_region ?_
    refine r_move rfl rfl ?_
    refine r_move rfl rfl ?_
    refine r_move rfl rfl ?_
    have hlk := proof_Look_meets (A := oM.1) (ca := oM.2) (B := oy.1) (cb := oy.2) (C := oR.1) (cc := oR.2) M y R hMc hcap
    rw [hlookv _ rfl hRp, (flaw_ok M hRp hRp).zero.2 rfl] at hlk
    refine hl_call F.proof_Look_cb rfl rfl (hlk) (hpR := [_]) (.refl _) ⟨(by repeat constructor), (by repeat constructor), (by repeat constructor), trivial⟩ fun _ _ => ?_
    refine r_move rfl rfl ?_
    refine r_extract rfl rfl rfl ?_
    refine r_extract rfl rfl rfl ?_
    refine r_alloc rfl (fun _ => T.al_api_Flaw _) fun gA => ?_
    refine r_storeS rfl rfl (by first | exact .refl _ | exact perm2 _ _ _ | exact perm3 _ _ _ _ | exact perm4 _ _ _ _ _) T.sz_api_Flaw (by rfl) (by rfl) ?_
    refine r_assign rfl rfl ?_
    refine hl_nil ?_
    refine then_n ?_
    refine hc_seq ?_
    refine hc_seq ?_
    refine hc_perm (hp' := [(gA, .cells #[int 0, int 0] T.api_Flaw (0, 0)), dice gd N cn nums s3]) (.refl _) ?_
    refine hc_region ?_
    refine r_move rfl rfl ?_
    refine r_neq rfl rfl rfl ?_
    refine r_move rfl rfl ?_
    refine g_split rfl rfl ?_ ?_
    ·intro hg2; have hg2' := hg2; try simp at hg2'
     refine g_yes rfl rfl hg2 ?_
     first | refine r_loadA rfl T.row_api_Flaw T.sz_api_Flaw rfl (by repeat constructor) (by rfl) ?_ | refine r_loadB rfl T.row_api_Flaw T.sz_api_Flaw rfl (by repeat constructor) (by rfl) ?_ | refine r_loadS rfl T.row_api_Flaw T.sz_api_Flaw rfl rfl (cells_row (by repeat constructor) (rows_all (by omega))) ?_
     refine g_yes rfl rfl hg2 ?_
     refine r_build _ rfl rfl (fun _ => T.bd_api_Flaw_ ..) ?_
     refine g_yes rfl rfl hg2 ?_
     refine r_bin _ rfl rfl rfl (fun _ => T.eqg_api_Flaw ..) (fun _ => T.neq_api_Flaw ..) ?_
     refine p_f rfl rfl (bf1 hg2) rfl ?_
     refine hl_nil ?_
     refine then_n ?_
     first | refine c_dec rfl (fun hb3 => ?_) (fun hb3 => ?_) | refine hc_cond rfl (fun hb3 => ?_) (fun hb3 => ?_)
     ·have hb3' := hb3; try simp at hb3'
     ·have hb3' := hb3; try simp at hb3'
      refine hc_skip ?_
      refine then_n ?_
      refine hc_seq ?_
      refine hc_perm (.swap _ _ _) ?_
      refine hc_region ?_
      refine r_move rfl rfl ?_
      refine hl_call F.kit_PageOf_cb rfl rfl (kit_PageOf_meets 4 hn hs3 (by omega)) (.refl _) ⟨(by repeat constructor), trivial⟩ fun r hr => ?_
      obtain ⟨s4, q1, oq⟩ := r
      obtain ⟨hs4, hqn, hqo, hqc⟩ := hr
      simp only at hs4 hqn hqo hqc
      refine r_move rfl rfl ?_
      refine r_buildSlice _ rfl rfl (fun _ => T.bs_pages_3 ..) fun g50 => ?_
      refine r_assign rfl rfl ?_
      refine hl_nil ?_
      refine then_n ?_
      refine hc_seq ?_
      refine hc_seq ?_
      refine hc_letgo (rows [(⟨oq.1, oq.2, q1⟩ : Sl Str), lastP M, ⟨none, 0, []⟩]) (List.prefix_refl _) ?_
      refine hc_nilrow (α := Str) ?_
      have pal : ∀ w ∈ [(⟨oq.1, oq.2, q1⟩ : Sl Str), lastP M, ⟨none, 0, []⟩], pageErr w.l = 0 ∧ w.l.length ≤ 6 := by
        intro w hw; simp only [List.mem_cons, List.not_mem_nil, or_false] at hw
        rcases hw with rfl | rfl | rfl
        · exact ⟨page_ok (p := q1) hqo (by omega), by show q1.length ≤ 6; omega⟩
        · exact ⟨page_ok (hMo _ hlm).1 hl6, hl6⟩
        · exact ⟨rfl, by simp⟩
      refine hc_inner (ps := M) (p := lastP M) (by repeat constructor) hlm ?_
      refine hc_rows2 (A := (some ⟨g50, 0, none⟩)) (ps := [(⟨oq.1, oq.2, q1⟩ : Sl Str), lastP M, ⟨none, 0, []⟩]) (by repeat constructor) (by intro w hw; simp only [List.mem_cons, List.not_mem_nil, or_false] at hw; rcases hw with rfl | rfl | rfl <;> repeat constructor) ?_
      have h3 : [(⟨oq.1, oq.2, q1⟩ : Sl Str), lastP M, ⟨none, 0, []⟩].length = 3 := rfl
      generalize [(⟨oq.1, oq.2, q1⟩ : Sl Str), lastP M, ⟨none, 0, []⟩] = tL at *
      refine hc_region ?_
      refine r_assign rfl rfl ?_
      refine hl_nil ?_
      refine then_n ?_
      refine hc_block ?_
      refine hc_loop (β := Nat) ⟨fun i => i ≤ 3, fun i => [(4, .slice oM.1 M.length oM.2), (6, .slice oy.1 y.length oy.2), (7, .slice oR.1 R.length oR.2), (13, .slice (some ⟨g50, 0, none⟩) 3 3), (14, int i)], fun _ => [], fun _ => [Row (some ⟨g50, 0, none⟩) (rows tL), Rows2 (some ⟨g50, 0, none⟩) tL, Row oM.1 (rows M), Rows2 oM.1 M, Row oy.1 (rows y), Row oR.1 (rows R)]⟩ (fun i => 3 - i) 0 (Nat.zero_le _) ⟨rfl, rfl, rfl, rfl, rfl, trivial⟩ (List.nil_sublist _) ⟨(by repeat constructor), (by repeat constructor), (by repeat constructor), (by repeat constructor), (by repeat constructor), (by repeat constructor), trivial⟩ fun i hi => ?_
      simp only at hi
      refine hc_seq ?_
      refine hc_seq ?_
      refine hc_region ?_
      refine r_move rfl rfl ?_
      refine r_move rfl rfl ?_
      refine r_len_sl rfl T.u_pages rfl ?_
      refine r_lss rfl rfl rfl ?_
      refine hl_nil ?_
      refine then_n ?_
      first | refine c_dec rfl (fun hb4 => ?_) (fun hb4 => ?_) | refine hc_cond rfl (fun hb4 => ?_) (fun hb4 => ?_)
      ·have hb4' := hb4; try simp at hb4'
       have hi2 : i < 3 := by omega
       have hmp : (tL.getD i default) ∈ tL := getD_mem (by omega)
       obtain ⟨hpe, hp6⟩ := pal _ hmp
       have hfl := flaw_ok M hRp hpe
       have hlk := proof_Look_meets (A := oM.1) (ca := oM.2) (B := oy.1) (cb := oy.2) (C := (tL.getD i default).a) (cc := (tL.getD i default).c) M y (tL.getD i default).l hMc hcap
       rw [hlookv _ rfl hpe] at hlk
       generalize flawV M R (tL.getD i default).l = w at *
       obtain ⟨wk, wa⟩ := w
       refine hc_skip ?_
       refine then_n ?_
       refine hc_seq ?_
       refine hc_block ?_
       refine hc_seq ?_
       refine hc_region ?_
       refine r_move rfl rfl ?_
       refine r_move rfl rfl ?_
       refine r_move rfl rfl ?_
       refine r_move rfl rfl ?_
       refine r_elem (α := Sl Str) tL i rfl T.u_pages T.sz_strs rfl rfl rfl (by repeat constructor) h3.symm (by omega) (by decide) ?_
       refine r_load rfl T.cell_strs rfl (cell_row (by repeat constructor) (rows_get0 (by omega) rfl)) ?_
       refine hl_inner (A := (some ⟨g50, 0, none⟩)) (ps := tL) (p := (tL.getD i default)) (by repeat constructor) hmp ?_
       refine hl_call F.proof_Look_cb rfl rfl (hlk) (List.Perm.refl _) ⟨(by repeat constructor), (by repeat constructor), (by repeat constructor), trivial⟩ fun _ _ => ?_
       refine r_move rfl rfl ?_
       refine r_extract rfl rfl rfl ?_
       refine r_extract rfl rfl rfl ?_
       refine r_alloc rfl (fun _ => T.al_api_Flaw _) fun gA => ?_
       refine r_storeS rfl rfl (by first | exact .refl _ | exact perm2 _ _ _ | exact perm3 _ _ _ _ | exact perm4 _ _ _ _ _) T.sz_api_Flaw (by rfl) (by rfl) ?_
       refine r_assign rfl rfl ?_
       refine hl_nil ?_
       refine then_n ?_
       refine hc_seq ?_
       refine hc_perm (hp' := [(gA, .cells #[int wk, int wa] T.api_Flaw (0, 0))]) (.refl _) ?_
       refine hc_region ?_
       refine r_move rfl rfl ?_
       refine r_move rfl rfl ?_
       refine r_move rfl rfl ?_
       refine r_elem (α := Sl Str) tL i rfl T.u_pages T.sz_strs rfl rfl rfl (by repeat constructor) h3.symm (by omega) (by decide) ?_
       refine r_load rfl T.cell_strs rfl (cell_row (by repeat constructor) (rows_get0 (by omega) rfl)) ?_
       refine hl_inner (A := (some ⟨g50, 0, none⟩)) (ps := tL) (p := (tL.getD i default)) (by repeat constructor) hmp ?_
       refine hl_call F.kit_EqStrings_cb rfl rfl (kit_EqStrings_meets R (tL.getD i default).l (by omega)) (hpR := [_]) (.refl _) ⟨(by repeat constructor), (by repeat constructor), trivial⟩ fun _ _ => ?_
       refine r_assign rfl rfl ?_
       refine hl_nil ?_
       refine then_n ?_
       refine hc_cut ⟨fun _ : Unit => True, fun _ => [(4, .slice oM.1 M.length oM.2), (6, .slice oy.1 y.length oy.2), (7, .slice oR.1 R.length oR.2), (13, .slice (some ⟨g50, 0, none⟩) 3 3), (14, int i), (15, .pointer (some ⟨gA, 0, none⟩))], fun _ => [(gA, .cells #[int wk, int wa] T.api_Flaw (0, 0))], fun _ => [Row (some ⟨g50, 0, none⟩) (rows tL), Rows2 (some ⟨g50, 0, none⟩) tL, Row oM.1 (rows M), Rows2 oM.1 M, Row oy.1 (rows y), Row oR.1 (rows R)]⟩ ?_ ?_
       ·skip
        refine hc_seq ?_
        refine hc_perm (hp' := [(gA, .cells #[int wk, int wa] T.api_Flaw (0, 0))]) (.refl _) ?_
        refine hc_region ?_
        refine r_move rfl rfl ?_
        refine r_neq rfl rfl rfl ?_
        refine r_move rfl rfl ?_
        refine g_split rfl rfl ?_ ?_
        ·intro hg3; have hg3' := hg3; try simp at hg3'
         refine g_yes rfl rfl hg3 ?_
         first | refine r_loadA rfl T.row_api_Flaw T.sz_api_Flaw rfl (by repeat constructor) (by rfl) ?_ | refine r_loadB rfl T.row_api_Flaw T.sz_api_Flaw rfl (by repeat constructor) (by rfl) ?_ | refine r_loadS rfl T.row_api_Flaw T.sz_api_Flaw rfl rfl (cells_row (by repeat constructor) (rows_all (by omega))) ?_
         refine g_yes rfl rfl hg3 ?_
         refine r_build _ rfl rfl (fun _ => T.bd_api_Flaw_ ..) ?_
         refine g_yes rfl rfl hg3 ?_
         refine r_bin _ rfl rfl rfl (fun _ => T.eqg_api_Flaw ..) (fun _ => T.eql_api_Flaw ..) ?_
         refine g_yes rfl rfl hg3 ?_
         refine r_move rfl rfl ?_
         refine g_yes rfl rfl hg3 ?_
         refine r_bneq rfl T.u_bool rfl rfl ?_
         refine p_f rfl rfl (bf1 hg3) rfl ?_
         refine r_move rfl rfl ?_
         refine g_split rfl rfl ?_ ?_
         ·intro hg4; have hg4' := hg4; try simp at hg4'
          refine g_yes rfl rfl hg4 ?_
          refine r_move rfl rfl ?_
          refine g_yes rfl rfl hg4 ?_
          refine r_not rfl rfl ?_
          refine g_yes rfl rfl hg4 ?_
          refine r_move rfl rfl ?_
          refine g_split rfl rfl ?_ ?_
          ·intro hg5; have hg5' := hg5; try simp at hg5'
           have hne : ¬ R = (tL.getD i default).l := by simpa using hg5
           refine g_yes rfl rfl hg5 ?_
           first | refine r_fieldAddr ⟨_, 0, none⟩ rfl rfl T.fa_api_Flaw_0 rfl ?_ | refine r_fieldAddr _ rfl rfl T.fa_api_Flaw_0 rfl ?_
           refine g_yes rfl rfl hg5 ?_
           first | refine r_load rfl T.cell_int rfl (cell_own (by repeat constructor) rfl) ?_ | refine r_load rfl T.cell_int rfl (cell_blk (by repeat constructor) rfl) ?_ | refine r_load rfl T.cell_int rfl (cell_row (by repeat constructor) (rows_get0 (by omega) rfl)) ?_ | refine r_load rfl T.cell_int rfl (cell_row_f (by repeat constructor) (rows_get (by omega) rfl)) ?_
           refine g_yes rfl rfl hg5 ?_
           refine r_lss rfl rfl rfl ?_
           refine g_yes rfl rfl hg5 ?_
           refine r_move rfl rfl ?_
           refine g_split rfl rfl ?_ ?_
           ·intro hg6; have hg6' := hg6; try simp at hg6'
            refine g_yes rfl rfl hg6 ?_
            first | refine r_fieldAddr ⟨_, 0, none⟩ rfl rfl T.fa_api_Flaw_0 rfl ?_ | refine r_fieldAddr _ rfl rfl T.fa_api_Flaw_0 rfl ?_
            refine g_yes rfl rfl hg6 ?_
            first | refine r_load rfl T.cell_int rfl (cell_own (by repeat constructor) rfl) ?_ | refine r_load rfl T.cell_int rfl (cell_blk (by repeat constructor) rfl) ?_ | refine r_load rfl T.cell_int rfl (cell_row (by repeat constructor) (rows_get0 (by omega) rfl)) ?_ | refine r_load rfl T.cell_int rfl (cell_row_f (by repeat constructor) (rows_get (by omega) rfl)) ?_
            refine g_yes rfl rfl hg6 ?_
            refine r_gtr rfl rfl rfl ?_
            refine g_yes rfl rfl hg5 ?_
            refine p_f rfl rfl (bf1 hg6) rfl ?_
            refine g_yes rfl rfl hg5 ?_
            refine r_move rfl rfl ?_
            refine g_split rfl rfl ?_ ?_
            ·intro hg7; have hg7' := hg7; try simp at hg7'
             refine g_yes rfl rfl hg7 ?_
             first | refine r_fieldAddr ⟨_, 1, none⟩ rfl rfl T.fa_api_Flaw_1 rfl ?_ | refine r_fieldAddr _ rfl rfl T.fa_api_Flaw_1 rfl ?_
             refine g_yes rfl rfl hg7 ?_
             first | refine r_load rfl T.cell_int rfl (cell_own (by repeat constructor) rfl) ?_ | refine r_load rfl T.cell_int rfl (cell_blk (by repeat constructor) rfl) ?_ | refine r_load rfl T.cell_int rfl (cell_row (by repeat constructor) (rows_get0 (by omega) rfl)) ?_ | refine r_load rfl T.cell_int rfl (cell_row_f (by repeat constructor) (rows_get (by omega) rfl)) ?_
             refine g_yes rfl rfl hg7 ?_
             refine r_lss rfl rfl rfl ?_
             refine g_yes rfl rfl hg5 ?_
             refine p_f rfl rfl (bf1 hg7) rfl ?_
             refine g_yes rfl rfl hg5 ?_
             refine r_move rfl rfl ?_
             refine g_split rfl rfl ?_ ?_
             ·intro hg8; have hg8' := hg8; try simp at hg8'
              refine g_yes rfl rfl hg8 ?_
              first | refine r_fieldAddr ⟨_, 1, none⟩ rfl rfl T.fa_api_Flaw_1 rfl ?_ | refine r_fieldAddr _ rfl rfl T.fa_api_Flaw_1 rfl ?_
              refine g_yes rfl rfl hg8 ?_
              first | refine r_load rfl T.cell_int rfl (cell_own (by repeat constructor) rfl) ?_ | refine r_load rfl T.cell_int rfl (cell_blk (by repeat constructor) rfl) ?_ | refine r_load rfl T.cell_int rfl (cell_row (by repeat constructor) (rows_get0 (by omega) rfl)) ?_ | refine r_load rfl T.cell_int rfl (cell_row_f (by repeat constructor) (rows_get (by omega) rfl)) ?_
              refine g_yes rfl rfl hg8 ?_
              refine r_move rfl rfl ?_
              refine g_yes rfl rfl hg8 ?_
              refine r_len_sl rfl T.u_strs rfl ?_
              refine g_yes rfl rfl hg8 ?_
              refine r_gtr rfl rfl rfl ?_
              refine g_yes rfl rfl hg5 ?_
              refine p_f rfl rfl (bf1 hg8) rfl ?_
              refine g_yes rfl rfl hg4 ?_
              refine p_t rfl rfl (bt1 hg5) rfl ?_
              refine p_f rfl rfl (bf1 hg4) rfl ?_
              refine hl_nil ?_
              refine then_n ?_
              first | refine c_dec rfl (fun hb5 => ?_) (fun hb5 => ?_) | refine hc_cond rfl (fun hb5 => ?_) (fun hb5 => ?_)
              ·have hr := hfl.rng hne
               simp only at hr
               omega
              ·have hb5' := hb5; try simp at hb5'
               refine hc_skip ?_
               exact cut_n _ () trivial ⟨rfl, rfl, rfl, rfl, rfl, rfl, trivial⟩ (.refl _) ⟨(by repeat constructor), (by repeat constructor), (by repeat constructor), (by repeat constructor), (by repeat constructor), (by repeat constructor), trivial⟩
             ·intro hg8; have hg8' := hg8; try simp at hg8'
              all_goals (have h := of_decide_eq_true (bt2 hg8); have hr := hfl.rng hne; simp only at hr; omega)
            ·intro hg7; have hg7' := hg7; try simp at hg7'
             all_goals (have h := of_decide_eq_true (bt2 hg7); have hr := hfl.rng hne; simp only at hr; omega)
           ·intro hg6; have hg6' := hg6; try simp at hg6'
            all_goals (have h := of_decide_eq_true (bt2 hg6); have hr := hfl.rng hne; simp only at hr; omega)
          ·intro hg5; have hg5' := hg5; try simp at hg5'
           refine g_no rfl rfl rfl rfl rfl hg5 ?_
           refine g_no rfl rfl rfl rfl rfl hg5 ?_
           refine g_no rfl rfl rfl rfl rfl hg5 ?_
           refine g_no rfl rfl rfl rfl rfl hg5 ?_
           refine g_und rfl rfl rfl rfl rfl rfl ?_
           refine g_und rfl rfl rfl rfl rfl rfl ?_
           refine g_und rfl rfl rfl rfl rfl rfl ?_
           refine g_no rfl rfl rfl rfl rfl hg5 ?_
           refine g_no rfl rfl rfl rfl rfl hg5 ?_
           refine g_und rfl rfl rfl rfl rfl rfl ?_
           refine g_und rfl rfl rfl rfl rfl rfl ?_
           refine g_und rfl rfl rfl rfl rfl rfl ?_
           refine g_no rfl rfl rfl rfl rfl hg5 ?_
           refine g_no rfl rfl rfl rfl rfl hg5 ?_
           refine g_und rfl rfl rfl rfl rfl rfl ?_
           refine g_und rfl rfl rfl rfl rfl rfl ?_
           refine g_und rfl rfl rfl rfl rfl rfl ?_
           refine g_und rfl rfl rfl rfl rfl rfl ?_
           refine g_und rfl rfl rfl rfl rfl rfl ?_
           refine g_no rfl rfl rfl rfl rfl hg5 ?_
           refine g_yes rfl rfl hg4 ?_
           refine p_f rfl rfl (bf2 hg5) rfl ?_
           refine p_f rfl rfl (bf1 hg4) rfl ?_
           refine hl_nil ?_
           refine then_n ?_
           refine c_f rfl rfl ?_
           refine hc_skip ?_
           exact cut_n _ () trivial ⟨rfl, rfl, rfl, rfl, rfl, rfl, trivial⟩ (.refl _) ⟨(by repeat constructor), (by repeat constructor), (by repeat constructor), (by repeat constructor), (by repeat constructor), (by repeat constructor), trivial⟩
         ·intro hg4; have hg4' := hg4; try simp at hg4'
          all_goals (by_cases hRq : R = (tL.getD i default).l; (have hwz := hfl.zero.2 hRq; rw [decide_eq_true hwz, decide_eq_true hRq] at hg4; cases hg4); (have hwz : ¬ (wk, wa) = (0, 0) := fun h => hRq (hfl.zero.1 h); rw [decide_eq_false hwz, decide_eq_false hRq] at hg4; cases hg4))
        ·intro hg3; have hg3' := hg3; try simp at hg3'
       ·intro _ _
        refine hc_inner (A := (some ⟨g50, 0, none⟩)) (ps := tL) (p := (tL.getD i default)) (by repeat constructor) hmp ?_
        generalize hP : (tL.getD i default) = P at *
        refine hc_seq ?_
        refine hc_region ?_
        refine r_assign rfl rfl ?_
        refine hl_nil ?_
        refine then_n ?_
        refine hc_seq ?_
        refine hc_seq ?_
        refine hc_region ?_
        refine r_assign rfl rfl ?_
        refine hl_nil ?_
        refine then_n ?_
        refine hc_block ?_
        refine hc_loop (β := Nat) ⟨fun k => k ≤ P.l.length, fun k => [(4, .slice oM.1 M.length oM.2), (6, .slice oy.1 y.length oy.2), (7, .slice oR.1 R.length oR.2), (13, .slice (some ⟨g50, 0, none⟩) 3 3), (14, int i), (15, .pointer (some ⟨gA, 0, none⟩)), (18, .bool (bkL M R P.l k)), (19, int k)], fun _ => [(gA, .cells #[int wk, int wa] T.api_Flaw (0, 0))], fun _ => Row P.a (rows P.l) :: [Row (some ⟨g50, 0, none⟩) (rows tL), Rows2 (some ⟨g50, 0, none⟩) tL, Row oM.1 (rows M), Rows2 oM.1 M, Row oy.1 (rows y), Row oR.1 (rows R)]⟩ (fun k => P.l.length - k) 0 (Nat.zero_le _) ⟨rfl, rfl, rfl, rfl, rfl, rfl, rfl, rfl, trivial⟩ (.refl _) ⟨(by repeat constructor), (by repeat constructor), (by repeat constructor), (by repeat constructor), (by repeat constructor), (by repeat constructor), (by repeat constructor), trivial⟩ fun k hk => ?_
        simp only at hk
        refine hc_seq ?_
        refine hc_seq ?_
        refine hc_region ?_
        refine r_move rfl rfl ?_
        refine r_move rfl rfl ?_
        refine r_move rfl rfl ?_
        refine r_elem (α := Sl Str) tL i rfl T.u_pages T.sz_strs rfl rfl rfl (by repeat constructor) h3.symm (by omega) (by decide) ?_
        refine r_load rfl T.cell_strs rfl (cell_row (by repeat constructor) (rows_get0 (by omega) (by rw [hP]; rfl))) ?_
        refine r_len_sl rfl T.u_strs rfl ?_
        refine r_lss rfl rfl rfl ?_
        refine hl_nil ?_
        refine then_n ?_
        first | refine c_dec rfl (fun hb6 => ?_) (fun hb6 => ?_) | refine hc_cond rfl (fun hb6 => ?_) (fun hb6 => ?_)
        ·have hb6' := hb6; try simp at hb6'
         have hk2 : k < P.l.length := by omega
         have hbk : bkL M R P.l (k + 1) = (bkL M R P.l k || (oldB M (P.l.getD k default) (M.length - 1) && !decide ((P.l.getD k default) ∈ R))) := any_range _ _
         refine hc_skip ?_
         refine then_n ?_
         refine hc_seq ?_
         refine hc_block ?_
         refine hc_seq ?_
         refine hc_region ?_
         refine r_assign rfl rfl ?_
         refine hl_nil ?_
         refine then_n ?_
         refine hc_seq ?_
         refine hc_seq ?_
         refine hc_region ?_
         refine r_assign rfl rfl ?_
         refine hl_nil ?_
         refine then_n ?_
         refine hc_block ?_
         refine hc_loop (β := Nat) ⟨fun v => v ≤ M.length - 1, fun v => [(4, .slice oM.1 M.length oM.2), (6, .slice oy.1 y.length oy.2), (7, .slice oR.1 R.length oR.2), (13, .slice (some ⟨g50, 0, none⟩) 3 3), (14, int i), (15, .pointer (some ⟨gA, 0, none⟩)), (18, .bool (bkL M R P.l k)), (19, int k), (20, .bool (oldB M (P.l.getD k default) v)), (21, int v)], fun _ => [(gA, .cells #[int wk, int wa] T.api_Flaw (0, 0))], fun _ => Row P.a (rows P.l) :: [Row (some ⟨g50, 0, none⟩) (rows tL), Rows2 (some ⟨g50, 0, none⟩) tL, Row oM.1 (rows M), Rows2 oM.1 M, Row oy.1 (rows y), Row oR.1 (rows R)]⟩ (fun v => M.length - 1 - v) 0 (Nat.zero_le _) ⟨rfl, rfl, rfl, rfl, rfl, rfl, rfl, rfl, rfl, rfl, trivial⟩ (.refl _) ⟨(by repeat constructor), (by repeat constructor), (by repeat constructor), (by repeat constructor), (by repeat constructor), (by repeat constructor), (by repeat constructor), trivial⟩ fun v hv => ?_
         simp only at hv
         refine hc_seq ?_
         refine hc_seq ?_
         refine hc_region ?_
         refine r_move rfl rfl ?_
         refine r_move rfl rfl ?_
         refine r_len_sl rfl T.u_pages rfl ?_
         refine r_sub ((M.length - 1 : Nat) : Int) rfl rfl rfl (by omega) (by unfold I64; omega) ?_
         refine r_lss rfl rfl rfl ?_
         refine hl_nil ?_
         refine then_n ?_
         first | refine c_dec rfl (fun hb7 => ?_) (fun hb7 => ?_) | refine hc_cond rfl (fun hb7 => ?_) (fun hb7 => ?_)
         ·have hb7' := hb7; try simp at hb7'
          have hv2 : v < M.length - 1 := by omega
          have hmv : M.getD v default ∈ M := getD_mem (by omega)
          have hv6 := (hMo _ hmv).2.1
          have hol : oldB M (P.l.getD k default) (v + 1) = (oldB M (P.l.getD k default) v || decide ((P.l.getD k default) ∈ (M.getD v default).l)) := any_range _ _
          refine hc_skip ?_
          refine then_n ?_
          refine hc_seq ?_
          refine hc_block ?_
          refine hc_draw 13 mixed (by decide) (by decide) rfl rfl ?_
          apply hb_ex _ rfl rfl rfl
          ·intro w1
           refine r_move rfl rfl ?_
           refine hl_nil ?_
           exact qe_done rfl
          apply hb_ex _ rfl rfl rfl
          ·intro w1
           refine r_move rfl rfl ?_
           refine hl_nil ?_
           exact qe_done rfl
          refine hb_split (t := 155) (want := false) rfl ?_ ?_
          ·intro hg9; have hg9' := hg9; try simp at hg9'
           rw [bf1 hg9, Bool.false_or] at hol
           apply hb_ex _ rfl rfl rfl
           ·intro w1
            refine g_yes rfl rfl hg9 ?_
            refine r_move rfl rfl ?_
            refine hl_nil ?_
            exact qe_done rfl
           apply hb_ex _ rfl rfl rfl
           ·intro w1
            refine g_yes rfl rfl hg9 ?_
            refine r_move rfl rfl ?_
            refine hl_nil ?_
            exact qe_done rfl
           apply hb_ex _ rfl rfl rfl
           ·intro w1
            refine g_yes rfl rfl hg9 ?_
            refine r_elem (α := Sl Str) M v rfl T.u_pages T.sz_strs rfl rfl rfl (by repeat constructor) rfl (by omega) (by decide) ?_
            refine hl_nil ?_
            exact qe_done rfl
           apply hb_ex _ rfl rfl rfl
           ·intro w1
            refine g_yes rfl rfl hg9 ?_
            refine r_load rfl T.cell_strs rfl (cell_row (by repeat constructor) (rows_get0 (by omega) rfl)) ?_
            refine hl_nil ?_
            exact qe_done rfl
           apply hb_ex _ rfl rfl rfl
           ·intro w1
            refine g_yes rfl rfl hg9 ?_
            refine r_move rfl rfl ?_
            refine hl_nil ?_
            exact qe_done rfl
           apply hb_ex _ rfl rfl rfl
           ·intro w1
            refine g_yes rfl rfl hg9 ?_
            refine r_move rfl rfl ?_
            refine hl_nil ?_
            exact qe_done rfl
           apply hb_ex _ rfl rfl rfl
           ·intro w1
            refine g_yes rfl rfl hg9 ?_
            refine r_elem (α := Sl Str) tL i rfl T.u_pages T.sz_strs rfl rfl rfl (by repeat constructor) h3.symm (by omega) (by decide) ?_
            refine hl_nil ?_
            exact qe_done rfl
           apply hb_ex _ rfl rfl rfl
           ·intro w1
            refine g_yes rfl rfl hg9 ?_
            refine r_load rfl T.cell_strs rfl (cell_row (by repeat constructor) (rows_get0 (by omega) (by rw [hP]; rfl))) ?_
            refine hl_nil ?_
            exact qe_done rfl
           apply hb_ex _ rfl rfl rfl
           ·intro w1
            refine g_yes rfl rfl hg9 ?_
            refine r_move rfl rfl ?_
            refine hl_nil ?_
            exact qe_done rfl
           apply hb_ex _ rfl rfl rfl
           ·intro w1
            refine g_yes rfl rfl hg9 ?_
            refine r_elem (α := Str) _ _ rfl T.u_strs T.sz_string rfl rfl rfl (by repeat constructor) rfl (by omega) (by decide) ?_
            refine hl_nil ?_
            exact qe_done rfl
           apply hb_ex _ rfl rfl rfl
           ·intro w1
            refine g_yes rfl rfl hg9 ?_
            refine r_load rfl T.cell_string rfl (cell_row (by repeat constructor) (rows_get0 (by omega) rfl)) ?_
            refine hl_nil ?_
            exact qe_done rfl
           refine hb_nil ⟨rfl, ?_⟩
           refine g_yes rfl rfl hg9 ?_
           refine hl_inner (ps := M) (p := M.getD v default) (by repeat constructor) hmv ?_
           refine hl_call F.law07_on_cb rfl rfl (law07_on_meets (M.getD v default).l (P.l.getD k default) (by omega)) (hpR := [_]) (.refl _) ⟨(by repeat constructor), trivial⟩ fun _ _ => ?_
           refine p_f rfl rfl (bf1 hg9) rfl ?_
           refine r_assign rfl rfl ?_
           refine hl_nil ?_
           refine inb_n ?_
           refine then_n ?_
           refine hc_region ?_
           refine r_move rfl rfl ?_
           refine r_add _ rfl rfl rfl rfl (by unfold I64; omega) ?_
           refine r_assign rfl rfl ?_
           refine hl_nil ?_
           refine again _ (v + 1) (by show v + 1 ≤ M.length - 1; omega) (by show M.length - 1 - (v + 1) < M.length - 1 - v; omega) ⟨rfl, rfl, rfl, rfl, rfl, rfl, rfl, rfl, ?_, rfl, trivial⟩ (.refl _) ⟨(by repeat constructor), (by repeat constructor), (by repeat constructor), (by repeat constructor), (by repeat constructor), (by repeat constructor), (by repeat constructor), trivial⟩
           exact congrArg (fun b => some (Value.bool b)) (by rw [hol])
          ·intro hg9; have hg9' := hg9; try simp at hg9'
           have hot : oldB M (P.l.getD k default) v = true := bt2 hg9
           rw [hot, Bool.true_or] at hol
           apply hb_ex _ rfl rfl rfl
           ·intro w1
            refine g_no rfl rfl rfl rfl rfl hg9 ?_
            refine hl_nil ?_
            exact qe_done rfl
           apply hb_ex _ rfl rfl rfl
           ·intro w1
            refine g_no rfl rfl rfl rfl rfl hg9 ?_
            refine hl_nil ?_
            exact qe_done rfl
           apply hb_ex _ rfl rfl rfl
           ·intro w1
            refine g_no rfl rfl rfl rfl rfl hg9 ?_
            refine hl_nil ?_
            exact qe_done rfl
           apply hb_ex _ rfl rfl rfl
           ·intro w1
            refine g_no rfl rfl rfl rfl rfl hg9 ?_
            refine hl_nil ?_
            exact qe_done rfl
           apply hb_ex _ rfl rfl rfl
           ·intro w1
            refine g_no rfl rfl rfl rfl rfl hg9 ?_
            refine hl_nil ?_
            exact qe_done rfl
           apply hb_ex _ rfl rfl rfl
           ·intro w1
            refine g_no rfl rfl rfl rfl rfl hg9 ?_
            refine hl_nil ?_
            exact qe_done rfl
           apply hb_ex _ rfl rfl rfl
           ·intro w1
            refine g_no rfl rfl rfl rfl rfl hg9 ?_
            refine hl_nil ?_
            exact qe_done rfl
           apply hb_ex _ rfl rfl rfl
           ·intro w1
            refine g_no rfl rfl rfl rfl rfl hg9 ?_
            refine hl_nil ?_
            exact qe_done rfl
           apply hb_ex _ rfl rfl rfl
           ·intro w1
            refine g_no rfl rfl rfl rfl rfl hg9 ?_
            refine hl_nil ?_
            exact qe_done rfl
           apply hb_ex _ rfl rfl rfl
           ·intro w1
            refine g_no rfl rfl rfl rfl rfl hg9 ?_
            refine hl_nil ?_
            exact qe_done rfl
           apply hb_ex _ rfl rfl rfl
           ·intro w1
            refine g_no rfl rfl rfl rfl rfl hg9 ?_
            refine hl_nil ?_
            exact qe_done rfl
           refine hb_nil ⟨rfl, ?_⟩
           refine g_no rfl rfl rfl rfl rfl hg9 ?_
           refine p_t rfl rfl (bt2 hg9) rfl ?_
           refine r_assign rfl rfl ?_
           refine hl_nil ?_
           refine inb_n ?_
           refine then_n ?_
           refine hc_region ?_
           refine r_move rfl rfl ?_
           refine r_add _ rfl rfl rfl rfl (by unfold I64; omega) ?_
           refine r_assign rfl rfl ?_
           refine hl_nil ?_
           refine again _ (v + 1) (by show v + 1 ≤ M.length - 1; omega) (by show M.length - 1 - (v + 1) < M.length - 1 - v; omega) ⟨rfl, rfl, rfl, rfl, rfl, rfl, rfl, rfl, ?_, rfl, trivial⟩ (.refl _) ⟨(by repeat constructor), (by repeat constructor), (by repeat constructor), (by repeat constructor), (by repeat constructor), (by repeat constructor), (by repeat constructor), trivial⟩
           exact congrArg (fun b => some (Value.bool b)) (by rw [hol])
         ·have hb7' := hb7; try simp at hb7'
          have hv2 : v = M.length - 1 := by omega
          subst hv2
          refine hc_exit ?_
          refine then_exit ?_
          refine then_exit ?_
          refine inb_hit ?_
          refine then_n ?_
          refine hc_region ?_
          refine r_move rfl rfl ?_
          refine r_move rfl rfl ?_
          refine g_split rfl rfl ?_ ?_
          ·intro hg10; have hg10' := hg10; try simp at hg10'
           rw [bf1 hg10, Bool.false_or] at hbk
           refine g_yes rfl rfl hg10 ?_
           refine r_move rfl rfl ?_
           refine g_yes rfl rfl hg10 ?_
           refine r_move rfl rfl ?_
           refine g_split rfl rfl ?_ ?_
           ·intro hg11; have hg11' := hg11; try simp at hg11'
            rw [bt1 hg11, Bool.true_and] at hbk
            refine g_yes rfl rfl hg11 ?_
            refine r_move rfl rfl ?_
            refine g_yes rfl rfl hg11 ?_
            refine r_move rfl rfl ?_
            refine g_yes rfl rfl hg11 ?_
            refine r_move rfl rfl ?_
            refine g_yes rfl rfl hg11 ?_
            refine r_elem (α := Sl Str) tL i rfl T.u_pages T.sz_strs rfl rfl rfl (by repeat constructor) h3.symm (by omega) (by decide) ?_
            refine g_yes rfl rfl hg11 ?_
            refine r_load rfl T.cell_strs rfl (cell_row (by repeat constructor) (rows_get0 (by omega) (by rw [hP]; rfl))) ?_
            refine g_yes rfl rfl hg11 ?_
            refine r_move rfl rfl ?_
            refine g_yes rfl rfl hg11 ?_
            refine r_elem (α := Str) _ _ rfl T.u_strs T.sz_string rfl rfl rfl (by repeat constructor) rfl (by omega) (by decide) ?_
            refine g_yes rfl rfl hg11 ?_
            refine r_load rfl T.cell_string rfl (cell_row (by repeat constructor) (rows_get0 (by omega) rfl)) ?_
            refine g_yes rfl rfl hg11 ?_
            refine hl_call F.law07_on_cb rfl rfl (law07_on_meets R (P.l.getD k default) (by omega)) (hpR := [_]) (.refl _) ⟨(by repeat constructor), trivial⟩ fun _ _ => ?_
            refine g_yes rfl rfl hg11 ?_
            refine r_not rfl rfl ?_
            refine g_yes rfl rfl hg10 ?_
            refine p_t rfl rfl (bt1 hg11) rfl ?_
            refine p_f rfl rfl (bf1 hg10) rfl ?_
            refine r_assign rfl rfl ?_
            refine hl_nil ?_
            refine inb_n ?_
            refine then_n ?_
            refine hc_region ?_
            refine r_move rfl rfl ?_
            refine r_add _ rfl rfl rfl rfl (by unfold I64; omega) ?_
            refine r_assign rfl rfl ?_
            refine hl_nil ?_
            refine again _ (k + 1) (by show k + 1 ≤ P.l.length; omega) (by show P.l.length - (k + 1) < P.l.length - k; omega) ⟨rfl, rfl, rfl, rfl, rfl, rfl, ?_, rfl, trivial⟩ (.refl _) ⟨(by repeat constructor), (by repeat constructor), (by repeat constructor), (by repeat constructor), (by repeat constructor), (by repeat constructor), (by repeat constructor), trivial⟩
            exact congrArg (fun b => some (Value.bool b)) (by rw [hbk])
           ·intro hg11; have hg11' := hg11; try simp at hg11'
            rw [bf2 hg11, Bool.false_and] at hbk
            refine g_no rfl rfl rfl rfl rfl hg11 ?_
            refine g_no rfl rfl rfl rfl rfl hg11 ?_
            refine g_no rfl rfl rfl rfl rfl hg11 ?_
            refine g_no rfl rfl rfl rfl rfl hg11 ?_
            refine g_no rfl rfl rfl rfl rfl hg11 ?_
            refine g_no rfl rfl rfl rfl rfl hg11 ?_
            refine g_no rfl rfl rfl rfl rfl hg11 ?_
            refine g_no rfl rfl rfl rfl rfl hg11 ?_
            refine g_no rfl rfl rfl rfl rfl hg11 ?_
            refine g_no rfl rfl rfl rfl rfl hg11 ?_
            refine g_yes rfl rfl hg10 ?_
            refine p_f rfl rfl (bf2 hg11) rfl ?_
            refine p_f rfl rfl (bf1 hg10) rfl ?_
            refine r_assign rfl rfl ?_
            refine hl_nil ?_
            refine inb_n ?_
            refine then_n ?_
            refine hc_region ?_
            refine r_move rfl rfl ?_
            refine r_add _ rfl rfl rfl rfl (by unfold I64; omega) ?_
            refine r_assign rfl rfl ?_
            refine hl_nil ?_
            refine again _ (k + 1) (by show k + 1 ≤ P.l.length; omega) (by show P.l.length - (k + 1) < P.l.length - k; omega) ⟨rfl, rfl, rfl, rfl, rfl, rfl, ?_, rfl, trivial⟩ (.refl _) ⟨(by repeat constructor), (by repeat constructor), (by repeat constructor), (by repeat constructor), (by repeat constructor), (by repeat constructor), (by repeat constructor), trivial⟩
            exact congrArg (fun b => some (Value.bool b)) (by rw [hbk])
          ·intro hg10; have hg10' := hg10; try simp at hg10'
           have hbt : bkL M R P.l k = true := bt2 hg10
           rw [hbt, Bool.true_or] at hbk
           refine g_no rfl rfl rfl rfl rfl hg10 ?_
           refine g_no rfl rfl rfl rfl rfl hg10 ?_
           refine g_und rfl rfl rfl rfl rfl rfl ?_
           refine g_und rfl rfl rfl rfl rfl rfl ?_
           refine g_und rfl rfl rfl rfl rfl rfl ?_
           refine g_und rfl rfl rfl rfl rfl rfl ?_
           refine g_und rfl rfl rfl rfl rfl rfl ?_
           refine g_und rfl rfl rfl rfl rfl rfl ?_
           refine g_und rfl rfl rfl rfl rfl rfl ?_
           refine g_und rfl rfl rfl rfl rfl rfl ?_
           refine g_und rfl rfl rfl rfl rfl rfl ?_
           refine g_und rfl rfl rfl rfl rfl rfl ?_
           refine g_no rfl rfl rfl rfl rfl hg10 ?_
           refine p_t rfl rfl (bt2 hg10) rfl ?_
           refine r_assign rfl rfl ?_
           refine hl_nil ?_
           refine inb_n ?_
           refine then_n ?_
           refine hc_region ?_
           refine r_move rfl rfl ?_
           refine r_add _ rfl rfl rfl rfl (by unfold I64; omega) ?_
           refine r_assign rfl rfl ?_
           refine hl_nil ?_
           refine again _ (k + 1) (by show k + 1 ≤ P.l.length; omega) (by show P.l.length - (k + 1) < P.l.length - k; omega) ⟨rfl, rfl, rfl, rfl, rfl, rfl, ?_, rfl, trivial⟩ (.refl _) ⟨(by repeat constructor), (by repeat constructor), (by repeat constructor), (by repeat constructor), (by repeat constructor), (by repeat constructor), (by repeat constructor), trivial⟩
           exact congrArg (fun b => some (Value.bool b)) (by rw [hbk])
        ·have hb6' := hb6; try simp at hb6'
         have hk2 : k = P.l.length := by omega
         subst hk2
         refine hc_exit ?_
         refine then_exit ?_
         refine then_exit ?_
         refine inb_hit ?_
         refine then_n ?_
         refine hc_cut ⟨fun _ : Unit => True, fun _ => [(4, .slice oM.1 M.length oM.2), (6, .slice oy.1 y.length oy.2), (7, .slice oR.1 R.length oR.2), (13, .slice (some ⟨g50, 0, none⟩) 3 3), (14, int i), (15, .pointer (some ⟨gA, 0, none⟩))], fun _ => [(gA, .cells #[int wk, int wa] T.api_Flaw (0, 0))], fun _ => Row P.a (rows P.l) :: [Row (some ⟨g50, 0, none⟩) (rows tL), Rows2 (some ⟨g50, 0, none⟩) tL, Row oM.1 (rows M), Rows2 oM.1 M, Row oy.1 (rows y), Row oR.1 (rows R)]⟩ ?_ ?_
         ·skip
          refine hc_seq ?_
          refine hc_region ?_
          first | refine r_fieldAddr ⟨_, 0, none⟩ rfl rfl T.fa_api_Flaw_0 rfl ?_ | refine r_fieldAddr _ rfl rfl T.fa_api_Flaw_0 rfl ?_
          first | refine r_load rfl T.cell_int rfl (cell_own (by repeat constructor) rfl) ?_ | refine r_load rfl T.cell_int rfl (cell_blk (by repeat constructor) rfl) ?_ | refine r_load rfl T.cell_int rfl (cell_row (by repeat constructor) (rows_get0 (by omega) rfl)) ?_ | refine r_load rfl T.cell_int rfl (cell_row_f (by repeat constructor) (rows_get (by omega) rfl)) ?_
          refine r_eql rfl rfl rfl ?_
          refine r_move rfl rfl ?_
          refine g_split rfl rfl ?_ ?_
          ·intro hg12; have hg12' := hg12; try simp at hg12'
           have hk3 := of_decide_eq_true (bt1 hg12)
           refine g_yes rfl rfl hg12 ?_
           refine r_move rfl rfl ?_
           refine g_yes rfl rfl hg12 ?_
           refine r_not rfl rfl ?_
           refine p_t rfl rfl (bt1 hg12) rfl ?_
           refine hl_nil ?_
           refine then_n ?_
           first | refine c_dec rfl (fun hb8 => ?_) (fun hb8 => ?_) | refine hc_cond rfl (fun hb8 => ?_) (fun hb8 => ?_)
           ·rw [flaw_back hfl hk3] at hb8
            cases hb8
           ·have hb8' := hb8; try simp at hb8'
            refine hc_skip ?_
            exact cut_n _ () trivial ⟨rfl, rfl, rfl, rfl, rfl, rfl, trivial⟩ (.refl _) ⟨(by repeat constructor), (by repeat constructor), (by repeat constructor), (by repeat constructor), (by repeat constructor), (by repeat constructor), (by repeat constructor), trivial⟩
          ·intro hg12; have hg12' := hg12; try simp at hg12'
           refine g_no rfl rfl rfl rfl rfl hg12 ?_
           refine g_no rfl rfl rfl rfl rfl hg12 ?_
           refine p_f rfl rfl (bf2 hg12) rfl ?_
           refine hl_nil ?_
           refine then_n ?_
           refine c_f rfl rfl ?_
           refine hc_skip ?_
           exact cut_n _ () trivial ⟨rfl, rfl, rfl, rfl, rfl, rfl, trivial⟩ (.refl _) ⟨(by repeat constructor), (by repeat constructor), (by repeat constructor), (by repeat constructor), (by repeat constructor), (by repeat constructor), (by repeat constructor), trivial⟩
         ·intro _ _
          refine hc_seq ?_
          refine hc_region ?_
          first | refine r_fieldAddr ⟨_, 0, none⟩ rfl rfl T.fa_api_Flaw_0 rfl ?_ | refine r_fieldAddr _ rfl rfl T.fa_api_Flaw_0 rfl ?_
          first | refine r_load rfl T.cell_int rfl (cell_own (by repeat constructor) rfl) ?_ | refine r_load rfl T.cell_int rfl (cell_blk (by repeat constructor) rfl) ?_ | refine r_load rfl T.cell_int rfl (cell_row (by repeat constructor) (rows_get0 (by omega) rfl)) ?_ | refine r_load rfl T.cell_int rfl (cell_row_f (by repeat constructor) (rows_get (by omega) rfl)) ?_
          refine r_eql rfl rfl rfl ?_
          refine r_move rfl rfl ?_
          refine g_split rfl rfl ?_ ?_
          ·intro hg13; have hg13' := hg13; try simp at hg13'
           have hk4 := of_decide_eq_true (bt1 hg13)
           refine g_yes rfl rfl hg13 ?_
           refine r_move rfl rfl ?_
           refine g_yes rfl rfl hg13 ?_
           refine r_len_sl rfl T.u_strs rfl ?_
           refine g_yes rfl rfl hg13 ?_
           refine r_move rfl rfl ?_
           refine g_yes rfl rfl hg13 ?_
           refine r_move rfl rfl ?_
           refine g_yes rfl rfl hg13 ?_
           refine r_move rfl rfl ?_
           refine g_yes rfl rfl hg13 ?_
           refine r_elem (α := Sl Str) tL i rfl T.u_pages T.sz_strs rfl rfl rfl (by repeat constructor) h3.symm (by omega) (by decide) ?_
           refine g_yes rfl rfl hg13 ?_
           refine r_load rfl T.cell_strs rfl (cell_row (by repeat constructor) (rows_get0 (by omega) (by rw [hP]; rfl))) ?_
           refine g_yes rfl rfl hg13 ?_
           refine hl_call F.kit_Common_cb rfl rfl (kit_Common_meets R P.l (by omega) (by omega)) (hpR := [_]) (.refl _) ⟨(by repeat constructor), (by repeat constructor), trivial⟩ fun _ _ => ?_
           refine g_yes rfl rfl hg13 ?_
           refine r_leq rfl rfl rfl ?_
           refine p_t rfl rfl (bt1 hg13) rfl ?_
           refine hl_nil ?_
           refine then_n ?_
           first | refine c_dec rfl (fun hb9 => ?_) (fun hb9 => ?_) | refine hc_cond rfl (fun hb9 => ?_) (fun hb9 => ?_)
           ·have h := hfl.lost hk4
            omega
           ·have hb9' := hb9; try simp at hb9'
            refine hc_skip ?_
            refine inb_n ?_
            refine then_n ?_
            refine hc_region ?_
            refine r_move rfl rfl ?_
            refine r_add _ rfl rfl rfl rfl (by unfold I64; omega) ?_
            refine r_assign rfl rfl ?_
            refine hl_nil ?_
            exact again _ (i + 1) (by show i + 1 ≤ 3; omega) (by show 3 - (i + 1) < 3 - i; omega) ⟨rfl, rfl, rfl, rfl, rfl, trivial⟩ (List.nil_sublist _) ⟨(by repeat constructor), (by repeat constructor), (by repeat constructor), (by repeat constructor), (by repeat constructor), (by repeat constructor), trivial⟩
          ·intro hg13; have hg13' := hg13; try simp at hg13'
           refine g_no rfl rfl rfl rfl rfl hg13 ?_
           refine g_no rfl rfl rfl rfl rfl hg13 ?_
           refine g_no rfl rfl rfl rfl rfl hg13 ?_
           refine g_no rfl rfl rfl rfl rfl hg13 ?_
           refine g_no rfl rfl rfl rfl rfl hg13 ?_
           refine g_no rfl rfl rfl rfl rfl hg13 ?_
           refine g_no rfl rfl rfl rfl rfl hg13 ?_
           refine g_no rfl rfl rfl rfl rfl hg13 ?_
           refine g_no rfl rfl rfl rfl rfl hg13 ?_
           refine p_f rfl rfl (bf2 hg13) rfl ?_
           refine hl_nil ?_
           refine then_n ?_
           refine c_f rfl rfl ?_
           refine hc_skip ?_
           refine inb_n ?_
           refine then_n ?_
           refine hc_region ?_
           refine r_move rfl rfl ?_
           refine r_add _ rfl rfl rfl rfl (by unfold I64; omega) ?_
           refine r_assign rfl rfl ?_
           refine hl_nil ?_
           exact again _ (i + 1) (by show i + 1 ≤ 3; omega) (by show 3 - (i + 1) < 3 - i; omega) ⟨rfl, rfl, rfl, rfl, rfl, trivial⟩ (List.nil_sublist _) ⟨(by repeat constructor), (by repeat constructor), (by repeat constructor), (by repeat constructor), (by repeat constructor), (by repeat constructor), trivial⟩
      ·have hb4' := hb4; try simp at hb4'
       refine hc_exit ?_
       refine then_exit ?_
       refine then_exit ?_
       refine inb_hit ?_
       refine then_n ?_
       refine hc_seq ?_
       refine hc_region ?_
       refine hl_call F.law07_correcting_cb rfl rfl (law07_correcting_meets) (List.Perm.refl _) trivial fun _ _ => ?_
       refine r_assign rfl rfl ?_
       refine hl_nil ?_
       refine then_n ?_
       refine hc_ret ?_
       exact ret1 () rfl rfl rfl trivial (List.nil_sublist _) trivial
    ·intro hg2; have hg2' := hg2; try simp at hg2'

end Go.Proofs.Ytpbbgbjidhffoaa
