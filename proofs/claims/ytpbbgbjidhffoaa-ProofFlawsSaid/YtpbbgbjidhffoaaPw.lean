/- The walk of years that may still grow. -/
import Derived.Test.YtpbbgbjidhffoaaPqk
import Derived.Test.YtpbbgbjidhffoaaWn
namespace Go.Proofs.Ytpbbgbjidhffoaa
open Go Go.W
set_option linter.unusedVariables false
set_option linter.unusedSimpArgs false
set_option maxRecDepth 20000
attribute [local irreducible] HL HC HQ HB Row Rows2 Blk Facts

theorem origin_congr {ps qs : List (Sl Str)} (h : years qs = years ps) (s : Str) : ∀ n, originN qs s n = originN ps s n
  | 0 => rfl
  | n + 1 => by rw [originN, originN, ← years_at, ← years_at, h, origin_congr h s n]
theorem look_congr {ps qs : List (Sl Str)} (h : years qs = years ps) (l : List Mk) (p : List Str) : lookP qs l p = lookP ps l p := by
  have h1 : qs.length = ps.length := by have := congrArg List.length h; rwa [years_len, years_len] at this
  have h2 : (lastP qs).l = (lastP ps).l := by unfold lastP; rw [← years_at, ← years_at, h, h1]
  have h3 : ∀ r m, flawP qs r m = flawP ps r m := fun r m => by unfold flawP; rw [h1, origin_congr h]
  unfold lookP
  rw [h, h1, h2, h3]


set_option maxHeartbeats 1000000 in
theorem kit_YearsOf_own {g : Nat} {A : Option Addr} {c : Nat} {nums : List Int} {s : Int × Int} (most : Nat) (hn : nums.length ≤ 9223372036854775807) (hs : DOK nums s) (hI : most ≤ 100) :
    Meets Try.prog F.kit_YearsOf [.pointer (some ⟨g, 0, none⟩), int most] { hpI := [dice g A c nums s], LI := [Row A (rows nums)], inv := fun x : (Int × Int) × List (Sl Str) × OutC × Hp => DOK nums x.1 ∧ x.2.1.length ≤ most ∧ PagesOK x.2.1 ∧ GrowS2 x.2.2.1 x.2.1 x.2.2.2, val := fun x => .slice x.2.2.1.1 x.2.1.length x.2.2.1.2, hpO := fun x => x.2.2.2 ++ [dice g A c nums x.1], LO := fun x => [inner x.2.1] } := by
 refine meets_intro F.kit_YearsOf_f rfl (Nat.le_of_ble_eq_true rfl) fun w0 => ?_
 refine hc_seq ?_
 refine hc_region ?_
 refine r_assign rfl rfl ?_
 refine hl_nil ?_
 refine then_n ?_
 refine hc_seq ?_
 refine hc_region ?_
 refine r_assign rfl rfl ?_
 refine hl_nil ?_
 refine then_n ?_
 refine hc_seq ?_
 refine hc_region ?_
 refine r_move rfl rfl ?_
 refine hl_call F.kit_PageOf_cb rfl rfl (kit_PageOf_meets 4 hn hs (by omega)) (.refl _) ⟨m0, trivial⟩ fun x hx => ?_
 obtain ⟨s1, pg, po⟩ := x
 obtain ⟨hs1, hp4, hP, hpc⟩ := hx
 simp only at hp4 hP hpc
 refine r_assign rfl rfl ?_
 refine hl_nil ?_
 refine then_n ?_
 refine hc_seq ?_
 refine hc_seq ?_
 refine hc_region ?_
 refine r_move rfl rfl ?_
 refine r_move rfl rfl ?_
 refine hl_call F.kit_Dice_To_cb rfl rfl (kit_Dice_To_meets most hn hs1 (by omega)) (.refl _) ⟨(by repeat constructor), trivial⟩ fun x hx => ?_
 obtain ⟨s2, z⟩ := x
 obtain ⟨hs2, hz⟩ := hx
 simp only [ToInv] at hz
 obtain ⟨zn, rfl⟩ := Int.eq_ofNat_of_zero_le hz.1
 have hzl : zn ≤ most := by
   by_cases h1 : 1 ≤ (most : Int)
   · have := hz.2.1 h1; omega
   · have := hz.2.2 (by omega); omega
 refine hl_facts (Fs := ([] : List (Sl Str)).map fun p => Row p.a (rows p.l)) (by intro F hF; simp at hF) ?_
 refine r_assign rfl rfl ?_
 refine hl_nil ?_
 refine then_n ?_
 refine hc_block ?_
 refine hc_loop (β := List (Sl Str) × OutC × Hp × List Str × OutC × (Int × Int) × Nat) ⟨fun ⟨ps, o, og, pg, po, s, i⟩ => GrowS2 o ps og ∧ ps.length + i ≤ most ∧ PagesOK ps ∧ PageOK pg ∧ pg.length ≤ 6 ∧ pg.length ≤ po.2 ∧ DOK nums s, fun ⟨ps, o, og, pg, po, s, i⟩ => [(0, .pointer (some ⟨g, 0, none⟩)), (5, .slice o.1 ps.length o.2), (6, .slice po.1 pg.length po.2), (7, int i)], fun ⟨ps, o, og, pg, po, s, i⟩ => og ++ [dice g A c nums s], fun ⟨ps, o, og, pg, po, s, i⟩ => [Row A (rows nums), Row po.1 (rows pg), inner ps]⟩
   (fun x => x.2.2.2.2.2.2) ([], (none, 0), [], pg, po, s2, zn) ⟨Grow.nil _ _, by simpa using hzl, by intro p hp; simp at hp, hP, by omega, hpc, hs2⟩ ⟨rfl, rfl, rfl, rfl, trivial⟩ (.refl _) ⟨(by repeat constructor), (by repeat constructor), (by repeat constructor), trivial⟩ fun x hx => ?_
 clear hP hpc hs hs1 hs2 hp4
 obtain ⟨ps, o, og, pg, po, s, i⟩ := x
 obtain ⟨hG, hlen0, hPs, hP, hp6, hpc, hs⟩ := hx
 refine hc_seq ?_
 refine hc_seq ?_
 refine hc_region ?_
 refine r_move rfl rfl ?_
 refine r_gtr rfl rfl rfl ?_
 refine hl_nil ?_
 refine then_n ?_
 first | refine c_dec rfl (fun hb1 => ?_) (fun hb1 => ?_) | refine hc_cond rfl (fun hb1 => ?_) (fun hb1 => ?_)
 ·have hb1' := hb1; try simp at hb1'
  have hi : 0 < i := by omega
  have hlen : ps.length + i ≤ most + 1 := by omega
  refine hc_skip ?_
  refine then_n ?_
  refine hc_cut (⟨fun ⟨ps, o, og, pg, po, s⟩ => GrowS2 o ps og ∧ ps.length + i ≤ most + 1 ∧ PagesOK ps ∧ PageOK pg ∧ pg.length ≤ 6 ∧ pg.length ≤ po.2 ∧ DOK nums s, fun ⟨ps, o, og, pg, po, s⟩ => [(0, .pointer (some ⟨g, 0, none⟩)), (5, .slice o.1 ps.length o.2), (6, .slice po.1 pg.length po.2), (7, int i)], fun ⟨ps, o, og, pg, po, s⟩ => og ++ [dice g A c nums s], fun ⟨ps, o, og, pg, po, s⟩ => [Row A (rows nums), Row po.1 (rows pg), inner ps]⟩ : Sta (List (Sl Str) × OutC × Hp × List Str × OutC × (Int × Int))) ?_ ?_
  ·skip
   refine hc_block ?_
   refine hc_cut (⟨fun ⟨ps, o, og, pg, po, s⟩ => GrowS2 o ps og ∧ ps.length + i ≤ most + 1 ∧ PagesOK ps ∧ PageOK pg ∧ pg.length ≤ 6 ∧ pg.length ≤ po.2 ∧ DOK nums s, fun ⟨ps, o, og, pg, po, s⟩ => [(0, .pointer (some ⟨g, 0, none⟩)), (5, .slice o.1 ps.length o.2), (6, .slice po.1 pg.length po.2), (7, int i)], fun ⟨ps, o, og, pg, po, s⟩ => og ++ [dice g A c nums s], fun ⟨ps, o, og, pg, po, s⟩ => [Row A (rows nums), Row po.1 (rows pg), inner ps]⟩ : Sta (List (Sl Str) × OutC × Hp × List Str × OutC × (Int × Int))) ?_ ?_
   ·skip
    refine hc_region ?_
    refine r_move rfl rfl ?_
    refine r_move rfl rfl ?_
    refine hl_call F.kit_DupStrings_cb rfl rfl (kit_DupStrings_meets pg (by omega)) (.refl _) ⟨m1, trivial⟩ fun x hx => ?_
    have hx : pg.length ≤ x.2 := hx
    refine r_buildSlice _ rfl rfl (fun _ => T.bs_pages_1 ..) fun gS => ?_
    refine r_append (ps.length + 1) (rows (ps ++ [(⟨x.1, x.2, pg⟩ : Sl Str)])) T.el_pages rfl rfl rfl hG (pm7 _ _ _) (Src.own (cs := #[.slice x.1 pg.length x.2]) (m := 1) (List.mem_append_right _ m0) rfl rfl) rfl (rows_append ps [(⟨x.1, x.2, pg⟩ : Sl Str)]).symm (by unfold maxLen; omega) (by omega) fun A' c' og' hG' => ?_
    refine r_assign rfl rfl ?_
    refine hl_facts (inner_snoc (ps := ps) (p := (⟨x.1, x.2, pg⟩ : Sl Str)) (by repeat constructor) (by repeat constructor)) ?_
    refine hl_nil ?_
    exact cut_c _ (ps ++ [(⟨x.1, x.2, pg⟩ : Sl Str)], (A', c'), og', pg, po, s) ⟨by unfold GrowS2; rw [len_snoc]; exact hG', by rw [len_snoc]; omega, hPs.snoc ⟨hP, hp6, hx⟩, hP, hp6, hpc, hs⟩ ⟨rfl, by rw [len_snoc]; rfl, rfl, rfl, trivial⟩ (fun p => by show List.countP p (og' ++ [dice g A c nums s]) ≤ List.countP p (og' ++ [(gS, _), dice g A c nums s]); simp only [List.countP_append, List.countP_cons, List.countP_nil]; omega) ⟨(by repeat constructor), (by repeat constructor), (by repeat constructor), trivial⟩
   ·intro x hx
    clear hG hlen hPs hP hp6 hpc hs
    obtain ⟨ps, o, og, pg, po, s⟩ := x
    obtain ⟨hG, hlen, hPs, hP, hp6, hpc, hs⟩ := hx
    refine hc_cut (⟨fun ⟨ps, o, og, pg, po, s⟩ => GrowS2 o ps og ∧ ps.length + i ≤ most + 1 ∧ PagesOK ps ∧ PageOK pg ∧ pg.length ≤ 6 ∧ pg.length ≤ po.2 ∧ DOK nums s, fun ⟨ps, o, og, pg, po, s⟩ => [(0, .pointer (some ⟨g, 0, none⟩)), (5, .slice o.1 ps.length o.2), (6, .slice po.1 pg.length po.2), (7, int i)], fun ⟨ps, o, og, pg, po, s⟩ => og ++ [dice g A c nums s], fun ⟨ps, o, og, pg, po, s⟩ => [Row A (rows nums), Row po.1 (rows pg), inner ps]⟩ : Sta (List (Sl Str) × OutC × Hp × List Str × OutC × (Int × Int))) ?_ ?_
    ·skip
     refine hc_seq ?_
     refine hc_region ?_
     refine r_move rfl rfl ?_
     refine hl_call F.kit_Dice_Once_cb rfl rfl (kit_Dice_Once_meets (4) hn hs (by omega)) (List.perm_append_comm) ⟨(by repeat constructor), trivial⟩ fun x hx => ?_
     obtain ⟨s1, z⟩ := x
     obtain ⟨hs1, _⟩ := hx
     refine hl_nil ?_
     refine then_n ?_
     first | refine c_dec rfl (fun hb2 => ?_) (fun hb2 => ?_) | refine hc_cond rfl (fun hb2 => ?_) (fun hb2 => ?_)
     ·have hb2' := hb2; try simp at hb2'
      refine hc_region ?_
      refine r_move rfl rfl ?_
      refine hl_call F.kit_PageOf_cb rfl rfl (kit_PageOf_meets 4 hn hs1 (by omega)) (.refl _) ⟨(by repeat constructor), trivial⟩ fun x hx => ?_
      obtain ⟨s2, pg2, po2⟩ := x
      obtain ⟨hs2, hp4, hP2, hpc2⟩ := hx
      simp only at hp4 hP2 hpc2
      refine r_assign rfl rfl ?_
      refine hl_nil ?_
      exact cut_c _ (ps, o, og, pg2, po2, s2) ⟨hG, hlen, hPs, hP2, by omega, hpc2, hs2⟩ ⟨rfl, rfl, rfl, rfl, trivial⟩ (fun p => by show List.countP p (og ++ [dice g A c nums s2]) ≤ List.countP p ([dice g A c nums s2] ++ og); simp only [List.countP_append, List.countP_cons, List.countP_nil]; omega) ⟨(by repeat constructor), (by repeat constructor), (by repeat constructor), trivial⟩
     ·have hb2' := hb2; try simp at hb2'
      refine hc_skip ?_
      exact cut_c _ (ps, o, og, pg, po, s1) ⟨hG, hlen, hPs, hP, hp6, hpc, hs1⟩ ⟨rfl, rfl, rfl, rfl, trivial⟩ (fun p => by show List.countP p (og ++ [dice g A c nums s1]) ≤ List.countP p ([dice g A c nums s1] ++ og); simp only [List.countP_append, List.countP_cons, List.countP_nil]; omega) ⟨(by repeat constructor), (by repeat constructor), (by repeat constructor), trivial⟩
    ·intro x hx
     clear hG hlen hPs hP hp6 hpc hs
     obtain ⟨ps, o, og, pg, po, s⟩ := x
     obtain ⟨hG, hlen, hPs, hP, hp6, hpc, hs⟩ := hx
     refine hc_cut (⟨fun ⟨ps, o, og, pg, po, s⟩ => GrowS2 o ps og ∧ ps.length + i ≤ most + 1 ∧ PagesOK ps ∧ PageOK pg ∧ pg.length ≤ 6 ∧ pg.length ≤ po.2 ∧ DOK nums s, fun ⟨ps, o, og, pg, po, s⟩ => [(0, .pointer (some ⟨g, 0, none⟩)), (5, .slice o.1 ps.length o.2), (6, .slice po.1 pg.length po.2), (7, int i)], fun ⟨ps, o, og, pg, po, s⟩ => og ++ [dice g A c nums s], fun ⟨ps, o, og, pg, po, s⟩ => [Row A (rows nums), Row po.1 (rows pg), inner ps]⟩ : Sta (List (Sl Str) × OutC × Hp × List Str × OutC × (Int × Int))) ?_ ?_
     ·skip
      refine hc_seq ?_
      refine hc_region ?_
      refine r_move rfl rfl ?_
      refine r_len_sl rfl T.u_strs rfl ?_
      refine r_gtr rfl rfl rfl ?_
      refine r_move rfl rfl ?_
      refine g_split rfl rfl ?_ ?_
      ·intro hg1; have hg1' := hg1; try simp at hg1'
       have hpos : 0 < pg.length := by simpa using hg1
       refine g_yes rfl rfl hg1 ?_
       refine r_move rfl rfl ?_
       refine g_yes rfl rfl hg1 ?_
       refine hl_call F.kit_Dice_Once_cb rfl rfl (kit_Dice_Once_meets (2) hn hs (by omega)) (List.perm_append_comm) ⟨(by repeat constructor), trivial⟩ fun x hx => ?_
       obtain ⟨s1, z⟩ := x
       obtain ⟨hs1, _⟩ := hx
       refine p_t rfl rfl (bt1 hg1) rfl ?_
       refine hl_nil ?_
       refine then_n ?_
       first | refine c_dec rfl (fun hb3 => ?_) (fun hb3 => ?_) | refine hc_cond rfl (fun hb3 => ?_) (fun hb3 => ?_)
       ·have hb3' := hb3; try simp at hb3'
        refine hc_seq ?_
        refine hc_region ?_
        refine r_move rfl rfl ?_
        refine hl_call F.kit_DupStrings_cb rfl rfl (kit_DupStrings_own pg (by omega)) (.refl _) ⟨(by repeat constructor), trivial⟩ fun x hx => ?_
        obtain ⟨gp, cur, e1, e2, h3, h4, h5, h6, _⟩ := hx.open_ hpos
        obtain ⟨⟨pa, pc⟩, pog⟩ := x
        simp only at e1 e2 h3 h4 h5
        subst e1
        subst e2
        refine r_assign rfl rfl ?_
        refine hl_nil ?_
        refine then_n ?_
        refine hc_region ?_
        refine r_move rfl rfl ?_
        refine r_move rfl rfl ?_
        refine r_move rfl rfl ?_
        refine r_len_sl rfl T.u_strs rfl ?_
        refine r_sub ((pg.length - 1 : Nat) : Int) rfl rfl rfl (by omega) (by unfold I64; omega) ?_
        refine hl_call F.kit_Dice_To_cb rfl rfl (kit_Dice_To_meets ((pg.length - 1 : Nat) : Int) hn hs1 (by omega)) (.swap _ _ _) ⟨(by repeat constructor), trivial⟩ fun x hx => ?_
        obtain ⟨s2, z⟩ := x
        obtain ⟨hs2, hz⟩ := hx
        simp only [ToInv] at hz
        obtain ⟨zn, rfl⟩ := Int.eq_ofNat_of_zero_le hz.1
        have hzl : zn < pg.length := by
          by_cases h1 : 1 ≤ ((pg.length - 1 : Nat) : Int)
          · have := hz.2.1 h1; omega
          · have := hz.2.2 (by omega); omega
        refine r_move rfl rfl ?_
        refine hl_call F.kit_LineOf_cb rfl rfl (kit_LineOf_meets hn hs2) (.refl _) ⟨(by repeat constructor), trivial⟩ fun x hx => ?_
        obtain ⟨s3, t⟩ := x
        obtain ⟨hs3, ht⟩ := hx
        refine r_indexAddr_own zn zn rfl T.u_strs T.sz_string rfl rfl rfl hzl (by omega) ?_
        refine r_store (u := cur[zn]) rfl rfl (.swap _ _ _) T.sz_string (Array.getElem?_eq_getElem (by omega)) rfl ?_
        refine hl_nil ?_
        refine hq_grown (og := [_]) (Grow.set (l := pg) (k := zn) (a := t) rfl rfl h3 h4 h5 h6) ?_
        exact cut_c _ (ps, o, og, pg.set zn t, (some ⟨gp, 0, none⟩, pc), s3) ⟨hG, hlen, hPs, hP.set ht, by rw [List.length_set]; exact hp6, by rw [List.length_set]; exact h3, hs3⟩ ⟨rfl, rfl, by rw [List.length_set]; rfl, rfl, trivial⟩ (fun p => by show List.countP p (og ++ [dice g A c nums s3]) ≤ List.countP p (dice g A c nums s3 :: og); simp only [List.countP_append, List.countP_cons, List.countP_nil]; omega) ⟨(by repeat constructor), (by repeat constructor), (by repeat constructor), trivial⟩
       ·have hb3' := hb3; try simp at hb3'
        refine hc_skip ?_
        exact cut_c _ (ps, o, og, pg, po, s1) ⟨hG, hlen, hPs, hP, hp6, hpc, hs1⟩ ⟨rfl, rfl, rfl, rfl, trivial⟩ (fun p => by show List.countP p (og ++ [dice g A c nums s1]) ≤ List.countP p ([dice g A c nums s1] ++ og); simp only [List.countP_append, List.countP_cons, List.countP_nil]; omega) ⟨(by repeat constructor), (by repeat constructor), (by repeat constructor), trivial⟩
      ·intro hg1; have hg1' := hg1; try simp at hg1'
       refine g_no rfl rfl rfl rfl rfl hg1 ?_
       refine g_no rfl rfl rfl rfl rfl hg1 ?_
       refine p_f rfl rfl (bf2 hg1) rfl ?_
       refine hl_nil ?_
       refine then_n ?_
       refine c_f rfl rfl ?_
       refine hc_skip ?_
       exact cut_c _ (ps, o, og, pg, po, s) ⟨hG, hlen, hPs, hP, hp6, hpc, hs⟩ ⟨rfl, rfl, rfl, rfl, trivial⟩ (fun p => by show List.countP p (og ++ [dice g A c nums s]) ≤ List.countP p (og ++ [dice g A c nums s]); simp only [List.countP_append, List.countP_cons, List.countP_nil]; omega) ⟨(by repeat constructor), (by repeat constructor), (by repeat constructor), trivial⟩
     ·intro x hx
      clear hG hlen hPs hP hp6 hpc hs
      obtain ⟨ps, o, og, pg, po, s⟩ := x
      obtain ⟨hG, hlen, hPs, hP, hp6, hpc, hs⟩ := hx
      refine hc_cut (⟨fun ⟨ps, o, og, pg, po, s⟩ => GrowS2 o ps og ∧ ps.length + i ≤ most + 1 ∧ PagesOK ps ∧ PageOK pg ∧ pg.length ≤ 6 ∧ pg.length ≤ po.2 ∧ DOK nums s, fun ⟨ps, o, og, pg, po, s⟩ => [(0, .pointer (some ⟨g, 0, none⟩)), (5, .slice o.1 ps.length o.2), (6, .slice po.1 pg.length po.2), (7, int i)], fun ⟨ps, o, og, pg, po, s⟩ => og ++ [dice g A c nums s], fun ⟨ps, o, og, pg, po, s⟩ => [Row A (rows nums), Row po.1 (rows pg), inner ps]⟩ : Sta (List (Sl Str) × OutC × Hp × List Str × OutC × (Int × Int))) ?_ ?_
      ·skip
       refine hc_seq ?_
       refine hc_region ?_
       refine r_move rfl rfl ?_
       refine r_len_sl rfl T.u_strs rfl ?_
       refine r_gtr rfl rfl rfl ?_
       refine r_move rfl rfl ?_
       refine g_split rfl rfl ?_ ?_
       ·intro hg2; have hg2' := hg2; try simp at hg2'
        have hpos : 0 < pg.length := by simpa using hg2
        refine g_yes rfl rfl hg2 ?_
        refine r_move rfl rfl ?_
        refine g_yes rfl rfl hg2 ?_
        refine hl_call F.kit_Dice_Once_cb rfl rfl (kit_Dice_Once_meets (3) hn hs (by omega)) (List.perm_append_comm) ⟨(by repeat constructor), trivial⟩ fun x hx => ?_
        obtain ⟨s1, z⟩ := x
        obtain ⟨hs1, _⟩ := hx
        refine p_t rfl rfl (bt1 hg2) rfl ?_
        refine hl_nil ?_
        refine then_n ?_
        first | refine c_dec rfl (fun hb4 => ?_) (fun hb4 => ?_) | refine hc_cond rfl (fun hb4 => ?_) (fun hb4 => ?_)
        ·have hb4' := hb4; try simp at hb4'
         refine hc_region ?_
         refine r_move rfl rfl ?_
         refine r_slice_lo 1 rfl T.u_strs T.sz_string rfl rfl rfl (by omega) ?_
         refine r_assign rfl rfl ?_
         refine hl_nil ?_
         refine hq_cut (p := pg) (ca := po.2) 1 pg.length (by repeat constructor) hpc ?_
         rw [List.take_length]
         exact cut_c _ (ps, o, og, pg.drop 1, (cutA po.1 po.2 1 1, po.2 - 1), s1) ⟨hG, hlen, hPs, hP.drop, by rw [List.length_drop]; omega, by rw [List.length_drop]; simp only; omega, hs1⟩ ⟨rfl, rfl, by rw [List.length_drop]; rfl, rfl, trivial⟩ (fun p => by show List.countP p (og ++ [dice g A c nums s1]) ≤ List.countP p ([dice g A c nums s1] ++ og); simp only [List.countP_append, List.countP_cons, List.countP_nil]; omega) ⟨(by repeat constructor), (by repeat constructor), (by repeat constructor), trivial⟩
        ·have hb4' := hb4; try simp at hb4'
         refine hc_skip ?_
         exact cut_c _ (ps, o, og, pg, po, s1) ⟨hG, hlen, hPs, hP, hp6, hpc, hs1⟩ ⟨rfl, rfl, rfl, rfl, trivial⟩ (fun p => by show List.countP p (og ++ [dice g A c nums s1]) ≤ List.countP p ([dice g A c nums s1] ++ og); simp only [List.countP_append, List.countP_cons, List.countP_nil]; omega) ⟨(by repeat constructor), (by repeat constructor), (by repeat constructor), trivial⟩
       ·intro hg2; have hg2' := hg2; try simp at hg2'
        refine g_no rfl rfl rfl rfl rfl hg2 ?_
        refine g_no rfl rfl rfl rfl rfl hg2 ?_
        refine p_f rfl rfl (bf2 hg2) rfl ?_
        refine hl_nil ?_
        refine then_n ?_
        refine c_f rfl rfl ?_
        refine hc_skip ?_
        exact cut_c _ (ps, o, og, pg, po, s) ⟨hG, hlen, hPs, hP, hp6, hpc, hs⟩ ⟨rfl, rfl, rfl, rfl, trivial⟩ (fun p => by show List.countP p (og ++ [dice g A c nums s]) ≤ List.countP p (og ++ [dice g A c nums s]); simp only [List.countP_append, List.countP_cons, List.countP_nil]; omega) ⟨(by repeat constructor), (by repeat constructor), (by repeat constructor), trivial⟩
      ·intro x hx
       clear hG hlen hPs hP hp6 hpc hs
       obtain ⟨ps, o, og, pg, po, s⟩ := x
       obtain ⟨hG, hlen, hPs, hP, hp6, hpc, hs⟩ := hx
       refine hc_seq ?_
       refine hc_region ?_
       refine r_move rfl rfl ?_
       refine r_len_sl rfl T.u_strs rfl ?_
       refine r_lss rfl rfl rfl ?_
       refine r_move rfl rfl ?_
       refine g_split rfl rfl ?_ ?_
       ·intro hg3; have hg3' := hg3; try simp at hg3'
        have hlt6 : pg.length < 6 := by have h : (pg.length : Int) < 6 := (by simpa using hg3); omega
        refine g_yes rfl rfl hg3 ?_
        refine r_move rfl rfl ?_
        refine g_yes rfl rfl hg3 ?_
        refine hl_call F.kit_Dice_Once_cb rfl rfl (kit_Dice_Once_meets (3) hn hs (by omega)) (List.perm_append_comm) ⟨(by repeat constructor), trivial⟩ fun x hx => ?_
        obtain ⟨s1, z⟩ := x
        obtain ⟨hs1, _⟩ := hx
        refine p_t rfl rfl (bt1 hg3) rfl ?_
        refine hl_nil ?_
        refine then_n ?_
        first | refine c_dec rfl (fun hb5 => ?_) (fun hb5 => ?_) | refine hc_cond rfl (fun hb5 => ?_) (fun hb5 => ?_)
        ·have hb5' := hb5; try simp at hb5'
         refine hc_region ?_
         refine r_move rfl rfl ?_
         refine hl_call F.kit_DupStrings_cb rfl rfl (kit_DupStrings_own pg (by omega)) (.refl _) ⟨(by repeat constructor), trivial⟩ fun x hx => ?_
         have hx : GrowS x.1 pg x.2 := hx
         refine r_move rfl rfl ?_
         refine hl_call F.kit_LineOf_cb rfl rfl (kit_LineOf_meets hn hs1) (perm_of fun p => by show List.countP p (x.2 ++ ([dice g A c nums s1] ++ og)) = List.countP p ([dice g A c nums s1] ++ (x.2 ++ og)); simp only [List.countP_append, List.countP_cons, List.countP_nil]; omega) ⟨(by repeat constructor), trivial⟩ fun y hy => ?_
         obtain ⟨s2, t⟩ := y
         obtain ⟨hs2, ht⟩ := hy
         refine r_buildSlice _ rfl rfl (fun _ => T.bs_strs_1 ..) fun gS => ?_
         refine r_append (hp' := [(gS, Obj.cells #[str t] T.string (0, 0)), dice g A c nums s2] ++ og) (pg.length + 1) (rows (pg ++ [t])) T.el_strs rfl rfl rfl hx (perm_of fun p => by show List.countP p ((gS, Obj.cells #[str t] T.string (0, 0)) :: ([dice g A c nums s2] ++ (x.2 ++ og))) = List.countP p (x.2 ++ ([(gS, Obj.cells #[str t] T.string (0, 0)), dice g A c nums s2] ++ og)); simp only [List.countP_append, List.countP_cons, List.countP_nil]; omega) (Src.own (g := gS) (cs := #[str t]) (m := 1) (List.mem_append_right _ m0) rfl rfl) rfl (rows_append pg [t]).symm (by unfold maxLen; omega) (by omega) fun A' c' og' hG' => ?_
         refine r_assign rfl rfl ?_
         refine hl_nil ?_
         refine inb_n ?_
         refine hq_grown hG' ?_
         exact cut_c _ (ps, o, og, pg ++ [t], (A', c'), s2) ⟨hG, hlen, hPs, hP.snoc ht, by rw [len_snoc]; omega, by rw [len_snoc]; exact hG'.le, hs2⟩ ⟨rfl, rfl, by rw [len_snoc]; rfl, rfl, trivial⟩ (fun p => by show List.countP p (og ++ [dice g A c nums s2]) ≤ List.countP p ([(gS, _), dice g A c nums s2] ++ og); simp only [List.countP_append, List.countP_cons, List.countP_nil]; omega) ⟨(by repeat constructor), (by repeat constructor), (by repeat constructor), trivial⟩
        ·have hb5' := hb5; try simp at hb5'
         refine hc_skip ?_
         refine inb_n ?_
         exact cut_c _ (ps, o, og, pg, po, s1) ⟨hG, hlen, hPs, hP, hp6, hpc, hs1⟩ ⟨rfl, rfl, rfl, rfl, trivial⟩ (fun p => by show List.countP p (og ++ [dice g A c nums s1]) ≤ List.countP p ([dice g A c nums s1] ++ og); simp only [List.countP_append, List.countP_cons, List.countP_nil]; omega) ⟨(by repeat constructor), (by repeat constructor), (by repeat constructor), trivial⟩
       ·intro hg3; have hg3' := hg3; try simp at hg3'
        refine g_no rfl rfl rfl rfl rfl hg3 ?_
        refine g_no rfl rfl rfl rfl rfl hg3 ?_
        refine p_f rfl rfl (bf2 hg3) rfl ?_
        refine hl_nil ?_
        refine then_n ?_
        refine c_f rfl rfl ?_
        refine hc_skip ?_
        refine inb_n ?_
        exact cut_c _ (ps, o, og, pg, po, s) ⟨hG, hlen, hPs, hP, hp6, hpc, hs⟩ ⟨rfl, rfl, rfl, rfl, trivial⟩ (fun p => by show List.countP p (og ++ [dice g A c nums s]) ≤ List.countP p (og ++ [dice g A c nums s]); simp only [List.countP_append, List.countP_cons, List.countP_nil]; omega) ⟨(by repeat constructor), (by repeat constructor), (by repeat constructor), trivial⟩
  ·intro x hx
   clear hG hlen hPs hP hp6 hpc hs
   obtain ⟨ps, o, og, pg, po, s⟩ := x
   obtain ⟨hG, hlen, hPs, hP, hp6, hpc, hs⟩ := hx
   refine hc_region ?_
   refine r_move rfl rfl ?_
   refine r_sub ((i - 1 : Nat) : Int) rfl rfl rfl (by omega) (by unfold I64; omega) ?_
   refine r_assign rfl rfl ?_
   refine hl_nil ?_
   exact again _ (ps, o, og, pg, po, s, i - 1) ⟨hG, by omega, hPs, hP, hp6, hpc, hs⟩ (by show i - 1 < i; omega) ⟨rfl, rfl, rfl, rfl, trivial⟩ (.refl _) ⟨m0, m1, m2, trivial⟩
 ·have hb1' := hb1; try simp at hb1'
  refine hc_exit ?_
  refine then_exit ?_
  refine then_exit ?_
  refine inb_hit ?_
  refine then_n ?_
  refine hc_seq ?_
  refine hc_region ?_
  refine r_move rfl rfl ?_
  refine r_assign rfl rfl ?_
  refine hl_nil ?_
  refine then_n ?_
  refine hc_ret ?_
  exact ret1 (s, ps, o, og) rfl rfl rfl ⟨hs, by simp only; omega, hPs, hG⟩ (.refl _) ⟨(by repeat constructor), trivial⟩

end Go.Proofs.Ytpbbgbjidhffoaa
