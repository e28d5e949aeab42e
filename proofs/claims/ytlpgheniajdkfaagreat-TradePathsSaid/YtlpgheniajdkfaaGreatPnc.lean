/- The document's paths: Path, Least, Under. -/
import Derived.Test.YtlpgheniajdkfaaGreatPnb
import Derived.Test.YtlpgheniajdkfaaGreatPzi
namespace Go.Proofs.YtlpgheniajdkfaaGreat
open Go Go.W
set_option linter.unusedVariables false
set_option linter.unusedSimpArgs false
set_option maxRecDepth 20000
attribute [local irreducible] HL HC HQ HB Row Rows2 Blk Facts


theorem ref04_path_own {A B : Option Addr} {ca cb : Nat} (cs : List Cl) (hs : List Hd) (h6 : cs.length ≤ 6) (hcl : ∀ i, i < cs.length → ClsOK cs i) : ∀ (d : Nat) (c : Int), c < (d : Int) → c < (cs.length : Int) → Meets Tryz.prog F.ref04_path [.agg #[.slice A cs.length ca, .slice B hs.length cb], int c] { LI := [Row A (rows cs)], inv := fun x : OutC × Hp => Grow T.int 1 x.1.1 (pathT cs c).length x.1.2 (rows (pathT cs c)) x.2, val := fun x => .slice x.1.1 (pathT cs c).length x.1.2, hpO := fun x => x.2 } := by
 intro d
 induction d using Nat.strongRecOn
 rename_i d ih
 intro c hcd hcl2
 have hpl := path_len6 h6 hcl hcl2
 refine meets_intro F.ref04_path_f rfl (Nat.le_of_ble_eq_true rfl) fun w0 => ?_
 refine hc_seq ?_
 refine hc_region ?_
 refine r_box rfl rfl fun gB => ?_
 refine r_assign rfl rfl ?_
 refine hl_nil ?_
 refine then_n ?_
 refine hc_seq ?_
 refine hc_seq ?_
 refine hc_region ?_
 refine r_move rfl rfl ?_
 refine r_lss rfl rfl rfl ?_
 refine hl_nil ?_
 refine then_n ?_
 refine c_dec rfl (fun hb1 => ?_) (fun hb1 => ?_)
 ·have hb1' := hb1; try simp at hb1'
  refine hc_seq ?_
  refine hc_region ?_
  refine r_assign rfl rfl ?_
  refine hl_nil ?_
  refine then_n ?_
  refine hc_ret ?_
  refine then_ret ?_
  have e := path_neg cs hb1
  exact ret1 ((none, 0), []) rfl (by show some (Value.slice none 0 0) = some (Value.slice none (pathT cs c).length 0); rw [e]; rfl) rfl (by show Grow _ _ none (pathT cs c).length 0 (rows (pathT cs c)) []; rw [e]; exact Grow.nil _ _) (List.nil_sublist _) trivial
 ·have hb1' := hb1; try simp at hb1'
  have hc0 : c.toNat < cs.length := by omega
  have hck := hcl _ hc0
  have hlo := hck.lo
  have hhi := hck.hi
  have hst := path_step cs hcl (c := c) (by omega) hcl2
  have hul := path_len6 h6 hcl (c := (cs.getD c.toNat default).2) (by omega)
  have hih : Meets Tryz.prog F.ref04_path [.agg #[.slice A cs.length ca, .slice B hs.length cb], int (cs.getD c.toNat default).2] { LI := [Row A (rows cs)], inv := fun x : OutC × Hp => Grow T.int 1 x.1.1 (pathT cs (cs.getD c.toNat default).2).length x.1.2 (rows (pathT cs (cs.getD c.toNat default).2)) x.2, val := fun x => .slice x.1.1 (pathT cs (cs.getD c.toNat default).2).length x.1.2, hpO := fun x => x.2 } := by
    exact ih c.toNat (by omega) (cs.getD c.toNat default).2 (by omega) (by omega)
  refine hc_skip ?_
  refine then_n ?_
  refine hc_seq ?_
  refine hc_drawW ([]) ([(gB, .cells #[.slice A cs.length ca, .slice B hs.length cb] T.api_Trades (0, 0))]) (List.Perm.refl _) 10 [] mixed (by decide) (by decide) (by decide) rfl rfl rfl ?_
  apply hb_ex _ rfl rfl rfl
  ·intro w1
   refine r_loadB rfl T.row_api_Trades T.sz_api_Trades rfl (by repeat constructor) (by rfl) ?_
   refine hl_nil ?_
   exact qe_done rfl
  apply hb_ex _ rfl rfl rfl
  ·intro w1
   refine r_fieldAddr ⟨_, 0, none⟩ rfl rfl T.fa_api_Trades_0 rfl ?_
   refine hl_nil ?_
   exact qe_done rfl
  apply hb_ex _ rfl rfl rfl
  ·intro w1
   refine r_load rfl T.cell_L_api_Class rfl (cell_blk (by repeat constructor) rfl) ?_
   refine hl_nil ?_
   exact qe_done rfl
  apply hb_ex _ rfl rfl rfl
  ·intro w1
   refine r_move rfl rfl ?_
   refine hl_nil ?_
   exact qe_done rfl
  apply hb_ex _ rfl rfl rfl
  ·intro w1
   refine r_elem (α := Cl) cs c.toNat rfl T.u_L_api_Class T.sz_api_Class rfl rfl (Int.toNat_of_nonneg (by omega)).symm (by repeat constructor) rfl hc0 (by decide) ?_
   refine hl_nil ?_
   exact qe_done rfl
  apply hb_ex _ rfl rfl rfl
  ·intro w1
   refine r_fieldAddr _ rfl rfl T.fa_api_Class_1 rfl ?_
   refine hl_nil ?_
   exact qe_done rfl
  apply hb_ex _ rfl rfl rfl
  ·intro w1
   refine r_load (v := int (cs.getD c.toNat default).2) rfl T.cell_int rfl (cell_row_f (by repeat constructor) (rows_get hc0 rfl)) ?_
   refine hl_nil ?_
   exact qe_done rfl
  refine hb_ad ⟨OutC × Hp, fun x => Grow T.int 1 x.1.1 (pathT cs (cs.getD c.toNat default).2).length x.1.2 (rows (pathT cs (cs.getD c.toNat default).2)) x.2, fun x => .slice x.1.1 (pathT cs (cs.getD c.toNat default).2).length x.1.2, fun _ => [], fun x => x.2⟩ rfl rfl rfl ?_ ?_
  ·intro w1
   refine hl_call F.ref04_path_cb rfl rfl hih (hpR := []) (List.Perm.refl _) ⟨(by repeat constructor), trivial⟩ fun x hx => ?_
   refine hl_nil ?_
   exact qw_done x hx (fun _ => rfl) (by rw [List.append_nil]; exact List.Sublist.refl _) trivial
  apply hb_ex _ rfl rfl rfl
  ·intro w1
   refine r_move rfl rfl ?_
   refine hl_nil ?_
   exact qe_done rfl
  refine hb_vs ⟨Nat, fun _ => True, fun g => .slice (some ⟨g, 0, none⟩) 1 1, fun g => [Row (some ⟨g, 0, none⟩) (rows [c])]⟩ rfl rfl rfl ?_ ?_
  ·intro w1
   refine r_buildSlice _ rfl rfl (fun _ => T.bs_ints_1 ..) fun gS => ?_
   refine hl_nil ?_
   refine hq_letgo (rows [c]) (List.prefix_refl _) ?_
   exact qv_done gS trivial rfl ⟨m0, trivial⟩
  refine hb_nil ⟨rfl, ?_⟩
  intro x hx g9 _
  obtain ⟨⟨na, nc⟩, og⟩ := x
  simp only at hx
  refine r_append ((pathT cs (cs.getD c.toNat default).2).length + 1) (rows ((pathT cs (cs.getD c.toNat default).2) ++ [c])) T.el_ints rfl rfl rfl hx (hp' := [(gB, .cells #[.slice A cs.length ca, .slice B hs.length cb] T.api_Trades (0, 0))]) (show List.Perm ((og ++ []) ++ [(gB, .cells #[.slice A cs.length ca, .slice B hs.length cb] T.api_Trades (0, 0))]) (og ++ [(gB, .cells #[.slice A cs.length ca, .slice B hs.length cb] T.api_Trades (0, 0))]) from (perm_of fun p => by simp only [List.countP_append, List.countP_cons, List.countP_nil]; omega)) (Src.row (news := rows [c]) (m := 1) (by repeat constructor) rfl (rows_one _) (by decide)) rfl (rows_append _ _).symm (by unfold maxLen; omega) (by omega) fun A' c' og' hG' => ?_
  refine r_assign rfl rfl ?_
  refine hl_nil ?_
  refine then_n ?_
  refine hc_ret ?_
  exact ret1 ((A', c'), og') rfl (by show some (Value.slice A' ((pathT cs (cs.getD c.toNat default).2).length + 1) c') = some (Value.slice A' (pathT cs c).length c'); rw [hst, List.length_append]; rfl) rfl (by show Grow _ _ A' (pathT cs c).length c' (rows (pathT cs c)) og'; rw [hst, List.length_append]; exact hG') (List.sublist_append_left _ _) trivial

theorem ref04_path_meets {A B : Option Addr} {ca cb : Nat} (cs : List Cl) (hs : List Hd) (c : Int) (h6 : cs.length ≤ 6) (hcl : ∀ i, i < cs.length → ClsOK cs i) (hc : c < (cs.length : Int)) : Meets Tryz.prog F.ref04_path [.agg #[.slice A cs.length ca, .slice B hs.length cb], int c] { LI := [Row A (rows cs)], inv := fun x : OutC => (pathT cs c).length ≤ x.2, val := fun x => .slice x.1 (pathT cs c).length x.2, LO := fun x => [Row x.1 (rows (pathT cs c))] } := by
  intro w hw
  refine (ref04_path_own cs hs h6 hcl cs.length c hc hc w hw).mono fun e w' h => ?_
  obtain ⟨x, h1, h2, h3⟩ := h
  have h4 : Grow T.int 1 x.1.1 (pathT cs c).length x.1.2 (rows (pathT cs c)) x.2 := h2
  refine ⟨x.1, h1, h4.le, ?_⟩
  refine wi_grown (hp := []) h4 ?_
  rw [List.append_nil]
  exact h3

theorem ref04_Path_meets {A B : Option Addr} {ca cb : Nat} (cs : List Cl) (hs : List Hd) (c : Int) (hhl : hs.length ≤ 1000) (hcl0 : cs.length ≤ 1000) (hwc : ∀ x ∈ cs, x.1.length ≤ 1000) (hwh : ∀ h ∈ hs, h.1.length ≤ 1000) (ha : ∀ h ∈ hs, h.2.2.2.l.length ≤ 1000000) : Meets Tryz.prog F.ref04_Path [.agg #[.slice A cs.length ca, .slice B hs.length cb], int c] { LI := [Row A (rows cs), RowsF B hs Hd.row], inv := fun x : OutC => (pathE (trOf cs hs) c).1.length ≤ x.2, val := fun x => .tuple #[.slice x.1 (pathE (trOf cs hs) c).1.length x.2, int (pathE (trOf cs hs) c).2], LO := fun x => [Row x.1 (rows (pathE (trOf cs hs) c).1)] } := by
 refine meets_intro F.ref04_Path_f rfl (Nat.le_of_ble_eq_true rfl) fun w0 => ?_
 refine hc_seq ?_
 refine hc_region ?_
 refine r_box rfl rfl fun gB => ?_
 refine r_assign rfl rfl ?_
 refine r_assign rfl rfl ?_
 refine hl_nil ?_
 refine then_n ?_
 refine hc_seq ?_
 refine hc_seq ?_
 refine hc_region ?_
 refine r_loadA rfl T.row_api_Trades T.sz_api_Trades rfl (by repeat constructor) (by rfl) ?_
 refine r_move rfl rfl ?_
 refine r_buildSlice _ rfl rfl (fun _ => T.bs_ints_1 ..) fun gS => ?_
 refine hl_letgo (rows [c]) (List.prefix_refl _) ?_
 refine hl_nilrow (α := Int) ?_
 refine hl_call F.ref04_asked_cb rfl rfl (ref04_asked_meets (c2 := 0) cs hs [c] ([] : List Int) (by simp) (by simp) hhl hcl0 hwc hwh ha) (List.Perm.refl _) ⟨(by repeat constructor), (by repeat constructor), (by repeat constructor), (by repeat constructor), trivial⟩ fun _ _ => ?_
 refine r_assign rfl rfl ?_
 refine hl_nil ?_
 refine then_n ?_
 refine hc_seq ?_
 refine hc_region ?_
 refine r_move rfl rfl ?_
 refine r_neq rfl rfl rfl ?_
 refine hl_nil ?_
 refine then_n ?_
 refine c_dec rfl (fun hb1 => ?_) (fun hb1 => ?_)
 ·have hb1' := hb1; try simp at hb1'
  have hE : pathE (trOf cs hs) c = ([], askdE (trOf cs hs) [c] []) := by
    rw [askd_c]
    rw [askd_c] at hb1
    unfold pathE
    by_cases h0 : checkT (trOf cs hs) = 0
    · rw [if_neg (not_not_intro h0)] at hb1 ⊢
      rw [if_neg (not_not_intro h0)]
      by_cases hin : 0 ≤ c ∧ c ≤ (cs.length : Int) - 1
      · rw [if_pos hin] at hb1; exact absurd rfl hb1
      · first | rw [if_neg hin, if_neg hin] | rw [if_neg hin, if_pos hin]
    · rw [if_pos h0, if_pos h0]
  refine hc_seq ?_
  refine hc_region ?_
  refine r_move rfl rfl ?_
  refine r_assign rfl rfl ?_
  refine r_assign rfl rfl ?_
  refine hl_nil ?_
  refine then_n ?_
  refine hc_ret ?_
  refine then_ret ?_
  refine hq_nilrow (α := Int) ?_
  exact ret2 (none, 0) rfl rfl rfl (by show Value.tuple #[.slice none (pathE (trOf cs hs) c).1.length 0, int (pathE (trOf cs hs) c).2] = _; rw [hE]; rfl) rfl (by show (pathE (trOf cs hs) c).1.length ≤ 0; rw [hE]; exact Nat.le_refl _) (List.nil_sublist _) (by show LSub _ [Row none (rows (pathE (trOf cs hs) c).1)]; rw [hE]; exact ⟨(by repeat constructor), trivial⟩)
 ·have hb1' := hb1; try simp at hb1'
  have h0 := askd_check (Classical.not_not.1 hb1)
  have hok := tr_ok h0
  have h6 : cs.length ≤ 6 := hok.c6
  have h6h := hok.h6
  rw [hs_len] at h6h
  have hcl : ∀ i, i < cs.length → ClsOK cs i := hok.c
  have hin : 0 ≤ c ∧ c ≤ (cs.length : Int) - 1 := by
    have h1 := Classical.not_not.1 hb1
    rw [askd_c, if_neg (not_not_intro h0)] at h1
    exact Classical.byContradiction fun hn => by rw [if_neg hn] at h1; cases h1
  refine hc_skip ?_
  refine then_n ?_
  refine hc_seq ?_
  have hE : pathE (trOf cs hs) c = (pathT cs c, 0) := by rw [pathE, if_neg (not_not_intro h0)]; exact if_pos hin
  refine hc_region ?_
  refine r_loadA rfl T.row_api_Trades T.sz_api_Trades rfl (by repeat constructor) (by rfl) ?_
  refine r_move rfl rfl ?_
  refine hl_call F.ref04_path_cb rfl rfl (ref04_path_meets cs hs c h6 hcl (by omega)) (List.Perm.refl _) ⟨(by repeat constructor), trivial⟩ fun y hy => ?_
  refine r_assign rfl rfl ?_
  refine r_assign rfl rfl ?_
  refine hl_nil ?_
  refine then_n ?_
  refine hc_ret ?_
  exact ret2 y rfl rfl rfl (by show Value.tuple #[.slice y.1 (pathE (trOf cs hs) c).1.length y.2, int (pathE (trOf cs hs) c).2] = _; rw [hE]) rfl (by show (pathE (trOf cs hs) c).1.length ≤ y.2; rw [hE]; exact hy) (List.nil_sublist _) (by show LSub _ [Row y.1 (rows (pathE (trOf cs hs) c).1)]; rw [hE]; exact ⟨(by repeat constructor), trivial⟩)

theorem ref04_Least_meets {A B : Option Addr} {ca cb : Nat} (cs : List Cl) (hs : List Hd) (a b : Int) (hhl : hs.length ≤ 1000) (hcl0 : cs.length ≤ 1000) (hwc : ∀ x ∈ cs, x.1.length ≤ 1000) (hwh : ∀ h ∈ hs, h.1.length ≤ 1000) (ha : ∀ h ∈ hs, h.2.2.2.l.length ≤ 1000000) : Meets Tryz.prog F.ref04_Least [.agg #[.slice A cs.length ca, .slice B hs.length cb], int a, int b] { LI := [Row A (rows cs), RowsF B hs Hd.row], val := fun _ : Unit => .tuple #[int (leastE (trOf cs hs) a b).1, int (leastE (trOf cs hs) a b).2] } := by
 refine meets_intro F.ref04_Least_f rfl (Nat.le_of_ble_eq_true rfl) fun w0 => ?_
 refine hc_seq ?_
 refine hc_region ?_
 refine r_box rfl rfl fun gB => ?_
 refine r_assign rfl rfl ?_
 refine r_assign rfl rfl ?_
 refine hl_nil ?_
 refine then_n ?_
 refine hc_seq ?_
 refine hc_seq ?_
 refine hc_region ?_
 refine r_loadA rfl T.row_api_Trades T.sz_api_Trades rfl (by repeat constructor) (by rfl) ?_
 refine r_move rfl rfl ?_
 refine r_move rfl rfl ?_
 refine r_buildSlice _ rfl rfl (fun _ => T.bs_ints_2 ..) fun gS => ?_
 refine hl_letgo (rows [a, b]) (List.prefix_refl _) ?_
 refine hl_nilrow (α := Int) ?_
 refine hl_call F.ref04_asked_cb rfl rfl (ref04_asked_meets (c2 := 0) cs hs [a, b] ([] : List Int) (by simp) (by simp) hhl hcl0 hwc hwh ha) (List.Perm.refl _) ⟨(by repeat constructor), (by repeat constructor), (by repeat constructor), (by repeat constructor), trivial⟩ fun _ _ => ?_
 refine r_assign rfl rfl ?_
 refine hl_nil ?_
 refine then_n ?_
 refine hc_seq ?_
 refine hc_region ?_
 refine r_move rfl rfl ?_
 refine r_neq rfl rfl rfl ?_
 refine hl_nil ?_
 refine then_n ?_
 refine c_dec rfl (fun hb1 => ?_) (fun hb1 => ?_)
 ·have hb1' := hb1; try simp at hb1'
  have hE : leastE (trOf cs hs) a b = (0, askdE (trOf cs hs) [a, b] []) := by
    rw [askd_cc]
    rw [askd_cc] at hb1
    unfold leastE
    by_cases h0 : checkT (trOf cs hs) = 0
    · rw [if_neg (not_not_intro h0)] at hb1 ⊢
      rw [if_neg (not_not_intro h0)]
      by_cases hin : (0 ≤ a ∧ a ≤ (cs.length : Int) - 1) ∧ (0 ≤ b ∧ b ≤ (cs.length : Int) - 1)
      · rw [if_pos hin] at hb1; exact absurd rfl hb1
      · first | rw [if_neg hin, if_neg hin] | rw [if_neg hin, if_pos hin]
    · rw [if_pos h0, if_pos h0]
  refine hc_seq ?_
  refine hc_region ?_
  refine r_move rfl rfl ?_
  refine r_assign rfl rfl ?_
  refine r_assign rfl rfl ?_
  refine hl_nil ?_
  refine then_n ?_
  refine hc_ret ?_
  refine then_ret ?_
  exact ret2 () rfl rfl rfl (by show Value.tuple #[int (leastE (trOf cs hs) a b).1, int (leastE (trOf cs hs) a b).2] = _; rw [hE]) rfl trivial (List.nil_sublist _) trivial
 ·have hb1' := hb1; try simp at hb1'
  have h0 := askd_check (Classical.not_not.1 hb1)
  have hok := tr_ok h0
  have h6 : cs.length ≤ 6 := hok.c6
  have h6h := hok.h6
  rw [hs_len] at h6h
  have hcl : ∀ i, i < cs.length → ClsOK cs i := hok.c
  have hin : (0 ≤ a ∧ a ≤ (cs.length : Int) - 1) ∧ (0 ≤ b ∧ b ≤ (cs.length : Int) - 1) := by
    have h1 := Classical.not_not.1 hb1
    rw [askd_cc, if_neg (not_not_intro h0)] at h1
    exact Classical.byContradiction fun hn => by rw [if_neg hn] at h1; cases h1
  refine hc_skip ?_
  refine then_n ?_
  refine hc_seq ?_
  have hE : leastE (trOf cs hs) a b = (leastT (trOf cs hs) a b, 0) := by unfold leastE; rw [if_neg (not_not_intro h0), if_neg (not_not_intro hin)]
  have hpa := path_asc cs hcl a.toNat a (Nat.le_refl _) (show a < (cs.length : Int) by omega)
  have hla := path_len6 h6 hcl (show a < (cs.length : Int) by omega)
  have hlb := path_len6 h6 hcl (show b < (cs.length : Int) by omega)
  have hT : (lastC (pathT cs a) (pathT cs b) (pathT cs a).length) = leastT (trOf cs hs) a b := lastC_least (n := cs.length) hpa.1 (fun x hx => ⟨(hpa.2 x hx).1, by have := (hpa.2 x hx).2; omega⟩)
  refine hc_draw 5 mixed (by decide) (by decide) rfl rfl ?_
  apply hb_ex _ rfl rfl rfl
  ·intro w1
   refine r_loadB rfl T.row_api_Trades T.sz_api_Trades rfl (by repeat constructor) (by rfl) ?_
   refine hl_nil ?_
   exact qe_done rfl
  apply hb_ex _ rfl rfl rfl
  ·intro w1
   refine r_move rfl rfl ?_
   refine hl_nil ?_
   exact qe_done rfl
  refine hb_vs ⟨OutC, fun y => (pathT cs a).length ≤ y.2, fun y => .slice y.1 (pathT cs a).length y.2, fun y => [Row y.1 (rows (pathT cs a))]⟩ rfl rfl rfl ?_ ?_
  ·intro w1
   refine hl_call F.ref04_path_cb rfl rfl (ref04_path_meets cs hs a h6 hcl (by omega)) (List.Perm.refl _) ⟨(by repeat constructor), trivial⟩ fun y hy => ?_
   refine hl_nil ?_
   exact qv_done y hy rfl ⟨m0, trivial⟩
  apply hb_ex _ rfl rfl rfl
  ·intro w1
   refine r_loadB rfl T.row_api_Trades T.sz_api_Trades rfl (by repeat constructor) (by rfl) ?_
   refine hl_nil ?_
   exact qe_done rfl
  apply hb_ex _ rfl rfl rfl
  ·intro w1
   refine r_move rfl rfl ?_
   refine hl_nil ?_
   exact qe_done rfl
  refine hb_nil ⟨rfl, ?_⟩
  intro p hp
  refine hl_call F.ref04_path_cb rfl rfl (ref04_path_meets cs hs b h6 hcl (by omega)) (List.Perm.refl _) ⟨(by repeat constructor), trivial⟩ fun q hq => ?_
  refine r_assign rfl rfl ?_
  refine r_assign rfl rfl ?_
  refine hl_nil ?_
  refine then_n ?_
  refine hc_seq ?_
  refine hc_region ?_
  refine r_assign rfl rfl ?_
  refine hl_nil ?_
  refine then_n ?_
  refine hc_seq ?_
  refine hc_seq ?_
  refine hc_region ?_
  refine r_assign rfl rfl ?_
  refine hl_nil ?_
  refine then_n ?_
  refine hc_block ?_
  refine hc_loop (β := Nat) ⟨fun k => k ≤ (pathT cs a).length, fun k => [(9, .slice p.1 (pathT cs a).length p.2), (10, .slice q.1 (pathT cs b).length q.2), (11, int (lastC (pathT cs a) (pathT cs b) k)), (12, int k)], fun _ => [], fun _ => [Row p.1 (rows (pathT cs a)), Row q.1 (rows (pathT cs b))]⟩ (fun k => (pathT cs a).length - k) 0 (Nat.zero_le _) ⟨rfl, rfl, rfl, rfl, trivial⟩ (List.nil_sublist _) ⟨(by repeat constructor), (by repeat constructor), trivial⟩ fun k hk => ?_
  simp only at hk
  refine hc_seq ?_
  refine hc_seq ?_
  refine hc_region ?_
  refine r_move rfl rfl ?_
  refine r_move rfl rfl ?_
  refine r_len_sl rfl T.u_ints rfl ?_
  refine r_lss rfl rfl rfl ?_
  refine hl_nil ?_
  refine then_n ?_
  refine c_dec rfl (fun hb2 => ?_) (fun hb2 => ?_)
  ·have hb2' := hb2; try simp at hb2'
   have hk2 : k < (pathT cs a).length := by omega
   have hls : (lastC (pathT cs a) (pathT cs b) (k + 1)) = if (pathT cs a).getD k default ∈ (pathT cs b) then (pathT cs a).getD k default else (lastC (pathT cs a) (pathT cs b) k) := rfl
   refine hc_skip ?_
   refine then_n ?_
   refine hc_seq ?_
   refine hc_block ?_
   refine hc_seq ?_
   refine hc_region ?_
   refine r_move rfl rfl ?_
   refine r_move rfl rfl ?_
   refine r_move rfl rfl ?_
   refine r_elem (α := Int) (pathT cs a) k rfl T.u_ints T.sz_int rfl rfl rfl (by repeat constructor) rfl hk2 (by decide) ?_
   refine r_load (v := int ((pathT cs a).getD k default)) rfl T.cell_int rfl (cell_row (by repeat constructor) (rows_get0 hk2 rfl)) ?_
   refine hl_call F.ref04_has_cb rfl rfl (ref04_has_meets (pathT cs b) ((pathT cs a).getD k default) (by omega)) (List.Perm.refl _) ⟨(by repeat constructor), trivial⟩ fun z hz => ?_
   refine r_geq rfl rfl rfl ?_
   refine hl_nil ?_
   refine then_n ?_
   refine c_dec rfl (fun hb3 => ?_) (fun hb3 => ?_)
   ·have hb3' := hb3; try simp at hb3'
    rw [if_pos (hz.1.1 hb3)] at hls
    refine hc_region ?_
    refine r_move rfl rfl ?_
    refine r_move rfl rfl ?_
    refine r_elem (α := Int) (pathT cs a) k rfl T.u_ints T.sz_int rfl rfl rfl (by repeat constructor) rfl hk2 (by decide) ?_
    refine r_load (v := int ((pathT cs a).getD k default)) rfl T.cell_int rfl (cell_row (by repeat constructor) (rows_get0 hk2 rfl)) ?_
    refine r_assign rfl rfl ?_
    refine hl_nil ?_
    refine inb_n ?_
    refine then_n ?_
    refine hc_region ?_
    refine r_move rfl rfl ?_
    refine r_add _ rfl rfl rfl rfl (by unfold I64; omega) ?_
    refine r_assign rfl rfl ?_
    refine hl_nil ?_
    exact again _ (k + 1) (by show k + 1 ≤ (pathT cs a).length; omega) (by show (pathT cs a).length - (k + 1) < (pathT cs a).length - k; omega) ⟨rfl, rfl, congrArg (fun z : Int => some (int z)) hls.symm, rfl, trivial⟩ (List.nil_sublist _) ⟨(by repeat constructor), (by repeat constructor), trivial⟩
   ·have hb3' := hb3; try simp at hb3'
    rw [if_neg (fun hm => hb3 (hz.1.2 hm))] at hls
    refine hc_skip ?_
    refine inb_n ?_
    refine then_n ?_
    refine hc_region ?_
    refine r_move rfl rfl ?_
    refine r_add _ rfl rfl rfl rfl (by unfold I64; omega) ?_
    refine r_assign rfl rfl ?_
    refine hl_nil ?_
    exact again _ (k + 1) (by show k + 1 ≤ (pathT cs a).length; omega) (by show (pathT cs a).length - (k + 1) < (pathT cs a).length - k; omega) ⟨rfl, rfl, congrArg (fun z : Int => some (int z)) hls.symm, rfl, trivial⟩ (List.nil_sublist _) ⟨(by repeat constructor), (by repeat constructor), trivial⟩
  ·have hb2' := hb2; try simp at hb2'
   obtain rfl : k = (pathT cs a).length := by omega
   refine hc_exit ?_
   refine then_exit ?_
   refine then_exit ?_
   refine inb_hit ?_
   refine then_n ?_
   refine hc_seq ?_
   refine hc_region ?_
   refine r_move rfl rfl ?_
   refine r_assign rfl rfl ?_
   refine r_assign rfl rfl ?_
   refine hl_nil ?_
   refine then_n ?_
   refine hc_ret ?_
   exact ret2 () rfl rfl rfl (by show Value.tuple #[int (leastE (trOf cs hs) a b).1, int (leastE (trOf cs hs) a b).2] = Value.tuple #[int (lastC (pathT cs a) (pathT cs b) (pathT cs a).length), int 0]; rw [hE, hT]) rfl trivial (List.nil_sublist _) trivial

set_option maxHeartbeats 1000000 in
theorem ref04_Under_meets {A B : Option Addr} {ca cb : Nat} (cs : List Cl) (hs : List Hd) (c : Int) (hhl : hs.length ≤ 1000) (hcl0 : cs.length ≤ 1000) (hwc : ∀ x ∈ cs, x.1.length ≤ 1000) (hwh : ∀ h ∈ hs, h.1.length ≤ 1000) (ha : ∀ h ∈ hs, h.2.2.2.l.length ≤ 1000000) : Meets Tryz.prog F.ref04_Under [.agg #[.slice A cs.length ca, .slice B hs.length cb], int c] { LI := [Row A (rows cs), RowsF B hs Hd.row], inv := fun x : OutC => (underE (trOf cs hs) c).1.length ≤ x.2, val := fun x => .tuple #[.slice x.1 (underE (trOf cs hs) c).1.length x.2, int (underE (trOf cs hs) c).2], LO := fun x => [Row x.1 (rows (underE (trOf cs hs) c).1)] } := by
 refine meets_intro F.ref04_Under_f rfl (Nat.le_of_ble_eq_true rfl) fun w0 => ?_
 refine hc_seq ?_
 refine hc_region ?_
 refine r_box rfl rfl fun gB => ?_
 refine r_assign rfl rfl ?_
 refine r_assign rfl rfl ?_
 refine hl_nil ?_
 refine then_n ?_
 refine hc_seq ?_
 refine hc_seq ?_
 refine hc_region ?_
 refine r_loadA rfl T.row_api_Trades T.sz_api_Trades rfl (by repeat constructor) (by rfl) ?_
 refine r_move rfl rfl ?_
 refine r_buildSlice _ rfl rfl (fun _ => T.bs_ints_1 ..) fun gS => ?_
 refine hl_letgo (rows [c]) (List.prefix_refl _) ?_
 refine hl_nilrow (α := Int) ?_
 refine hl_call F.ref04_asked_cb rfl rfl (ref04_asked_meets (c2 := 0) cs hs [c] ([] : List Int) (by simp) (by simp) hhl hcl0 hwc hwh ha) (List.Perm.refl _) ⟨(by repeat constructor), (by repeat constructor), (by repeat constructor), (by repeat constructor), trivial⟩ fun _ _ => ?_
 refine r_assign rfl rfl ?_
 refine hl_nil ?_
 refine then_n ?_
 refine hc_seq ?_
 refine hc_region ?_
 refine r_move rfl rfl ?_
 refine r_neq rfl rfl rfl ?_
 refine hl_nil ?_
 refine then_n ?_
 refine c_dec rfl (fun hb1 => ?_) (fun hb1 => ?_)
 ·have hb1' := hb1; try simp at hb1'
  have hE : underE (trOf cs hs) c = ([], askdE (trOf cs hs) [c] []) := by
    rw [askd_c]
    rw [askd_c] at hb1
    unfold underE
    by_cases h0 : checkT (trOf cs hs) = 0
    · rw [if_neg (not_not_intro h0)] at hb1 ⊢
      rw [if_neg (not_not_intro h0)]
      by_cases hin : 0 ≤ c ∧ c ≤ (cs.length : Int) - 1
      · rw [if_pos hin] at hb1; exact absurd rfl hb1
      · first | rw [if_neg hin, if_neg hin] | rw [if_neg hin, if_pos hin]
    · rw [if_pos h0, if_pos h0]
  refine hc_seq ?_
  refine hc_region ?_
  refine r_move rfl rfl ?_
  refine r_assign rfl rfl ?_
  refine r_assign rfl rfl ?_
  refine hl_nil ?_
  refine then_n ?_
  refine hc_ret ?_
  refine then_ret ?_
  refine hq_nilrow (α := Int) ?_
  exact ret2 (none, 0) rfl rfl rfl (by show Value.tuple #[.slice none (underE (trOf cs hs) c).1.length 0, int (underE (trOf cs hs) c).2] = _; rw [hE]; rfl) rfl (by show (underE (trOf cs hs) c).1.length ≤ 0; rw [hE]; exact Nat.le_refl _) (List.nil_sublist _) (by show LSub _ [Row none (rows (underE (trOf cs hs) c).1)]; rw [hE]; exact ⟨(by repeat constructor), trivial⟩)
 ·have hb1' := hb1; try simp at hb1'
  have h0 := askd_check (Classical.not_not.1 hb1)
  have hok := tr_ok h0
  have h6 : cs.length ≤ 6 := hok.c6
  have h6h := hok.h6
  rw [hs_len] at h6h
  have hcl : ∀ i, i < cs.length → ClsOK cs i := hok.c
  have hin : 0 ≤ c ∧ c ≤ (cs.length : Int) - 1 := by
    have h1 := Classical.not_not.1 hb1
    rw [askd_c, if_neg (not_not_intro h0)] at h1
    exact Classical.byContradiction fun hn => by rw [if_neg hn] at h1; cases h1
  refine hc_skip ?_
  refine then_n ?_
  refine hc_seq ?_
  have hE : underE (trOf cs hs) c = (underT (trOf cs hs) c, 0) := by rw [underE, if_neg (not_not_intro h0)]; exact if_pos hin
  have hln := hs_len cs hs
  refine hc_letgoB ?_
  refine hc_outerF (ps := hs) (A := B) (f := Hd.row) (by repeat constructor) ?_
  refine hc_region ?_
  refine r_assign rfl rfl ?_
  refine hl_nil ?_
  refine then_n ?_
  refine hc_seq ?_
  refine hc_seq ?_
  refine hc_region ?_
  refine r_assign rfl rfl ?_
  refine hl_nil ?_
  refine then_n ?_
  refine hc_block ?_
  refine hc_loop (β := Nat × OutC × Hp) ⟨fun x => x.1 ≤ hs.length ∧ Grow T.int 1 x.2.1.1 (underK (trOf cs hs) c x.1).length x.2.1.2 (rows (underK (trOf cs hs) c x.1)) x.2.2, fun x => [(1, int c), (2, .pointer (some ⟨gB, 0, none⟩)), (7, .slice x.2.1.1 (underK (trOf cs hs) c x.1).length x.2.1.2), (8, int x.1)], fun x => x.2.2, fun _ => [Row B (rows hs), Blk gB (.cells #[.slice A cs.length ca, .slice B hs.length cb] T.api_Trades (0, 0)), Row A (rows cs)]⟩ (fun x => hs.length - x.1) (0, (none, 0), []) ⟨Nat.zero_le _, Grow.nil _ _⟩ ⟨rfl, rfl, rfl, rfl, trivial⟩ (List.nil_sublist _) ⟨(by repeat constructor), (by repeat constructor), (by repeat constructor), trivial⟩ fun x hx => ?_
  obtain ⟨k, ⟨na, nc⟩, og⟩ := x
  obtain ⟨hk, hG⟩ := hx
  simp only at hk hG
  refine hc_seq ?_
  refine hc_seq ?_
  refine hc_region ?_
  refine r_move rfl rfl ?_
  refine r_fieldAddr ⟨_, 1, none⟩ rfl rfl T.fa_api_Trades_1 rfl ?_
  refine r_load rfl T.cell_L_api_Head rfl (cell_blk (by repeat constructor) rfl) ?_
  refine r_len_sl rfl T.u_L_api_Head rfl ?_
  refine r_lss rfl rfl rfl ?_
  refine hl_nil ?_
  refine then_n ?_
  refine c_dec rfl (fun hb2 => ?_) (fun hb2 => ?_)
  ·have hb2' := hb2; try simp at hb2'
   have hk2 : k < hs.length := by omega
   have hul := underK_len (trOf cs hs) c k
   have huc := underK_succ (trOf cs hs) c k
   have hua := uB_at (cs := cs) c hk2
   have hcc := cls_in hok hk2
   have hpl := path_len6 h6 hcl hcc.2
   refine hc_skip ?_
   refine then_n ?_
   refine hc_seq ?_
   refine hc_block ?_
   refine hc_seq ?_
   refine hc_draw 9 mixed (by decide) (by decide) rfl rfl ?_
   apply hb_ex _ rfl rfl rfl
   ·intro w1
    refine r_loadB rfl T.row_api_Trades T.sz_api_Trades rfl (List.mem_append_right _ (by repeat constructor)) (by rfl) ?_
    refine hl_nil ?_
    exact qe_done rfl
   apply hb_ex _ rfl rfl rfl
   ·intro w1
    refine r_fieldAddr ⟨_, 1, none⟩ rfl rfl T.fa_api_Trades_1 rfl ?_
    refine hl_nil ?_
    exact qe_done rfl
   apply hb_ex _ rfl rfl rfl
   ·intro w1
    refine r_load rfl T.cell_L_api_Head rfl (cell_blk (List.mem_append_right _ (by repeat constructor)) rfl) ?_
    refine hl_nil ?_
    exact qe_done rfl
   apply hb_ex _ rfl rfl rfl
   ·intro w1
    refine r_move rfl rfl ?_
    refine hl_nil ?_
    exact qe_done rfl
   apply hb_ex _ rfl rfl rfl
   ·intro w1
    refine r_elem (α := Hd) hs k rfl T.u_L_api_Head T.sz_api_Head rfl rfl rfl (List.mem_append_right _ (by repeat constructor)) rfl hk2 (by decide) ?_
    refine hl_nil ?_
    exact qe_done rfl
   apply hb_ex _ rfl rfl rfl
   ·intro w1
    refine r_fieldAddr _ rfl rfl T.fa_api_Head_1 rfl ?_
    refine hl_nil ?_
    exact qe_done rfl
   apply hb_ex _ rfl rfl rfl
   ·intro w1
    refine r_load (v := int (hs.getD k default).2.1) rfl T.cell_int rfl (cell_row_f (List.mem_append_right _ (by repeat constructor)) (rows_get hk2 rfl)) ?_
    refine hl_nil ?_
    exact qe_done rfl
   refine hb_vs ⟨OutC, fun y => (pathT cs (hs.getD k default).2.1).length ≤ y.2, fun y => .slice y.1 (pathT cs (hs.getD k default).2.1).length y.2, fun y => [Row y.1 (rows (pathT cs (hs.getD k default).2.1))]⟩ rfl rfl rfl ?_ ?_
   ·intro w1
    refine hl_call F.ref04_path_cb rfl rfl (ref04_path_meets cs hs (hs.getD k default).2.1 h6 hcl hcc.2) (List.Perm.refl _) ⟨(by repeat constructor), trivial⟩ fun y hy => ?_
    refine hl_nil ?_
    exact qv_done y hy rfl ⟨m0, trivial⟩
   apply hb_ex _ rfl rfl rfl
   ·intro w1
    refine r_move rfl rfl ?_
    refine hl_nil ?_
    exact qe_done rfl
   refine hb_nil ⟨rfl, ?_⟩
   intro y hy
   refine hl_call F.ref04_has_cb rfl rfl (ref04_has_meets (pathT cs (hs.getD k default).2.1) c (by omega)) (List.Perm.refl _) ⟨(by repeat constructor), trivial⟩ fun z hz => ?_
   refine r_geq rfl rfl rfl ?_
   refine hl_nil ?_
   refine then_n ?_
   refine c_dec rfl (fun hb3 => ?_) (fun hb3 => ?_)
   ·have hb3' := hb3; try simp at hb3'
    have hu1 : uB (trOf cs hs) c k = true := by rw [hua, decide_eq_true (hz.1.1 hb3), Bool.and_true]; exact decide_eq_true (fun e => by rw [e, path_neg cs (by omega)] at hz; exact absurd (hz.1.1 hb3) (by simp))
    rw [if_pos hu1] at huc
    refine hc_region ?_
    refine r_move rfl rfl ?_
    refine r_move rfl rfl ?_
    refine r_buildSlice _ rfl rfl (fun _ => T.bs_ints_1 ..) fun gS => ?_
    refine hl_letgo (rows [(k : Int)]) (List.prefix_refl _) ?_
    refine r_append ((underK (trOf cs hs) c k).length + 1) (rows ((underK (trOf cs hs) c k) ++ [(k : Int)])) T.el_ints rfl rfl rfl hG (hp' := []) (show List.Perm og (og ++ []) from by rw [List.append_nil]) (Src.row (news := rows [(k : Int)]) (m := 1) m0 rfl (rows_one _) (by decide)) rfl (rows_append _ _).symm (by unfold maxLen; omega) (by omega) fun A' c' og' hG' => ?_
    refine r_assign rfl rfl ?_
    refine hl_nil ?_
    refine inb_n ?_
    refine then_n ?_
    refine hc_region ?_
    refine r_move rfl rfl ?_
    refine r_add _ rfl rfl rfl rfl (by unfold I64; omega) ?_
    refine r_assign rfl rfl ?_
    refine hl_nil ?_
    exact again _ (k + 1, (A', c'), og') ⟨by show k + 1 ≤ hs.length; omega, by show Grow _ _ _ (underK (trOf cs hs) c (k + 1)).length _ (rows (underK (trOf cs hs) c (k + 1))) _; rw [huc, List.length_append]; exact hG'⟩ (by show hs.length - (k + 1) < hs.length - k; omega) ⟨rfl, rfl, by show some (Value.slice A' ((underK (trOf cs hs) c k).length + 1) c') = some (Value.slice A' (underK (trOf cs hs) c (k + 1)).length c'); rw [huc, List.length_append]; rfl, rfl, trivial⟩ (List.sublist_append_left _ _) ⟨(by repeat constructor), (by repeat constructor), (by repeat constructor), trivial⟩
   ·have hb3' := hb3; try simp at hb3'
    have hu1 : ¬ uB (trOf cs hs) c k = true := by rw [hua, decide_eq_false (fun hm => hb3 (hz.1.2 hm)), Bool.and_false]; decide
    rw [if_neg hu1] at huc
    refine hc_skip ?_
    refine inb_n ?_
    refine then_n ?_
    refine hc_region ?_
    refine r_move rfl rfl ?_
    refine r_add _ rfl rfl rfl rfl (by unfold I64; omega) ?_
    refine r_assign rfl rfl ?_
    refine hl_nil ?_
    exact again _ (k + 1, (na, nc), og) ⟨by show k + 1 ≤ hs.length; omega, by show Grow _ _ _ (underK (trOf cs hs) c (k + 1)).length _ (rows (underK (trOf cs hs) c (k + 1))) _; rw [huc]; exact hG⟩ (by show hs.length - (k + 1) < hs.length - k; omega) ⟨rfl, rfl, by show some (Value.slice na (underK (trOf cs hs) c k).length nc) = some (Value.slice na (underK (trOf cs hs) c (k + 1)).length nc); rw [huc], rfl, trivial⟩ (List.Sublist.refl _) ⟨(by repeat constructor), (by repeat constructor), (by repeat constructor), trivial⟩
  ·have hb2' := hb2; try simp at hb2'
   obtain rfl : k = hs.length := by omega
   have hG2 := hG
   rw [show (underK (trOf cs hs) c hs.length) = underT (trOf cs hs) c from by rw [← underK_all, hln]] at hG2
   refine hc_exit ?_
   refine then_exit ?_
   refine then_exit ?_
   refine inb_hit ?_
   refine then_n ?_
   refine hc_seq ?_
   refine hc_region ?_
   refine r_move rfl rfl ?_
   refine r_assign rfl rfl ?_
   refine r_assign rfl rfl ?_
   refine hl_nil ?_
   refine then_n ?_
   refine hc_ret ?_
   refine hq_grown0 hG2 ?_
   exact ret2 (na, nc) rfl rfl rfl (by show Value.tuple #[.slice na (underE (trOf cs hs) c).1.length nc, int (underE (trOf cs hs) c).2] = Value.tuple #[.slice na (underK (trOf cs hs) c hs.length).length nc, int 0]; rw [hE, show (underK (trOf cs hs) c hs.length) = underT (trOf cs hs) c from by rw [← underK_all, hln]]) rfl (by show (underE (trOf cs hs) c).1.length ≤ nc; rw [hE]; exact hG2.le) (List.nil_sublist _) (by show LSub _ [Row na (rows (underE (trOf cs hs) c).1)]; rw [hE]; exact ⟨m0, trivial⟩)

end Go.Proofs.YtlpgheniajdkfaaGreat
