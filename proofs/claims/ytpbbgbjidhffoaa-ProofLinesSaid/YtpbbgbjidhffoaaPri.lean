/- The walk of the statement ProofOrders. -/
import Derived.Test.YtpbbgbjidhffoaaPrb
import Derived.Test.YtpbbgbjidhffoaaPqi
import Derived.Test.YtpbbgbjidhffoaaPqj
import Derived.Test.YtpbbgbjidhffoaaWn
namespace Go.Proofs.Ytpbbgbjidhffoaa
open Go Go.W
set_option linter.unusedVariables false
set_option linter.unusedSimpArgs false
set_option maxRecDepth 20000
attribute [local irreducible] HL HC HQ HB Row Rows2 Blk Facts

theorem orders_256 {n d : Nat} {done : List Int} (hn : n ≤ 4) (hd : d ≤ 4) : (ordersL n d done).length ≤ 256 := by
  have h1 := orders_many (n := n) d done
  have h2 : n ^ d ≤ 4 ^ d := Nat.pow_le_pow_left hn d
  have h3 : 4 ^ d ≤ 4 ^ 4 := Nat.pow_le_pow_right (by omega) hd
  have h4 : (4 : Nat) ^ 4 = 256 := rfl
  omega
abbrev GrowII (o : OutC) (ps : List (Sl Int)) (og : Hp) : Prop := Grow T.ints 1 o.1 ps.length o.2 (rows ps) og
def ordF (n d : Nat) (done : List Int) (i : Nat) : List (List Int) := if (i : Int) ∈ done then [] else ordersL n d (done ++ [(i : Int)])
theorem ordersL_succ (n d : Nat) (done : List Int) : ordersL n (d + 1) done = (List.range n).flatMap (ordF n d done) := rfl


set_option maxHeartbeats 1000000 in
theorem law07_orders_meets {n : Nat} (hn : n ≤ 4) : ∀ (d : Nat) (done : List Int) (B : Option Addr) (cb : Nat), done.length + d = n → 
    Meets Try.prog F.law07_orders [int n, .slice B done.length cb] { LI := [Row B (rows done)], inv := fun x : List (Sl Int) × OutC => x.1.map (·.l) = ordersL n d done, val := fun x => .slice x.2.1 x.1.length x.2.2, LO := fun x => [Rows2 x.2.1 x.1] } := by
  intro d
  induction d using Nat.strongRecOn
  rename_i d ih
  intro done B cb hd
  refine meets_intro F.law07_orders_f rfl (Nat.le_of_ble_eq_true rfl) fun w0 => ?_
  refine hc_seq ?_
  refine hc_region ?_
  refine r_assign rfl rfl ?_
  refine hl_nil ?_
  refine then_n ?_
  refine hc_seq ?_
  refine hc_seq ?_
  refine hc_region ?_
  refine r_move rfl rfl ?_
  refine r_len_sl rfl T.u_ints rfl ?_
  refine r_move rfl rfl ?_
  refine r_eql rfl rfl rfl ?_
  refine hl_nil ?_
  refine then_n ?_
  first | refine c_dec rfl (fun hb1 => ?_) (fun hb1 => ?_) | refine hc_cond rfl (fun hb1 => ?_) (fun hb1 => ?_)
  · have hb1' := hb1; try simp at hb1'
    have h0 : d = 0 := by omega
    subst h0
    refine hc_seq ?_
    refine hc_region ?_
    refine r_move rfl rfl ?_
    refine r_buildSlice _ rfl rfl (fun _ => T.bs_intss_1 ..) fun gS => ?_
    refine r_assign rfl rfl ?_
    refine hl_nil ?_
    refine then_n ?_
    refine hc_ret ?_
    refine then_ret ?_
    refine hq_letgo (rows [(⟨B, cb, done⟩ : Sl Int)]) (List.prefix_refl _) ?_
    refine hq_rows2 (ps := [(⟨B, cb, done⟩ : Sl Int)]) m0 (by intro p hp; simp at hp; subst hp; exact m1) ?_
    exact ret1 ([(⟨B, cb, done⟩ : Sl Int)], (some ⟨gS, 0, none⟩, 1)) rfl rfl rfl rfl (.refl _) ⟨m0, trivial⟩
  · have hb1' := hb1; try simp at hb1'
    obtain ⟨d0, rfl⟩ : ∃ d0, d = d0 + 1 := ⟨d - 1, by omega⟩
    refine hc_facts (Fs := ([] : List (Sl Int)).map fun p => Row p.a (rows p.l)) (by intro F hF; simp at hF) ?_
    refine hc_skip ?_
    refine then_n ?_
    refine hc_seq ?_
    refine hc_region ?_
    refine r_assign rfl rfl ?_
    refine hl_nil ?_
    refine then_n ?_
    refine hc_seq ?_
    refine hc_seq ?_
    refine hc_region ?_
    refine r_assign rfl rfl ?_
    refine hl_nil ?_
    refine then_n ?_
    refine hc_block ?_
    refine hc_loop (β := Nat × List (Sl Int) × OutC × Hp) ⟨fun ⟨i, ps, o, og⟩ => GrowII o ps og ∧ i ≤ n ∧ ps.length ≤ i * 256 ∧ ps.map (·.l) = (List.range i).flatMap (ordF n d0 done), fun ⟨i, ps, o, og⟩ => [(0, int n), (1, .slice B done.length cb), (5, .slice o.1 ps.length o.2), (6, int i)], fun ⟨i, ps, o, og⟩ => og, fun ⟨i, ps, o, og⟩ => [innerF ps, Row B (rows done)]⟩ (fun x => n - x.1) (0, [], (none, 0), []) ⟨Grow.nil _ _, Nat.zero_le _, Nat.zero_le _, rfl⟩ ⟨rfl, rfl, rfl, rfl, trivial⟩ (.refl _) ⟨(by repeat constructor), (by repeat constructor), trivial⟩ fun x hx => ?_
    obtain ⟨i, ps, o, og⟩ := x
    obtain ⟨hG, hi, hlen, hps⟩ := hx
    refine hc_seq ?_
    refine hc_seq ?_
    refine hc_region ?_
    refine r_move rfl rfl ?_
    refine r_move rfl rfl ?_
    refine r_lss rfl rfl rfl ?_
    refine hl_nil ?_
    refine then_n ?_
    first | refine c_dec rfl (fun hb2 => ?_) (fun hb2 => ?_) | refine hc_cond rfl (fun hb2 => ?_) (fun hb2 => ?_)
    · have hb2' := hb2; try simp at hb2'
      have hi2 : i < n := by omega
      refine hc_skip ?_
      refine then_n ?_
      refine hc_seq ?_
      refine hc_block ?_
      refine hc_seq ?_
      refine hc_region ?_
      refine r_move rfl rfl ?_
      refine r_move rfl rfl ?_
      refine hl_call F.kit_Index_cb rfl rfl (kit_Index_meets done (i : Int) (by omega)) (.refl _) ⟨(by repeat constructor), trivial⟩ fun z hz => ?_
      have hz : 0 ≤ z ↔ (i : Int) ∈ done := hz
      refine r_lss rfl rfl rfl ?_
      refine hl_nil ?_
      refine then_n ?_
      first | refine c_dec rfl (fun hb3 => ?_) (fun hb3 => ?_) | refine hc_cond rfl (fun hb3 => ?_) (fun hb3 => ?_)
      · have hb3' := hb3; try simp at hb3'
        have hni : ¬ (i : Int) ∈ done := fun h => by have := hz.2 h; omega
        have hF : ordF n d0 done i = ordersL n d0 (done ++ [(i : Int)]) := by rw [ordF, if_neg hni]
        refine hc_region ?_
        refine r_move rfl rfl ?_
        refine r_move rfl rfl ?_
        refine r_buildSlice _ rfl rfl (fun _ => T.bs_ints_0 ..) fun gS => ?_
        refine r_move rfl rfl ?_
        refine r_append done.length (rows done) T.el_ints rfl rfl rfl (Grow.new (cs := #[]) (n := 0) rfl (Nat.zero_le _)) (.refl _) (Src.row (by repeat constructor) (rows_len done) (rows_one done) (by decide)) (by omega) rfl (by unfold maxLen; omega) (by omega) fun A1 c1 og1 hG1 => ?_
        refine r_move rfl rfl ?_
        refine r_buildSlice _ rfl rfl (fun _ => T.bs_ints_1 ..) fun gS => ?_
        refine r_append (hp' := (gS, Obj.cells #[int i] T.int (0, 0)) :: og) (done.length + 1) (rows (done ++ [(i : Int)])) T.el_ints rfl rfl rfl hG1 (perm_of fun p => by show List.countP p ((gS, Obj.cells #[int i] T.int (0, 0)) :: (og1 ++ og)) = List.countP p (og1 ++ ((gS, Obj.cells #[int i] T.int (0, 0)) :: og)); simp only [List.countP_append, List.countP_cons, List.countP_nil]; omega) (Src.own (g := gS) (cs := #[int i]) (m := 1) (List.mem_append_right _ m0) rfl rfl) rfl (rows_append done [(i : Int)]).symm (by unfold maxLen; omega) (by omega) fun A2 c2 og2 hG2 => ?_
        refine hl_grown hG2 ?_
        have ihk := ih d0 (by omega) (done ++ [(i : Int)]) A2 c2 (by rw [len_snoc]; omega)
        rw [len_snoc] at ihk
        refine hl_call (vs := [int n, .slice A2 (done.length + 1) c2]) F.law07_orders_cb rfl rfl ihk (hpR := (gS, Obj.cells #[int i] T.int (0, 0)) :: og) (.refl _) ⟨(by repeat constructor), trivial⟩ fun y hy => ?_
        obtain ⟨qs, oq⟩ := y
        simp only at hy
        have hql : qs.length ≤ 256 := by have := congrArg List.length hy; rw [List.length_map] at this; rw [this]; exact orders_256 hn (by omega)
        refine hl_outer (ps := qs) (by repeat constructor) ?_
        refine hl_inners (ps := qs) (by repeat constructor) ?_
        refine r_append (ps.length + qs.length) (rows (ps ++ qs)) T.el_intss rfl rfl rfl hG (List.perm_append_comm (l₁ := [_])) (Src.row (m := qs.length) (by repeat constructor) (rows_len qs) (rows_one qs) (by decide)) rfl (rows_append ps qs).symm (by unfold maxLen; omega) (by omega) fun A3 c3 og3 hG3 => ?_
        refine r_assign rfl rfl ?_
        refine hl_facts (inner_app (ps := ps) (qs := qs) (by repeat constructor) (by repeat constructor)) ?_
        refine hl_nil ?_
        refine inb_n ?_
        refine then_n ?_
        refine hc_region ?_
        refine r_move rfl rfl ?_
        refine r_add _ rfl rfl rfl rfl (by unfold I64; omega) ?_
        refine r_assign rfl rfl ?_
        refine hl_nil ?_
        refine again _ (i + 1, ps ++ qs, (A3, c3), og3) ⟨by unfold GrowII; rw [List.length_append]; exact hG3, by omega, by rw [List.length_append]; omega, by rw [List.range_succ, List.flatMap_append, List.map_append, hps, hy]; simp [hF]⟩ (by show n - (i + 1) < n - i; omega) ⟨rfl, rfl, by rw [List.length_append]; rfl, rfl, trivial⟩ (List.sublist_append_left _ _) ⟨(by repeat constructor), (by repeat constructor), trivial⟩
      · have hb3' := hb3; try simp at hb3'
        have hin : (i : Int) ∈ done := hz.1 (by omega)
        have hF : ordF n d0 done i = [] := by rw [ordF, if_pos hin]
        refine hc_skip ?_
        refine inb_n ?_
        refine then_n ?_
        refine hc_region ?_
        refine r_move rfl rfl ?_
        refine r_add _ rfl rfl rfl rfl (by unfold I64; omega) ?_
        refine r_assign rfl rfl ?_
        refine hl_nil ?_
        exact again _ (i + 1, ps, o, og) ⟨hG, by omega, by omega, by rw [List.range_succ, List.flatMap_append, hps]; simp [hF]⟩ (by show n - (i + 1) < n - i; omega) ⟨rfl, rfl, rfl, rfl, trivial⟩ (.refl _) ⟨(by repeat constructor), (by repeat constructor), trivial⟩
    · have hb2' := hb2; try simp at hb2'
      have hi2 : i = n := by omega
      subst hi2
      refine hc_exit ?_
      refine then_exit ?_
      refine then_exit ?_
      refine inb_hit ?_
      refine then_n ?_
      refine hc_seq ?_
      refine hc_region ?_
      refine r_move rfl rfl ?_
      refine r_assign rfl rfl ?_
      refine hl_nil ?_
      refine then_n ?_
      refine hc_ret ?_
      refine hq_grown0 hG ?_
      refine hq_rows2F m0 m1 ?_
      exact ret1 (ps, o) rfl rfl rfl hps (.refl _) ⟨m0, trivial⟩

set_option maxHeartbeats 2000000 in
theorem law07_ProofOrders_meets {N : Option Addr} {cn : Nat} (nums : List Int) (hn : nums.length ≤ 9223372036854775807) :
    Meets Try.prog F.law07_ProofOrders [.slice N nums.length cn] { LI := [Row N (rows nums)], val := fun _ : Unit => .bool true } := by
  refine meets_intro F.law07_ProofOrders_f rfl (Nat.le_of_ble_eq_true rfl) fun w0 => ?_
  refine hc_seq ?_
  refine hc_region ?_
  refine r_assign rfl rfl ?_
  refine hl_nil ?_
  refine then_n ?_
  refine hc_seq ?_
  refine hc_region ?_
  refine r_move rfl rfl ?_
  refine hl_call F.kit_NewDice_cb rfl rfl (kit_NewDice_meets nums) (List.Perm.refl _) ⟨m0, trivial⟩ fun gd _ => ?_
  refine r_assign rfl rfl ?_
  refine hl_nil ?_
  refine then_n ?_
  refine hc_seq ?_
  refine hc_region ?_
  refine r_move rfl rfl ?_
  refine hl_call F.kit_PageOf_cb rfl rfl (kit_PageOf_meets 4 hn (dok0 nums) (by omega)) (.refl _) ⟨(by repeat constructor), trivial⟩ fun r hr => ?_
  obtain ⟨s1, x, ox⟩ := r
  obtain ⟨hs1, hxn, hxo, hxc⟩ := hr
  simp only at hxn hxc hxo
  have hjx : (s1, x, ox).snd.fst.length = x.length := rfl
  refine r_assign rfl rfl ?_
  refine hl_nil ?_
  refine then_n ?_
  refine hc_seq ?_
  refine hc_region ?_
  refine r_move rfl rfl ?_
  refine r_move rfl rfl ?_
  refine r_len_sl rfl T.u_strs rfl ?_
  refine hl_call F.kit_MarksOf_cb rfl rfl (kit_MarksOf_meets x.length 4 hn hs1 (by omega)) (.refl _) ⟨(by repeat constructor), trivial⟩ fun r hr => ?_
  obtain ⟨s2, y, oy⟩ := r
  obtain ⟨hs2, hyn, hyo, hyc⟩ := hr
  simp only at hyn hyc hyo
  have hjy : (s2, y, oy).snd.fst.length = y.length := rfl
  refine r_assign rfl rfl ?_
  refine hl_nil ?_
  refine then_n ?_
  refine hc_seq ?_
  refine hc_region ?_
  refine r_move rfl rfl ?_
  refine r_len_sl rfl T.u_strs rfl ?_
  refine r_move rfl rfl ?_
  refine hl_call F.kit_Dice_To_cb rfl rfl (kit_Dice_To_meets 2 hn hs2 (by omega)) (.refl _) ⟨(by repeat constructor), trivial⟩ fun r hr => ?_
  obtain ⟨s3, z⟩ := r
  obtain ⟨hs3, hz0, hz1, _⟩ := hr
  have hz1 := hz1 (by omega)
  simp only at hz0 hz1
  refine r_add _ rfl rfl rfl rfl (by unfold I64; omega) ?_
  refine r_assign rfl rfl ?_
  refine hl_nil ?_
  refine then_n ?_
  refine hc_seq ?_
  have hpx := page_ok hxo (by omega)
  have hck := check_ok hpx hyo (by omega)
  have hjz : (s3, z).snd = z := rfl
  generalize hM : (x.length : Int) + z = M at *
  have hsp : stepsP x y M = (((ordersL y.length y.length []).find? (orderOK y M x.length)).getD [], if ((ordersL y.length y.length []).find? (orderOK y M x.length)).isSome = true then 0 else 11) := by
    rw [stepsP, if_neg (not_not_intro hck), if_neg (by omega), if_neg (by omega), if_neg (by omega), grow_find]
  have hsl := stepsP_len x y M
  rw [hsp] at hsl
  simp only at hsl
  generalize hF : (ordersL y.length y.length []).find? (orderOK y M x.length) = Fo at *
  refine hc_region ?_
  refine r_move rfl rfl ?_
  refine r_move rfl rfl ?_
  refine r_move rfl rfl ?_
  have hss := proof_Steps_meets (A := ox.1) (ca := ox.2) (B := oy.1) (cb := oy.2) x y M
  rw [hsp] at hss
  refine hl_call F.proof_Steps_cb rfl rfl (hss) (List.Perm.refl _) ⟨(by repeat constructor), (by repeat constructor), trivial⟩ fun oz _ => ?_
  refine r_move rfl rfl ?_
  refine r_extract rfl rfl rfl ?_
  refine r_extract rfl rfl rfl ?_
  refine r_assign rfl rfl ?_
  refine r_assign rfl rfl ?_
  refine hl_nil ?_
  refine then_n ?_
  refine hc_seq ?_
  refine hc_region ?_
  refine r_move rfl rfl ?_
  refine r_len_sl rfl T.u_L_api_Mark rfl ?_
  refine hl_nilrow (α := Int) ?_
  refine hl_call (vs := [int y.length, .slice none 0 0]) F.law07_orders_cb rfl rfl (law07_orders_meets (n := y.length) (by omega) y.length [] none 0 (by simp)) (List.Perm.refl _) ⟨(by repeat constructor), trivial⟩ fun r hr => ?_
  obtain ⟨ps, oa⟩ := r
  simp only at hr
  refine hl_outer (ps := ps) (by repeat constructor) ?_
  refine r_assign rfl rfl ?_
  refine hl_nil ?_
  refine then_n ?_
  refine hc_seq ?_
  refine hc_seq ?_
  have hps : ∀ j, j < ps.length → (ps.getD j default).l = (ordersL y.length y.length []).getD j default := by intro j hj; rw [← hr, getD_at hj, getD_at (by simpa using hj)]; simp
  have h256 := orders_256 (n := y.length) (d := y.length) (done := []) (by omega) (by omega)
  have hpl : ps.length = (ordersL y.length y.length []).length := by rw [← hr, List.length_map]
  generalize hO : ordersL y.length y.length [] = Os at *
  refine hc_region ?_
  refine r_assign rfl rfl ?_
  refine hl_nil ?_
  refine then_n ?_
  refine hc_block ?_
  refine hc_loop (β := Nat) ⟨fun i => i ≤ ps.length ∧ (Os.take i).find? (orderOK y M x.length) = none, fun i => [(4, .slice ox.1 x.length ox.2), (5, .slice oy.1 y.length oy.2), (6, int M), (7, .slice oz.1 (Fo.getD []).length oz.2), (8, int (if Fo.isSome = true then 0 else 11)), (9, .slice oa.1 ps.length oa.2), (10, int i)], fun _ => [], fun _ => [Row ox.1 (rows x), Row oy.1 (rows y), Row oz.1 (rows (Fo.getD [])), Row oa.1 (rows ps), Rows2 oa.1 ps]⟩ (fun i => ps.length - i) 0 ⟨Nat.zero_le _, rfl⟩ ⟨rfl, rfl, rfl, rfl, rfl, rfl, rfl, trivial⟩ (List.nil_sublist _) ⟨(by repeat constructor), (by repeat constructor), (by repeat constructor), (by repeat constructor), (by repeat constructor), trivial⟩ fun i hi => ?_
  obtain ⟨hi, hnone⟩ := hi
  refine hc_seq ?_
  refine hc_seq ?_
  refine hc_region ?_
  refine r_move rfl rfl ?_
  refine r_move rfl rfl ?_
  refine r_len_sl rfl T.u_intss rfl ?_
  refine r_lss rfl rfl rfl ?_
  refine hl_nil ?_
  refine then_n ?_
  first | refine c_dec rfl (fun hb1 => ?_) (fun hb1 => ?_) | refine hc_cond rfl (fun hb1 => ?_) (fun hb1 => ?_)
  · have hb1' := hb1; try simp at hb1'
    have hi2 : i < ps.length := by omega
    have hmem := getD_mem hi2
    have hin : (Os.getD i default) ∈ ordersL y.length y.length [] := by rw [hO]; exact getD_mem (by omega)
    have hol := orders_len _ _ _ hin
    have hor := orders_in _ _ (by intro x hx; simp at hx) _ hin
    rw [← hps i hi2] at hol hor
    simp only [List.length_nil, Nat.zero_add] at hol
    refine hc_skip ?_
    refine then_n ?_
    refine hc_seq ?_
    refine hc_block ?_
    refine hc_seq ?_
    refine hc_region ?_
    refine r_move rfl rfl ?_
    refine r_len_sl rfl T.u_strs rfl ?_
    refine r_assign rfl rfl ?_
    refine r_assign rfl rfl ?_
    refine hl_nil ?_
    refine then_n ?_
    refine hc_seq ?_
    refine hc_seq ?_
    refine hc_inner (ps := ps) (p := (ps.getD i default)) (by repeat constructor) hmem ?_
    refine hc_region ?_
    refine r_assign rfl rfl ?_
    refine hl_nil ?_
    refine then_n ?_
    refine hc_block ?_
    refine hc_loop (β := Nat × Int × Bool) ⟨fun ⟨k, m, f⟩ => k ≤ (ps.getD i default).l.length ∧ (orderOK y M x.length) (ps.getD i default).l = (f && orderOK y M m ((ps.getD i default).l.drop k)) ∧ -(k : Int) ≤ m ∧ m ≤ 4 + k, fun ⟨k, m, f⟩ => [(4, .slice ox.1 x.length ox.2), (5, .slice oy.1 y.length oy.2), (6, int M), (7, .slice oz.1 (Fo.getD []).length oz.2), (8, int (if Fo.isSome = true then 0 else 11)), (9, .slice oa.1 ps.length oa.2), (10, int i), (11, int m), (12, .bool f), (13, int k)], fun _ => [], fun _ => Row (ps.getD i default).a (rows (ps.getD i default).l) :: [Row ox.1 (rows x), Row oy.1 (rows y), Row oz.1 (rows (Fo.getD [])), Row oa.1 (rows ps), Rows2 oa.1 ps]⟩ (fun x => (ps.getD i default).l.length - x.1) (0, (x.length : Int), true) ⟨Nat.zero_le _, rfl, by omega, by omega⟩ ⟨rfl, rfl, rfl, rfl, rfl, rfl, rfl, rfl, rfl, rfl, trivial⟩ (List.nil_sublist _) ⟨(by repeat constructor), (by repeat constructor), (by repeat constructor), (by repeat constructor), (by repeat constructor), (by repeat constructor), trivial⟩ fun s hs => ?_
    obtain ⟨k, m, f⟩ := s
    obtain ⟨hk, hq, hm1, hm2⟩ := hs
    refine hc_seq ?_
    refine hc_seq ?_
    refine hc_region ?_
    refine r_move rfl rfl ?_
    refine r_move rfl rfl ?_
    refine r_move rfl rfl ?_
    refine r_elem (α := Sl Int) ps i rfl T.u_intss T.sz_ints rfl rfl rfl (by repeat constructor) rfl (by omega) (by decide) ?_
    refine r_load rfl T.cell_ints rfl (cell_row (by repeat constructor) (rows_get0 (by omega) rfl)) ?_
    refine r_len_sl rfl T.u_ints rfl ?_
    refine r_lss rfl rfl rfl ?_
    refine hl_nil ?_
    refine then_n ?_
    first | refine c_dec rfl (fun hb2 => ?_) (fun hb2 => ?_) | refine hc_cond rfl (fun hb2 => ?_) (fun hb2 => ?_)
    · have hb2' := hb2; try simp at hb2'
      have hk2 : k < (ps.getD i default).l.length := by omega
      have hio2 := hor _ (getD_mem hk2)
      rw [drop_getD hk2, orderOK] at hq
      refine hc_skip ?_
      refine then_n ?_
      refine hc_seq ?_
      refine hc_block ?_
      refine hc_cut ⟨fun _ : Unit => True, fun _ => [(4, .slice ox.1 x.length ox.2), (5, .slice oy.1 y.length oy.2), (6, int M), (7, .slice oz.1 (Fo.getD []).length oz.2), (8, int (if Fo.isSome = true then 0 else 11)), (9, .slice oa.1 ps.length oa.2), (10, int i), (11, int (m + growsM (y.getD ((ps.getD i default).l.getD k default).toNat default))), (12, .bool f), (13, int k)], fun _ => [], fun _ => Row (ps.getD i default).a (rows (ps.getD i default).l) :: [Row ox.1 (rows x), Row oy.1 (rows y), Row oz.1 (rows (Fo.getD [])), Row oa.1 (rows ps), Rows2 oa.1 ps]⟩ ?_ ?_
      · skip
        refine hc_seq ?_
        refine hc_region ?_
        refine r_move rfl rfl ?_
        refine r_move rfl rfl ?_
        refine r_move rfl rfl ?_
        refine r_elem (α := Sl Int) ps i rfl T.u_intss T.sz_ints rfl rfl rfl (by repeat constructor) rfl (by omega) (by decide) ?_
        refine r_load rfl T.cell_ints rfl (cell_row (by repeat constructor) (rows_get0 (by omega) rfl)) ?_
        refine r_move rfl rfl ?_
        refine r_elem (α := Int) (ps.getD i default).l k rfl T.u_ints T.sz_int rfl rfl rfl (by repeat constructor) rfl (by omega) (by decide) ?_
        refine r_load rfl T.cell_int rfl (cell_row (by repeat constructor) (rows_get0 (by omega) rfl)) ?_
        refine r_elem (α := Mk) y ((ps.getD i default).l.getD k default).toNat rfl T.u_L_api_Mark T.sz_api_Mark rfl rfl (by omega) (by repeat constructor) rfl (by omega) (by decide) ?_
        first | refine r_fieldAddr ⟨_, 0, none⟩ rfl rfl T.fa_api_Mark_0 rfl ?_ | refine r_fieldAddr _ rfl rfl T.fa_api_Mark_0 rfl ?_
        refine r_load rfl T.cell_int rfl (cell_row (by repeat constructor) (rows_get0 (by omega) rfl)) ?_
        refine hl_nil ?_
        refine then_n ?_
        refine hc_block ?_
        refine hc_seq ?_
        refine hc_region ?_
        refine r_eql rfl rfl rfl ?_
        refine r_assign rfl rfl ?_
        refine hl_nil ?_
        refine then_n ?_
        first | refine c_dec rfl (fun hb3 => ?_) (fun hb3 => ?_) | refine hc_cond rfl (fun hb3 => ?_) (fun hb3 => ?_)
        · have hb3' := hb3; try simp at hb3'
          refine hc_region ?_
          refine r_move rfl rfl ?_
          refine r_add _ rfl rfl rfl rfl (by unfold I64; omega) ?_
          refine r_assign rfl rfl ?_
          refine hl_nil ?_
          refine inb_n ?_
          refine cut_n _ () trivial ⟨rfl, rfl, rfl, rfl, rfl, rfl, rfl, congrArg (fun n => some (int n)) (by rw [growsM, if_pos hb3]), rfl, rfl, trivial⟩ (.refl _) ⟨(by repeat constructor), (by repeat constructor), (by repeat constructor), (by repeat constructor), (by repeat constructor), (by repeat constructor), trivial⟩
        · have hb3' := hb3; try simp at hb3'
          refine hc_seq ?_
          refine hc_region ?_
          refine r_eql rfl rfl rfl ?_
          refine r_assign rfl rfl ?_
          refine hl_nil ?_
          refine then_n ?_
          first | refine c_dec rfl (fun hb4 => ?_) (fun hb4 => ?_) | refine hc_cond rfl (fun hb4 => ?_) (fun hb4 => ?_)
          · have hb4' := hb4; try simp at hb4'
            refine hc_region ?_
            refine r_move rfl rfl ?_
            refine r_sub _ rfl rfl rfl rfl (by unfold I64; omega) ?_
            refine r_assign rfl rfl ?_
            refine hl_nil ?_
            refine inb_n ?_
            refine cut_n _ () trivial ⟨rfl, rfl, rfl, rfl, rfl, rfl, rfl, congrArg (fun n => some (int n)) (by rw [growsM, if_neg hb3, if_pos hb4]; rfl), rfl, rfl, trivial⟩ (.refl _) ⟨(by repeat constructor), (by repeat constructor), (by repeat constructor), (by repeat constructor), (by repeat constructor), (by repeat constructor), trivial⟩
          · have hb4' := hb4; try simp at hb4'
            refine hc_skip ?_
            refine inb_n ?_
            refine cut_n _ () trivial ⟨rfl, rfl, rfl, rfl, rfl, rfl, rfl, congrArg (fun n => some (int n)) (by rw [growsM, if_neg hb3, if_neg hb4]; omega), rfl, rfl, trivial⟩ (.refl _) ⟨(by repeat constructor), (by repeat constructor), (by repeat constructor), (by repeat constructor), (by repeat constructor), (by repeat constructor), trivial⟩
      · intro _ _
        have hgb := grows_bound (y.getD ((ps.getD i default).l.getD k default).toNat default)
        refine hc_region ?_
        refine r_move rfl rfl ?_
        refine r_move rfl rfl ?_
        refine g_split rfl rfl ?_ ?_
        · intro hg1; have hg1' := hg1; try simp at hg1'
          obtain rfl : f = true := bt1 hg1
          refine g_yes rfl rfl (by first | rfl | assumption | exact gy (by assumption) | exact gy2 (by assumption)) ?_
          refine r_move rfl rfl ?_
          refine g_yes rfl rfl (by first | rfl | assumption | exact gy (by assumption) | exact gy2 (by assumption)) ?_
          refine r_move rfl rfl ?_
          refine g_yes rfl rfl (by first | rfl | assumption | exact gy (by assumption) | exact gy2 (by assumption)) ?_
          refine r_leq rfl rfl rfl ?_
          refine p_t rfl rfl (by first | rfl | assumption | exact bt1 (by assumption) | exact bt2 (by assumption)) rfl ?_
          refine r_assign rfl rfl ?_
          refine hl_nil ?_
          refine inb_n ?_
          refine then_n ?_
          refine hc_region ?_
          refine r_move rfl rfl ?_
          refine r_add _ rfl rfl rfl rfl (by unfold I64; omega) ?_
          refine r_assign rfl rfl ?_
          refine hl_nil ?_
          refine again _ (k + 1, m + growsM (y.getD ((ps.getD i default).l.getD k default).toNat default), decide (m + growsM (y.getD ((ps.getD i default).l.getD k default).toNat default) ≤ M)) ⟨by omega, ?_, by omega, by omega⟩ (by show (ps.getD i default).l.length - (k + 1) < (ps.getD i default).l.length - k; omega) ⟨rfl, rfl, rfl, rfl, rfl, rfl, rfl, rfl, rfl, rfl, trivial⟩ (.refl _) ⟨(by repeat constructor), (by repeat constructor), (by repeat constructor), (by repeat constructor), (by repeat constructor), (by repeat constructor), trivial⟩
          rw [hq]
          by_cases hc : M < m + growsM (y.getD ((ps.getD i default).l.getD k default).toNat default)
          · rw [if_pos hc, decide_eq_false (by omega)]; rfl
          · rw [if_neg hc, decide_eq_true (by omega)]
        · intro hg1; have hg1' := hg1; try simp at hg1'
          obtain rfl : f = false := bf2 hg1
          refine g_no rfl rfl rfl rfl rfl (by first | rfl | assumption | exact gn (by assumption) | exact gn2 (by assumption)) ?_
          refine g_no rfl rfl rfl rfl rfl (by first | rfl | assumption | exact gn (by assumption) | exact gn2 (by assumption)) ?_
          refine g_no rfl rfl rfl rfl rfl (by first | rfl | assumption | exact gn (by assumption) | exact gn2 (by assumption)) ?_
          refine p_f rfl rfl (by first | rfl | assumption | exact bf1 (by assumption) | exact bf2 (by assumption)) rfl ?_
          refine r_assign rfl rfl ?_
          refine hl_nil ?_
          refine inb_n ?_
          refine then_n ?_
          refine hc_region ?_
          refine r_move rfl rfl ?_
          refine r_add _ rfl rfl rfl rfl (by unfold I64; omega) ?_
          refine r_assign rfl rfl ?_
          refine hl_nil ?_
          exact again _ (k + 1, m + growsM (y.getD ((ps.getD i default).l.getD k default).toNat default), false) ⟨by omega, hq, by omega, by omega⟩ (by show (ps.getD i default).l.length - (k + 1) < (ps.getD i default).l.length - k; omega) ⟨rfl, rfl, rfl, rfl, rfl, rfl, rfl, rfl, rfl, rfl, trivial⟩ (.refl _) ⟨(by repeat constructor), (by repeat constructor), (by repeat constructor), (by repeat constructor), (by repeat constructor), (by repeat constructor), trivial⟩
    · have hb2' := hb2; try simp at hb2'
      have hk2 : k = (ps.getD i default).l.length := by omega
      rw [hk2, List.drop_length, orderOK, Bool.and_true] at hq
      refine hc_exit ?_
      refine then_exit ?_
      refine then_exit ?_
      refine inb_hit ?_
      refine then_n ?_
      refine hc_seq ?_
      refine hc_region ?_
      refine r_move rfl rfl ?_
      refine hl_nil ?_
      refine then_n ?_
      first | refine c_dec rfl (fun hb5 => ?_) (fun hb5 => ?_) | refine hc_cond rfl (fun hb5 => ?_) (fun hb5 => ?_)
      · have hb5' := hb5; try simp at hb5'
        rw [hb5, hps i hi2] at hq
        have hFi := find_here (l := Os) (k := i) (by omega) hnone hq
        rw [← hps i hi2, hF] at hFi
        subst hFi
        refine hc_seq ?_
        refine hc_region ?_
        refine r_move rfl rfl ?_
        refine r_eql rfl rfl rfl ?_
        refine r_move rfl rfl ?_
        refine g_split rfl rfl ?_ ?_
        · intro hg2; have hg2' := hg2; try simp at hg2'
          refine g_yes rfl rfl (by first | rfl | assumption | exact gy (by assumption) | exact gy2 (by assumption)) ?_
          refine r_move rfl rfl ?_
          refine g_yes rfl rfl (by first | rfl | assumption | exact gy (by assumption) | exact gy2 (by assumption)) ?_
          refine r_move rfl rfl ?_
          refine g_yes rfl rfl (by first | rfl | assumption | exact gy (by assumption) | exact gy2 (by assumption)) ?_
          refine r_move rfl rfl ?_
          refine g_yes rfl rfl (by first | rfl | assumption | exact gy (by assumption) | exact gy2 (by assumption)) ?_
          refine r_elem (α := Sl Int) ps i rfl T.u_intss T.sz_ints rfl rfl rfl (by repeat constructor) rfl (by omega) (by decide) ?_
          refine g_yes rfl rfl (by first | rfl | assumption | exact gy (by assumption) | exact gy2 (by assumption)) ?_
          refine r_load rfl T.cell_ints rfl (cell_row (by repeat constructor) (rows_get0 (by omega) rfl)) ?_
          refine g_yes rfl rfl (by first | rfl | assumption | exact gy (by assumption) | exact gy2 (by assumption)) ?_
          refine hl_call F.kit_EqInts_cb rfl rfl (kit_EqInts_meets ((some (ps.getD i default).l).getD []) (ps.getD i default).l (by show (ps.getD i default).l.length ≤ _; omega)) (List.Perm.refl _) ⟨(by repeat constructor), (by repeat constructor), trivial⟩ fun _ _ => ?_
          refine p_t rfl rfl (by first | rfl | assumption | exact bt1 (by assumption) | exact bt2 (by assumption)) rfl ?_
          refine r_move rfl rfl ?_
          refine g_split rfl rfl ?_ ?_
          · intro hg3; have hg3' := hg3; try simp at hg3'
            refine g_yes rfl rfl (by first | rfl | assumption | exact gy (by assumption) | exact gy2 (by assumption)) ?_
            refine hl_call F.law07_correcting_cb rfl rfl (law07_correcting_meets) (List.Perm.refl _) trivial fun _ _ => ?_
            refine p_t rfl rfl (by first | rfl | assumption | exact bt1 (by assumption) | exact bt2 (by assumption)) rfl ?_
            refine r_assign rfl rfl ?_
            refine hl_nil ?_
            refine then_n ?_
            refine hc_ret ?_
            refine inb_ret ?_
            refine then_ret ?_
            refine then_ret ?_
            refine inb_ret ?_
            refine then_ret ?_
            exact ret1 () rfl rfl rfl trivial (List.nil_sublist _) trivial
          · intro hg3; have hg3' := hg3; try simp at hg3'
        · intro hg2; have hg2' := hg2; try simp at hg2'
      · have hb5' := hb5; try simp at hb5'
        rw [hb5, hps i hi2] at hq
        refine hc_skip ?_
        refine inb_n ?_
        refine then_n ?_
        refine hc_region ?_
        refine r_move rfl rfl ?_
        refine r_add _ rfl rfl rfl rfl (by unfold I64; omega) ?_
        refine r_assign rfl rfl ?_
        refine hl_nil ?_
        exact again _ (i + 1) ⟨by omega, find_cut (by omega) hnone hq⟩ (by show ps.length - (i + 1) < ps.length - i; omega) ⟨rfl, rfl, rfl, rfl, rfl, rfl, rfl, trivial⟩ (List.nil_sublist _) ⟨(by repeat constructor), (by repeat constructor), (by repeat constructor), (by repeat constructor), (by repeat constructor), trivial⟩
  · have hb1' := hb1; try simp at hb1'
    have hi2 : i = ps.length := by omega
    rw [hi2, hpl, List.take_length, hF] at hnone
    subst hnone
    refine hc_exit ?_
    refine then_exit ?_
    refine then_exit ?_
    refine inb_hit ?_
    refine then_n ?_
    refine hc_seq ?_
    refine hc_region ?_
    refine r_move rfl rfl ?_
    refine r_eql rfl rfl rfl ?_
    refine r_move rfl rfl ?_
    refine g_split rfl rfl ?_ ?_
    · intro hg4; have hg4' := hg4; try simp at hg4'
      refine g_yes rfl rfl (by first | rfl | assumption | exact gy (by assumption) | exact gy2 (by assumption)) ?_
      refine r_move rfl rfl ?_
      refine g_yes rfl rfl (by first | rfl | assumption | exact gy (by assumption) | exact gy2 (by assumption)) ?_
      refine r_len_sl rfl T.u_ints rfl ?_
      refine g_yes rfl rfl (by first | rfl | assumption | exact gy (by assumption) | exact gy2 (by assumption)) ?_
      refine r_eql rfl rfl rfl ?_
      refine p_t rfl rfl (by first | rfl | assumption | exact bt1 (by assumption) | exact bt2 (by assumption)) rfl ?_
      refine r_move rfl rfl ?_
      refine g_split rfl rfl ?_ ?_
      · intro hg5; have hg5' := hg5; try simp at hg5'
        refine g_yes rfl rfl (by first | rfl | assumption | exact gy (by assumption) | exact gy2 (by assumption)) ?_
        refine hl_call F.law07_correcting_cb rfl rfl (law07_correcting_meets) (List.Perm.refl _) trivial fun _ _ => ?_
        refine p_t rfl rfl (by first | rfl | assumption | exact bt1 (by assumption) | exact bt2 (by assumption)) rfl ?_
        refine r_assign rfl rfl ?_
        refine hl_nil ?_
        refine then_n ?_
        refine hc_ret ?_
        exact ret1 () rfl rfl rfl trivial (List.nil_sublist _) trivial
      · intro hg5; have hg5' := hg5; try simp at hg5'
    · intro hg4; have hg4' := hg4; try simp at hg4'

end Go.Proofs.Ytpbbgbjidhffoaa
