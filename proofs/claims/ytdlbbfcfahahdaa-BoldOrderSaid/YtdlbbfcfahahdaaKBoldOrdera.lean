/- Texts of this claim, one behind another. -/

import Derived.Test.YtdlbbfcfahahdaaKAp
section
namespace Go.Proofs.Ytdlbbfcfahahdaa
open Go Go.W
set_option linter.unusedVariables false
set_option linter.unusedSimpArgs false
set_option maxRecDepth 20000
attribute [local irreducible] HL HC HQ HB Row Rows2 Blk Facts
/-- A list that is filled along an order. -/
def FillI {α : Type} [Inhabited α] (o : List Int) (n : Nat) (f : Nat → α) (l : List α) (k : Nat) : Prop := l.length = n ∧ ∀ j, j < k → l.getD (o.getD j default).toNat default = f j
theorem fill_next {α : Type} [Inhabited α] {o : List Int} {n k p : Nat} {f : Nat → α} {l : List α} (hP : o.Perm (rngI n)) (h : FillI o n f l k) (hk : k < n) (hp : o.getD k default = (p : Int)) : FillI o n f (l.set p (f k)) (k + 1) := by
  refine ⟨by rw [List.length_set]; exact h.1, fun j hj => ?_⟩
  have hpn := rng_at hP hk
  rw [hp] at hpn
  have hpl : p < l.length := by rw [h.1]; omega
  rcases Nat.lt_or_ge j k with h1 | h1
  · have hne := rng_inj hP hk h1
    have hj2 := rng_at hP (show j < n by omega)
    rw [hp] at hne
    obtain ⟨q, hq⟩ := Int.eq_ofNat_of_zero_le hj2.1
    have h2 := h.2 j h1
    rw [hq, Int.toNat_natCast] at h2 ⊢
    have hql : q < l.length := by rw [h.1]; omega
    rw [hq] at hne
    rw [getD_at (by rw [List.length_set]; exact hql), List.getElem_set_ne (by omega), ← getD_at hql]
    exact h2
  · obtain rfl : j = k := by omega
    rw [hp, Int.toNat_natCast, getD_at (by rw [List.length_set]; exact hpl), List.getElem_set_self]
theorem fill_perm {α : Type} [Inhabited α] {o : List Int} {n : Nat} {f : Nat → α} {l : List α} (hP : o.Perm (rngI n)) (h : FillI o n f l n) : l.Perm ((List.range n).map f) := by
  have e1 : l = (rngI n).map fun v => l.getD v.toNat default := by
    refine List.ext_getElem (by rw [List.length_map, rng_len]; exact h.1) fun i h1 h2 => ?_
    rw [List.getElem_map]
    unfold rngI
    rw [List.getElem_map, List.getElem_range]
    show _ = l.getD ((i : Int)).toNat default
    rw [Int.toNat_natCast, getD_at h1]
  have e2 : (o.map fun v => l.getD v.toNat default) = (List.range n).map f := by
    have hl : o.length = n := by rw [hP.length_eq, rng_len]
    refine List.ext_getElem (by rw [List.length_map, List.length_map, List.length_range, hl]) fun i h1 h2 => ?_
    rw [List.length_map] at h1
    rw [List.getElem_map, List.getElem_map, List.getElem_range, ← h.2 i (by omega), getD_at h1]
  have e3 : (o.map fun v => l.getD v.toNat default).Perm ((rngI n).map fun v => l.getD v.toNat default) := hP.map _
  rw [e2, ← e1] at e3
  exact e3.symm
theorem fill_start {α : Type} [Inhabited α] (o : List Int) {n : Nat} (f : Nat → α) {l : List α} (h : l.length = n) : FillI o n f l 0 := ⟨h, fun j hj => absurd hj (Nat.not_lt_zero j)⟩
/-- An advert of a customer who has another number. -/
def mvA (o : List Int) (y : Ad) : Ad := (o.getD y.1.toNat default, y.2)
theorem map_getD {α β : Type} [Inhabited α] (f : α → β) (l : List α) : ((List.range l.length).map fun i => f (l.getD i default)) = l.map f := by
  refine List.ext_getElem (by simp) fun i h1 h2 => ?_
  rw [List.getElem_map, List.getElem_map, List.getElem_range, getD_at (by simpa using h1)]
theorem inj_o {o : List Int} {n i j : Nat} (hP : o.Perm (rngI n)) (hi : i < n) (hj : j < n) (h : o.getD i default = o.getD j default) : i = j := by
  rcases Nat.lt_trichotomy i j with h1 | h1 | h1
  · exact absurd h (rng_inj hP hj h1)
  · exact h1
  · exact absurd h.symm (rng_inj hP hi h1)
structure Moved (c : Ch) (ss : List Int) (xs : List Ad) (o w : List Int) (ss' : List Int) (xs' : List Ad) : Prop where
  h0 : chkS c ss xs = 0
  ho : o.Perm (rngI ss.length)
  hw : w.Perm (rngI xs.length)
  s : FillI o ss.length (fun i => ss.getD i default) ss' ss.length
  x : FillI w xs.length (fun i => mvA o (xs.getD i default)) xs' xs.length
variable {c : Ch} {ss : List Int} {xs : List Ad} {o w ss' : List Int} {xs' : List Ad}
theorem perm_sum {l l' : List Int} (h : l.Perm l') : l.sum = l'.sum := by
  induction h with
  | nil => rfl
  | cons x _ ih => simp only [List.sum_cons, ih]
  | swap x y l => simp only [List.sum_cons]; omega
  | trans _ _ h1 h2 => exact h1.trans h2
theorem Moved.px (h : Moved c ss xs o w ss' xs') : xs'.Perm (xs.map (mvA o)) := by
  have h1 := fill_perm h.hw h.x
  rw [map_getD (mvA o) xs] at h1
  exact h1
theorem Moved.ps (h : Moved c ss xs o w ss' xs') : ss'.Perm ss := by
  have h1 := fill_perm h.ho h.s
  have h2 := map_getD (fun v : Int => v) ss
  rw [List.map_id'] at h2
  rw [h2] at h1
  exact h1
theorem Moved.ad (h : Moved c ss xs o w ss' xs') {y : Ad} (hy : y ∈ xs) : (0 ≤ y.1 ∧ y.1 < (ss.length : Int)) ∧ (0 ≤ (mvA o y).1 ∧ (mvA o y).1 < (ss.length : Int)) := by
  have h1 := ((sa_ok h.h0).ad y hy).1
  exact ⟨h1, rng_at h.ho (by omega)⟩
theorem Moved.chk (h : Moved c ss xs o w ss' xs') : chkS c ss' xs' = 0 := by
  have hs := sa_ok h.h0
  have hl := h.ps.length_eq
  refine chk_mk hs.ch ⟨by have := hs.n1; omega, by have := hs.n5; omega⟩ (fun v hv => hs.st v (h.ps.mem_iff.1 hv)) (by rw [h.px.length_eq, List.length_map]; exact hs.x8) fun x hx => ?_
  obtain ⟨y, hy, rfl⟩ := List.mem_map.1 (h.px.mem_iff.1 hx)
  have h1 := chk_ads h.h0 y hy
  have h2 := h.ad hy
  rw [hl]
  unfold adErr at h1 ⊢
  rw [if_neg (by omega)] at h1 ⊢
  exact h1
theorem filter_count {α : Type} {p : α → Bool} {l l' : List α} (h : l.Perm l') : (l.filter p).length = (l'.filter p).length := (h.filter p).length_eq
theorem Moved.sum (h : Moved c ss xs o w ss' xs') {i p : Nat} (hi : i < ss.length) (hp : o.getD i default = (p : Int)) : sumN c xs' p = sumN c xs i := by
  unfold sumN sumK
  rw [List.take_length, List.take_length]
  have h1 := perm_sum ((h.px.filter fun x : Ad => decide (x.1 = (p : Int))).map (priceN c))
  rw [h1, List.filter_map, List.map_map]
  have h2 : xs.filter ((fun x : Ad => decide (x.1 = (p : Int))) ∘ mvA o) = xs.filter fun x => decide (x.1 = (i : Int)) := List.filter_congr fun y hy => by
    have hy1 := (h.ad hy).1
    refine decide_eq_decide.2 ⟨fun e => ?_, fun e => ?_⟩
    · have := inj_o h.ho (show y.1.toNat < ss.length by omega) hi (by rw [hp]; exact e)
      omega
    · show o.getD y.1.toNat default = _
      rw [e, Int.toNat_natCast, hp]
  rw [h2]
  rfl
theorem Moved.off (h : Moved c ss xs o w ss' xs') (s : Int) : offB c ss' xs' s = offB c ss xs s := by
  have hl := h.ps.length_eq
  have key : offCnt ss' xs' s = offCnt ss xs s := by
    unfold offCnt
    have hp : ((List.range ss.length).map fun i => (o.getD i default).toNat).Perm (List.range ss.length) := by
      have h1 := h.ho.map Int.toNat
      have e1 : o.map Int.toNat = (List.range ss.length).map fun i => (o.getD i default).toNat := by
        rw [← map_getD Int.toNat o, h.ho.length_eq, rng_len]
      have e2 : (rngI ss.length).map Int.toNat = List.range ss.length := by
        unfold rngI; rw [List.map_map]; exact (List.map_congr_left fun a _ => Int.toNat_natCast a).trans (List.map_id' _)
      rw [e1, e2] at h1
      exact h1
    rw [hl, ← filter_count hp, List.filter_map, List.length_map]
    refine congrArg List.length (List.filter_congr fun i hi => ?_)
    rw [List.mem_range] at hi
    have hr := rng_at h.ho hi
    obtain ⟨p, hpe⟩ := Int.eq_ofNat_of_zero_le hr.1
    show hereB ss' xs' s (o.getD i default).toNat = hereB ss xs s i
    unfold hereB
    have e1 : ss'.getD (o.getD i default).toNat default = ss.getD i default := h.s.2 i hi
    rw [e1]
    congr 1
    rw [Bool.eq_iff_iff, List.any_eq_true, List.any_eq_true]
    constructor
    · rintro ⟨x, hx, e⟩
      obtain ⟨y, hy, rfl⟩ := List.mem_map.1 (h.px.mem_iff.1 hx)
      have hy1 := (h.ad hy).1
      have e := of_decide_eq_true e
      refine ⟨y, hy, decide_eq_true ?_⟩
      have := inj_o h.ho (show y.1.toNat < ss.length by omega) hi (by have e2 : o.getD y.1.toNat default = _ := e; rw [e2]; omega)
      omega
    · rintro ⟨y, hy, e⟩
      have e := of_decide_eq_true e
      refine ⟨mvA o y, h.px.mem_iff.2 (List.mem_map.2 ⟨y, hy, rfl⟩), decide_eq_true ?_⟩
      show o.getD y.1.toNat default = _
      rw [e, Int.toNat_natCast]; omega
  unfold offB; rw [key]
theorem Moved.bil (h : Moved c ss xs o w ss' xs') {i p : Nat} (hi : i < ss.length) (hp : o.getD i default = (p : Int)) : bilN c ss' xs' p = bilN c ss xs i := by
  unfold bilN
  rw [h.off, h.sum hi hp]
  have h1 := h.s.2 i hi
  rw [hp, Int.toNat_natCast] at h1
  rw [h1]
theorem Moved.disc (h : Moved c ss xs o w ss' xs') : discK c ss' xs' 10 = discK c ss xs 10 := by
  unfold discK
  rw [show (fun i : Nat => offB c ss' xs' (i : Int)) = fun i : Nat => offB c ss xs (i : Int) from funext fun i => h.off _]
theorem rot3 {α : Type _} (a b c : α) : [a, b, c].Perm [c, a, b] := List.perm_append_comm (l₁ := [a, b]) (l₂ := [c])
theorem dup_bills (c : Ch) (n m : Nat) (ps : Sl Int) (qs : Sl Ad) (h0 : chkS c ps.l qs.l = 0) (hn : ps.l.length ≤ 1000000) (hm : qs.l.length ≤ 1000000) (e1 : ps.l.length = n) (e2 : qs.l.length = m) : Meets Try.prog F.bold_Bills [.agg #[int c.1, int c.2.1, int c.2.2.1, int c.2.2.2.1, int c.2.2.2.2.1, int c.2.2.2.2.2, .slice ps.a n ps.c, .slice qs.a m qs.c]] { LI := saL ps qs, inv := fun x : OutC => n ≤ x.2, val := fun x => .tuple #[.slice x.1 n x.2, int 0], LO := fun x => [Row x.1 (rows (numsN 103 c ps.l qs.l))] } := by
  subst e1; subst e2; exact bills_is c ps qs h0 hn hm
theorem dup_streets (c : Ch) (n m : Nat) (ps : Sl Int) (qs : Sl Ad) (h0 : chkS c ps.l qs.l = 0) (hn : ps.l.length ≤ 1000000) (hm : qs.l.length ≤ 1000000) (e1 : ps.l.length = n) (e2 : qs.l.length = m) {D : List Int} (e3 : discK c ps.l qs.l 10 = D) : Meets Try.prog F.bold_Streets [.agg #[int c.1, int c.2.1, int c.2.2.1, int c.2.2.2.1, int c.2.2.2.2.1, int c.2.2.2.2.2, .slice ps.a n ps.c, .slice qs.a m qs.c]] { LI := saL ps qs, inv := fun x : OutC => D.length ≤ x.2, val := fun x => .tuple #[.slice x.1 D.length x.2, int 0], LO := fun x => [Row x.1 (rows D)] } := by
  subst e1; subst e2; subst e3; exact streets_is c ps qs h0 hn hm
set_option maxHeartbeats 1000000 in
theorem law09_BoldOrder_meets {A : Option Addr} {cn : Nat} (nums : List Int) (hn : nums.length ≤ 9223372036854775807) : Meets Try.prog F.law09_BoldOrder [.slice A nums.length cn] { LI := [Row A (rows nums)], val := fun _ : Unit => .bool true } := by
 refine meets_intro F.law09_BoldOrder_f rfl (Nat.le_of_ble_eq_true rfl) fun w0 => ?_
 refine hc_seq (hc_region (r_assign rfl rfl (hl_nil (then_n (hc_seq (hc_region (r_move rfl rfl ?_)))))))
 refine hl_call F.kit_NewDice_cb rfl rfl (kit_NewDice_meets nums) (List.Perm.refl _) ⟨mB, trivial⟩ fun g _ => ?_
 refine r_assign rfl rfl (hl_nil (then_n (hc_seq (hc_region (r_move rfl rfl ?_)))))
 refine hl_call F.kit_SalesOf_cb rfl rfl (kit_SalesOf_meets 8 hn (dok0 nums) (by decide)) (List.Perm.refl _) ⟨mB, trivial⟩ fun xs1 hs1 => ?_
 obtain ⟨s1, sz⟩ := xs1
 obtain ⟨hs1, hsz⟩ := hs1
 simp only at hs1
 obtain ⟨c, ps, qs⟩ := sz
 have h0 : chkS c ps.l qs.l = 0 := hsz.ok
 have hqm : qs.l.length ≤ 8 := hsz.x8
 have hpc : ps.l.length ≤ ps.c := hsz.ca
 have hqc : qs.l.length ≤ qs.c := hsz.cb
 have hsa := sa_ok h0
 have hn1 := hsa.n1
 have hn5 := hsa.n5
 have hqx := hsa.x8
 have hpl : ps.l.length ≤ 1000000 := by omega
 have hql : qs.l.length ≤ 1000000 := by omega
 clear hsz
 refine r_alloc rfl (fun _ => T.al_api_Sales _) fun gS => ?_
 refine r_storeS (cs := saC c ps qs) rfl rfl (.refl _) T.sz_api_Sales (by rfl) (by rfl) ?_
 refine hl_nil (then_n (hc_seq (hc_letgoB ?_)))
 refine hc_drawW ([dice g A cn nums s1]) ([]) (.refl _) 9 [4] mixed (by decide) (by decide) (by decide) rfl rfl rfl ?_
 refine hb_ex _ rfl rfl rfl (fun w1 => r_move rfl rfl (hl_nil (qe_done rfl))) ?_
 apply hb_ex _ rfl rfl rfl
 ·intro w1
  first | refine r_fieldAddr ⟨_, 7, none⟩ rfl rfl T.fa_api_Sales_2 rfl ?_ | refine r_fieldAddr _ rfl rfl T.fa_api_Sales_2 rfl ?_
  refine hl_nil ?_
  exact qe_done rfl
 apply hb_ex _ rfl rfl rfl
 ·intro w1
  first | refine r_load rfl T.cell_L_api_Advert rfl (cell_blk mB rfl) ?_ | refine r_load rfl T.cell_L_api_Advert rfl (cell_own mB rfl) ?_ | refine r_load rfl T.cell_L_api_Advert rfl (cell_row mB (rows_get0 (by omega) rfl)) ?_ | refine r_load rfl T.cell_L_api_Advert rfl (cell_row_f mB (rows_get (by omega) rfl)) ?_ | refine r_load rfl T.cell_L_api_Advert rfl (cell_rowg mB rfl) ?_
  refine hl_nil ?_
  exact qe_done rfl
 refine hb_ex _ rfl rfl rfl (fun w1 => r_len_sl rfl T.u_L_api_Advert rfl (hl_nil (qe_done rfl))) ?_
 refine hb_wr ⟨(Int × Int) × List Int × OutC, fun x => DOK nums x.1 ∧ x.2.1.Perm (rngI qs.l.length) ∧ x.2.1.length ≤ x.2.2.2, fun x => .slice x.2.2.1 x.2.1.length x.2.2.2, fun x => [Row x.2.2.1 (rows x.2.1)], fun x => [dice g A cn nums x.1]⟩ rfl rfl rfl ?_ ?_
 ·intro w1
  refine hl_call F.kit_Dice_Order_cb rfl rfl (kit_Dice_Order_meets qs.l.length hn hs1 (by omega)) (List.Perm.refl _) ⟨mB, trivial⟩ fun xs2 hs2 => ?_
  obtain ⟨s2, y⟩ := xs2
  obtain ⟨hs2, hy⟩ := hs2
  simp only at hs2
  refine hl_nil ?_
  exact qw_done (s2, y) ⟨hs2, hy.1, hy.2⟩ (fun _ => rfl) (List.Sublist.refl _) ⟨mB, trivial⟩
 refine hb_ex _ rfl rfl rfl (fun w1 => r_move rfl rfl (hl_nil (qe_done rfl))) ?_
 apply hb_ex _ rfl rfl rfl
 ·intro w1
  first | refine r_fieldAddr ⟨_, 6, none⟩ rfl rfl T.fa_api_Sales_1 rfl ?_ | refine r_fieldAddr _ rfl rfl T.fa_api_Sales_1 rfl ?_
  refine hl_nil ?_
  exact qe_done rfl
 apply hb_ex _ rfl rfl rfl
 ·intro w1
  first | refine r_load rfl T.cell_ints rfl (cell_blk mB rfl) ?_ | refine r_load rfl T.cell_ints rfl (cell_own mB rfl) ?_ | refine r_load rfl T.cell_ints rfl (cell_row mB (rows_get0 (by omega) rfl)) ?_ | refine r_load rfl T.cell_ints rfl (cell_row_f mB (rows_get (by omega) rfl)) ?_ | refine r_load rfl T.cell_ints rfl (cell_rowg mB rfl) ?_
  refine hl_nil ?_
  exact qe_done rfl
 refine hb_ex _ rfl rfl rfl (fun w1 => r_len_sl rfl T.u_ints rfl (hl_nil (qe_done rfl))) ?_
 refine hb_nil ⟨rfl, ?_⟩
 intro x4 h4
 obtain ⟨s2, w, ⟨wA, wC⟩⟩ := x4
 obtain ⟨hs2, hw, hwc⟩ := h4
 simp only at hs2 hw hwc
 refine hl_call F.kit_Dice_Order_cb rfl rfl (kit_Dice_Order_meets ps.l.length hn hs2 (by omega)) (List.Perm.refl _) ⟨mB, trivial⟩ fun xs3 hs3 => ?_
 obtain ⟨s3, y⟩ := xs3
 obtain ⟨hs3, hy⟩ := hs3
 simp only at hs3
 obtain ⟨o, ⟨oA, oC⟩⟩ := y
 obtain ⟨ho, hoc⟩ := hy
 simp only at ho hoc
 have hol : o.length = ps.l.length := by rw [ho.length_eq, rng_len]
 have hwl : w.length = qs.l.length := by rw [hw.length_eq, rng_len]
 refine r_assign rfl rfl (r_assign rfl rfl (hl_nil (then_n (hc_seq (hc_region ?_)))))
 first | refine r_loadA rfl T.row_api_Sales T.sz_api_Sales rfl mB (by rfl) ?_ | refine r_loadB rfl T.row_api_Sales T.sz_api_Sales rfl mB (by rfl) ?_ | refine r_loadS rfl T.row_api_Sales T.sz_api_Sales rfl rfl (cells_row mB (rows_all (by omega))) ?_
 refine hl_call F.kit_DupSales_cb rfl rfl (kit_DupSales_meets c ps qs hpl hql) (List.Perm.refl _) ⟨mB, mB, trivial⟩ fun y hy => ?_
 obtain ⟨⟨⟨pa, pc⟩, po⟩, ⟨⟨ra, rc⟩, ro⟩⟩ := y
 obtain ⟨hya, hyb⟩ := hy
 change Grow T.int 1 pa ps.l.length pc (rows ps.l) po at hya
 change GrowE T.api_Advert 3 ra qs.l.length rc (rows qs.l) ro at hyb
 refine hl_count (po ++ ro) (by intro p; show List.countP p (po ++ ro) ≤ List.countP p ((po ++ ro) ++ [dice g A cn nums s3]); rw [List.countP_append (l₁ := po ++ ro)]; omega) ?_
 refine r_alloc rfl (fun _ => T.al_api_Sales _) fun gx => ?_
 refine r_storeS (cs := saC c ⟨pa, pc, ps.l⟩ ⟨ra, rc, qs.l⟩) rfl rfl (.refl _) T.sz_api_Sales (by rfl) (by rfl) ?_
 refine hl_nil (then_n (hc_seq (hc_seq (hc_region (r_assign rfl rfl (hl_nil (then_n (hc_block ?_))))))))
 obtain ⟨g7, cur0, rfl, rfl, hcl, hcm, hcs0, hct0⟩ := (show GrowE T.int 1 pa ps.l.length pc (rows ps.l) po from .inl hya).blk (by omega)
 refine hc_perm (show List.Perm ((gx, Obj.cells (saC c ⟨some ⟨g7, 0, none⟩, pc, ps.l⟩ ⟨ra, rc, qs.l⟩) T.api_Sales (0, 0)) :: (g7, Obj.cells cur0 T.int (0, 0)) :: ro) ((g7, Obj.cells cur0 T.int (0, 0)) :: (gx, Obj.cells (saC c ⟨some ⟨g7, 0, none⟩, pc, ps.l⟩ ⟨ra, rc, qs.l⟩) T.api_Sales (0, 0)) :: ro) from .swap _ _ _) ?_
 refine hc_loop (β := Nat × List Int × Array Value) ⟨fun x => x.1 ≤ ps.l.length ∧ FillI o ps.l.length (fun i => ps.l.getD i default) x.2.1 x.1 ∧ x.2.2.size = pc * 1 ∧ x.2.2.toList.take (x.2.1.length * 1) = rows x.2.1, fun x => [(4, .pointer (some ⟨gS, 0, none⟩)), (5, .slice wA w.length wC), (6, .slice oA o.length oC), (7, .pointer (some ⟨gx, 0, none⟩)), (8, int x.1)], fun x => (g7, Obj.cells x.2.2 T.int (0, 0)) :: (gx, Obj.cells (saC c ⟨some ⟨g7, 0, none⟩, pc, ps.l⟩ ⟨ra, rc, qs.l⟩) T.api_Sales (0, 0)) :: ro, fun _ => [Row oA (rows o), Row wA (rows w), Blk gS (.cells (saC c ps qs) T.api_Sales (0, 0)), Row ps.a (rows ps.l), Row qs.a (rows qs.l)]⟩ (fun x => ps.l.length - x.1) (0, ps.l, cur0) ⟨Nat.zero_le _, fill_start o _ rfl, hcs0, hct0⟩ ⟨rfl, rfl, rfl, rfl, rfl, trivial⟩ (.refl _) ⟨mB, mB, mB, mB, mB, trivial⟩ fun x hx => ?_
 obtain ⟨i, l2, cur⟩ := x
 obtain ⟨hi, hF, hcs, hct⟩ := hx
 simp only at hi hF hcs hct
 have hl2 := hF.1
 refine hc_seq (hc_seq (hc_region (r_move rfl rfl (r_move rfl rfl ?_))))
 refine r_len_sl rfl T.u_ints rfl ?_
 refine r_lss rfl rfl rfl (hl_nil (then_n ?_))
 first | refine c_dec rfl (fun hb1 => ?_) (fun hb1 => ?_) | refine hc_cond rfl (fun hb1 => ?_) (fun hb1 => ?_)
 ·have hb1' := hb1; try simp at hb1'
  have hi2 : i < ps.l.length := by omega
  obtain ⟨p, hpe⟩ := Int.eq_ofNat_of_zero_le (rng_at ho hi2).1
  have hp2 : p < ps.l.length := by have := rng_at ho hi2; omega
  have hp3 : p < l2.length := by omega
  refine hc_skip (then_n (hc_seq (hc_block ?_)))
  refine hc_drawW (ro) ([(g7, Obj.cells cur T.int (0, 0)), (gx, Obj.cells (saC c ⟨some ⟨g7, 0, none⟩, pc, ps.l⟩ ⟨ra, rc, qs.l⟩) T.api_Sales (0, 0))]) (show List.Perm ((g7, Obj.cells cur T.int (0, 0)) :: (gx, Obj.cells (saC c ⟨some ⟨g7, 0, none⟩, pc, ps.l⟩ ⟨ra, rc, qs.l⟩) T.api_Sales (0, 0)) :: ro) (ro ++ [(g7, Obj.cells cur T.int (0, 0)), (gx, Obj.cells (saC c ⟨some ⟨g7, 0, none⟩, pc, ps.l⟩ ⟨ra, rc, qs.l⟩) T.api_Sales (0, 0))]) from (perm_of fun p => by simp only [List.countP_append, List.countP_cons, List.countP_nil]; omega)) 11 [] mixed (by decide) (by decide) (by decide) rfl rfl rfl ?_
  apply hb_ex _ rfl rfl rfl
  ·intro w1
   first | refine r_fieldAddr ⟨_, 6, none⟩ rfl rfl T.fa_api_Sales_1 rfl ?_ | refine r_fieldAddr _ rfl rfl T.fa_api_Sales_1 rfl ?_
   refine hl_nil ?_
   exact qe_done rfl
  apply hb_ex _ rfl rfl rfl
  ·intro w1
   first | refine r_load rfl T.cell_ints rfl (cell_blk mB rfl) ?_ | refine r_load rfl T.cell_ints rfl (cell_own mB rfl) ?_ | refine r_load rfl T.cell_ints rfl (cell_row mB (rows_get0 (by omega) rfl)) ?_ | refine r_load rfl T.cell_ints rfl (cell_row_f mB (rows_get (by omega) rfl)) ?_ | refine r_load rfl T.cell_ints rfl (cell_rowg mB rfl) ?_
   refine hl_nil ?_
   exact qe_done rfl
  refine hb_ex _ rfl rfl rfl (fun w1 => r_move rfl rfl (hl_nil (qe_done rfl))) ?_
  refine hb_ex _ rfl rfl rfl (fun w1 => r_move rfl rfl (hl_nil (qe_done rfl))) ?_
  refine hb_ex _ rfl rfl rfl (fun w1 => r_elem (α := Int) o i rfl T.u_ints T.sz_int rfl rfl rfl mB rfl (by omega) (by decide) (hl_nil (qe_done rfl))) ?_
  refine hb_ex _ rfl rfl rfl (fun w1 => r_load (v := int ((p : Int))) rfl T.cell_int rfl (cell_row mB (by rw [← hpe]; exact rows_get0 (show i < o.length by omega) rfl)) (hl_nil (qe_done rfl))) ?_
  apply hb_ex _ rfl rfl rfl
  ·intro w1
   first | refine r_fieldAddr ⟨_, 6, none⟩ rfl rfl T.fa_api_Sales_1 rfl ?_ | refine r_fieldAddr _ rfl rfl T.fa_api_Sales_1 rfl ?_
   refine hl_nil ?_
   exact qe_done rfl
  apply hb_ex _ rfl rfl rfl
  ·intro w1
   first | refine r_load rfl T.cell_ints rfl (cell_blk mB rfl) ?_ | refine r_load rfl T.cell_ints rfl (cell_own mB rfl) ?_ | refine r_load rfl T.cell_ints rfl (cell_row mB (rows_get0 (by omega) rfl)) ?_ | refine r_load rfl T.cell_ints rfl (cell_row_f mB (rows_get (by omega) rfl)) ?_ | refine r_load rfl T.cell_ints rfl (cell_rowg mB rfl) ?_
   refine hl_nil ?_
   exact qe_done rfl
  refine hb_ex _ rfl rfl rfl (fun w1 => r_move rfl rfl (hl_nil (qe_done rfl))) ?_
  refine hb_ex _ rfl rfl rfl (fun w1 => r_elem (α := Int) ps.l i rfl T.u_ints T.sz_int rfl rfl rfl mB rfl (hi2) (by decide) (hl_nil (qe_done rfl))) ?_
  refine hb_ex _ rfl rfl rfl (fun w1 => r_load (v := int (ps.l.getD i default)) rfl T.cell_int rfl (cell_row mB (rows_get0 (hi2) rfl)) (hl_nil (qe_done rfl))) ?_
  refine hb_nil ⟨rfl, ?_⟩
  refine r_indexAddr_own p (0 + p * 1) rfl T.u_ints T.sz_int rfl rfl rfl hp2 rfl ?_
  refine r_store (u := int (l2.getD p default)) rfl rfl (show List.Perm (ro ++ [(g7, Obj.cells cur T.int (0, 0)), (gx, Obj.cells (saC c ⟨some ⟨g7, 0, none⟩, pc, ps.l⟩ ⟨ra, rc, qs.l⟩) T.api_Sales (0, 0))]) ((g7, Obj.cells cur T.int (0, 0)) :: (gx, Obj.cells (saC c ⟨some ⟨g7, 0, none⟩, pc, ps.l⟩ ⟨ra, rc, qs.l⟩) T.api_Sales (0, 0)) :: ro) from (perm_of fun p => by simp only [List.countP_append, List.countP_cons, List.countP_nil]; omega)) T.sz_int (own_f (α := Int) (f := 0) hct hp3 (by rw [Nat.zero_add]; rfl) rfl) (by rfl) ?_
  refine hl_nil (inb_n (then_n (hc_region (r_move rfl rfl ?_))))
  refine r_add _ rfl rfl rfl rfl (by unfold I64; omega) ?_
  refine r_assign rfl rfl (hl_nil ?_)
  exact again _ (i + 1, l2.set p (ps.l.getD i default), cur.setIfInBounds (0 + p * 1) (int (ps.l.getD i default))) ⟨by show i + 1 ≤ ps.l.length; omega, fill_next ho hF hi2 hpe, by show (Array.setIfInBounds _ _ _).size = _; rw [Array.size_setIfInBounds]; exact hcs, by show (Array.setIfInBounds cur _ _).toList.take ((l2.set p _).length * 1) = _; rw [Nat.zero_add]; exact take_setf (α := Int) (f := 0) (by decide) hp3 rfl hct⟩ (by show ps.l.length - (i + 1) < ps.l.length - i; omega) ⟨rfl, rfl, rfl, rfl, rfl, trivial⟩ (.refl _) ⟨mB, mB, mB, mB, mB, trivial⟩
 ·have hb1' := hb1; try simp at hb1'
  obtain rfl : i = ps.l.length := by omega
  refine hc_exit (then_exit (then_exit (inb_hit (then_n (hc_seq (hc_seq ?_))))))
  have hFs := hF
  have hl2p : l2.length ≤ pc := by omega
  refine hc_grown (A := some ⟨g7, 0, none⟩) (n := l2.length) (cap := pc) (xs := rows l2) (og := [(g7, Obj.cells cur T.int (0, 0))]) (e := T.int) (sz := 1) ⟨by rw [rows_len]; rfl, .inr ⟨g7, cur, rfl, rfl, hl2p, hcm, hcs, hct⟩⟩ ?_
  refine hc_region (r_assign rfl rfl (hl_nil (then_n (hc_block ?_))))
  refine hc_loop (β := Nat × List Ad × Hp) ⟨fun x => x.1 ≤ qs.l.length ∧ FillI w qs.l.length (fun i => mvA o (qs.l.getD i default)) x.2.1 x.1 ∧ GrowE T.api_Advert 3 ra x.2.1.length rc (rows x.2.1) x.2.2, fun x => [(4, .pointer (some ⟨gS, 0, none⟩)), (5, .slice wA w.length wC), (6, .slice oA o.length oC), (7, .pointer (some ⟨gx, 0, none⟩)), (9, int x.1)], fun x => (gx, Obj.cells (saC c ⟨some ⟨g7, 0, none⟩, pc, ps.l⟩ ⟨ra, rc, qs.l⟩) T.api_Sales (0, 0)) :: x.2.2, fun _ => Row (some ⟨g7, 0, none⟩) (rows l2) :: [Row oA (rows o), Row wA (rows w), Blk gS (.cells (saC c ps qs) T.api_Sales (0, 0)), Row ps.a (rows ps.l), Row qs.a (rows qs.l)]⟩ (fun x => qs.l.length - x.1) (0, qs.l, ro) ⟨Nat.zero_le _, fill_start w _ rfl, hyb⟩ ⟨rfl, rfl, rfl, rfl, rfl, trivial⟩ (.refl _) ⟨mB, mB, mB, mB, mB, mB, trivial⟩ fun x hx => ?_
  clear hyb
  obtain ⟨i, q2, og⟩ := x
  obtain ⟨hi, hF, hG⟩ := hx
  simp only at hi hF hG
  have hq2 := hF.1
  refine hc_seq (hc_seq (hc_region (r_move rfl rfl (r_move rfl rfl ?_))))
  refine r_len_sl rfl T.u_ints rfl ?_
  refine r_lss rfl rfl rfl (hl_nil (then_n ?_))
  first | refine c_dec rfl (fun hb2 => ?_) (fun hb2 => ?_) | refine hc_cond rfl (fun hb2 => ?_) (fun hb2 => ?_)
  ·have hb2' := hb2; try simp at hb2'
   have hi2 : i < qs.l.length := by omega
   obtain ⟨p, hpe⟩ := Int.eq_ofNat_of_zero_le (rng_at hw hi2).1
   have hp2 : p < qs.l.length := by have := rng_at hw hi2; omega
   have hp3 : p < q2.length := by omega
   obtain ⟨g9, cur9, rfl, rfl, hcl9, hcm9, hcs9, hct9⟩ := hG.blk (by omega)
   clear hG
   have hyi := (hsa.ad _ (getD_mem hi2)).1
   obtain ⟨v, hve⟩ := Int.eq_ofNat_of_zero_le hyi.1
   have hv2 : v < o.length := by omega
   have hov : o.getD v default = (mvA o (qs.l.getD i default)).1 := by show _ = o.getD (qs.l.getD i default).1.toNat default; rw [hve, Int.toNat_natCast]
   refine hc_skip (then_n (hc_seq (hc_block (hc_seq (hc_region ?_)))))
   first | refine r_fieldAddr ⟨_, 7, none⟩ rfl rfl T.fa_api_Sales_2 rfl ?_ | refine r_fieldAddr _ rfl rfl T.fa_api_Sales_2 rfl ?_
   first | refine r_load rfl T.cell_L_api_Advert rfl (cell_own mB rfl) ?_ | refine r_load rfl T.cell_L_api_Advert rfl (cell_blk mB rfl) ?_ | refine r_load rfl T.cell_L_api_Advert rfl (cell_row mB (rows_get0 (by omega) rfl)) ?_ | refine r_load rfl T.cell_L_api_Advert rfl (cell_row_f mB (rows_get (by omega) rfl)) ?_ | refine r_load rfl T.cell_L_api_Advert rfl (cell_rowg mB rfl) ?_
   refine r_move rfl rfl ?_
   refine r_elem (α := Ad) _ _ rfl T.u_L_api_Advert T.sz_api_Advert rfl rfl rfl mB rfl (by omega) (by decide) ?_
   refine r_loadS rfl T.row_api_Advert T.sz_api_Advert rfl rfl (cells_row mB (rows_all (by omega))) ?_
   refine r_alloc rfl (fun _ => T.al_api_Advert _) fun gy => ?_
   refine r_storeS (cs := #[int (qs.l.getD i default).1, int (qs.l.getD i default).2.1, int (qs.l.getD i default).2.2]) rfl rfl (.refl _) T.sz_api_Advert (by rfl) (by rfl) ?_
   refine hl_nil (then_n (hc_seq (hc_region (r_move rfl rfl ?_))))
   first | refine r_fieldAddr ⟨_, 0, none⟩ rfl rfl T.fa_api_Advert_0 rfl ?_ | refine r_fieldAddr _ rfl rfl T.fa_api_Advert_0 rfl ?_
   first | refine r_load rfl T.cell_int rfl (cell_own mB rfl) ?_ | refine r_load rfl T.cell_int rfl (cell_blk mB rfl) ?_ | refine r_load rfl T.cell_int rfl (cell_row mB (rows_get0 (by omega) rfl)) ?_ | refine r_load rfl T.cell_int rfl (cell_row_f mB (rows_get (by omega) rfl)) ?_ | refine r_load rfl T.cell_int rfl (cell_rowg mB rfl) ?_
   refine r_elem (α := Int) o v rfl T.u_ints T.sz_int rfl rfl hve mB rfl (hv2) (by decide) ?_
   refine r_load (v := int ((mvA o (qs.l.getD i default)).1)) rfl T.cell_int rfl (cell_row mB (by rw [← hov]; exact rows_get0 (hv2) rfl)) ?_
   first | refine r_fieldAddr ⟨_, 0, none⟩ rfl rfl T.fa_api_Advert_0 rfl ?_ | refine r_fieldAddr _ rfl rfl T.fa_api_Advert_0 rfl ?_
   refine r_store rfl rfl (.refl _) T.sz_int (by rfl) (by rfl) ?_
   refine hl_nil (then_n ?_)
   refine hc_draw 7 mixed (by decide) (by decide) rfl rfl ?_
   apply hb_ex _ rfl rfl rfl
   ·intro w1
    first | refine r_fieldAddr ⟨_, 7, none⟩ rfl rfl T.fa_api_Sales_2 rfl ?_ | refine r_fieldAddr _ rfl rfl T.fa_api_Sales_2 rfl ?_
    refine hl_nil ?_
    exact qe_done rfl
   apply hb_ex _ rfl rfl rfl
   ·intro w1
    first | refine r_load rfl T.cell_L_api_Advert rfl (cell_blk mB rfl) ?_ | refine r_load rfl T.cell_L_api_Advert rfl (cell_own mB rfl) ?_ | refine r_load rfl T.cell_L_api_Advert rfl (cell_row mB (rows_get0 (by omega) rfl)) ?_ | refine r_load rfl T.cell_L_api_Advert rfl (cell_row_f mB (rows_get (by omega) rfl)) ?_ | refine r_load rfl T.cell_L_api_Advert rfl (cell_rowg mB rfl) ?_
    refine hl_nil ?_
    exact qe_done rfl
   refine hb_ex _ rfl rfl rfl (fun w1 => r_move rfl rfl (hl_nil (qe_done rfl))) ?_
   refine hb_ex _ rfl rfl rfl (fun w1 => r_move rfl rfl (hl_nil (qe_done rfl))) ?_
   refine hb_ex _ rfl rfl rfl (fun w1 => r_elem (α := Int) w i rfl T.u_ints T.sz_int rfl rfl rfl mB rfl (by omega) (by decide) (hl_nil (qe_done rfl))) ?_
   refine hb_ex _ rfl rfl rfl (fun w1 => r_load (v := int ((p : Int))) rfl T.cell_int rfl (cell_row mB (by rw [← hpe]; exact rows_get0 (show i < w.length by omega) rfl)) (hl_nil (qe_done rfl))) ?_
   apply hb_ex _ rfl rfl rfl
   ·intro w1
    first | refine r_loadA rfl T.row_api_Advert T.sz_api_Advert rfl mB (by rfl) ?_ | refine r_loadB rfl T.row_api_Advert T.sz_api_Advert rfl mB (by rfl) ?_ | refine r_loadS rfl T.row_api_Advert T.sz_api_Advert rfl rfl (cells_row mB (rows_all (by omega))) ?_
    refine hl_nil ?_
    exact qe_done rfl
   refine hb_nil ⟨rfl, ?_⟩
   refine r_indexAddr_own p (0 + p * 3) rfl T.u_L_api_Advert T.sz_api_Advert rfl rfl rfl hp2 rfl ?_
   refine r_storeR (cs := #[int (mvA o (qs.l.getD i default)).1, int (qs.l.getD i default).2.1, int (qs.l.getD i default).2.2]) rfl rfl (show List.Perm ((gy, Obj.cells #[int (mvA o (qs.l.getD i default)).1, int (qs.l.getD i default).2.1, int (qs.l.getD i default).2.2] T.api_Advert (0, 0)) :: (gx, Obj.cells (saC c ⟨some ⟨g7, 0, none⟩, pc, ps.l⟩ ⟨some ⟨g9, 0, none⟩, rc, qs.l⟩) T.api_Sales (0, 0)) :: [(g9, Obj.cells cur9 T.api_Advert (0, 0))]) ((g9, Obj.cells cur9 T.api_Advert (0, 0)) :: (gy, Obj.cells #[int (mvA o (qs.l.getD i default)).1, int (qs.l.getD i default).2.1, int (qs.l.getD i default).2.2] T.api_Advert (0, 0)) :: [(gx, Obj.cells (saC c ⟨some ⟨g7, 0, none⟩, pc, ps.l⟩ ⟨some ⟨g9, 0, none⟩, rc, qs.l⟩) T.api_Sales (0, 0))]) from (perm_of fun p => by simp only [List.countP_append, List.countP_cons, List.countP_nil]; omega)) T.sz_api_Advert (by show 0 + p * 3 + 3 ≤ cur9.size; omega) (by rfl) ?_
   refine hl_nil (inb_n (then_n (hc_region (r_move rfl rfl ?_))))
   refine r_add _ rfl rfl rfl rfl (by unfold I64; omega) ?_
   refine r_assign rfl rfl (hl_nil ?_)
   have hs3 := take_setR (α := Ad) (a := (mvA o (qs.l.getD i default))) (k := p) (cap := rc) (l := q2) (cur := cur9) hp3 (by omega) hcs9 hct9
   refine hq_perm (rot3 _ _ _) ?_
   exact again _ (i + 1, q2.set p (mvA o (qs.l.getD i default)), [(g9, Obj.cells (cur9.toList.take (0 + p * 3) ++ [int (mvA o (qs.l.getD i default)).1, int (qs.l.getD i default).2.1, int (qs.l.getD i default).2.2] ++ cur9.toList.drop (0 + p * 3 + 3)).toArray T.api_Advert (0, 0))]) ⟨by show i + 1 ≤ qs.l.length; omega, fill_next hw hF hi2 hpe, by
     show GrowE _ _ _ (q2.set p _).length _ (rows (q2.set p _)) _
     rw [Nat.zero_add]
     exact .inl ⟨by rw [rows_len]; rfl, .inr ⟨g9, _, rfl, rfl, by rw [List.length_set]; omega, hcm9, by rw [List.size_toArray]; exact hs3.2, hs3.1⟩⟩⟩ (by show qs.l.length - (i + 1) < qs.l.length - i; omega) ⟨rfl, rfl, rfl, rfl, rfl, trivial⟩ (.cons_cons _ (.cons_cons _ (List.nil_sublist _))) ⟨mB, mB, mB, mB, mB, mB, trivial⟩
  ·have hb2' := hb2; try simp at hb2'
   obtain rfl : i = qs.l.length := by omega
   refine hc_exit (then_exit (then_exit (inb_hit (then_n (hc_seq ?_)))))
   have hM : Moved c ps.l qs.l o w l2 q2 := ⟨h0, ho, hw, hFs, hF⟩
   have h0m := hM.chk
   refine hc_letgoB ?_
   refine hc_perm (hp' := og ++ []) (by rw [List.append_nil]) ?_
   refine hc_grownE hG ?_
   have hl3 : l2.length ≤ 1000000 := by omega
   have hq3 : q2.length ≤ 1000000 := by omega
   refine hc_region ?_
   first | refine r_loadA rfl T.row_api_Sales T.sz_api_Sales rfl mB (by rfl) ?_ | refine r_loadB rfl T.row_api_Sales T.sz_api_Sales rfl mB (by rfl) ?_ | refine r_loadS rfl T.row_api_Sales T.sz_api_Sales rfl rfl (cells_row mB (rows_all (by omega))) ?_
   refine hl_call F.bold_Bills_cb rfl rfl (bills_is c ps qs h0 hpl (by omega)) (List.Perm.refl _) ⟨mB, mB, trivial⟩ fun x2 hx2 => ?_
   obtain ⟨bx2, cx2⟩ := x2
   refine r_move rfl rfl (r_extract rfl rfl rfl (r_extract rfl rfl rfl (r_assign rfl rfl (r_assign rfl rfl (hl_nil (then_n (hc_seq (hc_region ?_))))))))
   first | refine r_loadA rfl T.row_api_Sales T.sz_api_Sales rfl mB (by rfl) ?_ | refine r_loadB rfl T.row_api_Sales T.sz_api_Sales rfl mB (by rfl) ?_ | refine r_loadS rfl T.row_api_Sales T.sz_api_Sales rfl rfl (cells_row mB (rows_all (by omega))) ?_
   refine hl_call F.bold_Bills_cb rfl rfl (dup_bills c ps.l.length qs.l.length ⟨some ⟨g7, 0, none⟩, pc, l2⟩ ⟨ra, rc, q2⟩ h0m hl3 hq3 hl2 hq2) (List.Perm.refl _) ⟨mB, mB, trivial⟩ fun x3 hx3 => ?_
   obtain ⟨bx3, cx3⟩ := x3
   refine r_move rfl rfl (r_extract rfl rfl rfl (r_extract rfl rfl rfl (r_assign rfl rfl (r_assign rfl rfl (hl_nil (then_n (hc_seq (hc_region ?_))))))))
   first | refine r_loadA rfl T.row_api_Sales T.sz_api_Sales rfl mB (by rfl) ?_ | refine r_loadB rfl T.row_api_Sales T.sz_api_Sales rfl mB (by rfl) ?_ | refine r_loadS rfl T.row_api_Sales T.sz_api_Sales rfl rfl (cells_row mB (rows_all (by omega))) ?_
   refine hl_call F.bold_Streets_cb rfl rfl (streets_is c ps qs h0 hpl hql) (List.Perm.refl _) ⟨mB, mB, trivial⟩ fun x4 hx4 => ?_
   obtain ⟨bx4, cx4⟩ := x4
   refine r_move rfl rfl (r_extract rfl rfl rfl (r_extract rfl rfl rfl (r_assign rfl rfl (r_assign rfl rfl (hl_nil (then_n (hc_seq (hc_region ?_))))))))
   first | refine r_loadA rfl T.row_api_Sales T.sz_api_Sales rfl mB (by rfl) ?_ | refine r_loadB rfl T.row_api_Sales T.sz_api_Sales rfl mB (by rfl) ?_ | refine r_loadS rfl T.row_api_Sales T.sz_api_Sales rfl rfl (cells_row mB (rows_all (by omega))) ?_
   refine hl_call F.bold_Streets_cb rfl rfl (dup_streets c ps.l.length qs.l.length ⟨some ⟨g7, 0, none⟩, pc, l2⟩ ⟨ra, rc, q2⟩ h0m hl3 hq3 hl2 hq2 hM.disc) (List.Perm.refl _) ⟨mB, mB, trivial⟩ fun x5 hx5 => ?_
   obtain ⟨bx5, cx5⟩ := x5
   refine r_move rfl rfl (r_extract rfl rfl rfl (r_extract rfl rfl rfl (r_assign rfl rfl (r_assign rfl rfl (hl_nil (then_n (hc_seq (hc_seq (hc_region (r_move rfl rfl (r_neq rfl rfl rfl ?_)))))))))))
   refine r_move rfl rfl ?_
   refine g_split rfl rfl ?_ ?_
   ·intro hg1; have hg1' := hg1; try simp at hg1'
    refine g_yes rfl rfl hg1 (r_move rfl rfl (g_yes rfl rfl hg1 (r_neq rfl rfl rfl ?_)))
    refine p_f rfl rfl (bf1 hg1) rfl ?_
    refine r_move rfl rfl ?_
    refine g_split rfl rfl ?_ ?_
    ·intro hg2; have hg2' := hg2; try simp at hg2'
     refine g_yes rfl rfl hg2 (r_move rfl rfl (g_yes rfl rfl hg2 (r_neq rfl rfl rfl ?_)))
     refine p_f rfl rfl (bf1 hg2) rfl ?_
     refine r_move rfl rfl ?_
     refine g_split rfl rfl ?_ ?_
     ·intro hg3; have hg3' := hg3; try simp at hg3'
      refine g_yes rfl rfl hg3 (r_move rfl rfl (g_yes rfl rfl hg3 (r_neq rfl rfl rfl ?_)))
      refine p_f rfl rfl (bf1 hg3) rfl ?_
      refine r_move rfl rfl ?_
      refine g_split rfl rfl ?_ ?_
      ·intro hg4; have hg4' := hg4; try simp at hg4'
       refine g_yes rfl rfl hg4 (r_move rfl rfl (g_yes rfl rfl hg4 ?_))
       refine r_len_sl rfl T.u_ints rfl ?_
       refine g_yes rfl rfl hg4 (r_move rfl rfl (g_yes rfl rfl hg4 ?_))
       refine r_len_sl rfl T.u_ints rfl ?_
       refine g_yes rfl rfl hg4 (r_neq rfl rfl rfl ?_)
       refine p_f rfl rfl (bf1 hg4) rfl ?_
       refine r_move rfl rfl ?_
       refine g_split rfl rfl ?_ ?_
       ·intro hg5; have hg5' := hg5; try simp at hg5'
        refine g_yes rfl rfl hg5 (r_move rfl rfl (g_yes rfl rfl hg5 ?_))
        refine r_len_sl rfl T.u_ints rfl ?_
        refine g_yes rfl rfl hg5 (r_move rfl rfl (g_yes rfl rfl hg5 ?_))
        refine r_len_sl rfl T.u_ints rfl ?_
        refine g_yes rfl rfl hg5 (r_neq rfl rfl rfl ?_)
        refine p_f rfl rfl (bf1 hg5) rfl ?_
        refine r_move rfl rfl ?_
        refine g_split rfl rfl ?_ ?_
        ·intro hg6; have hg6' := hg6; try simp at hg6'
         refine g_yes rfl rfl hg6 (r_move rfl rfl (g_yes rfl rfl hg6 (r_move rfl rfl (g_yes rfl rfl hg6 ?_))))
         refine hl_call F.kit_EqInts_cb rfl rfl (kit_EqInts_meets (discK c ps.l qs.l 10) (discK c ps.l qs.l 10) (by have := discK_len c ps.l qs.l 10; omega)) (List.Perm.refl _) ⟨mB, mB, trivial⟩ fun _ _ => ?_
         rw [decide_eq_true rfl]
         refine g_yes rfl rfl hg6 (r_not rfl rfl ?_)
         refine p_f rfl rfl (bf1 hg6) rfl ?_
         refine hl_nil (then_n ?_)
         first | refine c_dec rfl (fun hb3 => ?_) (fun hb3 => ?_) | refine hc_cond rfl (fun hb3 => ?_) (fun hb3 => ?_)
         ·all_goals (first | exact absurd rfl hb3 | cases hb3)
         ·have hb3' := hb3; try simp at hb3'
          refine hc_skip (then_n (hc_seq (hc_seq (hc_region (r_assign rfl rfl (hl_nil (then_n (hc_block ?_))))))))
          refine hc_loop (β := Nat) ⟨fun i => i ≤ ps.l.length, fun i => [(6, .slice oA o.length oC), (11, .slice bx2 ps.l.length cx2), (13, .slice bx3 ps.l.length cx3), (19, int i)], fun _ => [], fun _ => [Row bx3 (rows (numsN 103 c l2 q2)), Row bx2 (rows (numsN 103 c ps.l qs.l)), Row oA (rows o)]⟩ (fun i => ps.l.length - i) 0 (Nat.zero_le _) ⟨rfl, rfl, rfl, rfl, trivial⟩ (List.nil_sublist _) ⟨mB, mB, mB, trivial⟩ fun i hi => ?_
          simp only at hi
          refine hc_seq (hc_seq (hc_region (r_move rfl rfl (r_move rfl rfl ?_))))
          refine r_len_sl rfl T.u_ints rfl ?_
          refine r_lss rfl rfl rfl (hl_nil (then_n ?_))
          first | refine c_dec rfl (fun hb4 => ?_) (fun hb4 => ?_) | refine hc_cond rfl (fun hb4 => ?_) (fun hb4 => ?_)
          ·have hb4' := hb4; try simp at hb4'
           have hi2 : i < ps.l.length := by omega
           obtain ⟨p, hpe⟩ := Int.eq_ofNat_of_zero_le (rng_at ho hi2).1
           have hp2 : p < ps.l.length := by have := rng_at ho hi2; omega
           have hba := bill_at c ps.l qs.l hi2
           have hbb : (numsN 103 c l2 q2).getD p default = bilN c ps.l qs.l i := by rw [bill_at c l2 q2 (by omega)]; exact hM.bil hi2 hpe
           refine hc_skip (then_n (hc_seq (hc_block (hc_seq ?_))))
           refine hc_draw 11 mixed (by decide) (by decide) rfl rfl ?_
           refine hb_ex _ rfl rfl rfl (fun w1 => r_move rfl rfl (hl_nil (qe_done rfl))) ?_
           refine hb_ex _ rfl rfl rfl (fun w1 => r_move rfl rfl (hl_nil (qe_done rfl))) ?_
           refine hb_ex _ rfl rfl rfl (fun w1 => r_elem (α := Int) (numsN 103 c ps.l qs.l) i rfl T.u_ints T.sz_int rfl rfl rfl mB (by rw [nums_len]) (by rw [nums_len]; exact hi2) (by decide) (hl_nil (qe_done rfl))) ?_
           refine hb_ex _ rfl rfl rfl (fun w1 => r_load (v := int (bilN c ps.l qs.l i)) rfl T.cell_int rfl (cell_row mB (by rw [← hba]; exact rows_get0 (by rw [nums_len]; exact hi2) rfl)) (hl_nil (qe_done rfl))) ?_
           refine hb_ex _ rfl rfl rfl (fun w1 => r_move rfl rfl (hl_nil (qe_done rfl))) ?_
           refine hb_ex _ rfl rfl rfl (fun w1 => r_move rfl rfl (hl_nil (qe_done rfl))) ?_
           refine hb_ex _ rfl rfl rfl (fun w1 => r_move rfl rfl (hl_nil (qe_done rfl))) ?_
           refine hb_ex _ rfl rfl rfl (fun w1 => r_elem (α := Int) o i rfl T.u_ints T.sz_int rfl rfl rfl mB rfl (by omega) (by decide) (hl_nil (qe_done rfl))) ?_
           refine hb_ex _ rfl rfl rfl (fun w1 => r_load (v := int ((p : Int))) rfl T.cell_int rfl (cell_row mB (by rw [← hpe]; exact rows_get0 (show i < o.length by omega) rfl)) (hl_nil (qe_done rfl))) ?_
           refine hb_ex _ rfl rfl rfl (fun w1 => r_elem (α := Int) (numsN 103 c l2 q2) p rfl T.u_ints T.sz_int rfl rfl rfl mB (by rw [nums_len, hl2]) (by rw [nums_len]; omega) (by decide) (hl_nil (qe_done rfl))) ?_
           refine hb_ex _ rfl rfl rfl (fun w1 => r_load (v := int (bilN c ps.l qs.l i)) rfl T.cell_int rfl (cell_row mB (by rw [← hbb]; exact rows_get0 (by rw [nums_len]; omega) rfl)) (hl_nil (qe_done rfl))) ?_
           refine hb_nil ⟨rfl, ?_⟩
           refine r_neq rfl rfl rfl (hl_nil (then_n ?_))
           first | refine c_dec rfl (fun hb5 => ?_) (fun hb5 => ?_) | refine hc_cond rfl (fun hb5 => ?_) (fun hb5 => ?_)
           ·exact absurd rfl hb5
           ·have hb5' := hb5; try simp at hb5'
            refine hc_skip (inb_n (then_n (hc_region (r_move rfl rfl ?_))))
            refine r_add _ rfl rfl rfl rfl (by unfold I64; omega) ?_
            refine r_assign rfl rfl (hl_nil ?_)
            exact again _ (i + 1) (by show i + 1 ≤ ps.l.length; omega) (by show ps.l.length - (i + 1) < ps.l.length - i; omega) ⟨rfl, rfl, rfl, rfl, trivial⟩ (.refl _) ⟨mB, mB, mB, trivial⟩
          ·have hb4' := hb4; try simp at hb4'
           refine hc_exit (then_exit (then_exit (inb_hit (then_n (hc_seq (hc_region ?_))))))
           refine hl_call F.law09_paying_cb rfl rfl (law09_paying_meets) (List.Perm.refl _) trivial fun _ _ => ?_
           refine r_assign rfl rfl (hl_nil (then_n (hc_ret ?_)))
           exact ret1 () rfl rfl rfl trivial (List.nil_sublist _) trivial
        ·intro hg6; have hg6' := hg6; try simp at hg6'
         all_goals omega
       ·intro hg5; have hg5' := hg5; try simp at hg5'
        all_goals omega
      ·intro hg4; have hg4' := hg4; try simp at hg4'
       all_goals omega
     ·intro hg3; have hg3' := hg3; try simp at hg3'
    ·intro hg2; have hg2' := hg2; try simp at hg2'
   ·intro hg1; have hg1' := hg1; try simp at hg1'
end Go.Proofs.Ytdlbbfcfahahdaa
end
