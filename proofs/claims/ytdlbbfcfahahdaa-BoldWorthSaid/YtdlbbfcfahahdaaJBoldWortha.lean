/- Texts of this claim, one behind another. -/

import Derived.Test.YtdlbbfcfahahdaaJAq
section
namespace Go.Proofs.Ytdlbbfcfahahdaa
open Go Go.W
set_option linter.unusedVariables false
set_option linter.unusedSimpArgs false
set_option maxRecDepth 20000
attribute [local irreducible] HL HC HQ HB Row Rows2 Blk Facts
theorem kit_Sum_n {A : Option Addr} {c n : Nat} (l : List Int) (h : ∀ v ∈ l, 0 ≤ v ∧ v ≤ 1000000000) (hn : l.length ≤ 1000000) (e : l.length = n) : Meets Try.prog F.kit_Sum [.slice A n c] { LI := [Row A (rows l)], val := fun _ : Unit => int l.sum } := by
  subst e; exact kit_Sum_meets l h hn
theorem worth_is (c : Ch) (ps : Sl Int) (qs : Sl Ad) (x : Ad) (h0 : chkS c ps.l qs.l = 0) (hx : adErr ps.l.length x = 0) (h8 : qs.l.length ≤ 7) (hn : ps.l.length ≤ 1000000) (hm : qs.l.length ≤ 1000000) (hc : qs.l.length ≤ qs.c) : Meets Try.prog F.bold_Worth [saV c ps qs, adV x] { LI := saL ps qs, val := fun _ : Unit => .tuple #[int ((numsN 103 c ps.l (qs.l ++ [x])).sum - (numsN 103 c ps.l qs.l).sum), int 0] } := by
  have h := bold_Worth_meets c ps qs x hn hm hc
  rw [show worthE c ps.l qs.l x = (allN c ps.l (qs.l ++ [x]) - allN c ps.l qs.l, 0) by unfold worthE; rw [if_neg (fun e => e h0), if_neg (fun e => e hx), if_neg (by omega)]] at h
  exact h
theorem sum_all {l : List Int} (h : ∀ v ∈ l, 0 ≤ v ∧ v ≤ 1000000000) : 0 ≤ l.sum ∧ l.sum ≤ 1000000000 * (l.length : Int) := by
  have := sum_bd h l.length
  rw [List.take_length] at this
  exact this
theorem sumN_snoc (c : Ch) (xs : List Ad) (x : Ad) (i : Nat) : sumN c (xs ++ [x]) i = sumN c xs i + if x.1 = (i : Int) then priceN c x else 0 := by
  unfold sumN sumK
  rw [List.take_length, List.take_length, List.filter_append, List.map_append, List.sum_append]
  by_cases e : x.1 = (i : Int)
  · simp [e]
  · simp [e]
theorem filter_le {α : Type} {p q : α → Bool} (h : ∀ x, p x = true → q x = true) : ∀ l : List α, (l.filter p).length ≤ (l.filter q).length
  | [] => Nat.le_refl _
  | x :: l => by
    have ih := filter_le h l
    rw [List.filter_cons, List.filter_cons]
    by_cases e : p x = true
    · rw [if_pos e, if_pos (h x e)]; simp only [List.length_cons]; omega
    · rw [if_neg e]
      split
      · simp only [List.length_cons]; omega
      · exact ih
theorem offB_more {c : Ch} {ss : List Int} {xs ys : List Ad} (s : Int) (h : offB c ss xs s = true) : offB c ss (xs ++ ys) s = true := by
  unfold offB at *
  have h1 := of_decide_eq_true h
  refine decide_eq_true ?_
  have h2 : offCnt ss xs s ≤ offCnt ss (xs ++ ys) s := filter_le (fun i hi => by
    unfold hereB at *
    rw [Bool.and_eq_true] at *
    exact ⟨by rw [List.any_append, hi.1, Bool.true_or], hi.2⟩) _
  omega
theorem bil_more {c : Ch} {ss : List Int} {xs : List Ad} {x : Ad} (h : SaOK c ss (xs ++ [x])) {i : Nat} (hi : ¬ (i : Int) = x.1) : bilN c ss (xs ++ [x]) i ≤ bilN c ss xs i := by
  have hs : sumN c (xs ++ [x]) i = sumN c xs i := by rw [sumN_snoc, if_neg (fun e => hi e.symm), Int.add_zero]
  have hb := bil_bd h i
  by_cases e : offB c ss xs (ss.getD i default) = true
  · unfold bilN; rw [if_pos e, if_pos (offB_more _ e), hs]; exact Int.le_refl _
  · rw [show bilN c ss xs i = sumN c xs i from if_neg e, ← hs]; exact hb.2.1
theorem bil_less {c : Ch} {ss : List Int} {xs : List Ad} (h : SaOK c ss xs) {o g : Int} (ho : c.2.2.2.2.1 ≤ o ∧ o ≤ 50) (hg : g ≤ c.2.2.2.2.2) (i : Nat) : bilN (c.1, c.2.1, c.2.2.1, c.2.2.2.1, o, g) ss xs i ≤ bilN c ss xs i := by
  have h1 := (sumK_bd h i xs.length (Nat.le_refl _)).1
  have hs : sumN c xs i = sumK c xs xs.length i := rfl
  rw [← hs] at h1
  have hb := bil_bd h i
  have hs2 : sumN (c.1, c.2.1, c.2.2.1, c.2.2.2.1, o, g) xs i = sumN c xs i := rfl
  have h2 := h.ch.2.2.2.2.1
  have m1 : 0 ≤ sumN c xs i * (100 - o) := Int.mul_nonneg h1 (by omega)
  have m2 : sumN c xs i * (100 - o) ≤ sumN c xs i * (100 - c.2.2.2.2.1) := Int.mul_le_mul_of_nonneg_left (by omega) h1
  have m3 : sumN c xs i * (100 - o) ≤ sumN c xs i * 100 := Int.mul_le_mul_of_nonneg_left (by omega) h1
  by_cases e : offB c ss xs (ss.getD i default) = true
  · have e2 : offB (c.1, c.2.1, c.2.2.1, c.2.2.2.1, o, g) ss xs (ss.getD i default) = true := by
      have h3 := of_decide_eq_true e
      exact decide_eq_true (show g ≤ _ by omega)
    unfold bilN
    rw [if_pos e, if_pos e2, hs2]
    show offN o _ ≤ _
    unfold offN
    rw [Int.tdiv_eq_ediv_of_nonneg (by omega), Int.tdiv_eq_ediv_of_nonneg (by omega)]
    omega
  · rw [show bilN c ss xs i = sumN c xs i from if_neg e]
    unfold bilN
    split
    · rw [hs2]
      show offN o _ ≤ _
      unfold offN
      rw [Int.tdiv_eq_ediv_of_nonneg (by omega)]
      omega
    · rw [hs2]; exact Int.le_refl _
theorem chk_charges {c c' : Ch} {ss : List Int} {xs : List Ad} (h : chkS c ss xs = 0) (hc : ChOK c') (ha : ∀ x ∈ xs, adErr ss.length x = 0) : chkS c' ss xs = 0 := by
  have hs := sa_ok h
  exact chk_mk hc ⟨hs.n1, hs.n5⟩ hs.st hs.x8 ha
theorem chk_ads {c : Ch} {ss : List Int} {xs : List Ad} (h : chkS c ss xs = 0) : ∀ x ∈ xs, adErr ss.length x = 0 := by
  refine firstE_zero ?_
  unfold chkS at h
  repeat' split at h
  all_goals first | exact h | cases h
theorem chk_snoc {c : Ch} {ss : List Int} {xs : List Ad} {x : Ad} (h : chkS c ss xs = 0) (hx : adErr ss.length x = 0) (hl : xs.length ≤ 7) : chkS c ss (xs ++ [x]) = 0 := by
  have hs := sa_ok h
  exact chk_mk hs.ch ⟨hs.n1, hs.n5⟩ hs.st (by rw [List.length_append, List.length_singleton]; omega) (forall_snoc (chk_ads h) hx)
set_option maxHeartbeats 1000000 in
theorem law09_BoldWorth_meets {A : Option Addr} {cn : Nat} (nums : List Int) (hn : nums.length ≤ 9223372036854775807) : Meets Try.prog F.law09_BoldWorth [.slice A nums.length cn] { LI := [Row A (rows nums)], val := fun _ : Unit => .bool true } := by
 refine meets_intro F.law09_BoldWorth_f rfl (Nat.le_of_ble_eq_true rfl) fun w0 => ?_
 refine hc_seq (hc_region (r_assign rfl rfl (hl_nil (then_n (hc_seq (hc_region (r_move rfl rfl ?_)))))))
 refine hl_call F.kit_NewDice_cb rfl rfl (kit_NewDice_meets nums) (List.Perm.refl _) ⟨mB, trivial⟩ fun g _ => ?_
 refine r_assign rfl rfl (hl_nil (then_n (hc_seq (hc_region (r_move rfl rfl ?_)))))
 refine hl_call F.kit_SalesOf_cb rfl rfl (kit_SalesOf_meets 7 hn (dok0 nums) (by decide)) (List.Perm.refl _) ⟨mB, trivial⟩ fun xs1 hs1 => ?_
 obtain ⟨s1, sz⟩ := xs1
 obtain ⟨hs1, hsz⟩ := hs1
 simp only at hs1
 obtain ⟨c, ps, qs⟩ := sz
 have h0 : chkS c ps.l qs.l = 0 := hsz.ok
 have hqm : qs.l.length ≤ 7 := hsz.x8
 have hpc : ps.l.length ≤ ps.c := hsz.ca
 have hqc : qs.l.length ≤ qs.c := hsz.cb
 have hsa := sa_ok h0
 have hn1 := hsa.n1
 have hn5 := hsa.n5
 have hqx := hsa.x8
 have hpl : ps.l.length ≤ 1000000 := by omega
 have hql : qs.l.length ≤ 1000000 := by omega
 clear hsz
 refine r_alloc rfl (fun _ => T.al_api_Sales _) fun gS => ?_
 refine r_storeS (cs := saC c ps qs) rfl rfl (.refl _) T.sz_api_Sales (by rfl) (by rfl) ?_
 refine hl_nil (then_n (hc_seq (hc_letgoB (hc_region (r_move rfl rfl ?_)))))
 first | refine r_fieldAddr ⟨_, 6, none⟩ rfl rfl T.fa_api_Sales_1 rfl ?_ | refine r_fieldAddr _ rfl rfl T.fa_api_Sales_1 rfl ?_
 first | refine r_load rfl T.cell_ints rfl (cell_own mB rfl) ?_ | refine r_load rfl T.cell_ints rfl (cell_blk mB rfl) ?_ | refine r_load rfl T.cell_ints rfl (cell_row mB (rows_get0 (by omega) rfl)) ?_ | refine r_load rfl T.cell_ints rfl (cell_row_f mB (rows_get (by omega) rfl)) ?_ | refine r_load rfl T.cell_ints rfl (cell_rowg mB rfl) ?_
 refine r_len_sl rfl T.u_ints rfl ?_
 refine hl_call F.kit_AdvertOf_cb rfl rfl (kit_AdvertOf_meets ps.l.length hn hs1 ⟨by omega, by omega⟩) (List.Perm.refl _) ⟨mB, trivial⟩ fun xs2 hs2 => ?_
 obtain ⟨s2, x⟩ := xs2
 obtain ⟨hs2, hx⟩ := hs2
 simp only at hs2
 refine r_alloc rfl (fun _ => T.al_api_Advert _) fun gx => ?_
 refine r_storeS (cs := #[int x.1, int x.2.1, int x.2.2]) rfl rfl (.refl _) T.sz_api_Advert (by rfl) (by rfl) ?_
 refine hl_nil (then_n (hc_seq (hc_letgoB ?_)))
 refine hc_drawW ([]) (_) (.refl _) 7 [] mixed (by decide) (by decide) (by decide) rfl rfl rfl ?_
 apply hb_ex _ rfl rfl rfl
 ·intro w1
  first | refine r_loadA rfl T.row_api_Sales T.sz_api_Sales rfl mB (by rfl) ?_ | refine r_loadB rfl T.row_api_Sales T.sz_api_Sales rfl mB (by rfl) ?_ | refine r_loadS rfl T.row_api_Sales T.sz_api_Sales rfl rfl (cells_row mB (rows_all (by omega))) ?_
  refine hl_nil ?_
  exact qe_done rfl
 apply hb_ex _ rfl rfl rfl
 ·intro w1
  first | refine r_loadA rfl T.row_api_Advert T.sz_api_Advert rfl mB (by rfl) ?_ | refine r_loadB rfl T.row_api_Advert T.sz_api_Advert rfl mB (by rfl) ?_ | refine r_loadS rfl T.row_api_Advert T.sz_api_Advert rfl rfl (cells_row mB (rows_all (by omega))) ?_
  refine hl_nil ?_
  exact qe_done rfl
 refine hb_vs ⟨Sl Ad, fun q => q.l = qs.l ++ [x] ∧ q.l.length ≤ q.c, fun q => saV c ps q, fun q => [Row q.a (rows q.l)]⟩ rfl rfl rfl ?_ ?_
 ·intro w1
  refine hl_call F.ref09_With_cb rfl rfl (ref09_With_meets c ps qs x hpl hql) (List.Perm.refl _) ⟨mB, mB, trivial⟩ fun q hq => ?_
  refine hl_nil ?_
  exact qv_done q hq rfl ⟨mB, trivial⟩
 apply hb_ex _ rfl rfl rfl
 ·intro w1
  first | refine r_loadA rfl T.row_api_Sales T.sz_api_Sales rfl mB (by rfl) ?_ | refine r_loadB rfl T.row_api_Sales T.sz_api_Sales rfl mB (by rfl) ?_ | refine r_loadS rfl T.row_api_Sales T.sz_api_Sales rfl rfl (cells_row mB (rows_all (by omega))) ?_
  refine hl_nil ?_
  exact qe_done rfl
 refine hb_vs ⟨OutC × OutC, fun y => ps.l.length ≤ y.1.2 ∧ qs.l.length ≤ y.2.2, fun y => saV c ⟨y.1.1, y.1.2, ps.l⟩ ⟨y.2.1, y.2.2, qs.l⟩, fun y => [Row y.1.1 (rows ps.l), Row y.2.1 (rows qs.l)]⟩ rfl rfl rfl ?_ ?_
 ·intro w1
  refine hl_call F.kit_DupSales_cb rfl rfl (kit_DupSales_meets c ps qs hpl hql) (List.Perm.refl _) ⟨mB, mB, trivial⟩ fun y hy => ?_
  obtain ⟨⟨⟨pa, pc⟩, po⟩, ⟨⟨ra, rc⟩, ro⟩⟩ := y
  obtain ⟨hya, hyb⟩ := hy
  refine hl_nil ?_
  refine hq_perm (hp' := po ++ (ro ++ [])) (show List.Perm ((po ++ ro) ++ []) (po ++ (ro ++ [])) from by rw [List.append_assoc]) ?_
  refine hq_grown hya (hq_grownE hyb ?_)
  exact qv_done ((pa, pc), (ra, rc)) ⟨hya.le, hyb.le⟩ rfl ⟨mB, mB, trivial⟩
 refine hb_ad ⟨Nat, fun _ => True, fun g => .pointer (some ⟨g, 0, none⟩), fun _ => [], fun g => [saB g (0, 0, 0, 0, 0, 0) none 0 0 none 0 0]⟩ rfl rfl rfl ?_ ?_
 ·intro w1
  refine r_alloc rfl (fun _ => T.al_api_Sales _) fun ga => ?_
  refine hl_nil ?_
  exact qw_done ga trivial (fun _ => rfl) (List.Sublist.refl _) trivial
 refine hb_ad ⟨Nat, fun _ => True, fun g => .pointer (some ⟨g, 0, none⟩), fun _ => [], fun g => [saB g (0, 0, 0, 0, 0, 0) none 0 0 none 0 0]⟩ rfl rfl rfl ?_ ?_
 ·intro w1
  refine r_alloc rfl (fun _ => T.al_api_Sales _) fun ga => ?_
  refine hl_nil ?_
  exact qw_done ga trivial (fun _ => rfl) (List.Sublist.refl _) trivial
 refine hb_nil ⟨rfl, ?_⟩
 intro q hq y hy g6 _ g7 _
 obtain ⟨qa, qc, ql⟩ := q
 obtain ⟨hq1, hq2⟩ := hq
 obtain rfl : ql = qs.l ++ [x] := hq1
 obtain ⟨⟨pa, pc⟩, ⟨ra, rc⟩⟩ := y
 obtain ⟨hy1, hy2⟩ := hy
 simp only at hq2 hy1 hy2
 refine r_storeS (cs := saC c ps (⟨qa, qc, qs.l ++ [x]⟩ : Sl Ad)) (hp' := [saB g7 (0, 0, 0, 0, 0, 0) none 0 0 none 0 0, dice g A cn nums s2]) rfl rfl (.swap _ _ _) T.sz_api_Sales (by rfl) (by rfl) ?_
 refine r_storeS (cs := saC c ⟨pa, pc, ps.l⟩ ⟨ra, rc, qs.l⟩) (hp' := [(g6, Obj.cells (saC c ps ⟨qa, qc, qs.l ++ [x]⟩) T.api_Sales (0, 0)), dice g A cn nums s2]) rfl rfl (.swap _ _ _) T.sz_api_Sales (by rfl) (by rfl) ?_
 refine hl_nil (then_n (hc_seq ?_))
 refine hc_drawW ([dice g A cn nums s2]) ([(g7, Obj.cells (saC c ⟨pa, pc, ps.l⟩ ⟨ra, rc, qs.l⟩) T.api_Sales (0, 0)), (g6, Obj.cells (saC c ps ⟨qa, qc, qs.l ++ [x]⟩) T.api_Sales (0, 0))]) (show List.Perm ([(g7, Obj.cells (saC c ⟨pa, pc, ps.l⟩ ⟨ra, rc, qs.l⟩) T.api_Sales (0, 0)), (g6, Obj.cells (saC c ps ⟨qa, qc, qs.l ++ [x]⟩) T.api_Sales (0, 0)), dice g A cn nums s2]) ([dice g A cn nums s2, (g7, Obj.cells (saC c ⟨pa, pc, ps.l⟩ ⟨ra, rc, qs.l⟩) T.api_Sales (0, 0)), (g6, Obj.cells (saC c ps ⟨qa, qc, qs.l ++ [x]⟩) T.api_Sales (0, 0))]) from (perm_of fun p => by simp only [List.countP_append, List.countP_cons, List.countP_nil]; omega)) 12 [9, 4] mixed (by decide) (by decide) (by decide) rfl rfl rfl ?_
 refine hb_ex _ rfl rfl rfl (fun w1 => r_move rfl rfl (hl_nil (qe_done rfl))) ?_
 apply hb_ex _ rfl rfl rfl
 ·intro w1
  first | refine r_fieldAddr ⟨_, 0, none⟩ rfl rfl T.fa_api_Sales_0 rfl ?_ | refine r_fieldAddr _ rfl rfl T.fa_api_Sales_0 rfl ?_
  refine hl_nil ?_
  exact qe_done rfl
 apply hb_ex _ rfl rfl rfl
 ·intro w1
  first | refine r_fieldAddr ⟨_, 4, none⟩ rfl rfl T.fa_api_Charges_4 rfl ?_ | refine r_fieldAddr _ rfl rfl T.fa_api_Charges_4 rfl ?_
  refine hl_nil ?_
  exact qe_done rfl
 apply hb_ex _ rfl rfl rfl
 ·intro w1
  first | refine r_load rfl T.cell_int rfl (cell_blk mB rfl) ?_ | refine r_load rfl T.cell_int rfl (cell_own mB rfl) ?_ | refine r_load rfl T.cell_int rfl (cell_row mB (rows_get0 (by omega) rfl)) ?_ | refine r_load rfl T.cell_int rfl (cell_row_f mB (rows_get (by omega) rfl)) ?_ | refine r_load rfl T.cell_int rfl (cell_rowg mB rfl) ?_
  refine hl_nil ?_
  exact qe_done rfl
 refine hb_wr ⟨(Int × Int) × Int, fun x => DOK nums x.1 ∧ c.2.2.2.2.1 ≤ x.2 ∧ x.2 ≤ 50, fun x => int x.2, fun _ => [], fun x => [dice g A cn nums x.1]⟩ rfl rfl rfl ?_ ?_
 ·intro w1
  refine hl_call F.kit_Dice_From_cb rfl rfl (kit_Dice_From_meets (c.2.2.2.2.1) (50) hn hs2 (by have := hsa.ch.2.2.2.2.1; omega)) (List.Perm.refl _) ⟨mB, trivial⟩ fun xs3 hs3 => ?_
  obtain ⟨s3, z⟩ := xs3
  obtain ⟨hs3, hz⟩ := hs3
  simp only at hs3
  have hz : c.2.2.2.2.1 ≤ z ∧ z ≤ 50 := from_bd hz (by have := hsa.ch.2.2.2.2.1; omega)
  refine hl_nil ?_
  exact qw_done (s3, z) ⟨hs3, hz⟩ (fun _ => rfl) (List.Sublist.refl _) trivial
 refine hb_ex _ rfl rfl rfl (fun w1 => r_move rfl rfl (hl_nil (qe_done rfl))) ?_
 apply hb_ex _ rfl rfl rfl
 ·intro w1
  first | refine r_fieldAddr ⟨_, 0, none⟩ rfl rfl T.fa_api_Sales_0 rfl ?_ | refine r_fieldAddr _ rfl rfl T.fa_api_Sales_0 rfl ?_
  refine hl_nil ?_
  exact qe_done rfl
 apply hb_ex _ rfl rfl rfl
 ·intro w1
  first | refine r_fieldAddr ⟨_, 5, none⟩ rfl rfl T.fa_api_Charges_5 rfl ?_ | refine r_fieldAddr _ rfl rfl T.fa_api_Charges_5 rfl ?_
  refine hl_nil ?_
  exact qe_done rfl
 apply hb_ex _ rfl rfl rfl
 ·intro w1
  first | refine r_load rfl T.cell_int rfl (cell_blk mB rfl) ?_ | refine r_load rfl T.cell_int rfl (cell_own mB rfl) ?_ | refine r_load rfl T.cell_int rfl (cell_row mB (rows_get0 (by omega) rfl)) ?_ | refine r_load rfl T.cell_int rfl (cell_row_f mB (rows_get (by omega) rfl)) ?_ | refine r_load rfl T.cell_int rfl (cell_rowg mB rfl) ?_
  refine hl_nil ?_
  exact qe_done rfl
 refine hb_wr ⟨(Int × Int) × Int, fun x => DOK nums x.1 ∧ 1 ≤ x.2 ∧ x.2 ≤ c.2.2.2.2.2, fun x => int x.2, fun _ => [], fun x => [dice g A cn nums x.1]⟩ rfl rfl rfl ?_ ?_
 ·intro y4 hy4; intro w1
  refine hl_call F.kit_Dice_From_cb rfl rfl (kit_Dice_From_meets (1) (c.2.2.2.2.2) hn hy4.1 (by have := hsa.ch.2.2.2.2.2; omega)) (List.Perm.refl _) ⟨mB, trivial⟩ fun xs3 hs3 => ?_
  obtain ⟨s3, z⟩ := xs3
  obtain ⟨hs3, hz⟩ := hs3
  simp only at hs3
  have hz : 1 ≤ z ∧ z ≤ c.2.2.2.2.2 := from_bd hz (by have := hsa.ch.2.2.2.2.2; omega)
  refine hl_nil ?_
  exact qw_done (s3, z) ⟨hs3, hz⟩ (fun _ => rfl) (List.Sublist.refl _) trivial
 apply hb_ex _ rfl rfl rfl
 ·intro w1
  first | refine r_fieldAddr ⟨_, 0, none⟩ rfl rfl T.fa_api_Sales_0 rfl ?_ | refine r_fieldAddr _ rfl rfl T.fa_api_Sales_0 rfl ?_
  refine hl_nil ?_
  exact qe_done rfl
 apply hb_ex _ rfl rfl rfl
 ·intro w1
  first | refine r_fieldAddr ⟨_, 4, none⟩ rfl rfl T.fa_api_Charges_4 rfl ?_ | refine r_fieldAddr _ rfl rfl T.fa_api_Charges_4 rfl ?_
  refine hl_nil ?_
  exact qe_done rfl
 refine hb_nil ⟨rfl, ?_⟩
 intro y4 hy4 y9 hy9
 obtain ⟨s4, o⟩ := y4
 obtain ⟨s9, gr⟩ := y9
 obtain ⟨_, ho⟩ := hy4
 obtain ⟨_, hg⟩ := hy9
 simp only at ho hg
 refine r_store rfl rfl (.swap _ _ _) T.sz_int (by rfl) (by rfl) ?_
 first | refine r_fieldAddr ⟨_, 0, none⟩ rfl rfl T.fa_api_Sales_0 rfl ?_ | refine r_fieldAddr _ rfl rfl T.fa_api_Sales_0 rfl ?_
 first | refine r_fieldAddr ⟨_, 5, none⟩ rfl rfl T.fa_api_Charges_5 rfl ?_ | refine r_fieldAddr _ rfl rfl T.fa_api_Charges_5 rfl ?_
 refine r_store rfl rfl (.refl _) T.sz_int (by rfl) (by rfl) ?_
 refine hl_nil (then_n (hc_seq (hc_letgoB (hc_letgoB (hc_letgoB ?_)))))
 have h0q : chkS c ps.l (qs.l ++ [x]) = 0 := chk_snoc h0 hx hqm
 have hcc := hsa.ch
 have h0c : chkS ((c.1, c.2.1, c.2.2.1, c.2.2.2.1, o, gr) : Ch) ps.l qs.l = 0 := chk_charges h0 ⟨hcc.1, hcc.2.1, hcc.2.2.1, hcc.2.2.2.1, by show 0 ≤ o ∧ o ≤ 50; have := hcc.2.2.2.2.1; omega, by show 1 ≤ gr ∧ gr ≤ 5; have := hcc.2.2.2.2.2; omega⟩ (chk_ads h0)
 have hsq := sa_ok h0q
 have hsc := sa_ok h0c
 have hql1 : (qs.l ++ [x]).length ≤ 1000000 := by rw [List.length_append, List.length_singleton]; omega
 refine hc_region ?_
 first | refine r_loadA rfl T.row_api_Sales T.sz_api_Sales rfl mB (by rfl) ?_ | refine r_loadB rfl T.row_api_Sales T.sz_api_Sales rfl mB (by rfl) ?_ | refine r_loadS rfl T.row_api_Sales T.sz_api_Sales rfl rfl (cells_row mB (rows_all (by omega))) ?_
 first | refine r_loadA rfl T.row_api_Advert T.sz_api_Advert rfl mB (by rfl) ?_ | refine r_loadB rfl T.row_api_Advert T.sz_api_Advert rfl mB (by rfl) ?_ | refine r_loadS rfl T.row_api_Advert T.sz_api_Advert rfl rfl (cells_row mB (rows_all (by omega))) ?_
 refine hl_call F.bold_Worth_cb rfl rfl (worth_is c ps qs x h0 hx hqm hpl hql hqc) (List.Perm.refl _) ⟨mB, mB, trivial⟩ fun _ _ => ?_
 refine r_move rfl rfl (r_extract rfl rfl rfl (r_extract rfl rfl rfl (r_assign rfl rfl (r_assign rfl rfl (hl_nil (then_n (hc_seq (hc_region ?_))))))))
 first | refine r_loadA rfl T.row_api_Sales T.sz_api_Sales rfl mB (by rfl) ?_ | refine r_loadB rfl T.row_api_Sales T.sz_api_Sales rfl mB (by rfl) ?_ | refine r_loadS rfl T.row_api_Sales T.sz_api_Sales rfl rfl (cells_row mB (rows_all (by omega))) ?_
 refine hl_call F.bold_Bills_cb rfl rfl (bills_is c ps qs h0 hpl (by omega)) (List.Perm.refl _) ⟨mB, mB, trivial⟩ fun x2 hx2 => ?_
 obtain ⟨bx2, cx2⟩ := x2
 refine r_move rfl rfl (r_extract rfl rfl rfl (r_extract rfl rfl rfl (r_assign rfl rfl (r_assign rfl rfl (hl_nil (then_n (hc_seq (hc_region ?_))))))))
 first | refine r_loadA rfl T.row_api_Sales T.sz_api_Sales rfl mB (by rfl) ?_ | refine r_loadB rfl T.row_api_Sales T.sz_api_Sales rfl mB (by rfl) ?_ | refine r_loadS rfl T.row_api_Sales T.sz_api_Sales rfl rfl (cells_row mB (rows_all (by omega))) ?_
 refine hl_call F.bold_Bills_cb rfl rfl (bills_is c ps (⟨qa, qc, qs.l ++ [x]⟩ : Sl Ad) h0q hpl hql1) (List.Perm.refl _) ⟨mB, mB, trivial⟩ fun x3 hx3 => ?_
 obtain ⟨bx3, cx3⟩ := x3
 refine r_move rfl rfl (r_extract rfl rfl rfl (r_extract rfl rfl rfl (r_assign rfl rfl (r_assign rfl rfl (hl_nil (then_n (hc_seq (hc_region ?_))))))))
 first | refine r_loadA rfl T.row_api_Sales T.sz_api_Sales rfl mB (by rfl) ?_ | refine r_loadB rfl T.row_api_Sales T.sz_api_Sales rfl mB (by rfl) ?_ | refine r_loadS rfl T.row_api_Sales T.sz_api_Sales rfl rfl (cells_row mB (rows_all (by omega))) ?_
 refine hl_call F.bold_Bills_cb rfl rfl (bills_is ((c.1, c.2.1, c.2.2.1, c.2.2.2.1, o, gr) : Ch) ⟨pa, pc, ps.l⟩ ⟨ra, rc, qs.l⟩ h0c hpl hql) (List.Perm.refl _) ⟨mB, mB, trivial⟩ fun x4 hx4 => ?_
 obtain ⟨bx4, cx4⟩ := x4
 refine r_move rfl rfl (r_extract rfl rfl rfl (r_extract rfl rfl rfl (r_assign rfl rfl (r_assign rfl rfl (hl_nil (then_n (hc_seq (hc_seq ?_))))))))
 have hSa := sum_all (nums_bd hsa)
 have hSb := sum_all (nums_bd hsq)
 rw [nums_len] at hSa hSb
 refine hc_region (r_move rfl rfl (r_neq rfl rfl rfl (r_move rfl rfl ?_)))
 refine g_split rfl rfl ?_ ?_
 ·intro hg1; have hg1' := hg1; try simp at hg1'
  refine g_yes rfl rfl hg1 (r_move rfl rfl (g_yes rfl rfl hg1 (r_neq rfl rfl rfl ?_)))
  refine p_f rfl rfl (bf1 hg1) rfl ?_
  refine r_move rfl rfl ?_
  refine g_split rfl rfl ?_ ?_
  ·intro hg2; have hg2' := hg2; try simp at hg2'
   refine g_yes rfl rfl hg2 (r_move rfl rfl (g_yes rfl rfl hg2 (r_neq rfl rfl rfl ?_)))
   refine p_f rfl rfl (bf1 hg2) rfl ?_
   refine r_move rfl rfl ?_
   refine g_split rfl rfl ?_ ?_
   ·intro hg3; have hg3' := hg3; try simp at hg3'
    refine g_yes rfl rfl hg3 (r_move rfl rfl (g_yes rfl rfl hg3 (r_neq rfl rfl rfl ?_)))
    refine p_f rfl rfl (bf1 hg3) rfl ?_
    refine r_move rfl rfl ?_
    refine g_split rfl rfl ?_ ?_
    ·intro hg4; have hg4' := hg4; try simp at hg4'
     refine g_yes rfl rfl hg4 (r_move rfl rfl (g_yes rfl rfl hg4 ?_))
     refine r_len_sl rfl T.u_ints rfl ?_
     refine g_yes rfl rfl hg4 ?_
     first | refine r_fieldAddr ⟨_, 6, none⟩ rfl rfl T.fa_api_Sales_1 rfl ?_ | refine r_fieldAddr _ rfl rfl T.fa_api_Sales_1 rfl ?_
     refine g_yes rfl rfl hg4 ?_
     first | refine r_load rfl T.cell_ints rfl (cell_own mB rfl) ?_ | refine r_load rfl T.cell_ints rfl (cell_blk mB rfl) ?_ | refine r_load rfl T.cell_ints rfl (cell_row mB (rows_get0 (by omega) rfl)) ?_ | refine r_load rfl T.cell_ints rfl (cell_row_f mB (rows_get (by omega) rfl)) ?_ | refine r_load rfl T.cell_ints rfl (cell_rowg mB rfl) ?_
     refine g_yes rfl rfl hg4 ?_
     refine r_len_sl rfl T.u_ints rfl ?_
     refine g_yes rfl rfl hg4 (r_neq rfl rfl rfl ?_)
     refine p_f rfl rfl (bf1 hg4) rfl ?_
     refine r_move rfl rfl ?_
     refine g_split rfl rfl ?_ ?_
     ·intro hg5; have hg5' := hg5; try simp at hg5'
      refine g_yes rfl rfl hg5 (r_move rfl rfl (g_yes rfl rfl hg5 ?_))
      refine r_len_sl rfl T.u_ints rfl ?_
      refine g_yes rfl rfl hg5 (r_move rfl rfl (g_yes rfl rfl hg5 ?_))
      refine r_len_sl rfl T.u_ints rfl ?_
      refine g_yes rfl rfl hg5 (r_neq rfl rfl rfl ?_)
      refine p_f rfl rfl (bf1 hg5) rfl ?_
      refine r_move rfl rfl ?_
      refine g_split rfl rfl ?_ ?_
      ·intro hg6; have hg6' := hg6; try simp at hg6'
       refine g_yes rfl rfl hg6 (r_move rfl rfl (g_yes rfl rfl hg6 ?_))
       refine r_len_sl rfl T.u_ints rfl ?_
       refine g_yes rfl rfl hg6 (r_move rfl rfl (g_yes rfl rfl hg6 ?_))
       refine r_len_sl rfl T.u_ints rfl ?_
       refine g_yes rfl rfl hg6 (r_neq rfl rfl rfl ?_)
       refine p_f rfl rfl (bf1 hg6) rfl ?_
       refine r_move rfl rfl ?_
       refine g_split rfl rfl ?_ ?_
       ·intro hg7; have hg7' := hg7; try simp at hg7'
        refine g_yes rfl rfl hg7 (r_move rfl rfl (g_yes rfl rfl hg7 (r_move rfl rfl (g_yes rfl rfl hg7 ?_))))
        refine hl_call F.kit_Sum_cb rfl rfl (kit_Sum_n (numsN 103 c ps.l (qs.l ++ [x])) (nums_bd hsq) (by rw [nums_len]; omega) (nums_len ..)) (List.Perm.refl _) ⟨mB, trivial⟩ fun _ _ => ?_
        refine g_yes rfl rfl hg7 (r_move rfl rfl (g_yes rfl rfl hg7 ?_))
        refine hl_call F.kit_Sum_cb rfl rfl (kit_Sum_n (numsN 103 c ps.l qs.l) (nums_bd hsa) (by rw [nums_len]; omega) (nums_len ..)) (List.Perm.refl _) ⟨mB, trivial⟩ fun _ _ => ?_
        refine g_yes rfl rfl hg7 ?_
        refine r_sub _ rfl rfl rfl rfl (by unfold I64; omega) ?_
        refine g_yes rfl rfl hg7 (r_neq rfl rfl rfl ?_)
        refine p_f rfl rfl (bf1 hg7) rfl ?_
        refine hl_nil (then_n ?_)
        first | refine c_dec rfl (fun hb1 => ?_) (fun hb1 => ?_) | refine hc_cond rfl (fun hb1 => ?_) (fun hb1 => ?_)
        ·all_goals omega
        ·have hb1' := hb1; try simp at hb1'
         refine hc_skip (then_n (hc_seq (hc_seq (hc_region (r_assign rfl rfl (hl_nil (then_n (hc_block ?_))))))))
         refine hc_loop (β := Nat) ⟨fun i => i ≤ ps.l.length, fun i => [(5, .pointer (some ⟨gx, 0, none⟩)), (10, .slice bx2 ps.l.length cx2), (12, .slice bx3 ps.l.length cx3), (14, .slice bx4 ps.l.length cx4), (16, int i)], fun _ => [], fun _ => [Row bx4 (rows (numsN 103 ((c.1, c.2.1, c.2.2.1, c.2.2.2.1, o, gr) : Ch) ps.l qs.l)), Row bx3 (rows (numsN 103 c ps.l (qs.l ++ [x]))), Row bx2 (rows (numsN 103 c ps.l qs.l)), Blk gx (.cells #[int x.1, int x.2.1, int x.2.2] T.api_Advert (0, 0))]⟩ (fun i => ps.l.length - i) 0 (Nat.zero_le _) ⟨rfl, rfl, rfl, rfl, rfl, trivial⟩ (List.nil_sublist _) ⟨mB, mB, mB, mB, trivial⟩ fun i hi => ?_
         simp only at hi
         refine hc_seq (hc_seq (hc_region (r_move rfl rfl (r_move rfl rfl ?_))))
         refine r_len_sl rfl T.u_ints rfl ?_
         refine r_lss rfl rfl rfl (hl_nil (then_n ?_))
         first | refine c_dec rfl (fun hb2 => ?_) (fun hb2 => ?_) | refine hc_cond rfl (fun hb2 => ?_) (fun hb2 => ?_)
         ·have hb2' := hb2; try simp at hb2'
          have hi2 : i < ps.l.length := by omega
          have hba := bill_at c ps.l qs.l hi2
          have hbb := bill_at c ps.l (qs.l ++ [x]) hi2
          have hbc := bill_at ((c.1, c.2.1, c.2.2.1, c.2.2.2.1, o, gr) : Ch) ps.l qs.l hi2
          have hmo : ¬ (i : Int) = x.1 → bilN c ps.l (qs.l ++ [x]) i ≤ bilN c ps.l qs.l i := bil_more hsq
          have hle := bil_less hsa ho hg.2 i
          refine hc_skip (then_n (hc_seq (hc_block (hc_seq ?_))))
          refine hc_draw 24 mixed (by decide) (by decide) rfl rfl ?_
          refine hb_ex _ rfl rfl rfl (fun w1 => r_move rfl rfl (hl_nil (qe_done rfl))) ?_
          apply hb_ex _ rfl rfl rfl
          ·intro w1
           first | refine r_fieldAddr ⟨_, 0, none⟩ rfl rfl T.fa_api_Advert_0 rfl ?_ | refine r_fieldAddr _ rfl rfl T.fa_api_Advert_0 rfl ?_
           refine hl_nil ?_
           exact qe_done rfl
          apply hb_ex _ rfl rfl rfl
          ·intro w1
           first | refine r_load rfl T.cell_int rfl (cell_blk mB rfl) ?_ | refine r_load rfl T.cell_int rfl (cell_own mB rfl) ?_ | refine r_load rfl T.cell_int rfl (cell_row mB (rows_get0 (by omega) rfl)) ?_ | refine r_load rfl T.cell_int rfl (cell_row_f mB (rows_get (by omega) rfl)) ?_ | refine r_load rfl T.cell_int rfl (cell_rowg mB rfl) ?_
           refine hl_nil ?_
           exact qe_done rfl
          refine hb_ex _ rfl rfl rfl (fun w1 => r_neq rfl rfl rfl (hl_nil (qe_done rfl))) ?_
          refine hb_ex _ rfl rfl rfl (fun w1 => r_move rfl rfl (hl_nil (qe_done rfl))) ?_
          refine hb_split (t := 121) (want := true) rfl ?_ ?_
          ·intro hg8; have hg8' := hg8; try simp at hg8'
           apply hb_ex _ rfl rfl rfl
           ·intro w1
            refine g_yes rfl rfl hg8 (r_move rfl rfl (hl_nil ?_))
            exact qe_done rfl
           apply hb_ex _ rfl rfl rfl
           ·intro w1
            refine g_yes rfl rfl hg8 (r_move rfl rfl (hl_nil ?_))
            exact qe_done rfl
           apply hb_ex _ rfl rfl rfl
           ·intro w1
            refine g_yes rfl rfl hg8 ?_
            refine r_elem (α := Int) (numsN 103 c ps.l (qs.l ++ [x])) i rfl T.u_ints T.sz_int rfl rfl rfl mB (by rw [nums_len]) (by rw [nums_len]; exact hi2) (by decide) ?_
            refine hl_nil ?_
            exact qe_done rfl
           apply hb_ex _ rfl rfl rfl
           ·intro w1
            refine g_yes rfl rfl hg8 ?_
            refine r_load (v := int (bilN c ps.l (qs.l ++ [x]) i)) rfl T.cell_int rfl (cell_row mB (by rw [← hbb]; exact rows_get0 (by rw [nums_len]; exact hi2) rfl)) ?_
            refine hl_nil ?_
            exact qe_done rfl
           apply hb_ex _ rfl rfl rfl
           ·intro w1
            refine g_yes rfl rfl hg8 (r_move rfl rfl (hl_nil ?_))
            exact qe_done rfl
           apply hb_ex _ rfl rfl rfl
           ·intro w1
            refine g_yes rfl rfl hg8 (r_move rfl rfl (hl_nil ?_))
            exact qe_done rfl
           apply hb_ex _ rfl rfl rfl
           ·intro w1
            refine g_yes rfl rfl hg8 ?_
            refine r_elem (α := Int) (numsN 103 c ps.l qs.l) i rfl T.u_ints T.sz_int rfl rfl rfl mB (by rw [nums_len]) (by rw [nums_len]; exact hi2) (by decide) ?_
            refine hl_nil ?_
            exact qe_done rfl
           apply hb_ex _ rfl rfl rfl
           ·intro w1
            refine g_yes rfl rfl hg8 ?_
            refine r_load (v := int (bilN c ps.l qs.l i)) rfl T.cell_int rfl (cell_row mB (by rw [← hba]; exact rows_get0 (by rw [nums_len]; exact hi2) rfl)) ?_
            refine hl_nil ?_
            exact qe_done rfl
           apply hb_ex _ rfl rfl rfl
           ·intro w1
            refine g_yes rfl rfl hg8 (r_gtr rfl rfl rfl (hl_nil ?_))
            exact qe_done rfl
           refine hb_ex _ rfl rfl rfl (fun w1 => p_t rfl rfl (bt1 hg8) rfl (hl_nil (qe_done rfl))) ?_
           refine hb_ex _ rfl rfl rfl (fun w1 => r_move rfl rfl (hl_nil (qe_done rfl))) ?_
           refine hb_split (t := 132) (want := false) rfl ?_ ?_
           ·intro hg9; have hg9' := hg9; try simp at hg9'
            apply hb_ex _ rfl rfl rfl
            ·intro w1
             refine g_yes rfl rfl hg9 (r_move rfl rfl (hl_nil ?_))
             exact qe_done rfl
            apply hb_ex _ rfl rfl rfl
            ·intro w1
             refine g_yes rfl rfl hg9 (r_move rfl rfl (hl_nil ?_))
             exact qe_done rfl
            apply hb_ex _ rfl rfl rfl
            ·intro w1
             refine g_yes rfl rfl hg9 ?_
             refine r_elem (α := Int) (numsN 103 ((c.1, c.2.1, c.2.2.1, c.2.2.2.1, o, gr) : Ch) ps.l qs.l) i rfl T.u_ints T.sz_int rfl rfl rfl mB (by rw [nums_len]) (by rw [nums_len]; exact hi2) (by decide) ?_
             refine hl_nil ?_
             exact qe_done rfl
            apply hb_ex _ rfl rfl rfl
            ·intro w1
             refine g_yes rfl rfl hg9 ?_
             refine r_load (v := int (bilN ((c.1, c.2.1, c.2.2.1, c.2.2.2.1, o, gr) : Ch) ps.l qs.l i)) rfl T.cell_int rfl (cell_row mB (by rw [← hbc]; exact rows_get0 (by rw [nums_len]; exact hi2) rfl)) ?_
             refine hl_nil ?_
             exact qe_done rfl
            apply hb_ex _ rfl rfl rfl
            ·intro w1
             refine g_yes rfl rfl hg9 (r_move rfl rfl (hl_nil ?_))
             exact qe_done rfl
            apply hb_ex _ rfl rfl rfl
            ·intro w1
             refine g_yes rfl rfl hg9 (r_move rfl rfl (hl_nil ?_))
             exact qe_done rfl
            apply hb_ex _ rfl rfl rfl
            ·intro w1
             refine g_yes rfl rfl hg9 ?_
             refine r_elem (α := Int) (numsN 103 c ps.l qs.l) i rfl T.u_ints T.sz_int rfl rfl rfl mB (by rw [nums_len]) (by rw [nums_len]; exact hi2) (by decide) ?_
             refine hl_nil ?_
             exact qe_done rfl
            apply hb_ex _ rfl rfl rfl
            ·intro w1
             refine g_yes rfl rfl hg9 ?_
             refine r_load (v := int (bilN c ps.l qs.l i)) rfl T.cell_int rfl (cell_row mB (by rw [← hba]; exact rows_get0 (by rw [nums_len]; exact hi2) rfl)) ?_
             refine hl_nil ?_
             exact qe_done rfl
            refine hb_nil ⟨rfl, ?_⟩
            refine g_yes rfl rfl hg9 (r_gtr rfl rfl rfl ?_)
            refine p_f rfl rfl (bf1 hg9) rfl ?_
            refine hl_nil (then_n ?_)
            first | refine c_dec rfl (fun hb3 => ?_) (fun hb3 => ?_) | refine hc_cond rfl (fun hb3 => ?_) (fun hb3 => ?_)
            ·all_goals omega
            ·have hb3' := hb3; try simp at hb3'
             refine hc_skip (inb_n (then_n (hc_region (r_move rfl rfl ?_))))
             refine r_add _ rfl rfl rfl rfl (by unfold I64; omega) ?_
             refine r_assign rfl rfl (hl_nil ?_)
             exact again _ (i + 1) (by show i + 1 ≤ ps.l.length; omega) (by show ps.l.length - (i + 1) < ps.l.length - i; omega) ⟨rfl, rfl, rfl, rfl, rfl, trivial⟩ (.refl _) ⟨mB, mB, mB, mB, trivial⟩
           ·intro hg9; have hg9' := hg9; try simp at hg9'
            all_goals omega
          ·intro hg8; have hg8' := hg8; try simp at hg8'
           refine hb_ex _ rfl rfl rfl (fun w1 => g_no rfl rfl rfl rfl rfl hg8 (hl_nil (qe_done rfl))) ?_
           refine hb_ex _ rfl rfl rfl (fun w1 => g_no rfl rfl rfl rfl rfl hg8 (hl_nil (qe_done rfl))) ?_
           refine hb_ex _ rfl rfl rfl (fun w1 => g_no rfl rfl rfl rfl rfl hg8 (hl_nil (qe_done rfl))) ?_
           refine hb_ex _ rfl rfl rfl (fun w1 => g_no rfl rfl rfl rfl rfl hg8 (hl_nil (qe_done rfl))) ?_
           refine hb_ex _ rfl rfl rfl (fun w1 => g_no rfl rfl rfl rfl rfl hg8 (hl_nil (qe_done rfl))) ?_
           refine hb_ex _ rfl rfl rfl (fun w1 => g_no rfl rfl rfl rfl rfl hg8 (hl_nil (qe_done rfl))) ?_
           refine hb_ex _ rfl rfl rfl (fun w1 => g_no rfl rfl rfl rfl rfl hg8 (hl_nil (qe_done rfl))) ?_
           refine hb_ex _ rfl rfl rfl (fun w1 => g_no rfl rfl rfl rfl rfl hg8 (hl_nil (qe_done rfl))) ?_
           refine hb_ex _ rfl rfl rfl (fun w1 => g_no rfl rfl rfl rfl rfl hg8 (hl_nil (qe_done rfl))) ?_
           refine hb_ex _ rfl rfl rfl (fun w1 => p_f rfl rfl (bf2 hg8) rfl (hl_nil (qe_done rfl))) ?_
           refine hb_ex _ rfl rfl rfl (fun w1 => r_move rfl rfl (hl_nil (qe_done rfl))) ?_
           apply hb_ex _ rfl rfl rfl
           ·intro w1
            refine g_yes rfl rfl rfl (r_move rfl rfl (hl_nil ?_))
            exact qe_done rfl
           apply hb_ex _ rfl rfl rfl
           ·intro w1
            refine g_yes rfl rfl rfl (r_move rfl rfl (hl_nil ?_))
            exact qe_done rfl
           apply hb_ex _ rfl rfl rfl
           ·intro w1
            refine g_yes rfl rfl rfl ?_
            refine r_elem (α := Int) (numsN 103 ((c.1, c.2.1, c.2.2.1, c.2.2.2.1, o, gr) : Ch) ps.l qs.l) i rfl T.u_ints T.sz_int rfl rfl rfl mB (by rw [nums_len]) (by rw [nums_len]; exact hi2) (by decide) ?_
            refine hl_nil ?_
            exact qe_done rfl
           apply hb_ex _ rfl rfl rfl
           ·intro w1
            refine g_yes rfl rfl rfl ?_
            refine r_load (v := int (bilN ((c.1, c.2.1, c.2.2.1, c.2.2.2.1, o, gr) : Ch) ps.l qs.l i)) rfl T.cell_int rfl (cell_row mB (by rw [← hbc]; exact rows_get0 (by rw [nums_len]; exact hi2) rfl)) ?_
            refine hl_nil ?_
            exact qe_done rfl
           apply hb_ex _ rfl rfl rfl
           ·intro w1
            refine g_yes rfl rfl rfl (r_move rfl rfl (hl_nil ?_))
            exact qe_done rfl
           apply hb_ex _ rfl rfl rfl
           ·intro w1
            refine g_yes rfl rfl rfl (r_move rfl rfl (hl_nil ?_))
            exact qe_done rfl
           apply hb_ex _ rfl rfl rfl
           ·intro w1
            refine g_yes rfl rfl rfl ?_
            refine r_elem (α := Int) (numsN 103 c ps.l qs.l) i rfl T.u_ints T.sz_int rfl rfl rfl mB (by rw [nums_len]) (by rw [nums_len]; exact hi2) (by decide) ?_
            refine hl_nil ?_
            exact qe_done rfl
           apply hb_ex _ rfl rfl rfl
           ·intro w1
            refine g_yes rfl rfl rfl ?_
            refine r_load (v := int (bilN c ps.l qs.l i)) rfl T.cell_int rfl (cell_row mB (by rw [← hba]; exact rows_get0 (by rw [nums_len]; exact hi2) rfl)) ?_
            refine hl_nil ?_
            exact qe_done rfl
           refine hb_nil ⟨rfl, ?_⟩
           refine g_yes rfl rfl rfl (r_gtr rfl rfl rfl (p_f rfl rfl rfl rfl (hl_nil (then_n ?_))))
           first | refine c_dec rfl (fun hb3 => ?_) (fun hb3 => ?_) | refine hc_cond rfl (fun hb3 => ?_) (fun hb3 => ?_)
           ·all_goals omega
           ·have hb3' := hb3; try simp at hb3'
            refine hc_skip (inb_n (then_n (hc_region (r_move rfl rfl ?_))))
            refine r_add _ rfl rfl rfl rfl (by unfold I64; omega) ?_
            refine r_assign rfl rfl (hl_nil ?_)
            exact again _ (i + 1) (by show i + 1 ≤ ps.l.length; omega) (by show ps.l.length - (i + 1) < ps.l.length - i; omega) ⟨rfl, rfl, rfl, rfl, rfl, trivial⟩ (.refl _) ⟨mB, mB, mB, mB, trivial⟩
         ·have hb2' := hb2; try simp at hb2'
          refine hc_exit (then_exit (then_exit (inb_hit (then_n (hc_seq (hc_region ?_))))))
          refine hl_call F.law09_paying_cb rfl rfl (law09_paying_meets) (List.Perm.refl _) trivial fun _ _ => ?_
          refine r_assign rfl rfl (hl_nil (then_n (hc_ret ?_)))
          exact ret1 () rfl rfl rfl trivial (List.nil_sublist _) trivial
       ·intro hg7; have hg7' := hg7; try simp at hg7'
        all_goals omega
      ·intro hg6; have hg6' := hg6; try simp at hg6'
       all_goals omega
     ·intro hg5; have hg5' := hg5; try simp at hg5'
      all_goals omega
    ·intro hg4; have hg4' := hg4; try simp at hg4'
   ·intro hg3; have hg3' := hg3; try simp at hg3'
  ·intro hg2; have hg2' := hg2; try simp at hg2'
 ·intro hg1; have hg1' := hg1; try simp at hg1'
end Go.Proofs.Ytdlbbfcfahahdaa
end
