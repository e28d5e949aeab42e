/- Texts of this claim, one behind another. -/

import Derived.Test.YtdlbbfcfahahdaaJAq
section
namespace Go.Proofs.Ytdlbbfcfahahdaa
open Go Go.W
set_option linter.unusedVariables false
set_option linter.unusedSimpArgs false
set_option maxRecDepth 20000
attribute [local irreducible] HL HC HQ HB Row Rows2 Blk Facts
def owedL (b : List Int) (rs : List Cd) : List Int := rs.foldl (fun b r => b.set r.1.toNat (b.getD r.1.toNat default - r.2)) b
def paidS (rs : List Cd) (i : Nat) : Int := ((rs.filter fun r => decide (r.1 = (i : Int))).map (·.2)).sum
def recOK (n : Nat) (r : Cd) : Prop := (0 ≤ r.1 ∧ r.1 < (n : Int)) ∧ (0 ≤ r.2 ∧ r.2 ≤ 99999)
theorem owed_len : ∀ (rs : List Cd) (b : List Int), (owedL b rs).length = b.length
  | [], b => rfl
  | r :: rs, b => by show (owedL _ rs).length = _; rw [owed_len rs, List.length_set]
theorem owesK_is : ∀ (rs : List Cd) (b : List Int), (∀ r ∈ rs, recOK b.length r) → owesK b rs = (owedL b rs, 0)
  | [], b, _ => rfl
  | r :: rs, b, h => by
    have hr := h r (List.mem_cons_self ..)
    obtain ⟨h1, h2⟩ := hr
    rw [owesK, if_neg (by omega), if_neg (by omega)]
    exact owesK_is rs _ fun x hx => by rw [List.length_set]; exact h x (List.mem_cons_of_mem _ hx)
theorem paid_cons (r : Cd) (rs : List Cd) (i : Nat) : paidS (r :: rs) i = (if r.1 = (i : Int) then r.2 else 0) + paidS rs i := by
  unfold paidS
  by_cases e : r.1 = (i : Int)
  · simp [e]
  · simp [e]
theorem owed_at : ∀ (rs : List Cd) (b : List Int), (∀ r ∈ rs, recOK b.length r) → ∀ i, i < b.length → (owedL b rs).getD i default = b.getD i default - paidS rs i
  | [], b, _, i, _ => by simp [owedL, paidS]
  | r :: rs, b, h, i, hi => by
    have hr := h r (List.mem_cons_self ..)
    show (owedL (b.set r.1.toNat (b.getD r.1.toNat default - r.2)) rs).getD i default = _
    rw [owed_at rs _ (fun x hx => by rw [List.length_set]; exact h x (List.mem_cons_of_mem _ hx)) i (by rw [List.length_set]; exact hi), paid_cons]
    have h1 := hr.1
    by_cases e : r.1 = (i : Int)
    · rw [if_pos e, e, Int.toNat_natCast, getD_at (by rw [List.length_set]; exact hi), List.getElem_set_self]
      omega
    · rw [if_neg e, getD_at (by rw [List.length_set]; exact hi), List.getElem_set_ne (by omega), ← getD_at hi]
      omega
theorem paid_snoc (rs : List Cd) (r : Cd) (i : Nat) : paidS (rs ++ [r]) i = paidS rs i + if r.1 = (i : Int) then r.2 else 0 := by
  unfold paidS
  rw [List.filter_append, List.map_append, List.sum_append]
  by_cases e : r.1 = (i : Int)
  · simp [e]
  · simp [e]
theorem paid_succ {rs : List Cd} {k : Nat} (hk : k < rs.length) (i : Nat) : paidS (rs.take (k + 1)) i = paidS (rs.take k) i + if (rs.getD k default).1 = (i : Int) then (rs.getD k default).2 else 0 := by
  rw [take_succ_getD rs k hk, paid_snoc]
theorem paid_bd {rs : List Cd} (h : ∀ r ∈ rs, 0 ≤ r.2 ∧ r.2 ≤ 99999) (i : Nat) : ∀ k, 0 ≤ paidS (rs.take k) i ∧ paidS (rs.take k) i ≤ 99999 * (k : Int)
  | 0 => by simp [paidS]
  | k + 1 => by
    have ih := paid_bd h i k
    rcases Nat.lt_or_ge k rs.length with hk | hk
    · rw [paid_succ hk]
      have := h _ (getD_mem hk)
      split <;> omega
    · rw [List.take_of_length_le (by omega)]
      rw [List.take_of_length_le hk] at ih
      omega
theorem owes_is {R : Option Addr} {rc n : Nat} (c : Ch) (ps : Sl Int) (qs : Sl Ad) (rs : List Cd) (h0 : chkS c ps.l qs.l = 0) (hrs : ∀ r ∈ rs, recOK ps.l.length r) (h8 : rs.length ≤ 8) (hn : ps.l.length ≤ 1000000) (hm : qs.l.length ≤ 1000000) (e : rs.length = n) : Meets Try.prog F.bold_Owes [saV c ps qs, .slice R n rc] { LI := Row R (rows rs) :: saL ps qs, inv := fun x : OutC => ps.l.length ≤ x.2, val := fun x => .tuple #[.slice x.1 ps.l.length x.2, int 0], LO := fun x => [Row x.1 (rows (owedL (numsN 103 c ps.l qs.l) rs))] } := by
  subst e
  have h := bold_Owes_meets (R := R) (rc := rc) c ps qs rs hn hm (by omega)
  rw [show owesE c ps.l qs.l rs = (owedL (numsN 103 c ps.l qs.l) rs, 0) by unfold owesE; rw [if_neg (fun e => e h0), if_neg (by omega)]; exact owesK_is rs _ (by rw [nums_len]; exact hrs)] at h
  simp only [owed_len, nums_len] at h
  exact h
set_option maxHeartbeats 1000000 in
theorem law09_BoldPaid_meets {A : Option Addr} {cn : Nat} (nums : List Int) (hn : nums.length ≤ 9223372036854775807) : Meets Try.prog F.law09_BoldPaid [.slice A nums.length cn] { LI := [Row A (rows nums)], val := fun _ : Unit => .bool true } := by
 refine meets_intro F.law09_BoldPaid_f rfl (Nat.le_of_ble_eq_true rfl) fun w0 => ?_
 refine hc_seq (hc_region (r_assign rfl rfl (hl_nil (then_n (hc_seq (hc_region (r_move rfl rfl ?_)))))))
 refine hl_call F.kit_NewDice_cb rfl rfl (kit_NewDice_meets nums) (List.Perm.refl _) ⟨mB, trivial⟩ fun g _ => ?_
 refine r_assign rfl rfl (hl_nil (then_n (hc_seq (hc_region (r_move rfl rfl ?_)))))
 refine hl_call F.kit_SalesOf_cb rfl rfl (kit_SalesOf_meets 8 hn (dok0 nums) (by decide)) (List.Perm.refl _) ⟨mB, trivial⟩ fun xs1 hs1 => ?_
 obtain ⟨s1, sz⟩ := xs1
 obtain ⟨hs1, hsz⟩ := hs1
 simp only at hs1
 obtain ⟨c, ps, qs⟩ := sz
 have h0 : chkS c ps.l qs.l = 0 := hsz.ok
 have hqm : qs.l.length ≤ 8 := hsz.x8
 have hpc : ps.l.length ≤ ps.c := hsz.ca
 have hqc : qs.l.length ≤ qs.c := hsz.cb
 have hsa := sa_ok h0
 have hn1 := hsa.n1
 have hn5 := hsa.n5
 have hqx := hsa.x8
 have hpl : ps.l.length ≤ 1000000 := by omega
 have hql : qs.l.length ≤ 1000000 := by omega
 clear hsz
 refine r_alloc rfl (fun _ => T.al_api_Sales _) fun gS => ?_
 refine r_storeS (cs := saC c ps qs) rfl rfl (.refl _) T.sz_api_Sales (by rfl) (by rfl) ?_
 refine hl_nil (then_n (hc_seq (hc_letgoB (hc_region (r_move rfl rfl ?_)))))
 first | refine r_fieldAddr ⟨_, 6, none⟩ rfl rfl T.fa_api_Sales_1 rfl ?_ | refine r_fieldAddr _ rfl rfl T.fa_api_Sales_1 rfl ?_
 first | refine r_load rfl T.cell_ints rfl (cell_own mB rfl) ?_ | refine r_load rfl T.cell_ints rfl (cell_blk mB rfl) ?_ | refine r_load rfl T.cell_ints rfl (cell_row mB (rows_get0 (by omega) rfl)) ?_ | refine r_load rfl T.cell_ints rfl (cell_row_f mB (rows_get (by omega) rfl)) ?_ | refine r_load rfl T.cell_ints rfl (cell_rowg mB rfl) ?_
 refine r_len_sl rfl T.u_ints rfl ?_
 refine hl_call F.kit_ReceiptsOf_cb rfl rfl (kit_ReceiptsOf_meets ps.l.length hn hs1 ⟨by omega, by omega⟩) (List.Perm.refl _) ⟨mB, trivial⟩ fun xs2 hs2 => ?_
 obtain ⟨s2, y⟩ := xs2
 obtain ⟨hs2, hy⟩ := hs2
 simp only at hs2
 obtain ⟨rs, rA, rC⟩ := y
 obtain ⟨hr5, hrs, hrc⟩ := hy
 simp only at hr5 hrs hrc
 have hro : ∀ r ∈ rs, recOK ps.l.length r := fun r hr => ⟨(hrs r hr).1, by have := (hrs r hr).2; omega⟩
 refine r_assign rfl rfl (hl_nil (then_n (hc_seq (hc_region ?_))))
 first | refine r_loadA rfl T.row_api_Sales T.sz_api_Sales rfl mB (by rfl) ?_ | refine r_loadB rfl T.row_api_Sales T.sz_api_Sales rfl mB (by rfl) ?_ | refine r_loadS rfl T.row_api_Sales T.sz_api_Sales rfl rfl (cells_row mB (rows_all (by omega))) ?_
 refine hl_call F.bold_Bills_cb rfl rfl (bills_is c ps qs h0 hpl (by omega)) (List.Perm.refl _) ⟨mB, mB, trivial⟩ fun x1 hx1 => ?_
 obtain ⟨bx1, cx1⟩ := x1
 refine r_move rfl rfl (r_extract rfl rfl rfl (r_extract rfl rfl rfl (r_assign rfl rfl (r_assign rfl rfl (hl_nil (then_n (hc_seq (hc_region ?_))))))))
 first | refine r_loadA rfl T.row_api_Sales T.sz_api_Sales rfl mB (by rfl) ?_ | refine r_loadB rfl T.row_api_Sales T.sz_api_Sales rfl mB (by rfl) ?_ | refine r_loadS rfl T.row_api_Sales T.sz_api_Sales rfl rfl (cells_row mB (rows_all (by omega))) ?_
 refine r_move rfl rfl ?_
 refine hl_call F.bold_Owes_cb rfl rfl (owes_is c ps qs rs h0 hro (by omega) hpl hql rfl) (List.Perm.refl _) ⟨mB, mB, mB, trivial⟩ fun x2 hx2 => ?_
 obtain ⟨bx2, cx2⟩ := x2
 refine r_move rfl rfl (r_extract rfl rfl rfl (r_extract rfl rfl rfl (r_assign rfl rfl (r_assign rfl rfl (hl_nil (then_n (hc_seq (hc_seq (hc_region (r_move rfl rfl (r_neq rfl rfl rfl ?_)))))))))))
 refine r_move rfl rfl ?_
 refine g_split rfl rfl ?_ ?_
 ·intro hg1; have hg1' := hg1; try simp at hg1'
  refine g_yes rfl rfl hg1 (r_move rfl rfl (g_yes rfl rfl hg1 (r_neq rfl rfl rfl ?_)))
  refine p_f rfl rfl (bf1 hg1) rfl ?_
  refine r_move rfl rfl ?_
  refine g_split rfl rfl ?_ ?_
  ·intro hg2; have hg2' := hg2; try simp at hg2'
   refine g_yes rfl rfl hg2 (r_move rfl rfl (g_yes rfl rfl hg2 ?_))
   refine r_len_sl rfl T.u_ints rfl ?_
   refine g_yes rfl rfl hg2 ?_
   first | refine r_fieldAddr ⟨_, 6, none⟩ rfl rfl T.fa_api_Sales_1 rfl ?_ | refine r_fieldAddr _ rfl rfl T.fa_api_Sales_1 rfl ?_
   refine g_yes rfl rfl hg2 ?_
   first | refine r_load rfl T.cell_ints rfl (cell_own mB rfl) ?_ | refine r_load rfl T.cell_ints rfl (cell_blk mB rfl) ?_ | refine r_load rfl T.cell_ints rfl (cell_row mB (rows_get0 (by omega) rfl)) ?_ | refine r_load rfl T.cell_ints rfl (cell_row_f mB (rows_get (by omega) rfl)) ?_ | refine r_load rfl T.cell_ints rfl (cell_rowg mB rfl) ?_
   refine g_yes rfl rfl hg2 ?_
   refine r_len_sl rfl T.u_ints rfl ?_
   refine g_yes rfl rfl hg2 (r_neq rfl rfl rfl ?_)
   refine p_f rfl rfl (bf1 hg2) rfl ?_
   refine r_move rfl rfl ?_
   refine g_split rfl rfl ?_ ?_
   ·intro hg3; have hg3' := hg3; try simp at hg3'
    refine g_yes rfl rfl hg3 (r_move rfl rfl (g_yes rfl rfl hg3 ?_))
    refine r_len_sl rfl T.u_ints rfl ?_
    refine g_yes rfl rfl hg3 (r_move rfl rfl (g_yes rfl rfl hg3 ?_))
    refine r_len_sl rfl T.u_ints rfl ?_
    refine g_yes rfl rfl hg3 (r_neq rfl rfl rfl ?_)
    refine p_f rfl rfl (bf1 hg3) rfl ?_
    refine hl_nil (then_n ?_)
    first | refine c_dec rfl (fun hb1 => ?_) (fun hb1 => ?_) | refine hc_cond rfl (fun hb1 => ?_) (fun hb1 => ?_)
    ·all_goals omega
    ·have hb1' := hb1; try simp at hb1'
     refine hc_skip (then_n (hc_seq (hc_seq (hc_region (r_assign rfl rfl (hl_nil (then_n (hc_block ?_))))))))
     refine hc_loop (β := Nat) ⟨fun i => i ≤ ps.l.length, fun i => [(3, .pointer (some ⟨g, 0, none⟩)), (4, .pointer (some ⟨gS, 0, none⟩)), (5, .slice rA rs.length rC), (6, .slice bx1 ps.l.length cx1), (8, .slice bx2 ps.l.length cx2), (10, int i)], fun _ => [dice g A cn nums s2], fun _ => [Row bx2 (rows (owedL (numsN 103 c ps.l qs.l) rs)), Row bx1 (rows (numsN 103 c ps.l qs.l)), Row rA (rows rs), Blk gS (.cells (saC c ps qs) T.api_Sales (0, 0)), Row ps.a (rows ps.l), Row qs.a (rows qs.l), Row A (rows nums)]⟩ (fun i => ps.l.length - i) 0 (Nat.zero_le _) ⟨rfl, rfl, rfl, rfl, rfl, rfl, trivial⟩ (.refl _) ⟨mB, mB, mB, mB, mB, mB, mB, trivial⟩ fun i hi => ?_
     simp only at hi
     refine hc_seq (hc_seq (hc_region (r_move rfl rfl (r_move rfl rfl ?_))))
     refine r_len_sl rfl T.u_ints rfl ?_
     refine r_lss rfl rfl rfl (hl_nil (then_n ?_))
     first | refine c_dec rfl (fun hb2 => ?_) (fun hb2 => ?_) | refine hc_cond rfl (fun hb2 => ?_) (fun hb2 => ?_)
     ·have hb2' := hb2; try simp at hb2'
      have hi2 : i < ps.l.length := by omega
      have hba := bill_at c ps.l qs.l hi2
      have hoa : (owedL (numsN 103 c ps.l qs.l) rs).getD i default = bilN c ps.l qs.l i - paidS rs i := by rw [owed_at rs _ (by rw [nums_len]; exact hro) i (by rw [nums_len]; exact hi2), hba]
      have hbb := bil_bd hsa i
      have hpd := paid_bd (fun r hr => (hro r hr).2) i
      refine hc_skip (then_n (hc_seq (hc_block (hc_seq (hc_region (r_move rfl rfl (r_move rfl rfl ?_)))))))
      refine r_elem (α := Int) (owedL (numsN 103 c ps.l qs.l) rs) i rfl T.u_ints T.sz_int rfl rfl rfl mB (by rw [owed_len, nums_len]) (by rw [owed_len, nums_len]; exact hi2) (by decide) ?_
      refine r_load (v := int (bilN c ps.l qs.l i - paidS rs i)) rfl T.cell_int rfl (cell_row mB (by rw [← hoa]; exact rows_get0 (by rw [owed_len, nums_len]; exact hi2) rfl)) ?_
      refine r_assign rfl rfl (hl_nil (then_n (hc_seq (hc_seq (hc_region (r_assign rfl rfl (hl_nil (then_n (hc_block ?_)))))))))
      refine hc_loop (β := Nat) ⟨fun k => k ≤ rs.length, fun k => [(3, .pointer (some ⟨g, 0, none⟩)), (4, .pointer (some ⟨gS, 0, none⟩)), (5, .slice rA rs.length rC), (6, .slice bx1 ps.l.length cx1), (8, .slice bx2 ps.l.length cx2), (10, int i), (11, int (bilN c ps.l qs.l i - paidS rs i + paidS (rs.take k) i)), (12, int k)], fun _ => [dice g A cn nums s2], fun _ => [Row bx2 (rows (owedL (numsN 103 c ps.l qs.l) rs)), Row bx1 (rows (numsN 103 c ps.l qs.l)), Row rA (rows rs), Blk gS (.cells (saC c ps qs) T.api_Sales (0, 0)), Row ps.a (rows ps.l), Row qs.a (rows qs.l), Row A (rows nums)]⟩ (fun k => rs.length - k) 0 (Nat.zero_le _) ⟨rfl, rfl, rfl, rfl, rfl, rfl, congrArg (fun x => some (int x)) (show _ = _ + paidS [] i by simp [paidS]), rfl, trivial⟩ (.refl _) ⟨mB, mB, mB, mB, mB, mB, mB, trivial⟩ fun k hk => ?_
      simp only at hk
      have hpk := hpd k
      have hpa := hpd rs.length
      rw [List.take_length] at hpa
      refine hc_seq (hc_seq (hc_region (r_move rfl rfl (r_move rfl rfl ?_))))
      refine r_len_sl rfl T.u_L_api_Receipt rfl ?_
      refine r_lss rfl rfl rfl (hl_nil (then_n ?_))
      first | refine c_dec rfl (fun hb3 => ?_) (fun hb3 => ?_) | refine hc_cond rfl (fun hb3 => ?_) (fun hb3 => ?_)
      ·have hb3' := hb3; try simp at hb3'
       have hk2 : k < rs.length := by omega
       have hps := paid_succ hk2 i
       have hpk1 := hpd (k + 1)
       refine hc_skip (then_n (hc_seq (hc_block (hc_seq (hc_region (r_move rfl rfl (r_move rfl rfl ?_)))))))
       refine r_elem (α := Cd) rs k rfl T.u_L_api_Receipt T.sz_api_Receipt rfl rfl rfl mB rfl (hk2) (by decide) ?_
       first | refine r_fieldAddr ⟨_, 0, none⟩ rfl rfl T.fa_api_Receipt_0 rfl ?_ | refine r_fieldAddr _ rfl rfl T.fa_api_Receipt_0 rfl ?_
       refine r_load rfl T.cell_int rfl (cell_row mB (rows_get0 (by omega) rfl)) ?_
       refine r_move rfl rfl (r_eql rfl rfl rfl (hl_nil (then_n ?_)))
       first | refine c_dec rfl (fun hb4 => ?_) (fun hb4 => ?_) | refine hc_cond rfl (fun hb4 => ?_) (fun hb4 => ?_)
       ·have hb4' := hb4; try simp at hb4'
        rw [if_pos hb4] at hps
        refine hc_region (r_move rfl rfl (r_move rfl rfl (r_move rfl rfl ?_)))
        refine r_elem (α := Cd) rs k rfl T.u_L_api_Receipt T.sz_api_Receipt rfl rfl rfl mB rfl (hk2) (by decide) ?_
        first | refine r_fieldAddr ⟨_, 1, none⟩ rfl rfl T.fa_api_Receipt_1 rfl ?_ | refine r_fieldAddr _ rfl rfl T.fa_api_Receipt_1 rfl ?_
        refine r_load rfl T.cell_int rfl (cell_row_f mB (rows_get (by omega) rfl)) ?_
        refine r_add _ rfl rfl rfl rfl (by unfold I64; omega) ?_
        refine r_assign rfl rfl (hl_nil (inb_n (then_n (hc_region (r_move rfl rfl ?_)))))
        refine r_add _ rfl rfl rfl rfl (by unfold I64; omega) ?_
        refine r_assign rfl rfl (hl_nil ?_)
        exact again _ (k + 1) (by show k + 1 ≤ rs.length; omega) (by show rs.length - (k + 1) < rs.length - k; omega) ⟨rfl, rfl, rfl, rfl, rfl, rfl, congrArg (fun x => some (int x)) (show _ = _ + paidS (rs.take (k + 1)) i by rw [hps]; omega), rfl, trivial⟩ (.refl _) ⟨mB, mB, mB, mB, mB, mB, mB, trivial⟩
       ·have hb4' := hb4; try simp at hb4'
        rw [if_neg hb4] at hps
        refine hc_skip (inb_n (then_n (hc_region (r_move rfl rfl ?_))))
        refine r_add _ rfl rfl rfl rfl (by unfold I64; omega) ?_
        refine r_assign rfl rfl (hl_nil ?_)
        exact again _ (k + 1) (by show k + 1 ≤ rs.length; omega) (by show rs.length - (k + 1) < rs.length - k; omega) ⟨rfl, rfl, rfl, rfl, rfl, rfl, congrArg (fun x => some (int x)) (show _ = _ + paidS (rs.take (k + 1)) i by rw [hps, Int.add_zero]), rfl, trivial⟩ (.refl _) ⟨mB, mB, mB, mB, mB, mB, mB, trivial⟩
      ·have hb3' := hb3; try simp at hb3'
       obtain rfl : k = rs.length := by omega
       have hpf : paidS (rs.take rs.length) i = paidS rs i := by rw [List.take_length]
       refine hc_exit (then_exit (then_exit (inb_hit (then_n (hc_seq (hc_region (r_move rfl rfl (r_move rfl rfl (r_move rfl rfl ?_)))))))))
       refine r_elem (α := Int) (numsN 103 c ps.l qs.l) i rfl T.u_ints T.sz_int rfl rfl rfl mB (by rw [nums_len]) (by rw [nums_len]; exact hi2) (by decide) ?_
       refine r_load (v := int (bilN c ps.l qs.l i)) rfl T.cell_int rfl (cell_row mB (by rw [← hba]; exact rows_get0 (by rw [nums_len]; exact hi2) rfl)) ?_
       refine r_neq rfl rfl rfl (hl_nil (then_n ?_))
       first | refine c_dec rfl (fun hb5 => ?_) (fun hb5 => ?_) | refine hc_cond rfl (fun hb5 => ?_) (fun hb5 => ?_)
       ·all_goals omega
       ·have hb5' := hb5; try simp at hb5'
        refine hc_skip (inb_n (then_n (hc_region (r_move rfl rfl ?_))))
        refine r_add _ rfl rfl rfl rfl (by unfold I64; omega) ?_
        refine r_assign rfl rfl (hl_nil ?_)
        exact again _ (i + 1) (by show i + 1 ≤ ps.l.length; omega) (by show ps.l.length - (i + 1) < ps.l.length - i; omega) ⟨rfl, rfl, rfl, rfl, rfl, rfl, trivial⟩ (.refl _) ⟨mB, mB, mB, mB, mB, mB, mB, trivial⟩
     ·have hb2' := hb2; try simp at hb2'
      refine hc_exit (then_exit (then_exit (inb_hit (then_n (hc_seq (hc_region (r_move rfl rfl ?_)))))))
      first | refine r_fieldAddr ⟨_, 6, none⟩ rfl rfl T.fa_api_Sales_1 rfl ?_ | refine r_fieldAddr _ rfl rfl T.fa_api_Sales_1 rfl ?_
      first | refine r_load rfl T.cell_ints rfl (cell_own mB rfl) ?_ | refine r_load rfl T.cell_ints rfl (cell_blk mB rfl) ?_ | refine r_load rfl T.cell_ints rfl (cell_row mB (rows_get0 (by omega) rfl)) ?_ | refine r_load rfl T.cell_ints rfl (cell_row_f mB (rows_get (by omega) rfl)) ?_ | refine r_load rfl T.cell_ints rfl (cell_rowg mB rfl) ?_
      refine r_len_sl rfl T.u_ints rfl ?_
      refine r_sub _ rfl rfl rfl rfl (by unfold I64; omega) ?_
      refine hl_call F.kit_Dice_To_cb rfl rfl (kit_Dice_To_meets ((ps.l.length : Int) - 1) hn hs2 (by omega)) (List.Perm.refl _) ⟨mB, trivial⟩ fun xs3 hs3 => ?_
      obtain ⟨s3, z⟩ := xs3
      obtain ⟨hs3, hz⟩ := hs3
      simp only at hs3
      have hz : 0 ≤ z ∧ z ≤ (ps.l.length : Int) - 1 := to_bd hz (by omega)
      refine r_assign rfl rfl (hl_nil (then_n (hc_seq (hc_seq ?_))))
      obtain ⟨m, rfl⟩ := Int.eq_ofNat_of_zero_le hz.1
      have hm2 : m < ps.l.length := by omega
      have hoa : (owedL (numsN 103 c ps.l qs.l) rs).getD m default = bilN c ps.l qs.l m - paidS rs m := by rw [owed_at rs _ (by rw [nums_len]; exact hro) m (by rw [nums_len]; exact hm2), bill_at c ps.l qs.l hm2]
      obtain ⟨vz, hvz⟩ : ∃ v, v = bilN c ps.l qs.l m - paidS rs m := ⟨_, rfl⟩
      rw [← hvz] at hoa
      refine hc_region (r_move rfl rfl (r_move rfl rfl ?_))
      refine r_elem (α := Int) (owedL (numsN 103 c ps.l qs.l) rs) m rfl T.u_ints T.sz_int rfl rfl rfl mB (by rw [owed_len, nums_len]) (by rw [owed_len, nums_len]; exact hm2) (by decide) ?_
      refine r_load (v := int (vz)) rfl T.cell_int rfl (cell_row mB (by rw [← hoa]; exact rows_get0 (by rw [owed_len, nums_len]; exact hm2) rfl)) ?_
      refine r_lss rfl rfl rfl (r_move rfl rfl ?_)
      refine g_split rfl rfl ?_ ?_
      ·intro hg4; have hg4' := hg4; try simp at hg4'
       refine g_yes rfl rfl hg4 (r_move rfl rfl (g_yes rfl rfl hg4 (r_move rfl rfl (g_yes rfl rfl hg4 ?_))))
       refine r_elem (α := Int) (owedL (numsN 103 c ps.l qs.l) rs) m rfl T.u_ints T.sz_int rfl rfl rfl mB (by rw [owed_len, nums_len]) (by rw [owed_len, nums_len]; exact hm2) (by decide) ?_
       refine g_yes rfl rfl hg4 ?_
       refine r_load (v := int (vz)) rfl T.cell_int rfl (cell_row mB (by rw [← hoa]; exact rows_get0 (by rw [owed_len, nums_len]; exact hm2) rfl)) ?_
       refine g_yes rfl rfl hg4 (r_gtr rfl rfl rfl ?_)
       refine p_f rfl rfl (bf1 hg4) rfl ?_
       refine hl_nil (then_n ?_)
       first | refine c_dec rfl (fun hb6 => ?_) (fun hb6 => ?_) | refine hc_cond rfl (fun hb6 => ?_) (fun hb6 => ?_)
       ·have hb6' := hb6; try simp at hb6'
        refine hc_seq (hc_region ?_)
        refine hl_call F.law09_paying_cb rfl rfl (law09_paying_meets) (List.Perm.refl _) trivial fun _ _ => ?_
        refine r_assign rfl rfl (hl_nil (then_n (hc_ret (then_ret ?_))))
        exact ret1 () rfl rfl rfl trivial (List.nil_sublist _) trivial
       ·have hb6' := hb6; try simp at hb6'
        have hr2 : ∀ r ∈ (rs ++ [(((m : Int), vz) : Cd)]), recOK ps.l.length r := forall_snoc hro ⟨by show 0 ≤ (m : Int) ∧ (m : Int) < ps.l.length; omega, by show 0 ≤ vz ∧ vz ≤ 99999; omega⟩
        have hl2 : (rs ++ [(((m : Int), vz) : Cd)]).length = rs.length + 1 := by simp
        refine hc_skip (then_n (hc_seq ?_))
        refine hc_draw 20 mixed (by decide) (by decide) rfl rfl ?_
        apply hb_ex _ rfl rfl rfl
        ·intro w1
         first | refine r_loadA rfl T.row_api_Sales T.sz_api_Sales rfl mB (by rfl) ?_ | refine r_loadB rfl T.row_api_Sales T.sz_api_Sales rfl mB (by rfl) ?_ | refine r_loadS rfl T.row_api_Sales T.sz_api_Sales rfl rfl (cells_row mB (rows_all (by omega))) ?_
         refine hl_nil ?_
         exact qe_done rfl
        refine hb_ex _ rfl rfl rfl (fun w1 => r_move rfl rfl (hl_nil (qe_done rfl))) ?_
        refine hb_ex _ rfl rfl rfl (fun w1 => r_move rfl rfl (hl_nil (qe_done rfl))) ?_
        refine hb_ex _ rfl rfl rfl (fun w1 => r_len_sl rfl T.u_L_api_Receipt rfl (hl_nil (qe_done rfl))) ?_
        refine hb_ex _ rfl rfl rfl (fun w1 => r_move rfl rfl (hl_nil (qe_done rfl))) ?_
        refine hb_ex _ rfl rfl rfl (fun w1 => r_len_sl rfl T.u_L_api_Receipt rfl (hl_nil (qe_done rfl))) ?_
        refine hb_ex _ rfl rfl rfl (fun w1 => r_slice_hm rs.length rs.length rfl T.u_L_api_Receipt T.sz_api_Receipt rfl rfl rfl rfl rfl (Nat.le_refl _) hrc (hl_nil (qe_done rfl))) ?_
        refine hb_ex _ rfl rfl rfl (fun w1 => r_move rfl rfl (hl_nil (qe_done rfl))) ?_
        refine hb_ex _ rfl rfl rfl (fun w1 => r_move rfl rfl (hl_nil (qe_done rfl))) ?_
        refine hb_ex _ rfl rfl rfl (fun w1 => r_move rfl rfl (hl_nil (qe_done rfl))) ?_
        refine hb_ex _ rfl rfl rfl (fun w1 => r_elem (α := Int) (owedL (numsN 103 c ps.l qs.l) rs) m rfl T.u_ints T.sz_int rfl rfl rfl mB (by rw [owed_len, nums_len]) (by rw [owed_len, nums_len]; exact hm2) (by decide) (hl_nil (qe_done rfl))) ?_
        refine hb_ex _ rfl rfl rfl (fun w1 => r_load (v := int (vz)) rfl T.cell_int rfl (cell_row mB (by rw [← hoa]; exact rows_get0 (by rw [owed_len, nums_len]; exact hm2) rfl)) (hl_nil (qe_done rfl))) ?_
        refine hb_ex _ rfl rfl rfl (fun w1 => r_build _ rfl rfl (fun _ => T.bd_api_Receipt_0_1 ..) (hl_nil (qe_done rfl))) ?_
        refine hb_vs ⟨Nat, fun _ => True, fun g1 => .slice (some ⟨g1, 0, none⟩) 1 1, fun g1 => [Row (some ⟨g1, 0, none⟩) (rows [(((m : Int), vz) : Cd)])]⟩ rfl rfl rfl ?_ ?_
        ·intro w1
         refine r_buildSlice _ rfl rfl (fun _ => T.bs_L_api_Receipt_1 ..) fun gS2 => ?_
         refine hl_nil ?_
         refine hq_letgo (rows [(((m : Int), vz) : Cd)]) (List.prefix_refl _) ?_
         exact qv_done gS2 trivial rfl ⟨m0, trivial⟩
        refine hb_vs ⟨OutC, fun _ => True, fun x => .slice x.1 (rs.length + 1) x.2, fun x => [Row x.1 (rows (rs ++ [(((m : Int), vz) : Cd)]))]⟩ rfl rfl rfl ?_ ?_
        ·intro g1 _; intro w1
         refine r_append_full (rs.length + 1) (rows (rs ++ [(((m : Int), vz) : Cd)])) T.el_L_api_Receipt rfl rfl rfl mB (rows_len rs) (Src.row (news := rows [(((m : Int), vz) : Cd)]) (m := 1) mB rfl (rows_one _) (by decide)) rfl (rows_append rs [(((m : Int), vz) : Cd)]).symm (by unfold maxLen; omega) (by omega) fun A1 c1 hc1 => ?_
         refine hl_nil ?_
         exact qv_done (A1, c1) trivial rfl ⟨mB, trivial⟩
        refine hb_vs ⟨OutC, fun _ => True, fun x => .tuple #[.slice x.1 ps.l.length x.2, int 0], fun x => [Row x.1 (rows (owedL (numsN 103 c ps.l qs.l) (rs ++ [(((m : Int), vz) : Cd)])))]⟩ rfl rfl rfl ?_ ?_
        ·intro x14 _; intro w1
         refine hl_call F.bold_Owes_cb rfl rfl (owes_is c ps qs (rs ++ [(((m : Int), vz) : Cd)]) h0 hr2 (by omega) hpl hql hl2) (List.Perm.refl _) ⟨mB, mB, mB, trivial⟩ fun y hy => ?_
         refine hl_nil ?_
         exact qv_done y trivial rfl ⟨mB, trivial⟩
        refine hb_vs ⟨OutC, fun _ => True, fun x => .tuple #[.slice x.1 ps.l.length x.2, int 0], fun x => [Row x.1 (rows (owedL (numsN 103 c ps.l qs.l) (rs ++ [(((m : Int), vz) : Cd)])))]⟩ rfl rfl rfl ?_ ?_
        ·intro x15 _; intro w1
         refine r_move rfl rfl (hl_nil ?_)
         exact qv_done x15 trivial rfl ⟨mB, trivial⟩
        refine hb_vs ⟨OutC, fun _ => True, fun x => .slice x.1 ps.l.length x.2, fun x => [Row x.1 (rows (owedL (numsN 103 c ps.l qs.l) (rs ++ [(((m : Int), vz) : Cd)])))]⟩ rfl rfl rfl ?_ ?_
        ·intro x16 _; intro w1
         refine r_extract rfl rfl rfl (hl_nil ?_)
         exact qv_done x16 trivial rfl ⟨mB, trivial⟩
        apply hb_ex _ rfl rfl rfl
        ·intro x16 _; intro w1
         refine r_extract rfl rfl rfl (hl_nil ?_)
         exact qe_done rfl
        refine hb_vs ⟨OutC, fun _ => True, fun x => .slice x.1 ps.l.length x.2, fun x => [Row x.1 (rows (owedL (numsN 103 c ps.l qs.l) (rs ++ [(((m : Int), vz) : Cd)])))]⟩ rfl rfl rfl ?_ ?_
        ·intro x17 _; intro w1
         refine r_assign rfl rfl (hl_nil ?_)
         exact qv_done x17 trivial rfl ⟨mB, trivial⟩
        refine hb_nil ⟨rfl, ?_⟩
        intro _ _ _ _ _ _ _ _ _ _ x19 _
        obtain ⟨bx3, cx3⟩ := x19
        have hz3 : (owedL (numsN 103 c ps.l qs.l) (rs ++ [(((m : Int), vz) : Cd)])).getD m default = 0 := by rw [owed_at _ _ (by rw [nums_len]; exact hr2) m (by rw [nums_len]; exact hm2), paid_snoc, if_pos rfl, bill_at c ps.l qs.l hm2]; show _ - (_ + vz) = 0; omega
        refine r_assign rfl rfl (hl_nil (then_n (hc_seq (hc_region (r_move rfl rfl (r_eql rfl rfl rfl (r_move rfl rfl ?_)))))))
        refine g_split rfl rfl ?_ ?_
        ·intro hg5; have hg5' := hg5; try simp at hg5'
         refine g_yes rfl rfl hg5 (r_move rfl rfl (g_yes rfl rfl hg5 ?_))
         refine r_len_sl rfl T.u_ints rfl ?_
         refine g_yes rfl rfl hg5 (r_move rfl rfl (g_yes rfl rfl hg5 ?_))
         refine r_len_sl rfl T.u_ints rfl ?_
         refine g_yes rfl rfl hg5 (r_eql rfl rfl rfl ?_)
         refine p_t rfl rfl (bt1 hg5) rfl ?_
         refine r_move rfl rfl ?_
         refine g_split rfl rfl ?_ ?_
         ·intro hg6; have hg6' := hg6; try simp at hg6'
          refine g_yes rfl rfl hg6 (r_move rfl rfl (g_yes rfl rfl hg6 (r_move rfl rfl (g_yes rfl rfl hg6 ?_))))
          refine r_elem (α := Int) (owedL (numsN 103 c ps.l qs.l) (rs ++ [(((m : Int), vz) : Cd)])) m rfl T.u_ints T.sz_int rfl rfl rfl mB (by rw [owed_len, nums_len]) (by rw [owed_len, nums_len]; exact hm2) (by decide) ?_
          refine g_yes rfl rfl hg6 ?_
          refine r_load (v := int (0)) rfl T.cell_int rfl (cell_row mB (by rw [← hz3]; exact rows_get0 (by rw [owed_len, nums_len]; exact hm2) rfl)) ?_
          refine g_yes rfl rfl hg6 (r_eql rfl rfl rfl ?_)
          refine p_t rfl rfl (bt1 hg6) rfl ?_
          refine r_move rfl rfl ?_
          refine g_split rfl rfl ?_ ?_
          ·intro hg7; have hg7' := hg7; try simp at hg7'
           refine g_yes rfl rfl hg7 ?_
           refine hl_call F.law09_paying_cb rfl rfl (law09_paying_meets) (List.Perm.refl _) trivial fun _ _ => ?_
           refine p_t rfl rfl (bt1 hg7) rfl ?_
           refine r_assign rfl rfl (hl_nil (then_n (hc_ret ?_)))
           exact ret1 () rfl rfl rfl trivial (List.nil_sublist _) trivial
          ·intro hg7; have hg7' := hg7; try simp at hg7'
           all_goals omega
         ·intro hg6; have hg6' := hg6; try simp at hg6'
          all_goals omega
        ·intro hg5; have hg5' := hg5; try simp at hg5'
      ·intro hg4; have hg4' := hg4; try simp at hg4'
       refine g_no rfl rfl rfl rfl rfl hg4 (g_no rfl rfl rfl rfl rfl hg4 (g_no rfl rfl rfl rfl rfl hg4 (g_no rfl rfl rfl rfl rfl hg4 (g_no rfl rfl rfl rfl rfl hg4 ?_))))
       refine p_t rfl rfl (bt2 hg4) rfl ?_
       refine hl_nil (then_n (c_t rfl rfl (hc_seq (hc_region ?_))))
       refine hl_call F.law09_paying_cb rfl rfl (law09_paying_meets) (List.Perm.refl _) trivial fun _ _ => ?_
       refine r_assign rfl rfl (hl_nil (then_n (hc_ret (then_ret ?_))))
       exact ret1 () rfl rfl rfl trivial (List.nil_sublist _) trivial
   ·intro hg3; have hg3' := hg3; try simp at hg3'
    all_goals omega
  ·intro hg2; have hg2' := hg2; try simp at hg2'
 ·intro hg1; have hg1' := hg1; try simp at hg1'
end Go.Proofs.Ytdlbbfcfahahdaa
end
