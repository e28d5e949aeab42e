/- The walk of the statement TradeJoined. -/
import Derived.Test.YtlpgheniajdkfaaGreatPoa
import Derived.Test.YtlpgheniajdkfaaGreatWt
namespace Go.Proofs.YtlpgheniajdkfaaGreat
open Go Go.W
set_option linter.unusedVariables false
set_option linter.unusedSimpArgs false
set_option maxRecDepth 20000
attribute [local irreducible] HL HC HQ HB Row Rows2 Blk Facts

theorem cls_mk {cs : List Cl} {i : Nat} (h : ClsOK cs i) (hi : i < cs.length) : clsErr cs i = 0 := by
  have h1 := h.lo
  have h2 := h.hi
  unfold clsErr
  rw [if_neg (by rw [h.w]; decide), if_neg h.n, if_neg (by omega), if_neg (by omega)]
theorem head_mk {t : Tr} {i : Nat} (h : HeadOK t i) : headErr t i = 0 := by
  have h1 := h.c
  have h2 := h.s
  have h3 := firstE_all (n := (t.hs.getD i default).2.2.2.length) h.a
  unfold headErr
  rw [if_neg (by rw [h.w]; decide), if_neg h.n, if_neg h.o, if_neg (by omega), if_neg h2.2.2, if_neg (not_not_intro h3), if_neg (by rw [h.k]; decide)]
theorem tr_mk {t : Tr} (h : TrOK t) : checkT t = 0 := by
  have h1 := h.c6
  have h2 := h.h6
  unfold checkT
  rw [if_neg (by omega), if_neg (not_not_intro (firstE_all fun i hi => cls_mk (h.c i hi) hi))]
  exact firstE_all fun i hi => head_mk (h.h i hi)
-- references by their numbers
def atI (l : List Rf) (z : Int) : Rf := l.getD z.toNat default
theorem upI_mem {f n : Nat} {z : Int} (h : z ∈ upI f n) : (f : Int) ≤ z ∧ z < (n : Int) := by
  obtain ⟨i, hi, rfl⟩ := List.mem_map.1 h
  have h1 := List.mem_range'_1.1 hi
  omega
theorem upI_at (l : List Rf) : (upI 0 l.length).map (atI l) = l := by
  unfold upI
  refine List.ext_getElem (by simp) fun i h1 h2 => ?_
  rw [List.getElem_map, List.getElem_map, List.getElem_range']
  show l.getD (((0 + 1 * i : Nat) : Int)).toNat default = _
  rw [Int.toNat_natCast, Nat.zero_add, Nat.one_mul]
  exact getD_at h2
theorem combos_at (m : Nat) (l : List Rf) : combos m l = (combos m (upI 0 l.length)).map (List.map (atI l)) := by
  have h := combos_map (atI l) m (upI 0 l.length)
  rw [upI_at] at h
  exact h
theorem find_cut {α : Type} [Inhabited α] {p : α → Bool} {l : List α} {k : Nat} (hk : k < l.length) (h : (l.take k).find? p = none) (h1 : p (l.getD k default) = false) : (l.take (k + 1)).find? p = none := by
  rw [take_succ_getD l k hk, List.find?_append, h]
  show [l.getD k default].find? p = none
  rw [List.find?_cons, h1]
  rfl
theorem find_here {α : Type} [Inhabited α] {p : α → Bool} {l : List α} {k : Nat} (hk : k < l.length) (h : (l.take k).find? p = none) (h1 : p (l.getD k default) = true) : l.find? p = some (l.getD k default) := by
  have e : l = l.take k ++ l.drop k := (List.take_append_drop k l).symm
  have e2 : l.drop k = l.getD k default :: l.drop (k + 1) := by rw [List.drop_eq_getElem_cons hk, getD_at hk]
  rw [e2] at e
  have e3 : (l.take k ++ l.getD k default :: l.drop (k + 1)).find? p = some (l.getD k default) := by
    rw [List.find?_append, h, List.find?_cons, h1]
    rfl
  rw [← e] at e3
  exact e3
theorem getD_map {α β : Type} [Inhabited α] [Inhabited β] {f : α → β} {l : List α} {i : Nat} (h : i < l.length) : (l.map f).getD i default = f (l.getD i default) := by
  rw [getD_at (by rw [List.length_map]; exact h), List.getElem_map, getD_at h]
def rfs (fp : List (Sl Int)) (q : List Int) : List (Sl Int) := q.map fun z => fp.getD z.toNat default
theorem rfs_succ {fp : List (Sl Int)} {q : List Int} {k : Nat} (hk : k < q.length) : rfs fp (q.take (k + 1)) = rfs fp (q.take k) ++ [fp.getD (q.getD k default).toNat default] := by
  unfold rfs
  rw [take_succ_getD q k hk, List.map_append]
  rfl
theorem rfs_len {fp : List (Sl Int)} {q : List Int} {k : Nat} (hk : k ≤ q.length) : (rfs fp (q.take k)).length = k := by
  unfold rfs
  rw [List.length_map, List.length_take]
  omega
theorem rfs_lst {fp : List (Sl Int)} {l : List Rf} (h : lsts fp = pairsOf l) : ∀ {q : List Int}, (∀ z ∈ q, (0 : Int) ≤ z ∧ z < (l.length : Int)) → lsts (rfs fp q) = pairsOf (q.map (atI l))
  | [], _ => rfl
  | z :: q, hq => by
    have h1 := hq z List.mem_cons_self
    have h2 := rfs_lst h (q := q) fun y hy => hq y (List.mem_cons_of_mem _ hy)
    have h3 := ps_at h (k := z.toNat) (by omega)
    show (fp.getD z.toNat default).l :: lsts (rfs fp q) = [(l.getD z.toNat default).1, (l.getD z.toNat default).2] :: pairsOf (q.map (atI l))
    rw [h2, h3]
theorem rfs_in {fp : List (Sl Int)} {q : List Int} (hq : ∀ z ∈ q, (0 : Int) ≤ z ∧ z < (fp.length : Int)) : ∀ p ∈ rfs fp q, p ∈ fp := fun p hp => by
  obtain ⟨z, hz, rfl⟩ := List.mem_map.1 hp
  have := hq z hz
  exact getD_mem (by omega)
theorem pairs_bd {x : List (Sl Int)} {b : List Rf} (h : lsts x = pairsOf b) : x.length = b.length ∧ ∀ p ∈ x, p.l.length ≤ 2 := by
  refine ⟨ps_len h, fun p hp => ?_⟩
  have h1 : p.l ∈ lsts x := List.mem_map_of_mem hp
  rw [h] at h1
  obtain ⟨r, _, e⟩ := List.mem_map.1 h1
  rw [← e]
  exact Nat.le_refl _
theorem joinE_ok {t : Tr} {h s : Int} (h0 : askE t [h] = 0) (h1 : 0 ≤ s ∧ s ≤ 6) : joinE t h s = (pairsOf ((joinT t h s).getD []), if (joinT t h s).isSome = false then 11 else 0) := by
  unfold joinE
  rw [if_neg (not_not_intro h0), if_neg (not_not_intro h1)]
  cases joinT t h s <;> rfl
theorem free16 {t : Tr} (h4 : t.hs.length ≤ 4) : (freeT t).length ≤ 16 := by
  have h1 := frK_len t t.hs.length
  have h2 : t.hs.length * t.hs.length ≤ 4 * 4 := Nat.mul_le_mul h4 h4
  rw [free_frK]
  omega

set_option maxHeartbeats 2000000 in
theorem law04_TradeJoined_meets {N : Option Addr} {nc : Nat} (nums : List Int) (hn : nums.length ≤ 9223372036854775807) : Meets Tryz.prog F.law04_TradeJoined [.slice N nums.length nc] { LI := [Row N (rows nums)], val := fun _ : Unit => .bool true } := by
 refine meets_intro F.law04_TradeJoined_f rfl (Nat.le_of_ble_eq_true rfl) fun w0 => ?_
 refine hc_seq (hc_region (r_assign rfl rfl (hl_nil (then_n (hc_seq (hc_region (r_move rfl rfl ?_)))))))
 refine hl_call F.kit_NewDice_cb rfl rfl (kit_NewDice_meets nums) (List.Perm.refl _) ⟨(by repeat constructor), trivial⟩ fun g _ => ?_
 refine r_assign rfl rfl (hl_nil (then_n (hc_seq (hc_region (r_move rfl rfl ?_)))))
 refine hl_call F.kit_TradesOf_cb rfl rfl (kit_TradesOf_meets 2 4 hn (dok0 nums) (by decide) (by decide)) (List.Perm.refl _) ⟨(by repeat constructor), trivial⟩ fun x hx => ?_
 obtain ⟨sd, cs, hs, ⟨CA, ca⟩, ⟨HB, cb⟩⟩ := x
 obtain ⟨hsd, hT⟩ := hx
 have hca : cs.length ≤ ca := hT.ca
 have hcb : hs.length ≤ cb := hT.cb
 have ha : ∀ h ∈ hs, h.2.2.2.l.length ≤ 1000000 := hT.ha
 have hT0 : checkT (trOf cs hs) = 0 := hT.ok
 have hok : TrOK (trOf cs hs) := tr_ok hT0
 have h4h : hs.length ≤ 4 := hT.h2
 clear hT
 have h6 : cs.length ≤ 6 := hok.c6
 have h6h := hok.h6
 have hln := hs_len cs hs
 rw [hln] at h6h
 have hcl : ∀ i, i < cs.length → ClsOK cs i := hok.c
 refine r_alloc rfl (fun _ => T.al_api_Trades _) fun gT => ?_
 refine r_storeS (cs := #[.slice CA cs.length ca, .slice HB hs.length cb]) rfl rfl (.refl _) T.sz_api_Trades (by rfl) (by rfl) ?_
 refine hl_nil (then_n (hc_seq (hc_seq (hc_letgoB (hc_region ?_)))))
 refine r_fieldAddr ⟨_, 1, none⟩ rfl rfl T.fa_api_Trades_1 rfl ?_
 refine r_load rfl T.cell_L_api_Head rfl (cell_blk (by repeat constructor) rfl) ?_
 refine r_len_sl rfl T.u_L_api_Head rfl ?_
 refine r_eql rfl rfl rfl (hl_nil (then_n ?_))
 refine c_dec rfl (fun hb1 => ?_) (fun hb1 => ?_)
 ·have hb1' := hb1; try simp at hb1'
  refine hc_seq (hc_region ?_)
  refine hl_call F.law04_indexed_cb rfl rfl (law04_indexed_meets) (hpR := [_]) (List.Perm.refl _) trivial fun _ _ => ?_
  refine r_assign rfl rfl (hl_nil (then_n (hc_ret (then_ret ?_))))
  exact ret1 () rfl rfl rfl trivial (List.nil_sublist _) trivial
 ·have hb1' := hb1; try simp at hb1'
  have hpos : 0 < hs.length := by omega
  refine hc_skip (then_n (hc_seq (hc_region (r_move rfl rfl ?_))))
  refine r_fieldAddr ⟨_, 1, none⟩ rfl rfl T.fa_api_Trades_1 rfl ?_
  refine r_load rfl T.cell_L_api_Head rfl (cell_blk (by repeat constructor) rfl) ?_
  refine r_len_sl rfl T.u_L_api_Head rfl ?_
  refine r_sub _ rfl rfl rfl rfl (by unfold I64; omega) ?_
  refine hl_call F.kit_Dice_To_cb rfl rfl (kit_Dice_To_meets ((hs.length : Int) - 1) hn hsd (by omega)) (List.Perm.refl _) ⟨(by repeat constructor), trivial⟩ fun x hx => ?_
  obtain ⟨s5, z5⟩ := x
  obtain ⟨hs5, hz5⟩ := hx
  simp only [ToInv] at hz5
  obtain ⟨st, rfl⟩ := Int.eq_ofNat_of_zero_le hz5.1
  have hst : st < hs.length := by by_cases h1 : (1 : Int) ≤ (hs.length : Int) - 1; have := hz5.2.1 h1; omega; have := hz5.2.2 (by omega); omega
  refine r_move rfl rfl ?_
  refine hl_call F.kit_Dice_To_cb rfl rfl (kit_Dice_To_meets 3 hn hs5 (by omega)) (List.Perm.refl _) ⟨(by repeat constructor), trivial⟩ fun x hx => ?_
  obtain ⟨s6, z6⟩ := x
  obtain ⟨hs6, hz6⟩ := hx
  simp only [ToInv] at hz6
  obtain ⟨rc, rfl⟩ := Int.eq_ofNat_of_zero_le hz6.1
  have hrc : rc ≤ 3 := by by_cases h1 : (1 : Int) ≤ 3; have := hz6.2.1 h1; omega; have := hz6.2.2 (by omega); omega
  refine r_assign rfl rfl (r_assign rfl rfl (hl_nil (then_n (hc_seq ?_))))
  have hJ := trade_Join_meets (A := CA) (B := HB) (ca := ca) (cb := cb) cs hs (st : Int) (rc : Int) hca hcb ha
  rw [joinE_ok (ask_one hT0 (by rw [hln]; omega)) (by omega)] at hJ
  simp only at hJ
  refine hc_region ?_
  refine r_loadB rfl T.row_api_Trades T.sz_api_Trades rfl (by repeat constructor) (by rfl) ?_
  refine r_move rfl rfl (r_move rfl rfl ?_)
  refine hl_call F.trade_Join_cb rfl rfl (hJ) (hpR := [_]) (List.Perm.refl _) ⟨(by repeat constructor), (by repeat constructor), trivial⟩ fun y hy => ?_
  refine r_move rfl rfl (r_extract rfl rfl rfl (r_extract rfl rfl rfl (r_assign rfl rfl (r_assign rfl rfl (hl_nil (then_n (hc_seq (hc_region ?_))))))))
  refine r_loadB rfl T.row_api_Trades T.sz_api_Trades rfl (by repeat constructor) (by rfl) ?_
  refine hl_call F.law04_free_cb rfl rfl (law04_free_is (A := CA) (B := HB) (ca := ca) (cb := cb) cs hs hok hca hcb ha) (hpR := [_]) (List.Perm.refl _) ⟨(by repeat constructor), (by repeat constructor), trivial⟩ fun x hx => ?_
  obtain ⟨fp, FA, fc⟩ := x
  have hfp : lsts fp = pairsOf (freeT (trOf cs hs)) := hx
  clear hx
  have hfl := ps_len hfp
  have hf16 := free16 (t := (trOf cs hs)) (by rw [hln]; exact h4h)
  have hy1 : lsts y.1 = (pairsOf ((joinT (trOf cs hs) (st : Int) (rc : Int)).getD [])) := hy
  refine r_assign rfl rfl (hl_nil (then_n (hc_seq (hc_seq (hc_region ?_)))))
  refine r_loadB rfl T.row_api_Trades T.sz_api_Trades rfl (by repeat constructor) (by rfl) ?_
  refine r_move rfl rfl ?_
  refine hl_call F.law04_added_cb rfl rfl (law04_added_is (A := CA) (B := HB) (ca := ca) (cb := cb) (R := FA) (rc := fc) cs hs (freeT (trOf cs hs)) fp hfp (fun _ h => h) (free_nodup _) (by omega) hok hpos hca hcb ha) (hpR := [_]) (List.Perm.refl _) ⟨(by repeat constructor), (by repeat constructor), (by repeat constructor), trivial⟩ fun x hx => ?_
  change Adds cs hs (freeT (trOf cs hs)) x.1 ∧ cs.length ≤ x.2.1.2 ∧ x.1.length ≤ x.2.2.2 at hx
  refine r_move rfl rfl (r_move rfl rfl ?_)
  refine hl_call F.trade_Hidden_cb rfl rfl (hidden_is (A := x.2.1.1) (B := x.2.2.1) (ca := x.2.1.2) (cb := x.2.2.2) cs x.1 (st : Int) (rc : Int) hx.2.1 hx.2.2 hx.1.ha (tr_mk hx.1.ok) (by rw [hs_len, hx.1.len]; omega) (by omega)) (hpR := [_]) (List.Perm.refl _) ⟨(by repeat constructor), (by repeat constructor), trivial⟩ fun z hz => ?_
  refine r_move rfl rfl (r_extract rfl rfl rfl (r_extract rfl rfl rfl (r_assign rfl rfl (r_assign rfl rfl (hl_nil (then_n (hc_seq ?_)))))))
  have hfin := hid_fine hx.1 (h := st) (s := rc) (by omega)
  refine hc_region (r_move rfl rfl (r_neq rfl rfl rfl (r_move rfl rfl ?_)))
  refine g_split rfl rfl ?_ ?_
  ·intro hg1; have hg1' := hg1; try simp at hg1'
   refine g_yes rfl rfl hg1 (r_move rfl rfl (g_yes rfl rfl hg1 ?_))
   refine r_len_sl rfl T.u_ints rfl ?_
   refine g_yes rfl rfl hg1 (r_gtr rfl rfl rfl ?_)
   refine p_f rfl rfl (bf1 hg1) rfl ?_
   refine hl_nil (then_n ?_)
   refine c_dec rfl (fun hb2 => ?_) (fun hb2 => ?_)
   ·have hb2' := hb2; try simp at hb2'
    have hnf : (fineB (trOf cs hs) (st : Int) (rc : Int)) (freeT (trOf cs hs)) = false := by
      cases e : (fineB (trOf cs hs) (st : Int) (rc : Int)) (freeT (trOf cs hs)) with
      | false => rfl
      | true => have h9 := hfin.2 e; omega
    have hjn : (joinT (trOf cs hs) (st : Int) (rc : Int)) = none := join_no hnf
    have hyn : y.1.length = 0 := by have h9 := ps_len (l := []) (by rw [hy1, hjn]; rfl : lsts y.1 = pairsOf []); exact h9
    refine hc_seq (hc_region (r_move rfl rfl (r_eql rfl rfl rfl (r_move rfl rfl ?_))))
    refine g_split rfl rfl ?_ ?_
    ·intro hg2; have hg2' := hg2; try simp at hg2'
     refine g_yes rfl rfl hg2 (r_move rfl rfl (g_yes rfl rfl hg2 (r_eql rfl rfl rfl ?_)))
     refine p_t rfl rfl (bt1 hg2) rfl ?_
     refine r_move rfl rfl ?_
     refine g_split rfl rfl ?_ ?_
     ·intro hg3; have hg3' := hg3; try simp at hg3'
      refine g_yes rfl rfl hg3 (r_move rfl rfl (g_yes rfl rfl hg3 ?_))
      refine r_len_sl rfl T.u_intss rfl ?_
      refine g_yes rfl rfl hg3 (r_eql rfl rfl rfl ?_)
      refine p_t rfl rfl (bt1 hg3) rfl ?_
      refine r_move rfl rfl ?_
      refine g_split rfl rfl ?_ ?_
      ·intro hg4; have hg4' := hg4; try simp at hg4'
       refine g_yes rfl rfl hg4 ?_
       refine hl_call F.law04_indexed_cb rfl rfl (law04_indexed_meets) (hpR := [_]) (List.Perm.refl _) trivial fun _ _ => ?_
       refine p_t rfl rfl (bt1 hg4) rfl ?_
       refine r_assign rfl rfl (hl_nil (then_n (hc_ret (then_ret ?_))))
       exact ret1 () rfl rfl rfl trivial (List.nil_sublist _) trivial
      ·intro hg4; have hg4' := hg4; try simp at hg4'
       exfalso; simp [hyn] at hg4
     ·intro hg3; have hg3' := hg3; try simp at hg3'
      exfalso; simp [hjn] at hg3
    ·intro hg2; have hg2' := hg2; try simp at hg2'
   ·have hb2' := hb2; try simp at hb2'
    have hff : (fineB (trOf cs hs) (st : Int) (rc : Int)) (freeT (trOf cs hs)) = true := hfin.1 (by omega)
    refine hc_skip (then_n (hc_seq (hc_seq (hc_region (r_assign rfl rfl (hl_nil (then_n (hc_block ?_))))))))
    refine hc_loop (β := Nat) ⟨fun m => ∀ q, q < m → growQ (fineB (trOf cs hs) (st : Int) (rc : Int)) q [] (freeT (trOf cs hs)) = none, fun m => [(4, .pointer (some ⟨gT, 0, none⟩)), (5, int (st : Int)), (6, int (rc : Int)), (7, .slice y.2.1 y.1.length y.2.2), (8, int (if (joinT (trOf cs hs) (st : Int) (rc : Int)).isSome = false then (11 : Int) else 0)), (9, .slice FA fp.length fc), (12, int m)], fun _ => [], fun _ => [Rows2 y.2.1 y.1, Rows2 FA fp, Blk gT (.cells #[.slice CA cs.length ca, .slice HB hs.length cb] T.api_Trades (0, 0)), Row CA (rows cs), RowsF HB hs Hd.row]⟩ (fun m => fp.length + 1 - m) 0 (fun q hq => by omega) ⟨rfl, rfl, rfl, rfl, rfl, rfl, rfl, trivial⟩ (List.nil_sublist _) ⟨(by repeat constructor), (by repeat constructor), (by repeat constructor), (by repeat constructor), (by repeat constructor), trivial⟩ fun m hm0 => ?_
    simp only at hm0
    refine hc_seq (hc_seq (hc_region (r_move rfl rfl (r_move rfl rfl ?_))))
    refine r_len_sl rfl T.u_intss rfl ?_
    refine r_leq rfl rfl rfl (hl_nil (then_n ?_))
    refine c_dec rfl (fun hb3 => ?_) (fun hb3 => ?_)
    ·have hb3' := hb3; try simp at hb3'
     have hmf : m ≤ fp.length := by omega
     refine hc_skip (then_n (hc_seq (hc_block (hc_seq (hc_region (r_move rfl rfl ?_))))))
     refine r_len_sl rfl T.u_intss rfl ?_
     refine r_move rfl rfl ?_
     refine hl_call F.kit_Subsets_cb rfl rfl (kit_Subsets_meets fp.length m (by omega) (by omega)) (List.Perm.refl _) trivial fun z hz => ?_
     obtain ⟨zp, ZA, zc⟩ := z
     have hzp : lsts zp = combos m (upI 0 (freeT (trOf cs hs)).length) := by rw [← hfl]; exact hz
     clear hz
     have hzl : zp.length = (combos m (freeT (trOf cs hs))).length := by have h9 := congrArg List.length hzp; rw [lsts_len] at h9; rw [combos_at, List.length_map]; exact h9
     have hzb := combos_pow (freeT (trOf cs hs)) m
     have hzc : zp.length ≤ 65536 := by have h9 : 2 ^ (freeT (trOf cs hs)).length ≤ 2 ^ 16 := Nat.pow_le_pow_right (by decide) hf16; omega
     refine r_assign rfl rfl (hl_nil (then_n (hc_seq (hc_region (r_assign rfl rfl (hl_nil (then_n (hc_block ?_))))))))
     refine hc_loop (β := Nat) ⟨fun i => i ≤ zp.length ∧ ((combos m (freeT (trOf cs hs))).take i).find? (fineB (trOf cs hs) (st : Int) (rc : Int)) = none, fun i => [(4, .pointer (some ⟨gT, 0, none⟩)), (5, int (st : Int)), (6, int (rc : Int)), (7, .slice y.2.1 y.1.length y.2.2), (8, int (if (joinT (trOf cs hs) (st : Int) (rc : Int)).isSome = false then (11 : Int) else 0)), (9, .slice FA fp.length fc), (12, int (m : Int)), (13, .slice ZA zp.length zc), (14, int i)], fun _ => [], fun _ => Rows2 ZA zp :: [Rows2 y.2.1 y.1, Rows2 FA fp, Blk gT (.cells #[.slice CA cs.length ca, .slice HB hs.length cb] T.api_Trades (0, 0)), Row CA (rows cs), RowsF HB hs Hd.row]⟩ (fun i => zp.length - i) 0 ⟨Nat.zero_le _, rfl⟩ ⟨rfl, rfl, rfl, rfl, rfl, rfl, rfl, rfl, rfl, trivial⟩ (List.nil_sublist _) ⟨(by repeat constructor), (by repeat constructor), (by repeat constructor), (by repeat constructor), (by repeat constructor), (by repeat constructor), trivial⟩ fun i hi => ?_
     obtain ⟨hi, hnone⟩ := hi
     refine hc_seq (hc_seq (hc_region (r_move rfl rfl (r_move rfl rfl ?_))))
     refine r_len_sl rfl T.u_intss rfl ?_
     refine r_lss rfl rfl rfl (hl_nil (then_n ?_))
     refine c_dec rfl (fun hb4 => ?_) (fun hb4 => ?_)
     ·have hb4' := hb4; try simp at hb4'
      have hi2 : i < zp.length := by omega
      have hqi : (zp.getD i default).l ∈ combos m (upI 0 (freeT (trOf cs hs)).length) := by rw [← hzp]; exact List.mem_map_of_mem (getD_mem hi2)
      have hql : (zp.getD i default).l.length = m := combos_size hqi
      have hqb : ∀ z ∈ (zp.getD i default).l, (0 : Int) ≤ z ∧ z < ((freeT (trOf cs hs)).length : Int) := fun z hz => by have h9 := upI_mem ((combos_sub hqi).subset hz); omega
      have hbq : ((combos m (freeT (trOf cs hs))).getD i default) = (zp.getD i default).l.map (atI (freeT (trOf cs hs))) := by rw [← lsts_at zp hi2, hzp, combos_at m (freeT (trOf cs hs)), getD_map (by rw [← hzp, lsts_len]; exact hi2)]; rfl
      have hbin : ((combos m (freeT (trOf cs hs))).getD i default) ∈ combos m (freeT (trOf cs hs)) := getD_mem (by omega)
      have hbsub := combos_sub hbin
      refine hc_skip (then_n (hc_seq (hc_block (hc_seq (hc_region (r_assign rfl rfl (hl_nil (then_n (hc_seq (hc_seq (hc_region ?_)))))))))))
      refine r_assign rfl rfl (hl_nil (then_n (hc_block ?_)))
      refine hc_loop (β := Nat × OutC × Hp) ⟨fun x => x.1 ≤ m ∧ Grow T.ints 1 x.2.1.1 (rfs fp ((zp.getD i default).l.take x.1)).length x.2.1.2 (rows (rfs fp ((zp.getD i default).l.take x.1))) x.2.2, fun x => [(4, .pointer (some ⟨gT, 0, none⟩)), (5, int (st : Int)), (6, int (rc : Int)), (7, .slice y.2.1 y.1.length y.2.2), (8, int (if (joinT (trOf cs hs) (st : Int) (rc : Int)).isSome = false then (11 : Int) else 0)), (9, .slice FA fp.length fc), (12, int (m : Int)), (13, .slice ZA zp.length zc), (14, int i), (15, .slice x.2.1.1 (rfs fp ((zp.getD i default).l.take x.1)).length x.2.1.2), (16, int x.1)], fun x => x.2.2, fun _ => Rows2 ZA zp :: [Rows2 y.2.1 y.1, Rows2 FA fp, Blk gT (.cells #[.slice CA cs.length ca, .slice HB hs.length cb] T.api_Trades (0, 0)), Row CA (rows cs), RowsF HB hs Hd.row]⟩ (fun x => m - x.1) (0, (none, 0), []) ⟨Nat.zero_le _, Grow.nil _ _⟩ ⟨rfl, rfl, rfl, rfl, rfl, rfl, rfl, rfl, rfl, rfl, rfl, trivial⟩ (List.nil_sublist _) ⟨(by repeat constructor), (by repeat constructor), (by repeat constructor), (by repeat constructor), (by repeat constructor), (by repeat constructor), trivial⟩ fun x hx => ?_
      obtain ⟨k, ⟨na, nc⟩, og⟩ := x
      obtain ⟨hk, hG⟩ := hx
      simp only at hk hG
      have hrl := rfs_len (fp := fp) (q := (zp.getD i default).l) (k := k) (by omega)
      refine hc_seq (hc_seq (hc_region (r_move rfl rfl (r_move rfl rfl (r_lss rfl rfl rfl (hl_nil (then_n ?_)))))))
      refine c_dec rfl (fun hb5 => ?_) (fun hb5 => ?_)
      ·have hb5' := hb5; try simp at hb5'
       have hk2 : k < (zp.getD i default).l.length := by omega
       have hzk := hqb _ (getD_mem hk2)
       have hrs := rfs_succ (fp := fp) hk2
       refine hc_skip (then_n (hc_seq (hc_block (hc_region (r_move rfl rfl (r_move rfl rfl (r_move rfl rfl (r_move rfl rfl ?_))))))))
       refine hl_outer (A := ZA) (ps := zp) (by repeat constructor) ?_
       refine r_elem (α := Sl Int) zp i rfl T.u_intss T.sz_ints rfl rfl rfl (by repeat constructor) rfl hi2 (by decide) ?_
       refine r_load (v := .slice (zp.getD i default).a (zp.getD i default).l.length (zp.getD i default).c) rfl T.cell_ints rfl (cell_row (by repeat constructor) (rows_get0 hi2 rfl)) ?_
       refine r_move rfl rfl ?_
       refine hl_inner (A := ZA) (ps := zp) (p := (zp.getD i default)) (by repeat constructor) (getD_mem hi2) ?_
       refine r_elem (α := Int) (zp.getD i default).l k rfl T.u_ints T.sz_int rfl rfl rfl (by repeat constructor) rfl hk2 (by decide) ?_
       refine r_load (v := int ((zp.getD i default).l.getD k default)) rfl T.cell_int rfl (cell_row (by repeat constructor) (rows_get0 hk2 rfl)) ?_
       refine hl_outer (A := FA) (ps := fp) (by repeat constructor) ?_
       refine r_elem (α := Sl Int) fp ((zp.getD i default).l.getD k default).toNat rfl T.u_intss T.sz_ints rfl rfl (Int.toNat_of_nonneg hzk.1).symm (by repeat constructor) rfl (by omega) (by decide) ?_
       refine r_load (v := .slice (fp.getD ((zp.getD i default).l.getD k default).toNat default).a (fp.getD ((zp.getD i default).l.getD k default).toNat default).l.length (fp.getD ((zp.getD i default).l.getD k default).toNat default).c) rfl T.cell_ints rfl (cell_row (by repeat constructor) (rows_get0 (by omega) rfl)) ?_
       refine r_buildSlice _ rfl rfl (fun _ => T.bs_intss_1 ..) fun gS => ?_
       refine hl_letgo (rows [(fp.getD ((zp.getD i default).l.getD k default).toNat default)]) (List.prefix_refl _) ?_
       refine r_append (hp' := []) ((rfs fp ((zp.getD i default).l.take k)).length + 1) (rows ((rfs fp ((zp.getD i default).l.take k)) ++ [(fp.getD ((zp.getD i default).l.getD k default).toNat default)])) T.el_intss rfl rfl rfl hG (by first | (rw [List.append_nil]; done) | (rw [List.append_nil]; exact List.Perm.refl _)) (Src.row (news := rows [(fp.getD ((zp.getD i default).l.getD k default).toNat default)]) (m := 1) m0 rfl (rows_one _) (by decide)) rfl (rows_append _ _).symm (by unfold maxLen; omega) (by omega) fun A' c' og' hG' => ?_
       refine r_assign rfl rfl (hl_nil (inb_n (then_n (hc_region (r_move rfl rfl ?_)))))
       refine r_add _ rfl rfl rfl rfl (by unfold I64; omega) ?_
       refine r_assign rfl rfl (hl_nil ?_)
       exact again _ (k + 1, (A', c'), og') ⟨by show k + 1 ≤ m; omega, by show Grow _ _ _ (rfs fp ((zp.getD i default).l.take (k + 1))).length _ (rows (rfs fp ((zp.getD i default).l.take (k + 1)))) _; rw [hrs, List.length_append]; exact hG'⟩ (by show m - (k + 1) < m - k; omega) ⟨rfl, rfl, rfl, rfl, rfl, rfl, rfl, rfl, rfl, by show some (Value.slice A' ((rfs fp ((zp.getD i default).l.take k)).length + 1) c') = some (Value.slice A' (rfs fp ((zp.getD i default).l.take (k + 1))).length c'); rw [hrs, List.length_append]; rfl, rfl, trivial⟩ (by first | exact List.Sublist.refl _ | (rw [List.append_nil]; exact List.Sublist.refl _)) ⟨(by repeat constructor), (by repeat constructor), (by repeat constructor), (by repeat constructor), (by repeat constructor), (by repeat constructor), trivial⟩
      ·have hb5' := hb5; try simp at hb5'
       obtain rfl : k = m := by omega
       refine hc_exit (then_exit (then_exit (inb_hit (then_n (hc_seq ?_)))))
       have htq : (zp.getD i default).l.take k = (zp.getD i default).l := by rw [← hql]; exact List.take_length
       have hrp : lsts (rfs fp ((zp.getD i default).l.take k)) = pairsOf ((combos k (freeT (trOf cs hs))).getD i default) := by rw [htq, rfs_lst hfp hqb, hbq]
       have hrin : ∀ p ∈ (rfs fp ((zp.getD i default).l.take k)), p ∈ fp := by rw [htq]; exact rfs_in fun z hz => by rw [hfl]; exact hqb z hz
       refine hc_grown0 hG ?_
       refine hc_rows2_sub (A := na) (A' := FA) (ps := fp) (qs := (rfs fp ((zp.getD i default).l.take k))) (by repeat constructor) (by repeat constructor) hrin ?_
       have hbl := ps_len hrp
       have hb36 : ((combos k (freeT (trOf cs hs))).getD i default).length ≤ 36 := by have h9 := hbsub.length_le; omega
       refine hc_region ?_
       refine r_loadB rfl T.row_api_Trades T.sz_api_Trades rfl (by repeat constructor) (by rfl) ?_
       refine r_move rfl rfl ?_
       refine hl_call F.law04_added_cb rfl rfl (law04_added_is (A := CA) (B := HB) (ca := ca) (cb := cb) (R := na) (rc := nc) cs hs ((combos k (freeT (trOf cs hs))).getD i default) (rfs fp ((zp.getD i default).l.take k)) hrp (fun r hr => hbsub.subset hr) ((free_nodup _).sublist hbsub) hb36 hok hpos hca hcb ha) (List.Perm.refl _) ⟨(by repeat constructor), (by repeat constructor), (by repeat constructor), trivial⟩ fun x hx => ?_
       change Adds cs hs ((combos k (freeT (trOf cs hs))).getD i default) x.1 ∧ cs.length ≤ x.2.1.2 ∧ x.1.length ≤ x.2.2.2 at hx
       refine r_move rfl rfl (r_move rfl rfl ?_)
       refine hl_call F.trade_Hidden_cb rfl rfl (hidden_is (A := x.2.1.1) (B := x.2.2.1) (ca := x.2.1.2) (cb := x.2.2.2) cs x.1 (st : Int) (rc : Int) hx.2.1 hx.2.2 hx.1.ha (tr_mk hx.1.ok) (by rw [hs_len, hx.1.len]; omega) (by omega)) (List.Perm.refl _) ⟨(by repeat constructor), (by repeat constructor), trivial⟩ fun w hw => ?_
       refine r_move rfl rfl (r_extract rfl rfl rfl (r_extract rfl rfl rfl (r_assign rfl rfl (r_assign rfl rfl (hl_nil (then_n (hc_seq (hc_seq ?_))))))))
       have hfin2 := hid_fine hx.1 (h := st) (s := rc) (by omega)
       refine hc_region (r_move rfl rfl (r_neq rfl rfl rfl (hl_nil (then_n ?_))))
       refine c_dec rfl (fun hb6 => ?_) (fun hb6 => ?_)
       ·have hb6' := hb6; try simp at hb6'
       ·have hb6' := hb6; try simp at hb6'
        refine hc_skip (then_n (hc_seq (hc_region (r_move rfl rfl ?_))))
        refine r_len_sl rfl T.u_ints rfl ?_
        refine r_eql rfl rfl rfl (hl_nil (then_n ?_))
        refine c_dec rfl (fun hb7 => ?_) (fun hb7 => ?_)
        ·have hb7' := hb7; try simp at hb7'
         have hbf : (fineB (trOf cs hs) (st : Int) (rc : Int)) ((combos k (freeT (trOf cs hs))).getD i default) = true := hfin2.1 (by omega)
         have hgr : growQ (fineB (trOf cs hs) (st : Int) (rc : Int)) k [] (freeT (trOf cs hs)) = some ((combos k (freeT (trOf cs hs))).getD i default) := by rw [growQ_all]; exact find_here (by omega) hnone hbf
         have hjs : (joinT (trOf cs hs) (st : Int) (rc : Int)) = some ((combos k (freeT (trOf cs hs))).getD i default) := join_at hff (by omega) hm0 hgr
         have hye : lsts y.1 = lsts (rfs fp ((zp.getD i default).l.take k)) := by rw [hy1, hjs, hrp]; rfl
         have hbd := pairs_bd (b := ((combos k (freeT (trOf cs hs))).getD i default)) (by rw [hye]; exact hrp)
         refine hc_seq (hc_region (r_move rfl rfl (r_eql rfl rfl rfl (r_move rfl rfl ?_))))
         refine g_split rfl rfl ?_ ?_
         ·intro hg5; have hg5' := hg5; try simp at hg5'
          refine g_yes rfl rfl hg5 (r_move rfl rfl (g_yes rfl rfl hg5 (r_move rfl rfl (g_yes rfl rfl hg5 ?_))))
          refine hl_call F.kit_EqLists_cb rfl rfl (kit_EqLists_meets y.1 (rfs fp ((zp.getD i default).l.take k)) (by omega) (fun p hp => by have h9 := hbd.2 p hp; omega)) (List.Perm.refl _) ⟨(by repeat constructor), (by repeat constructor), trivial⟩ fun _ _ => ?_
          refine p_t rfl rfl (bt1 hg5) rfl ?_
          refine r_move rfl rfl ?_
          refine g_split rfl rfl ?_ ?_
          ·intro hg6; have hg6' := hg6; try simp at hg6'
           refine g_yes rfl rfl hg6 ?_
           refine hl_call F.law04_indexed_cb rfl rfl (law04_indexed_meets) (List.Perm.refl _) trivial fun _ _ => ?_
           refine p_t rfl rfl (bt1 hg6) rfl ?_
           refine r_assign rfl rfl (hl_nil (then_n (hc_ret (inb_ret (then_ret (then_ret (inb_ret (inb_ret (then_ret (then_ret (inb_ret ?_)))))))))))
           refine then_ret ?_
           exact ret1 () rfl rfl rfl trivial (List.nil_sublist _) trivial
          ·intro hg6; have hg6' := hg6; try simp at hg6'
           exfalso; simp [hye] at hg6
         ·intro hg5; have hg5' := hg5; try simp at hg5'
          exfalso; simp [hjs] at hg5
        ·have hb7' := hb7; try simp at hb7'
         have hbf : (fineB (trOf cs hs) (st : Int) (rc : Int)) ((combos k (freeT (trOf cs hs))).getD i default) = false := by
           cases e : (fineB (trOf cs hs) (st : Int) (rc : Int)) ((combos k (freeT (trOf cs hs))).getD i default) with
           | false => rfl
           | true => have h9 := hfin2.2 e; omega
         refine hc_skip (inb_n (then_n (hc_region (r_move rfl rfl ?_))))
         refine r_add _ rfl rfl rfl rfl (by unfold I64; omega) ?_
         refine r_assign rfl rfl (hl_nil ?_)
         exact again _ (i + 1) ⟨by show i + 1 ≤ zp.length; omega, find_cut (by omega) hnone hbf⟩ (by show zp.length - (i + 1) < zp.length - i; omega) ⟨rfl, rfl, rfl, rfl, rfl, rfl, rfl, rfl, rfl, trivial⟩ (List.nil_sublist _) ⟨(by repeat constructor), (by repeat constructor), (by repeat constructor), (by repeat constructor), (by repeat constructor), (by repeat constructor), trivial⟩
     ·have hb4' := hb4; try simp at hb4'
      obtain rfl : i = zp.length := by omega
      rw [hzl, List.take_length] at hnone
      have hgm : growQ (fineB (trOf cs hs) (st : Int) (rc : Int)) m [] (freeT (trOf cs hs)) = none := by rw [growQ_all]; exact hnone
      refine hc_exit (then_exit (then_exit (inb_hit (inb_n (then_n (hc_region (r_move rfl rfl ?_)))))))
      refine r_add _ rfl rfl rfl rfl (by unfold I64; omega) ?_
      refine r_assign rfl rfl (hl_nil ?_)
      exact again _ (m + 1) (fun q hq => by rcases Nat.lt_or_ge q m with h9 | h9; exact hm0 q h9; rw [show q = m by have hq : q < m + 1 := hq; omega]; exact hgm) (by show fp.length + 1 - (m + 1) < fp.length + 1 - m; omega) ⟨rfl, rfl, rfl, rfl, rfl, rfl, rfl, trivial⟩ (List.nil_sublist _) ⟨(by repeat constructor), (by repeat constructor), (by repeat constructor), (by repeat constructor), (by repeat constructor), trivial⟩
    ·exact (join_end hff fun q hq => hm0 q (by omega)).elim
  ·intro hg1; have hg1' := hg1; try simp at hg1'

end Go.Proofs.YtlpgheniajdkfaaGreat
