/- The walk of the statement TradeMore. -/
import Derived.Test.YtlpgheniajdkfaaPbp
import Derived.Test.YtlpgheniajdkfaaPbq
namespace Go.Proofs.Ytlpgheniajdkfaa
open Go Go.W
set_option linter.unusedVariables false
set_option linter.unusedSimpArgs false
set_option maxRecDepth 20000
attribute [local irreducible] HL HC HQ HB Row Rows2 Blk Facts

theorem cls_mk {cs : List Cl} {i : Nat} (h : ClsOK cs i) (hi : i < cs.length) : clsErr cs i = 0 := by
  have h1 := h.lo
  have h2 := h.hi
  unfold clsErr
  rw [if_neg (by rw [h.w]; decide), if_neg h.n, if_neg (by omega), if_neg (by omega)]
theorem head_mk {t : Tr} {i : Nat} (h : HeadOK t i) : headErr t i = 0 := by
  have h1 := h.c
  have h2 := h.s
  have h3 := firstE_all (n := (t.hs.getD i default).2.2.2.length) h.a
  unfold headErr
  rw [if_neg (by rw [h.w]; decide), if_neg h.n, if_neg h.o, if_neg (by omega), if_neg h2.2.2, if_neg (not_not_intro h3), if_neg (by rw [h.k]; decide)]
/-- What is in order is valid. -/
theorem tr_mk {t : Tr} (h : TrOK t) : checkT t = 0 := by
  have h1 := h.c6
  have h2 := h.h6
  unfold checkT
  rw [if_neg (by omega), if_neg (not_not_intro (firstE_all fun i hi => cls_mk (h.c i hi) hi))]
  exact firstE_all fun i hi => head_mk (h.h i hi)
theorem getD_set {α : Type} [Inhabited α] {l : List α} {i j : Nat} {a : α} (hi : i < l.length) : (l.set i a).getD j default = if j = i then a else l.getD j default := by
  rw [List.getD_eq_getElem?_getD, List.getElem?_set, List.getD_eq_getElem?_getD]
  by_cases e1 : i = j
  · subst e1; rw [if_pos rfl, if_pos rfl, if_pos hi]; rfl
  · rw [if_neg e1, if_neg (fun e2 => e1 e2.symm)]
section
variable {cs : List Cl} {hs hs' : List Hd} {i k : Nat}
theorem add_len (hA : AddOK hs i k hs') : hs'.length = hs.length := by
  have := congrArg List.length hA
  simpa using this
theorem add_at (hf : FreeP hs i k) (hA : AddOK hs i k hs') (j : Nat) : (trOf cs hs').hs.getD j default = if j = i then addP hs i k else (trOf cs hs).hs.getD j default := by
  show (hs'.map Hd.p).getD j default = if j = i then addP hs i k else (hs.map Hd.p).getD j default
  rw [show hs'.map Hd.p = _ from hA]
  exact getD_set (by rw [List.length_map]; exact hf.il)
theorem p_i (hf : FreeP hs i k) : (trOf cs hs).hs.getD i default = (hs.getD i default).p := hd_get hf.il
theorem add_same (hf : FreeP hs i k) (hA : AddOK hs i k hs') (j : Nat) : ((trOf cs hs').hs.getD j default).1 = ((trOf cs hs).hs.getD j default).1 ∧ ((trOf cs hs').hs.getD j default).2.1 = ((trOf cs hs).hs.getD j default).2.1 ∧ ((trOf cs hs').hs.getD j default).2.2.1 = ((trOf cs hs).hs.getD j default).2.2.1 := by
  rw [add_at (cs := cs) hf hA]
  by_cases e : j = i
  · subst e; rw [if_pos rfl, p_i hf]; exact ⟨rfl, rfl, rfl⟩
  · rw [if_neg e]; exact ⟨rfl, rfl, rfl⟩
theorem add_names (hf : FreeP hs i k) (hA : AddOK hs i k hs') (m : Nat) : ((trOf cs hs').hs.take m).map (·.1) = ((trOf cs hs).hs.take m).map (·.1) := by
  have h : (hs'.map Hd.p).map (·.1) = (hs.map Hd.p).map (·.1) := by
    rw [show hs'.map Hd.p = _ from hA, List.map_set]
    refine List.ext_getElem (by simp) fun j h1 h2 => ?_
    rw [List.getElem_set]
    split
    · rename_i e
      subst e
      rw [List.getElem_map, List.getElem_map]
      show (hs.getD i default).1 = (Hd.p (hs[i]'hf.il)).1
      rw [getD_at hf.il]
      rfl
    · rfl
  show ((hs'.map Hd.p).take m).map (·.1) = ((hs.map Hd.p).take m).map (·.1)
  rw [List.map_take, List.map_take, h]
theorem also_in (hok : TrOK (trOf cs hs)) (hi : i < hs.length) {x : Int} (hx : x ∈ (hs.getD i default).2.2.2.l) : 0 ≤ x ∧ x < (hs.length : Int) ∧ ¬ x = (i : Int) := by
  have hh := (hok.h i (by rw [hs_len]; exact hi)).a
  rw [show (trOf cs hs).hs.getD i default = (hs.getD i default).p from hd_get hi, hs_len] at hh
  obtain ⟨j, hj, rfl⟩ := List.getElem_of_mem hx
  have h1 := also_ok (hh j hj)
  rw [show (hs.getD i default).p.2.2.2.getD j default = (hs.getD i default).2.2.2.l[j] from getD_at hj] at h1
  exact ⟨h1.1, h1.2.1, h1.2.2.1⟩
theorem alsoK_mem {m : Nat} {x : Int} : x ∈ alsoK hs i k m ↔ ∃ j : Nat, j < m ∧ x = (j : Int) ∧ aB hs i k j = true := by
  unfold alsoK
  rw [List.mem_map]
  constructor
  · rintro ⟨j, hj, rfl⟩
    rw [List.mem_filter, List.mem_range] at hj
    exact ⟨j, hj.1, rfl, hj.2⟩
  · rintro ⟨j, hj, rfl, hb⟩
    exact ⟨j, List.mem_filter.2 ⟨List.mem_range.2 hj, hb⟩, rfl⟩
theorem alsoK_asc (m : Nat) : (alsoK hs i k m).Pairwise (· < ·) := by
  unfold alsoK
  refine List.pairwise_map.2 ((List.pairwise_lt_range.filter _).imp fun h => ?_)
  omega
/-- With one reference more the trades are valid still. -/
theorem add_ok (hok : TrOK (trOf cs hs)) (hf : FreeP hs i k) (hA : AddOK hs i k hs') : TrOK (trOf cs hs') := by
  have hln := hs_len cs hs
  have hln' : (trOf cs hs').hs.length = (trOf cs hs).hs.length := by rw [hs_len, hs_len, add_len hA]
  refine ⟨hok.c6, by rw [hln']; exact hok.h6, hok.c, fun j hj => ?_⟩
  rw [hln'] at hj
  have hj0 := hok.h j hj
  have hs1 := add_same (cs := cs) hf hA j
  have hs2 := add_same (cs := cs) hf hA (j - 1)
  refine ⟨by rw [hs1.1]; exact hj0.w, by rw [hs1.1, add_names hf hA]; exact hj0.n, by rw [hs1.1, hs2.1]; exact hj0.o, by rw [hs1.2.1]; exact hj0.c, by rw [hs1.2.2, hln']; exact hj0.s, ?_, ?_⟩
  · rw [add_at (cs := cs) hf hA, hln']
    by_cases e : j = i
    · subst e
      rw [if_pos rfl]
      intro q hq
      show alsoErr _ _ (alsoK hs j k hs.length) q = 0
      have hq' : q < (alsoK hs j k hs.length).length := hq
      have hin : ∀ x ∈ alsoK hs j k hs.length, 0 ≤ x ∧ x < (hs.length : Int) ∧ ¬ x = (j : Int) := fun x hx => by
        obtain ⟨r, hr, rfl, hb⟩ := alsoK_mem.1 hx
        unfold aB at hb
        rw [Bool.or_eq_true, decide_eq_true_eq, decide_eq_true_eq] at hb
        refine ⟨by omega, by omega, fun e1 => ?_⟩
        rcases hb with h1 | h1
        · have := hf.ne; omega
        · exact (also_in hok hf.il h1).2.2 e1
      have h1 := hin _ (getD_mem hq')
      unfold alsoErr
      rw [if_neg (by rw [hln]; omega), if_neg h1.2.2, if_neg]
      rintro ⟨h0, hle⟩
      have h2 := List.pairwise_iff_getElem.1 (alsoK_asc (hs := hs) (i := j) (k := k) hs.length) (q - 1) q (by omega) hq' (by omega)
      rw [← getD_at hq', ← getD_at (show q - 1 < (alsoK hs j k hs.length).length by omega)] at h2
      omega
    · rw [if_neg e]; exact hj0.a
  · rw [add_at (cs := cs) hf hA]
    by_cases e : j = i
    · subst e
      rw [if_pos rfl]
      have h1 := hj0.s
      rw [p_i hf] at h1
      have h3 : (hs.getD j default).2.2.1 = -1 := by
        have h4 := hf.s
        have h5 : -1 ≤ (hs.getD j default).2.2.1 := h1.1
        omega
      have h6 : 0 < (alsoK hs j k hs.length).length := List.length_pos_iff.2 (List.ne_nil_of_mem (alsoK_mem.2 ⟨k, hf.kl, rfl, by unfold aB; rw [decide_eq_true rfl, Bool.true_or]⟩))
      unfold kindBad
      show ((decide (¬ (hs.getD j default).2.2.1 = -1) && _) || (decide ((hs.getD j default).2.2.1 = -1) && (decide ((hs.getD j default).2.1 = -1) && decide ((alsoK hs j k hs.length).length = 0)))) = false
      rw [h3, decide_eq_false (show ¬ (alsoK hs j k hs.length).length = 0 by omega), Bool.and_false, Bool.and_false, Bool.or_false]
      rfl
    · rw [if_neg e]; exact hj0.k
theorem add_next (hf : FreeP hs i k) (hA : AddOK hs i k hs') {x y : Nat} (hy : y < hs.length) (h : nextB (trOf cs hs) x y = true) : nextB (trOf cs hs') x y = true := by
  unfold nextB at h ⊢
  rw [Bool.or_eq_true, decide_eq_true_eq, decide_eq_true_eq] at h ⊢
  rcases h with h | h
  · left; rw [(add_same (cs := cs) hf hA x).2.2]; exact h
  · right
    rw [add_at (cs := cs) hf hA]
    by_cases e : x = i
    · subst e
      rw [if_pos rfl]
      rw [p_i hf] at h
      exact alsoK_mem.2 ⟨y, hy, rfl, by unfold aB; rw [decide_eq_true (show (y : Int) ∈ (hs.getD x default).2.2.2.l from h), Bool.or_true]⟩
    · rw [if_neg e]; exact h
theorem add_is (hf : FreeP hs i k) (hA : AddOK hs i k hs') (j : Int) : isTrB (trOf cs hs') j = isTrB (trOf cs hs) j := by
  unfold isTrB
  have h := add_same (cs := cs) hf hA j.toNat
  rw [h.2.1, h.2.2]
end
theorem add_ha {hs hs' : List Hd} {i k : Nat} (h6h : hs.length ≤ 6) (ha : ∀ h ∈ hs, h.2.2.2.l.length ≤ 1000000) (hA : AddOK hs i k hs') : ∀ h ∈ hs', h.2.2.2.l.length ≤ 1000000 := by
  intro h hh
  have h1 : h.p ∈ hs'.map Hd.p := List.mem_map.2 ⟨h, hh, rfl⟩
  rw [show hs'.map Hd.p = _ from hA] at h1
  rcases List.mem_or_eq_of_mem_set h1 with h2 | h2
  · obtain ⟨q, hq, e⟩ := List.mem_map.1 h2
    have h3 := ha q hq
    rw [show h.2.2.2.l = q.2.2.2.l from (congrArg (fun z : PH => z.2.2.2) e).symm]
    exact h3
  · rw [show h.2.2.2.l = alsoK hs i k hs.length from congrArg (fun z : PH => z.2.2.2) h2]
    have := alsoK_len hs i k hs.length
    omega
theorem reach_more {n : Nat} {e e' : Edges} {h : Nat} (he : ∀ x y, y < n → e x y = true → e' x y = true) : ∀ (s i : Nat), i < n → reachB n e h s i = true → reachB n e' h s i = true
  | 0, i, _, hr => hr
  | s + 1, i, hi, hr => by
    rcases reach_succ.1 hr with h1 | ⟨k, h1, h2, h3⟩
    · exact reach_succ.2 (.inl (reach_more he s i hi h1))
    · exact reach_succ.2 (.inr ⟨k, h1, reach_more he s k h1 h2, he k i hi h3⟩)
theorem dist_more {n : Nat} {e e' : Edges} {h i : Nat} (hh : h < n) (hi : i < n) (he : ∀ x y, y < n → e x y = true → e' x y = true) (h0 : 0 ≤ distI n e h i) : 0 ≤ distI n e' h i ∧ distI n e' h i ≤ distI n e h i := by
  have hr := (dist_le (e := e) hh hi (distI n e h i).toNat).1 ⟨h0, by omega⟩
  have h1 := (dist_le (e := e') hh hi (distI n e h i).toNat).2 (reach_more he _ i hi hr)
  omega
theorem hidden_mem {t : Tr} {h s : Int} {j : Nat} : (j : Int) ∈ hiddenT t h s ↔ j < t.hs.length ∧ hiB t h s j = true := by
  unfold hiddenT hiK
  rw [List.mem_map]
  constructor
  · rintro ⟨q, hq, e⟩
    rw [List.mem_filter, List.mem_range] at hq
    obtain rfl : q = j := by omega
    exact hq
  · rintro ⟨h1, h2⟩
    exact ⟨j, List.mem_filter.2 ⟨List.mem_range.2 h1, h2⟩, rfl⟩
theorem steps_get {t : Tr} {h i : Nat} (hi : i < t.hs.length) : (stepsT t (h : Int)).getD i default = distI t.hs.length (nextB t) h i := by
  unfold stepsT
  rw [getD_at (by rw [List.length_map, List.length_range]; exact hi), List.getElem_map, List.getElem_range, Int.toNat_natCast]
/-- What is hidden with one reference more was hidden before. -/
theorem add_hidden {cs : List Cl} {hs hs' : List Hd} {i k st : Nat} {s : Int} {j : Nat} (hst : st < hs.length) (hf : FreeP hs i k) (hA : AddOK hs i k hs') (hj : (j : Int) ∈ hiddenT (trOf cs hs') (st : Int) s) : (j : Int) ∈ hiddenT (trOf cs hs) (st : Int) s := by
  rw [hidden_mem] at hj ⊢
  have hl := add_len hA
  rw [hs_len, hl] at hj
  rw [hs_len]
  refine ⟨hj.1, ?_⟩
  have h1 := hj.2
  unfold hiB at h1 ⊢
  rw [Bool.and_eq_true, add_is hf hA, steps_get (by rw [hs_len, hl]; exact hj.1)] at h1
  rw [Bool.and_eq_true, steps_get (by rw [hs_len]; exact hj.1)]
  refine ⟨h1.1, ?_⟩
  have h2 := h1.2
  rw [Bool.not_eq_true', decide_eq_false_iff_not] at h2 ⊢
  rintro ⟨h3, h4⟩
  rw [hs_len] at h3 h4
  rw [hs_len, hl] at h2
  have h5 := dist_more (e := nextB (trOf cs hs)) (e' := nextB (trOf cs hs')) hst hj.1 (fun x y hy => add_next hf hA hy) h3
  exact h2 ⟨h5.1, by omega⟩

set_option maxHeartbeats 2000000 in
theorem law04_TradeMore_meets {A : Option Addr} {c0 : Nat} (nums : List Int) (hn : nums.length ≤ 9223372036854775807) : Meets Try.prog F.law04_TradeMore [.slice A nums.length c0] { LI := [Row A (rows nums)], val := fun _ : Unit => .bool true } := by
 refine meets_intro F.law04_TradeMore_f rfl (Nat.le_of_ble_eq_true rfl) fun w0 => ?_
 refine hc_seq ?_
 refine hc_region ?_
 refine r_assign rfl rfl ?_
 refine hl_nil ?_
 refine then_n ?_
 refine hc_seq ?_
 refine hc_region ?_
 refine r_move rfl rfl ?_
 refine hl_call F.kit_NewDice_cb rfl rfl (kit_NewDice_meets nums) (List.Perm.refl _) ⟨(by repeat constructor), trivial⟩ fun g _ => ?_
 refine r_assign rfl rfl ?_
 refine hl_nil ?_
 refine then_n ?_
 refine hc_seq ?_
 refine hc_region ?_
 refine r_move rfl rfl ?_
 refine hl_call F.kit_TradesOf_cb rfl rfl (kit_TradesOf_meets 2 6 hn (dok0 nums) (by decide) (by decide)) (List.Perm.refl _) ⟨(by repeat constructor), trivial⟩ fun x hx => ?_
 obtain ⟨sd, cs, hs, ⟨CA, ca⟩, ⟨HB, cb⟩⟩ := x
 obtain ⟨hsd, hT⟩ := hx
 have hca : cs.length ≤ ca := hT.ca
 have hcb : hs.length ≤ cb := hT.cb
 have ha : ∀ h ∈ hs, h.2.2.2.l.length ≤ 1000000 := hT.ha
 have hT0 : checkT (trOf cs hs) = 0 := hT.ok
 have hok : TrOK (trOf cs hs) := tr_ok hT0
 clear hT
 have h6 : cs.length ≤ 6 := hok.c6
 have h6h := hok.h6
 have hln := hs_len cs hs
 rw [hln] at h6h
 have hcl : ∀ i, i < cs.length → ClsOK cs i := hok.c
 refine r_alloc rfl (fun _ => T.al_api_Trades _) fun gT => ?_
 refine r_storeS (cs := #[.slice CA cs.length ca, .slice HB hs.length cb]) rfl rfl (.refl _) T.sz_api_Trades (by rfl) (by rfl) ?_
 refine hl_nil ?_
 refine then_n ?_
 refine hc_seq ?_
 refine hc_letgoB ?_
 refine hc_region ?_
 first | refine r_loadA rfl T.row_api_Trades T.sz_api_Trades rfl (by repeat constructor) (by rfl) ?_ | refine r_loadB rfl T.row_api_Trades T.sz_api_Trades rfl (by repeat constructor) (by rfl) ?_ | refine r_loadS rfl T.row_api_Trades T.sz_api_Trades rfl rfl (cells_row (by repeat constructor) (rows_all (by omega))) ?_
 refine hl_call F.law04_free_cb rfl rfl (law04_free_meets cs hs h6h hca hcb ha) (hpR := [_]) (List.Perm.refl _) ⟨(by repeat constructor), (by repeat constructor), trivial⟩ fun x hx => ?_
 obtain ⟨ps, ⟨A5, c5⟩⟩ := x
 obtain ⟨hp36, hpf⟩ := hx
 simp only at hp36 hpf
 refine r_assign rfl rfl ?_
 refine hl_nil ?_
 refine then_n ?_
 refine hc_seq ?_
 refine hc_seq ?_
 refine hc_region ?_
 refine r_move rfl rfl ?_
 refine r_len_sl rfl T.u_intss rfl ?_
 refine r_eql rfl rfl rfl ?_
 refine hl_nil ?_
 refine then_n ?_
 first | refine c_dec rfl (fun hb1 => ?_) (fun hb1 => ?_) | refine hc_cond rfl (fun hb1 => ?_) (fun hb1 => ?_)
 ·have hb1' := hb1; try simp at hb1'
  refine hc_seq ?_
  refine hc_region ?_
  refine hl_call F.law04_indexed_cb rfl rfl (law04_indexed_meets) (hpR := [_]) (List.Perm.refl _) trivial fun _ _ => ?_
  refine r_assign rfl rfl ?_
  refine hl_nil ?_
  refine then_n ?_
  refine hc_ret ?_
  refine then_ret ?_
  exact ret1 () rfl rfl rfl trivial (List.nil_sublist _) trivial
 ·have hb1' := hb1; try simp at hb1'
  have hps0 : 0 < ps.length := by
    have h9 : ¬ ((ps.length : Nat) : Int) = 0 := hb1
    omega
  have hpos : 0 < hs.length := by
    obtain ⟨i, k, _, hf⟩ := hpf _ (getD_mem hps0)
    have := hf.il
    omega
  refine hc_skip ?_
  refine then_n ?_
  refine hc_seq ?_
  refine hc_region ?_
  refine r_move rfl rfl ?_
  first | refine r_fieldAddr ⟨_, 1, none⟩ rfl rfl T.fa_api_Trades_1 rfl ?_ | refine r_fieldAddr _ rfl rfl T.fa_api_Trades_1 rfl ?_
  first | refine r_load rfl T.cell_L_api_Head rfl (cell_own (by repeat constructor) rfl) ?_ | refine r_load rfl T.cell_L_api_Head rfl (cell_blk (by repeat constructor) rfl) ?_ | refine r_load rfl T.cell_L_api_Head rfl (cell_row (by repeat constructor) (rows_get0 (by omega) rfl)) ?_ | refine r_load rfl T.cell_L_api_Head rfl (cell_row_f (by repeat constructor) (rows_get (by omega) rfl)) ?_ | refine r_load rfl T.cell_L_api_Head rfl (cell_rowg (by repeat constructor) rfl) ?_
  refine r_len_sl rfl T.u_L_api_Head rfl ?_
  refine r_sub _ rfl rfl rfl rfl (by unfold I64; omega) ?_
  refine hl_call F.kit_Dice_To_cb rfl rfl (kit_Dice_To_meets ((hs.length : Int) - 1) hn hsd (by omega)) (List.Perm.refl _) ⟨(by repeat constructor), trivial⟩ fun x hx => ?_
  obtain ⟨s5, z5⟩ := x
  obtain ⟨hs5, hz5⟩ := hx
  simp only [ToInv] at hz5
  obtain ⟨st, rfl⟩ := Int.eq_ofNat_of_zero_le hz5.1
  have hst : st < hs.length := by by_cases h1 : (1 : Int) ≤ (hs.length : Int) - 1; have := hz5.2.1 h1; omega; have := hz5.2.2 (by omega); omega
  refine r_move rfl rfl ?_
  refine hl_call F.kit_Dice_To_cb rfl rfl (kit_Dice_To_meets 3 hn hs5 (by omega)) (List.Perm.refl _) ⟨(by repeat constructor), trivial⟩ fun x hx => ?_
  obtain ⟨s6, z6⟩ := x
  obtain ⟨hs6, hz6⟩ := hx
  simp only [ToInv] at hz6
  obtain ⟨rc, rfl⟩ := Int.eq_ofNat_of_zero_le hz6.1
  have hrc : rc ≤ 3 := by by_cases h1 : (1 : Int) ≤ 3; have := hz6.2.1 h1; omega; have := hz6.2.2 (by omega); omega
  refine r_assign rfl rfl ?_
  refine r_assign rfl rfl ?_
  refine hl_nil ?_
  refine then_n ?_
  refine hc_seq ?_
  refine hc_outer (A := A5) (ps := ps) (by repeat constructor) ?_
  refine hc_drawW ([dice g A c0 nums s6]) ([]) (List.Perm.refl _) 12 [6] mixed (by decide) (by decide) (by decide) rfl rfl rfl ?_
  apply hb_ex _ rfl rfl rfl
  ·intro w1
   first | refine r_loadA rfl T.row_api_Trades T.sz_api_Trades rfl (by repeat constructor) (by rfl) ?_ | refine r_loadB rfl T.row_api_Trades T.sz_api_Trades rfl (by repeat constructor) (by rfl) ?_ | refine r_loadS rfl T.row_api_Trades T.sz_api_Trades rfl rfl (cells_row (by repeat constructor) (rows_all (by omega))) ?_
   refine hl_nil ?_
   exact qe_done rfl
  apply hb_ex _ rfl rfl rfl
  ·intro w1
   refine r_move rfl rfl ?_
   refine hl_nil ?_
   exact qe_done rfl
  apply hb_ex _ rfl rfl rfl
  ·intro w1
   refine r_move rfl rfl ?_
   refine hl_nil ?_
   exact qe_done rfl
  apply hb_ex _ rfl rfl rfl
  ·intro w1
   refine r_move rfl rfl ?_
   refine hl_nil ?_
   exact qe_done rfl
  apply hb_ex _ rfl rfl rfl
  ·intro w1
   refine r_len_sl rfl T.u_intss rfl ?_
   refine hl_nil ?_
   exact qe_done rfl
  apply hb_ex _ rfl rfl rfl
  ·intro w1
   refine r_sub ((ps.length : Int) - 1) rfl rfl rfl rfl (by unfold I64; omega) ?_
   refine hl_nil ?_
   exact qe_done rfl
  refine hb_wr ⟨(Int × Int) × Nat, fun x => DOK nums x.1 ∧ x.2 < ps.length, fun x => int (x.2 : Int), fun _ => [], fun x => [dice g A c0 nums x.1]⟩ rfl rfl rfl ?_ ?_
  ·intro w1
   refine hl_call F.kit_Dice_To_cb rfl rfl (kit_Dice_To_meets ((ps.length : Int) - 1) hn hs6 (by omega)) (List.Perm.refl _) ⟨(by repeat constructor), trivial⟩ fun x hx => ?_
   obtain ⟨s7, z7⟩ := x
   obtain ⟨hs7, hz7⟩ := hx
   simp only [ToInv] at hz7
   obtain ⟨q, rfl⟩ := Int.eq_ofNat_of_zero_le hz7.1
   have hq : q < ps.length := by by_cases h1 : (1 : Int) ≤ (ps.length : Int) - 1; have := hz7.2.1 h1; omega; have := hz7.2.2 (by omega); omega
   refine hl_nil ?_
   exact qw_done (s7, q) ⟨hs7, hq⟩ (fun _ => rfl) (List.sublist_append_left _ _) trivial
  refine hb_vs ⟨Nat, fun q => q < ps.length, fun q => .pointer (some ((adr A5).add (q * 1))), fun _ => []⟩ rfl rfl rfl ?_ ?_
  ·intro x6 h6q; intro w1
   refine r_elem (α := Sl Int) ps x6.2 rfl T.u_intss T.sz_ints rfl rfl rfl (by repeat constructor) rfl h6q.2 (by decide) ?_
   refine hl_nil ?_
   exact qv_done x6.2 h6q.2 rfl trivial
  refine hb_vs ⟨Sl Int, fun p => FreeL hs p, fun p => .slice p.a p.l.length p.c, fun p => [Row p.a (rows p.l)]⟩ rfl rfl rfl ?_ ?_
  ·intro q hq; intro w1
   refine hl_inner (A := A5) (ps := ps) (p := ps.getD q default) (by repeat constructor) (getD_mem hq) ?_
   refine r_load (v := .slice (ps.getD q default).a (ps.getD q default).l.length (ps.getD q default).c) rfl T.cell_ints rfl (cell_row (by repeat constructor) (rows_get0 hq rfl)) ?_
   refine hl_nil ?_
   exact qv_done (ps.getD q default) (hpf _ (getD_mem hq)) rfl ⟨m0, trivial⟩
  refine hb_vs ⟨OutC × Sl Int, fun x => FreeL hs x.2, fun x => .slice x.1.1 1 x.1.2, fun x => [Row x.1.1 (rows [x.2]), Row x.2.a (rows x.2.l)]⟩ rfl rfl rfl ?_ ?_
  ·intro p hp; intro w1
   refine r_buildSlice _ rfl rfl (fun _ => T.bs_intss_1 ..) fun gS => ?_
   refine hl_nil ?_
   refine hq_letgo (rows [p]) ⟨[], List.append_nil _⟩ ?_
   exact qv_done ((some ⟨gS, 0, none⟩, 1), p) hp rfl ⟨m0, (by repeat constructor), trivial⟩
  refine hb_vs ⟨(Nat × Nat) × OutA, fun x => FreeP hs x.1.1 x.1.2 ∧ AddOK hs x.1.1 x.1.2 x.2.1 ∧ cs.length ≤ x.2.2.1.2 ∧ x.2.1.length ≤ x.2.2.2.2, fun x => .agg #[.slice x.2.2.1.1 cs.length x.2.2.1.2, .slice x.2.2.2.1 x.2.1.length x.2.2.2.2], fun x => [Row x.2.2.1.1 (rows cs), RowsF x.2.2.2.1 x.2.1 Hd.row]⟩ rfl rfl rfl ?_ ?_
  ·intro x9 h9; intro w1
   obtain ⟨i, k, hpl, hf⟩ := h9
   refine hl_call F.law04_added_cb rfl rfl (law04_added_meets (R := x9.1.1) (rc := x9.1.2) (p := x9.2) cs hs i k hf hpl h6 h6h hca hcb ha) (List.Perm.refl _) ⟨(by repeat constructor), (by repeat constructor), (by repeat constructor), (by repeat constructor), trivial⟩ fun x hx => ?_
   refine hl_nil ?_
   exact qv_done ((i, k), x) ⟨hf, hx⟩ rfl ⟨m0, m1, trivial⟩
  refine hb_ad ⟨Nat, fun _ => True, fun g => .pointer (some ⟨g, 0, none⟩), fun _ => [], fun g => [(g, Obj.cells #[.slice none 0 0, .slice none 0 0] T.api_Trades (0, 0))]⟩ rfl rfl rfl ?_ ?_
  ·intro w1
   refine r_alloc rfl (fun _ => T.al_api_Trades _) fun gU => ?_
   refine hl_nil ?_
   exact qw_done gU trivial (fun _ => rfl) (List.Sublist.refl _) trivial
  refine hb_nil ⟨rfl, ?_⟩
  intro x6 h6q q7 h7 p8 h8 x9 h9 x10 h10 gU _
  clear h7 h8 h9
  obtain ⟨⟨i, k⟩, hs2, ⟨CA2, ca2⟩, ⟨HB2, cb2⟩⟩ := x10
  change FreeP hs i k ∧ AddOK hs i k hs2 ∧ cs.length ≤ ca2 ∧ hs2.length ≤ cb2 at h10
  obtain ⟨hf, hA, hca2, hcb2⟩ := h10
  refine r_storeS (cs := #[.slice CA2 cs.length ca2, .slice HB2 hs2.length cb2]) rfl rfl (.refl _) T.sz_api_Trades (by rfl) (by rfl) ?_
  refine hl_nil ?_
  refine then_n ?_
  refine hc_seq ?_
  refine hc_letgoB ?_
  have hl2 := add_len hA
  have hT2 := tr_mk (add_ok hok hf hA)
  have hln2 := hs_len cs hs2
  have ha2 := add_ha h6h ha hA
  have hsl1 : (stepsT (trOf cs hs) (st : Int)).length = hs.length := by rw [steps_len, hln]
  have hsl2 : (stepsT (trOf cs hs2) (st : Int)).length = hs.length := by rw [steps_len, hln2, hl2]
  have hhl1 := hiK_len (trOf cs hs) (st : Int) (rc : Int) hs.length
  have hhl2 := hiK_len (trOf cs hs2) (st : Int) (rc : Int) hs.length
  rw [show hiK (trOf cs hs) (st : Int) (rc : Int) hs.length = (hiddenT (trOf cs hs) (st : Int) (rc : Int)) from by unfold hiddenT; rw [hln]] at hhl1
  rw [show hiK (trOf cs hs2) (st : Int) (rc : Int) hs.length = (hiddenT (trOf cs hs2) (st : Int) (rc : Int)) from by unfold hiddenT; rw [hln2, hl2]] at hhl2
  refine hc_region ?_
  first | refine r_loadA rfl T.row_api_Trades T.sz_api_Trades rfl (by repeat constructor) (by rfl) ?_ | refine r_loadB rfl T.row_api_Trades T.sz_api_Trades rfl (by repeat constructor) (by rfl) ?_ | refine r_loadS rfl T.row_api_Trades T.sz_api_Trades rfl rfl (cells_row (by repeat constructor) (rows_all (by omega))) ?_
  refine r_move rfl rfl ?_
  refine hl_call F.trade_Steps_cb rfl rfl (steps_is cs hs (st : Int) hca hcb ha hT0 (by rw [hln]; omega)) (hpR := [_]) (List.Perm.refl _) ⟨(by repeat constructor), (by repeat constructor), trivial⟩ fun y1 hy1 => ?_
  refine r_move rfl rfl ?_
  refine r_extract rfl rfl rfl ?_
  refine r_extract rfl rfl rfl ?_
  refine r_assign rfl rfl ?_
  refine r_assign rfl rfl ?_
  refine hl_nil ?_
  refine then_n ?_
  refine hc_seq ?_
  refine hc_region ?_
  first | refine r_loadA rfl T.row_api_Trades T.sz_api_Trades rfl (by repeat constructor) (by rfl) ?_ | refine r_loadB rfl T.row_api_Trades T.sz_api_Trades rfl (by repeat constructor) (by rfl) ?_ | refine r_loadS rfl T.row_api_Trades T.sz_api_Trades rfl rfl (cells_row (by repeat constructor) (rows_all (by omega))) ?_
  refine r_move rfl rfl ?_
  refine hl_call F.trade_Steps_cb rfl rfl (steps_is cs hs2 (st : Int) hca2 hcb2 ha2 hT2 (by rw [hln2, hl2]; omega)) (hpR := [_]) (List.Perm.refl _) ⟨(by repeat constructor), (by repeat constructor), trivial⟩ fun y2 hy2 => ?_
  refine r_move rfl rfl ?_
  refine r_extract rfl rfl rfl ?_
  refine r_extract rfl rfl rfl ?_
  refine r_assign rfl rfl ?_
  refine r_assign rfl rfl ?_
  refine hl_nil ?_
  refine then_n ?_
  refine hc_seq ?_
  refine hc_region ?_
  first | refine r_loadA rfl T.row_api_Trades T.sz_api_Trades rfl (by repeat constructor) (by rfl) ?_ | refine r_loadB rfl T.row_api_Trades T.sz_api_Trades rfl (by repeat constructor) (by rfl) ?_ | refine r_loadS rfl T.row_api_Trades T.sz_api_Trades rfl rfl (cells_row (by repeat constructor) (rows_all (by omega))) ?_
  refine r_move rfl rfl ?_
  refine r_move rfl rfl ?_
  refine hl_call F.trade_Hidden_cb rfl rfl (hidden_is cs hs (st : Int) (rc : Int) hca hcb ha hT0 (by rw [hln]; omega) (by omega)) (hpR := [_]) (List.Perm.refl _) ⟨(by repeat constructor), (by repeat constructor), trivial⟩ fun z1 hz1 => ?_
  refine r_move rfl rfl ?_
  refine r_extract rfl rfl rfl ?_
  refine r_extract rfl rfl rfl ?_
  refine r_assign rfl rfl ?_
  refine r_assign rfl rfl ?_
  refine hl_nil ?_
  refine then_n ?_
  refine hc_seq ?_
  refine hc_region ?_
  first | refine r_loadA rfl T.row_api_Trades T.sz_api_Trades rfl (by repeat constructor) (by rfl) ?_ | refine r_loadB rfl T.row_api_Trades T.sz_api_Trades rfl (by repeat constructor) (by rfl) ?_ | refine r_loadS rfl T.row_api_Trades T.sz_api_Trades rfl rfl (cells_row (by repeat constructor) (rows_all (by omega))) ?_
  refine r_move rfl rfl ?_
  refine r_move rfl rfl ?_
  refine hl_call F.trade_Hidden_cb rfl rfl (hidden_is cs hs2 (st : Int) (rc : Int) hca2 hcb2 ha2 hT2 (by rw [hln2, hl2]; omega) (by omega)) (hpR := [_]) (List.Perm.refl _) ⟨(by repeat constructor), (by repeat constructor), trivial⟩ fun z2 hz2 => ?_
  refine r_move rfl rfl ?_
  refine r_extract rfl rfl rfl ?_
  refine r_extract rfl rfl rfl ?_
  refine r_assign rfl rfl ?_
  refine r_assign rfl rfl ?_
  refine hl_nil ?_
  refine then_n ?_
  refine hc_seq ?_
  refine hc_seq ?_
  refine hc_region ?_
  refine r_move rfl rfl ?_
  refine r_neq rfl rfl rfl ?_
  refine r_move rfl rfl ?_
  refine g_split rfl rfl ?_ ?_
  ·intro hg1; have hg1' := hg1; try simp at hg1'
   refine g_yes rfl rfl hg1 ?_
   refine r_move rfl rfl ?_
   refine g_yes rfl rfl hg1 ?_
   refine r_neq rfl rfl rfl ?_
   refine p_f rfl rfl (bf1 hg1) rfl ?_
   refine r_move rfl rfl ?_
   refine g_split rfl rfl ?_ ?_
   ·intro hg2; have hg2' := hg2; try simp at hg2'
    refine g_yes rfl rfl hg2 ?_
    refine r_move rfl rfl ?_
    refine g_yes rfl rfl hg2 ?_
    refine r_neq rfl rfl rfl ?_
    refine p_f rfl rfl (bf1 hg2) rfl ?_
    refine r_move rfl rfl ?_
    refine g_split rfl rfl ?_ ?_
    ·intro hg3; have hg3' := hg3; try simp at hg3'
     refine g_yes rfl rfl hg3 ?_
     refine r_move rfl rfl ?_
     refine g_yes rfl rfl hg3 ?_
     refine r_neq rfl rfl rfl ?_
     refine p_f rfl rfl (bf1 hg3) rfl ?_
     refine r_move rfl rfl ?_
     refine g_split rfl rfl ?_ ?_
     ·intro hg4; have hg4' := hg4; try simp at hg4'
      refine g_yes rfl rfl hg4 ?_
      refine r_move rfl rfl ?_
      refine g_yes rfl rfl hg4 ?_
      refine r_len_sl rfl T.u_ints rfl ?_
      refine g_yes rfl rfl hg4 ?_
      first | refine r_fieldAddr ⟨_, 1, none⟩ rfl rfl T.fa_api_Trades_1 rfl ?_ | refine r_fieldAddr _ rfl rfl T.fa_api_Trades_1 rfl ?_
      refine g_yes rfl rfl hg4 ?_
      first | refine r_load rfl T.cell_L_api_Head rfl (cell_own (by repeat constructor) rfl) ?_ | refine r_load rfl T.cell_L_api_Head rfl (cell_blk (by repeat constructor) rfl) ?_ | refine r_load rfl T.cell_L_api_Head rfl (cell_row (by repeat constructor) (rows_get0 (by omega) rfl)) ?_ | refine r_load rfl T.cell_L_api_Head rfl (cell_row_f (by repeat constructor) (rows_get (by omega) rfl)) ?_ | refine r_load rfl T.cell_L_api_Head rfl (cell_rowg (by repeat constructor) rfl) ?_
      refine g_yes rfl rfl hg4 ?_
      refine r_len_sl rfl T.u_L_api_Head rfl ?_
      refine g_yes rfl rfl hg4 ?_
      refine r_neq rfl rfl rfl ?_
      refine p_f rfl rfl (bf1 hg4) rfl ?_
      refine r_move rfl rfl ?_
      refine g_split rfl rfl ?_ ?_
      ·intro hg5; have hg5' := hg5; try simp at hg5'
       refine g_yes rfl rfl hg5 ?_
       refine r_move rfl rfl ?_
       refine g_yes rfl rfl hg5 ?_
       refine r_len_sl rfl T.u_ints rfl ?_
       refine g_yes rfl rfl hg5 ?_
       refine r_move rfl rfl ?_
       refine g_yes rfl rfl hg5 ?_
       refine r_len_sl rfl T.u_ints rfl ?_
       refine g_yes rfl rfl hg5 ?_
       refine r_neq rfl rfl rfl ?_
       refine p_f rfl rfl (bf1 hg5) rfl ?_
       refine hl_nil ?_
       refine then_n ?_
       first | refine c_dec rfl (fun hb2 => ?_) (fun hb2 => ?_) | refine hc_cond rfl (fun hb2 => ?_) (fun hb2 => ?_)
       ·exact absurd (by rw [hsl1, hsl2]) hb2
       ·have hb2' := hb2; try simp at hb2'
        refine hc_skip ?_
        refine then_n ?_
        refine hc_seq ?_
        refine hc_seq ?_
        refine hc_region ?_
        refine r_assign rfl rfl ?_
        refine hl_nil ?_
        refine then_n ?_
        refine hc_block ?_
        refine hc_loop (β := Nat) ⟨fun c => c ≤ hs.length, fun c => [(9, .slice y1.1 (stepsT (trOf cs hs) (st : Int)).length y1.2), (11, .slice y2.1 (stepsT (trOf cs hs2) (st : Int)).length y2.2), (13, .slice z1.1 (hiddenT (trOf cs hs) (st : Int) (rc : Int)).length z1.2), (15, .slice z2.1 (hiddenT (trOf cs hs2) (st : Int) (rc : Int)).length z2.2), (17, int c)], fun _ => [], fun _ => [Blk gT (.cells #[.slice CA cs.length ca, .slice HB hs.length cb] T.api_Trades (0, 0)), Blk gU (.cells #[.slice CA2 cs.length ca2, .slice HB2 hs2.length cb2] T.api_Trades (0, 0)), Row CA (rows cs), RowsF HB hs Hd.row, Row CA2 (rows cs), RowsF HB2 hs2 Hd.row, Row y1.1 (rows (stepsT (trOf cs hs) (st : Int))), Row y2.1 (rows (stepsT (trOf cs hs2) (st : Int))), Row z1.1 (rows (hiddenT (trOf cs hs) (st : Int) (rc : Int))), Row z2.1 (rows (hiddenT (trOf cs hs2) (st : Int) (rc : Int)))]⟩ (fun c => hs.length - c) 0 (Nat.zero_le _) ⟨rfl, rfl, rfl, rfl, rfl, trivial⟩ (List.nil_sublist _) ⟨(by repeat constructor), (by repeat constructor), (by repeat constructor), (by repeat constructor), (by repeat constructor), (by repeat constructor), (by repeat constructor), (by repeat constructor), (by repeat constructor), (by repeat constructor), trivial⟩ fun c hc => ?_
        simp only at hc
        refine hc_seq ?_
        refine hc_seq ?_
        refine hc_region ?_
        refine r_move rfl rfl ?_
        refine r_move rfl rfl ?_
        refine r_len_sl rfl T.u_ints rfl ?_
        refine r_lss rfl rfl rfl ?_
        refine hl_nil ?_
        refine then_n ?_
        first | refine c_dec rfl (fun hb3 => ?_) (fun hb3 => ?_) | refine hc_cond rfl (fun hb3 => ?_) (fun hb3 => ?_)
        ·have hb3' := hb3; try simp at hb3'
         have hc2 : c < hs.length := by omega
         have hd1 : (stepsT (trOf cs hs) (st : Int)).getD c default = (distI hs.length (nextB (trOf cs hs)) st c) := by rw [steps_get (by rw [hln]; exact hc2), hln]
         have hd2 : (stepsT (trOf cs hs2) (st : Int)).getD c default = (distI hs.length (nextB (trOf cs hs2)) st c) := by rw [steps_get (by rw [hln2, hl2]; exact hc2), hln2, hl2]
         have hdm := dist_more (e := nextB (trOf cs hs)) (e' := nextB (trOf cs hs2)) hst hc2 (fun x y hy => add_next hf hA hy)
         refine hc_skip ?_
         refine then_n ?_
         refine hc_seq ?_
         refine hc_block ?_
         refine hc_seq ?_
         refine hc_draw 31 mixed (by decide) (by decide) rfl rfl ?_
         apply hb_ex _ rfl rfl rfl
         ·intro w1
          refine r_move rfl rfl ?_
          refine hl_nil ?_
          exact qe_done rfl
         apply hb_ex _ rfl rfl rfl
         ·intro w1
          refine r_move rfl rfl ?_
          refine hl_nil ?_
          exact qe_done rfl
         apply hb_ex _ rfl rfl rfl
         ·intro w1
          refine r_elem (α := Int) (stepsT (trOf cs hs) (st : Int)) c rfl T.u_ints T.sz_int rfl rfl rfl (by repeat constructor) rfl (by omega) (by decide) ?_
          refine hl_nil ?_
          exact qe_done rfl
         apply hb_ex _ rfl rfl rfl
         ·intro w1
          refine r_load (v := int (distI hs.length (nextB (trOf cs hs)) st c)) rfl T.cell_int rfl (cell_row (by repeat constructor) (rows_get0 (by omega) (by rw [hd1]; rfl))) ?_
          refine hl_nil ?_
          exact qe_done rfl
         apply hb_ex _ rfl rfl rfl
         ·intro w1
          refine r_geq rfl rfl rfl ?_
          refine hl_nil ?_
          exact qe_done rfl
         apply hb_ex _ rfl rfl rfl
         ·intro w1
          refine r_move rfl rfl ?_
          refine hl_nil ?_
          exact qe_done rfl
         refine hb_split (t := 113) (want := true) rfl ?_ ?_
         ·intro hg6; have hg6' := hg6; try simp at hg6'
          have g6 : 0 ≤ (distI hs.length (nextB (trOf cs hs)) st c) := of_decide_eq_true (eq_of_beq hg6)
          apply hb_ex _ rfl rfl rfl
          ·intro w1
           refine g_yes rfl rfl hg6 ?_
           refine r_move rfl rfl ?_
           refine hl_nil ?_
           exact qe_done rfl
          apply hb_ex _ rfl rfl rfl
          ·intro w1
           refine g_yes rfl rfl hg6 ?_
           refine r_move rfl rfl ?_
           refine hl_nil ?_
           exact qe_done rfl
          apply hb_ex _ rfl rfl rfl
          ·intro w1
           refine g_yes rfl rfl hg6 ?_
           refine r_elem (α := Int) (stepsT (trOf cs hs2) (st : Int)) c rfl T.u_ints T.sz_int rfl rfl rfl (by repeat constructor) rfl (by omega) (by decide) ?_
           refine hl_nil ?_
           exact qe_done rfl
          apply hb_ex _ rfl rfl rfl
          ·intro w1
           refine g_yes rfl rfl hg6 ?_
           refine r_load (v := int (distI hs.length (nextB (trOf cs hs2)) st c)) rfl T.cell_int rfl (cell_row (by repeat constructor) (rows_get0 (by omega) (by rw [hd2]; rfl))) ?_
           refine hl_nil ?_
           exact qe_done rfl
          apply hb_ex _ rfl rfl rfl
          ·intro w1
           refine g_yes rfl rfl hg6 ?_
           refine r_lss rfl rfl rfl ?_
           refine hl_nil ?_
           exact qe_done rfl
          apply hb_ex _ rfl rfl rfl
          ·intro w1
           refine g_yes rfl rfl hg6 ?_
           refine r_move rfl rfl ?_
           refine hl_nil ?_
           exact qe_done rfl
          refine hb_split (t := 119) (want := false) rfl ?_ ?_
          ·intro hg7; have hg7' := hg7; try simp at hg7'
           apply hb_ex _ rfl rfl rfl
           ·intro w1
            refine g_yes rfl rfl hg7 ?_
            refine r_move rfl rfl ?_
            refine hl_nil ?_
            exact qe_done rfl
           apply hb_ex _ rfl rfl rfl
           ·intro w1
            refine g_yes rfl rfl hg7 ?_
            refine r_move rfl rfl ?_
            refine hl_nil ?_
            exact qe_done rfl
           apply hb_ex _ rfl rfl rfl
           ·intro w1
            refine g_yes rfl rfl hg7 ?_
            refine r_elem (α := Int) (stepsT (trOf cs hs2) (st : Int)) c rfl T.u_ints T.sz_int rfl rfl rfl (by repeat constructor) rfl (by omega) (by decide) ?_
            refine hl_nil ?_
            exact qe_done rfl
           apply hb_ex _ rfl rfl rfl
           ·intro w1
            refine g_yes rfl rfl hg7 ?_
            refine r_load (v := int (distI hs.length (nextB (trOf cs hs2)) st c)) rfl T.cell_int rfl (cell_row (by repeat constructor) (rows_get0 (by omega) (by rw [hd2]; rfl))) ?_
            refine hl_nil ?_
            exact qe_done rfl
           apply hb_ex _ rfl rfl rfl
           ·intro w1
            refine g_yes rfl rfl hg7 ?_
            refine r_move rfl rfl ?_
            refine hl_nil ?_
            exact qe_done rfl
           apply hb_ex _ rfl rfl rfl
           ·intro w1
            refine g_yes rfl rfl hg7 ?_
            refine r_move rfl rfl ?_
            refine hl_nil ?_
            exact qe_done rfl
           apply hb_ex _ rfl rfl rfl
           ·intro w1
            refine g_yes rfl rfl hg7 ?_
            refine r_elem (α := Int) (stepsT (trOf cs hs) (st : Int)) c rfl T.u_ints T.sz_int rfl rfl rfl (by repeat constructor) rfl (by omega) (by decide) ?_
            refine hl_nil ?_
            exact qe_done rfl
           apply hb_ex _ rfl rfl rfl
           ·intro w1
            refine g_yes rfl rfl hg7 ?_
            refine r_load (v := int (distI hs.length (nextB (trOf cs hs)) st c)) rfl T.cell_int rfl (cell_row (by repeat constructor) (rows_get0 (by omega) (by rw [hd1]; rfl))) ?_
            refine hl_nil ?_
            exact qe_done rfl
           apply hb_ex _ rfl rfl rfl
           ·intro w1
            refine g_yes rfl rfl hg7 ?_
            refine r_gtr rfl rfl rfl ?_
            refine hl_nil ?_
            exact qe_done rfl
           apply hb_ex _ rfl rfl rfl
           ·intro w1
            refine g_yes rfl rfl hg6 ?_
            refine p_f rfl rfl (bf1 hg7) rfl ?_
            refine hl_nil ?_
            exact qe_done rfl
           apply hb_ex _ rfl rfl rfl
           ·intro w1
            refine p_t rfl rfl (bt1 hg6) rfl ?_
            refine hl_nil ?_
            exact qe_done rfl
           apply hb_ex _ rfl rfl rfl
           ·intro w1
            refine r_move rfl rfl ?_
            refine hl_nil ?_
            exact qe_done rfl
           refine hb_split (t := 131) (want := false) rfl ?_ ?_
           ·intro hg8; have hg8' := hg8; try simp at hg8'
            apply hb_ex _ rfl rfl rfl
            ·intro w1
             refine g_yes rfl rfl hg8 ?_
             refine r_move rfl rfl ?_
             refine hl_nil ?_
             exact qe_done rfl
            apply hb_ex _ rfl rfl rfl
            ·intro w1
             refine g_yes rfl rfl hg8 ?_
             refine r_move rfl rfl ?_
             refine hl_nil ?_
             exact qe_done rfl
            refine hb_vs ⟨Int, fun z => AtInv (hiddenT (trOf cs hs2) (st : Int) (rc : Int)) (c : Int) z, fun z => int z, fun _ => []⟩ rfl rfl rfl ?_ ?_
            ·intro w1
             refine g_yes rfl rfl hg8 ?_
             refine hl_call F.kit_Index_cb rfl rfl (kit_Index_meets (hiddenT (trOf cs hs2) (st : Int) (rc : Int)) (c : Int) (by omega)) (List.Perm.refl _) ⟨(by repeat constructor), trivial⟩ fun z hz => ?_
             refine hl_nil ?_
             exact qv_done z hz rfl trivial
            apply hb_ex _ rfl rfl rfl
            ·refine fun (z : Int) hz => ?_; intro w1
             refine g_yes rfl rfl hg8 ?_
             refine r_geq rfl rfl rfl ?_
             rw [show decide (0 ≤ z) = decide ((c : Int) ∈ (hiddenT (trOf cs hs2) (st : Int) (rc : Int))) from decide_eq_decide.2 hz.1]
             refine hl_nil ?_
             exact qe_done rfl
            apply hb_ex _ rfl rfl rfl
            ·intro w1
             refine g_yes rfl rfl hg8 ?_
             refine r_move rfl rfl ?_
             refine hl_nil ?_
             exact qe_done rfl
            refine hb_split (t := 136) (want := true) rfl ?_ ?_
            ·intro hg9; have hg9' := hg9; try simp at hg9'
             have hm1 := add_hidden hst hf hA (of_decide_eq_true (eq_of_beq hg9))
             apply hb_ex _ rfl rfl rfl
             ·intro w1
              refine g_yes rfl rfl hg9 ?_
              refine r_move rfl rfl ?_
              refine hl_nil ?_
              exact qe_done rfl
             apply hb_ex _ rfl rfl rfl
             ·intro w1
              refine g_yes rfl rfl hg9 ?_
              refine r_move rfl rfl ?_
              refine hl_nil ?_
              exact qe_done rfl
             refine hb_nil ⟨rfl, ?_⟩
             intro _ _
             refine g_yes rfl rfl hg9 ?_
             refine hl_call F.kit_Index_cb rfl rfl (kit_Index_meets (hiddenT (trOf cs hs) (st : Int) (rc : Int)) (c : Int) (by omega)) (List.Perm.refl _) ⟨(by repeat constructor), trivial⟩ fun u hu => ?_
             refine g_yes rfl rfl hg9 ?_
             refine r_lss rfl rfl rfl ?_
             rw [show decide (u < 0) = decide (¬ (c : Int) ∈ (hiddenT (trOf cs hs) (st : Int) (rc : Int))) from decide_eq_decide.2 (by have h8 : 0 ≤ u ↔ (c : Int) ∈ (hiddenT (trOf cs hs) (st : Int) (rc : Int)) := hu.1; rw [← h8]; omega)]
             refine g_yes rfl rfl hg8 ?_
             refine p_t rfl rfl (bt1 hg9) rfl ?_
             refine p_f rfl rfl (bf1 hg8) rfl ?_
             refine hl_nil ?_
             refine then_n ?_
             first | refine c_dec rfl (fun hb4 => ?_) (fun hb4 => ?_) | refine hc_cond rfl (fun hb4 => ?_) (fun hb4 => ?_)
             ·first | exact absurd hm1 (by simpa using hb4) | (cases hb4)
             ·have hb4' := hb4; try simp at hb4'
              refine hc_skip ?_
              refine inb_n ?_
              refine then_n ?_
              refine hc_region ?_
              refine r_move rfl rfl ?_
              refine r_add _ rfl rfl rfl rfl (by unfold I64; omega) ?_
              refine r_assign rfl rfl ?_
              refine hl_nil ?_
              exact again _ (c + 1) (by show c + 1 ≤ hs.length; omega) (by show hs.length - (c + 1) < hs.length - c; omega) ⟨rfl, rfl, rfl, rfl, rfl, trivial⟩ (List.nil_sublist _) ⟨(by repeat constructor), (by repeat constructor), (by repeat constructor), (by repeat constructor), (by repeat constructor), (by repeat constructor), (by repeat constructor), (by repeat constructor), (by repeat constructor), (by repeat constructor), trivial⟩
            ·intro hg9; have hg9' := hg9; try simp at hg9'
             apply hb_ex _ rfl rfl rfl
             ·intro w1
              refine g_no rfl rfl rfl rfl rfl hg9 ?_
              refine hl_nil ?_
              exact qe_done rfl
             apply hb_ex _ rfl rfl rfl
             ·intro w1
              refine g_no rfl rfl rfl rfl rfl hg9 ?_
              refine hl_nil ?_
              exact qe_done rfl
             refine hb_nil ⟨rfl, ?_⟩
             intro _ _
             refine g_no rfl rfl rfl rfl rfl hg9 ?_
             refine g_no rfl rfl rfl rfl rfl hg9 ?_
             refine g_yes rfl rfl hg8 ?_
             refine p_f rfl rfl (bf2 hg9) rfl ?_
             refine p_f rfl rfl (bf1 hg8) rfl ?_
             refine hl_nil ?_
             refine then_n ?_
             refine c_f rfl rfl ?_
             refine hc_skip ?_
             refine inb_n ?_
             refine then_n ?_
             refine hc_region ?_
             refine r_move rfl rfl ?_
             refine r_add _ rfl rfl rfl rfl (by unfold I64; omega) ?_
             refine r_assign rfl rfl ?_
             refine hl_nil ?_
             exact again _ (c + 1) (by show c + 1 ≤ hs.length; omega) (by show hs.length - (c + 1) < hs.length - c; omega) ⟨rfl, rfl, rfl, rfl, rfl, trivial⟩ (List.nil_sublist _) ⟨(by repeat constructor), (by repeat constructor), (by repeat constructor), (by repeat constructor), (by repeat constructor), (by repeat constructor), (by repeat constructor), (by repeat constructor), (by repeat constructor), (by repeat constructor), trivial⟩
           ·intro hg8; have hg8' := hg8; try simp at hg8'
            exfalso; have h9 : (distI hs.length (nextB (trOf cs hs)) st c) < (distI hs.length (nextB (trOf cs hs2)) st c) := Classical.byContradiction fun e => by rw [decide_eq_false e] at hg8; cases hg8
            have := (hdm g6).2; omega
          ·intro hg7; have hg7' := hg7; try simp at hg7'
           exfalso; have h9 : (distI hs.length (nextB (trOf cs hs2)) st c) < 0 := Classical.byContradiction fun e => by rw [decide_eq_false e] at hg7; cases hg7
           have := (hdm g6).1; omega
         ·intro hg6; have hg6' := hg6; try simp at hg6'
          apply hb_ex _ rfl rfl rfl
          ·intro w1
           refine g_no rfl rfl rfl rfl rfl hg6 ?_
           refine hl_nil ?_
           exact qe_done rfl
          apply hb_ex _ rfl rfl rfl
          ·intro w1
           refine g_no rfl rfl rfl rfl rfl hg6 ?_
           refine hl_nil ?_
           exact qe_done rfl
          apply hb_ex _ rfl rfl rfl
          ·intro w1
           refine g_no rfl rfl rfl rfl rfl hg6 ?_
           refine hl_nil ?_
           exact qe_done rfl
          apply hb_ex _ rfl rfl rfl
          ·intro w1
           refine g_no rfl rfl rfl rfl rfl hg6 ?_
           refine hl_nil ?_
           exact qe_done rfl
          apply hb_ex _ rfl rfl rfl
          ·intro w1
           refine g_no rfl rfl rfl rfl rfl hg6 ?_
           refine hl_nil ?_
           exact qe_done rfl
          apply hb_ex _ rfl rfl rfl
          ·intro w1
           refine g_no rfl rfl rfl rfl rfl hg6 ?_
           refine hl_nil ?_
           exact qe_done rfl
          apply hb_ex _ rfl rfl rfl
          ·intro w1
           refine g_und rfl rfl rfl rfl rfl rfl ?_
           refine hl_nil ?_
           exact qe_done rfl
          apply hb_ex _ rfl rfl rfl
          ·intro w1
           refine g_und rfl rfl rfl rfl rfl rfl ?_
           refine hl_nil ?_
           exact qe_done rfl
          apply hb_ex _ rfl rfl rfl
          ·intro w1
           refine g_und rfl rfl rfl rfl rfl rfl ?_
           refine hl_nil ?_
           exact qe_done rfl
          apply hb_ex _ rfl rfl rfl
          ·intro w1
           refine g_und rfl rfl rfl rfl rfl rfl ?_
           refine hl_nil ?_
           exact qe_done rfl
          apply hb_ex _ rfl rfl rfl
          ·intro w1
           refine g_und rfl rfl rfl rfl rfl rfl ?_
           refine hl_nil ?_
           exact qe_done rfl
          apply hb_ex _ rfl rfl rfl
          ·intro w1
           refine g_und rfl rfl rfl rfl rfl rfl ?_
           refine hl_nil ?_
           exact qe_done rfl
          apply hb_ex _ rfl rfl rfl
          ·intro w1
           refine g_und rfl rfl rfl rfl rfl rfl ?_
           refine hl_nil ?_
           exact qe_done rfl
          apply hb_ex _ rfl rfl rfl
          ·intro w1
           refine g_und rfl rfl rfl rfl rfl rfl ?_
           refine hl_nil ?_
           exact qe_done rfl
          apply hb_ex _ rfl rfl rfl
          ·intro w1
           refine g_und rfl rfl rfl rfl rfl rfl ?_
           refine hl_nil ?_
           exact qe_done rfl
          apply hb_ex _ rfl rfl rfl
          ·intro w1
           refine g_no rfl rfl rfl rfl rfl hg6 ?_
           refine hl_nil ?_
           exact qe_done rfl
          apply hb_ex _ rfl rfl rfl
          ·intro w1
           refine p_f rfl rfl (bf2 hg6) rfl ?_
           refine hl_nil ?_
           exact qe_done rfl
          apply hb_ex _ rfl rfl rfl
          ·intro w1
           refine r_move rfl rfl ?_
           refine hl_nil ?_
           exact qe_done rfl
          apply hb_ex _ rfl rfl rfl
          ·intro w1
           refine g_yes rfl rfl rfl ?_
           refine r_move rfl rfl ?_
           refine hl_nil ?_
           exact qe_done rfl
          apply hb_ex _ rfl rfl rfl
          ·intro w1
           refine g_yes rfl rfl rfl ?_
           refine r_move rfl rfl ?_
           refine hl_nil ?_
           exact qe_done rfl
          refine hb_vs ⟨Int, fun z => AtInv (hiddenT (trOf cs hs2) (st : Int) (rc : Int)) (c : Int) z, fun z => int z, fun _ => []⟩ rfl rfl rfl ?_ ?_
          ·intro w1
           refine g_yes rfl rfl rfl ?_
           refine hl_call F.kit_Index_cb rfl rfl (kit_Index_meets (hiddenT (trOf cs hs2) (st : Int) (rc : Int)) (c : Int) (by omega)) (List.Perm.refl _) ⟨(by repeat constructor), trivial⟩ fun z hz => ?_
           refine hl_nil ?_
           exact qv_done z hz rfl trivial
          apply hb_ex _ rfl rfl rfl
          ·refine fun (z : Int) hz => ?_; intro w1
           refine g_yes rfl rfl rfl ?_
           refine r_geq rfl rfl rfl ?_
           rw [show decide (0 ≤ z) = decide ((c : Int) ∈ (hiddenT (trOf cs hs2) (st : Int) (rc : Int))) from decide_eq_decide.2 hz.1]
           refine hl_nil ?_
           exact qe_done rfl
          apply hb_ex _ rfl rfl rfl
          ·intro w1
           refine g_yes rfl rfl rfl ?_
           refine r_move rfl rfl ?_
           refine hl_nil ?_
           exact qe_done rfl
          refine hb_split (t := 136) (want := true) rfl ?_ ?_
          ·intro hg10; have hg10' := hg10; try simp at hg10'
           have hm1 := add_hidden hst hf hA (of_decide_eq_true (eq_of_beq hg10))
           apply hb_ex _ rfl rfl rfl
           ·intro w1
            refine g_yes rfl rfl hg10 ?_
            refine r_move rfl rfl ?_
            refine hl_nil ?_
            exact qe_done rfl
           apply hb_ex _ rfl rfl rfl
           ·intro w1
            refine g_yes rfl rfl hg10 ?_
            refine r_move rfl rfl ?_
            refine hl_nil ?_
            exact qe_done rfl
           refine hb_nil ⟨rfl, ?_⟩
           intro _ _
           refine g_yes rfl rfl hg10 ?_
           refine hl_call F.kit_Index_cb rfl rfl (kit_Index_meets (hiddenT (trOf cs hs) (st : Int) (rc : Int)) (c : Int) (by omega)) (List.Perm.refl _) ⟨(by repeat constructor), trivial⟩ fun u hu => ?_
           refine g_yes rfl rfl hg10 ?_
           refine r_lss rfl rfl rfl ?_
           rw [show decide (u < 0) = decide (¬ (c : Int) ∈ (hiddenT (trOf cs hs) (st : Int) (rc : Int))) from decide_eq_decide.2 (by have h8 : 0 ≤ u ↔ (c : Int) ∈ (hiddenT (trOf cs hs) (st : Int) (rc : Int)) := hu.1; rw [← h8]; omega)]
           refine g_yes rfl rfl rfl ?_
           refine p_t rfl rfl (bt1 hg10) rfl ?_
           refine p_f rfl rfl rfl rfl ?_
           refine hl_nil ?_
           refine then_n ?_
           first | refine c_dec rfl (fun hb4 => ?_) (fun hb4 => ?_) | refine hc_cond rfl (fun hb4 => ?_) (fun hb4 => ?_)
           ·first | exact absurd hm1 (by simpa using hb4) | (cases hb4)
           ·have hb4' := hb4; try simp at hb4'
            refine hc_skip ?_
            refine inb_n ?_
            refine then_n ?_
            refine hc_region ?_
            refine r_move rfl rfl ?_
            refine r_add _ rfl rfl rfl rfl (by unfold I64; omega) ?_
            refine r_assign rfl rfl ?_
            refine hl_nil ?_
            exact again _ (c + 1) (by show c + 1 ≤ hs.length; omega) (by show hs.length - (c + 1) < hs.length - c; omega) ⟨rfl, rfl, rfl, rfl, rfl, trivial⟩ (List.nil_sublist _) ⟨(by repeat constructor), (by repeat constructor), (by repeat constructor), (by repeat constructor), (by repeat constructor), (by repeat constructor), (by repeat constructor), (by repeat constructor), (by repeat constructor), (by repeat constructor), trivial⟩
          ·intro hg10; have hg10' := hg10; try simp at hg10'
           apply hb_ex _ rfl rfl rfl
           ·intro w1
            refine g_no rfl rfl rfl rfl rfl hg10 ?_
            refine hl_nil ?_
            exact qe_done rfl
           apply hb_ex _ rfl rfl rfl
           ·intro w1
            refine g_no rfl rfl rfl rfl rfl hg10 ?_
            refine hl_nil ?_
            exact qe_done rfl
           refine hb_nil ⟨rfl, ?_⟩
           intro _ _
           refine g_no rfl rfl rfl rfl rfl hg10 ?_
           refine g_no rfl rfl rfl rfl rfl hg10 ?_
           refine g_yes rfl rfl rfl ?_
           refine p_f rfl rfl (bf2 hg10) rfl ?_
           refine p_f rfl rfl rfl rfl ?_
           refine hl_nil ?_
           refine then_n ?_
           refine c_f rfl rfl ?_
           refine hc_skip ?_
           refine inb_n ?_
           refine then_n ?_
           refine hc_region ?_
           refine r_move rfl rfl ?_
           refine r_add _ rfl rfl rfl rfl (by unfold I64; omega) ?_
           refine r_assign rfl rfl ?_
           refine hl_nil ?_
           exact again _ (c + 1) (by show c + 1 ≤ hs.length; omega) (by show hs.length - (c + 1) < hs.length - c; omega) ⟨rfl, rfl, rfl, rfl, rfl, trivial⟩ (List.nil_sublist _) ⟨(by repeat constructor), (by repeat constructor), (by repeat constructor), (by repeat constructor), (by repeat constructor), (by repeat constructor), (by repeat constructor), (by repeat constructor), (by repeat constructor), (by repeat constructor), trivial⟩
        ·have hb3' := hb3; try simp at hb3'
         refine hc_exit ?_
         refine then_exit ?_
         refine then_exit ?_
         refine inb_hit ?_
         refine then_n ?_
         refine hc_seq ?_
         refine hc_region ?_
         refine hl_call F.law04_indexed_cb rfl rfl (law04_indexed_meets) (List.Perm.refl _) trivial fun _ _ => ?_
         refine r_assign rfl rfl ?_
         refine hl_nil ?_
         refine then_n ?_
         refine hc_ret ?_
         exact ret1 () rfl rfl rfl trivial (List.nil_sublist _) trivial
      ·intro hg5; have hg5' := hg5; try simp at hg5'
       exfalso; have h9 : ¬ ((stepsT (trOf cs hs) (st : Int)).length : Int) = (hs.length : Int) := by simpa using hg5
       exact h9 (by rw [hsl1])
     ·intro hg4; have hg4' := hg4; try simp at hg4'
    ·intro hg3; have hg3' := hg3; try simp at hg3'
   ·intro hg2; have hg2' := hg2; try simp at hg2'
  ·intro hg1; have hg1' := hg1; try simp at hg1'

end Go.Proofs.Ytlpgheniajdkfaa
