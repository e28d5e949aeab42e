/- The document: the steps from one heading to all. -/
import Derived.Test.YtlpgheniajdkfaaGreatPnb
import Derived.Test.YtlpgheniajdkfaaGreatPm6
namespace Go.Proofs.YtlpgheniajdkfaaGreat
open Go Go.W
set_option linter.unusedVariables false
set_option linter.unusedSimpArgs false
set_option maxRecDepth 20000
attribute [local irreducible] HL HC HQ HB Row Rows2 Blk Facts


theorem steps_at {t : Tr} {h i : Nat} (hi : i < t.hs.length) : (stepsT t (h : Int)).getD i default = distI t.hs.length (nextB t) h i := by
  unfold stepsT
  rw [getD_at (by rw [List.length_map, List.length_range]; exact hi), List.getElem_map, List.getElem_range, Int.toNat_natCast]
theorem dist_hi {n : Nat} {e : Edges} {h i : Nat} : -1 ≤ distI n e h i ∧ distI n e h i ≤ (n : Int) := by
  unfold distI
  cases hd : distB n e h i with
  | none => simp only; omega
  | some s => have := (dist_some.1 hd).1; simp only; omega
theorem dist_self {n : Nat} {e : Edges} {h : Nat} (hh : h < n) : distI n e h h = 0 := by
  have h1 := (dist_le (e := e) hh hh 0).2 (by rw [reachB]; simp)
  omega


theorem is_tr {cs : List Cl} {hs : List Hd} (hok : TrOK (trOf cs hs)) {i : Nat} (hi : i < hs.length) : isTrB (trOf cs hs) (i : Int) = decide (0 ≤ (hs.getD i default).2.1) := by
  have hh := hok.h i (by rw [hs_len]; exact hi)
  have hk := hh.kinds
  have hc := hh.c
  rw [show (trOf cs hs).hs.getD i default = (hs.getD i default).p from hd_get hi] at hk hc
  have hc1 : -1 ≤ (hs.getD i default).2.1 := hc.1
  rw [← isTr_at cs (i := (i : Int)) (by omega) (by omega), isA_of, Int.toNat_natCast]
  rcases hk with ⟨_, h1, _⟩ | ⟨h1, _⟩ | ⟨h1, _⟩
  · have h2 : (hs.getD i default).2.1 = -1 := h1
    rw [h2]; simp
  · have h2 : (hs.getD i default).2.2.1 = -1 := h1
    rw [decide_eq_true h2, Bool.true_and]; exact decide_eq_decide.2 (by omega)
  · have h2 : (hs.getD i default).2.2.1 = -1 := h1
    rw [decide_eq_true h2, Bool.true_and]; exact decide_eq_decide.2 (by omega)


section
variable {n : Nat} {e : Edges} {h : Nat}
theorem dist_zero {i : Nat} (hh : h < n) (hi : i < n) (h0 : distI n e h i = 0) : i = h := by
  have h1 := (dist_le (e := e) hh hi 0).1 ⟨by omega, by omega⟩
  rw [reachB] at h1
  exact of_decide_eq_true h1
theorem dist_next {p m : Nat} (hh : h < n) (hp : p < n) (hm : m < n) (h0 : 0 ≤ distI n e h p) (he : e p m = true) : 0 ≤ distI n e h m ∧ distI n e h m ≤ distI n e h p + 1 := by
  obtain ⟨d, hd⟩ := Int.eq_ofNat_of_zero_le h0
  have h1 := (dist_le (e := e) hh hp d).1 ⟨h0, by omega⟩
  have h2 := (dist_le (e := e) hh hm (d + 1)).2 (reach_succ.2 (.inr ⟨p, hp, h1, he⟩))
  rw [hd]
  exact ⟨h2.1, by have := h2.2; omega⟩
theorem dist_pred {m : Nat} (hh : h < n) (hm : m < n) (h0 : 0 < distI n e h m) : ∃ p, p < n ∧ 0 ≤ distI n e h p ∧ distI n e h p + 1 ≤ distI n e h m ∧ e p m = true := by
  obtain ⟨d, hd⟩ := Int.eq_ofNat_of_zero_le (Int.le_of_lt h0)
  obtain ⟨d, rfl⟩ : ∃ d', d = d' + 1 := ⟨d - 1, by omega⟩
  have h1 := (dist_le (e := e) hh hm (d + 1)).1 ⟨by omega, by omega⟩
  rcases reach_succ.1 h1 with h2 | ⟨p, hp, h2, h3⟩
  · have h4 := (dist_le (e := e) hh hm d).2 h2
    omega
  · have h4 := (dist_le (e := e) hh hp d).2 h2
    exact ⟨p, hp, h4.1, by omega, h3⟩
/-- Level by level: in level k, the headings before i are seen through, of i those before j. -/
structure Lv (n : Nat) (e : Edges) (h k i j : Nat) (ds : List Int) : Prop where
  len : ds.length = n
  old : ∀ m, m < n → 0 ≤ distI n e h m → distI n e h m ≤ (k : Int) → dAt ds m = distI n e h m
  new : ∀ m, m < n → ¬ (0 ≤ distI n e h m ∧ distI n e h m ≤ (k : Int)) → dAt ds m = -1 ∨ (dAt ds m = (k : Int) + 1 ∧ distI n e h m = (k : Int) + 1)
  seen : ∀ p m, p < n → m < n → (p < i ∨ (p = i ∧ m < j)) → 0 ≤ distI n e h p → distI n e h p ≤ (k : Int) → e p m = true → 0 ≤ dAt ds m
theorem lv_at {k i j : Nat} {ds : List Int} (H : Lv n e h k i j ds) (hi : i < n) (hd : dAt ds i = (k : Int)) : distI n e h i = (k : Int) := by
  by_cases h1 : 0 ≤ distI n e h i ∧ distI n e h i ≤ (k : Int)
  · rw [← H.old i hi h1.1 h1.2]; exact hd
  · rcases H.new i hi h1 with h2 | h2 <;> omega
theorem lv_hit {k i j : Nat} {ds : List Int} (hh : h < n) (H : Lv n e h k i j ds) (hi : i < n) (hj : j < n) (hd : dAt ds i = (k : Int)) (he : e i j = true) (hn : dAt ds j < 0) : Lv n e h k i (j + 1) (ds.set j ((k : Int) + 1)) := by
  have hD := lv_at H hi hd
  have hjl : j < ds.length := by rw [H.len]; exact hj
  have hg : ∀ m, dAt (ds.set j ((k : Int) + 1)) m = if m = j then (k : Int) + 1 else dAt ds m := fun m => dAt_set hjl
  have h1 := dist_next hh hi hj (by omega) he
  have h2 : ¬ (0 ≤ distI n e h j ∧ distI n e h j ≤ (k : Int)) := fun h2 => by have := H.old j hj h2.1 h2.2; omega
  refine ⟨by rw [List.length_set]; exact H.len, fun m hm h3 h4 => ?_, fun m hm h3 => ?_, fun p m hp hm hs h3 h4 h5 => ?_⟩
  · rw [hg, if_neg (fun e1 => by subst e1; exact h2 ⟨h3, h4⟩)]
    exact H.old m hm h3 h4
  · rw [hg]
    by_cases e1 : m = j
    · subst e1; rw [if_pos rfl]; exact .inr ⟨rfl, by omega⟩
    · rw [if_neg e1]; exact H.new m hm h3
  · rw [hg]
    by_cases e1 : m = j
    · rw [if_pos e1]; omega
    · rw [if_neg e1]; exact H.seen p m hp hm (by omega) h3 h4 h5
theorem lv_skip {k i j : Nat} {ds : List Int} (H : Lv n e h k i j ds) (hn : e i j = true → 0 ≤ dAt ds j) : Lv n e h k i (j + 1) ds :=
  ⟨H.len, H.old, H.new, fun p m hp hm hs h3 h4 h5 => by
    by_cases e1 : p = i ∧ m = j
    · obtain ⟨e1, e2⟩ := e1; subst e1; subst e2; exact hn h5
    · exact H.seen p m hp hm (by omega) h3 h4 h5⟩
theorem lv_row {k i j : Nat} {ds : List Int} (hh : h < n) (H : Lv n e h k i j ds) (hi : i < n) (hn : j = n ∨ ¬ dAt ds i = (k : Int)) : Lv n e h k (i + 1) 0 ds :=
  ⟨H.len, H.old, H.new, fun p m hp hm hs h3 h4 h5 => by
    by_cases e1 : p = i
    · subst e1
      rcases hn with hn | hn
      · exact H.seen p m hp hm (by omega) h3 h4 h5
      · rw [H.old p hi h3 h4] at hn
        have h6 := dist_next hh hp hm h3 h5
        rw [H.old m hm h6.1 (by omega)]
        exact h6.1
    · exact H.seen p m hp hm (by omega) h3 h4 h5⟩
theorem lv_lev {k : Nat} {ds : List Int} (hh : h < n) (H : Lv n e h k n 0 ds) : Lv n e h (k + 1) 0 0 ds := by
  refine ⟨H.len, fun m hm h1 h2 => ?_, fun m hm h1 => ?_, fun p m hp hm hs => by omega⟩
  · by_cases h3 : distI n e h m ≤ (k : Int)
    · exact H.old m hm h1 h3
    · rcases H.new m hm (fun h4 => h3 h4.2) with h4 | h4
      · obtain ⟨p, hp, h5, h6, h7⟩ := dist_pred hh hm (show 0 < distI n e h m by omega)
        have := H.seen p m hp hm (.inl hp) h5 (by omega) h7
        omega
      · omega
  · rcases H.new m hm (fun h4 => h1 ⟨h4.1, by omega⟩) with h4 | h4
    · exact .inl h4
    · exact absurd ⟨by omega, by omega⟩ h1
theorem lv_start (hh : h < n) : Lv n e h 0 0 0 ((List.replicate n (-1 : Int)).set h 0) := by
  have hg : ∀ j, dAt ((List.replicate n (-1 : Int)).set h 0) j = if j = h then 0 else dAt (List.replicate n (-1 : Int)) j := fun j => dAt_set (by rw [List.length_replicate]; exact hh)
  have hs := dist_self (e := e) hh
  refine ⟨by simp, fun m hm h1 h2 => ?_, fun m hm h1 => .inl ?_, fun p m hp hm hx => by omega⟩
  · have h3 := dist_zero (e := e) hh hm (by omega)
    rw [hg, if_pos h3, h3, hs]
  · rw [hg, if_neg (fun e1 => by subst e1; omega)]
    unfold dAt
    rw [List.getD_eq_getElem?_getD, List.getElem?_replicate, if_pos hm]
    rfl
theorem lv_end {ds : List Int} (H : Lv n e h n 0 0 ds) : ds = (List.range n).map fun i => distI n e h i := by
  refine List.ext_getElem (by rw [H.len, List.length_map, List.length_range]) fun i hi hi2 => ?_
  rw [H.len] at hi
  rw [List.getElem_map, List.getElem_range, ← getD_at]
  have h1 := dist_hi (n := n) (e := e) (h := h) (i := i)
  by_cases h2 : 0 ≤ distI n e h i
  · exact H.old i hi h2 h1.2
  · rcases H.new i hi (fun h3 => h2 h3.1) with h3 | h3
    · show dAt ds i = _; omega
    · omega
end

theorem ref04_refers_meets {A B : Option Addr} {ca cb : Nat} (cs : List Cl) (hs : List Hd) (i k : Nat) (hi : i < hs.length) (ha : ∀ h ∈ hs, h.2.2.2.l.length ≤ 1000000) : Meets Tryz.prog F.ref04_refers [.agg #[.slice A cs.length ca, .slice B hs.length cb], int i, int k] { LI := [RowsF B hs Hd.row], val := fun _ : Unit => .bool (nextB (trOf cs hs) i k) } := by
 refine meets_intro F.ref04_refers_f rfl (Nat.le_of_ble_eq_true rfl) fun w0 => ?_
 refine hc_seq (hc_region ?_)
 refine r_box rfl rfl fun gB => ?_
 refine r_assign rfl rfl (hl_nil (then_n (hc_seq ?_)))
 have hnx : nextB (trOf cs hs) i k = (decide ((hs.getD i default).2.2.1 = (k : Int)) || decide ((k : Int) ∈ (hs.getD i default).2.2.2.l)) := by
   unfold nextB
   rw [show (trOf cs hs).hs.getD i default = (hs.getD i default).p from hd_get hi]
   rfl
 have hal := ha _ (getD_mem hi)
 refine hc_outerF (ps := hs) (A := B) (f := Hd.row) (by repeat constructor) ?_
 refine hc_region ?_
 refine r_fieldAddr ⟨_, 1, none⟩ rfl rfl T.fa_api_Trades_1 rfl ?_
 refine r_load rfl T.cell_L_api_Head rfl (cell_own (by repeat constructor) rfl) ?_
 refine r_move rfl rfl ?_
 refine r_elem (α := Hd) hs i rfl T.u_L_api_Head T.sz_api_Head rfl rfl rfl (by repeat constructor) rfl hi (by decide) ?_
 refine r_fieldAddr _ rfl rfl T.fa_api_Head_2 rfl ?_
 refine r_load (v := int (hs.getD i default).2.2.1) rfl T.cell_int rfl (cell_row_f (by repeat constructor) (rows_get hi rfl)) ?_
 refine r_move rfl rfl (r_eql rfl rfl rfl (r_move rfl rfl ?_))
 refine g_split rfl rfl ?_ ?_
 ·intro hg1; have hg1' := hg1; try simp at hg1'
  have hA : ¬ (hs.getD i default).2.2.1 = (k : Int) := of_decide_eq_false (eq_of_beq hg1)
  refine g_yes rfl rfl hg1 ?_
  refine r_fieldAddr ⟨_, 1, none⟩ rfl rfl T.fa_api_Trades_1 rfl ?_
  refine g_yes rfl rfl hg1 ?_
  refine r_load rfl T.cell_L_api_Head rfl (cell_own (by repeat constructor) rfl) ?_
  refine g_yes rfl rfl hg1 (r_move rfl rfl (g_yes rfl rfl hg1 ?_))
  refine r_elem (α := Hd) hs i rfl T.u_L_api_Head T.sz_api_Head rfl rfl rfl (by repeat constructor) rfl hi (by decide) ?_
  refine g_yes rfl rfl hg1 (r_fieldAddr _ rfl rfl T.fa_api_Head_3 rfl (g_yes rfl rfl hg1 ?_))
  refine r_load (v := .slice (hs.getD i default).2.2.2.a (hs.getD i default).2.2.2.l.length (hs.getD i default).2.2.2.c) rfl T.cell_ints rfl (cell_row_f (by repeat constructor) (rows_get hi rfl)) ?_
  refine g_yes rfl rfl hg1 (r_move rfl rfl ?_)
  refine hl_innerF (p := hs.getD i default) (f := Hd.row) (ps := hs) (by repeat constructor) (getD_mem hi) ?_
  refine g_yes rfl rfl hg1 ?_
  refine hl_call F.ref04_has_cb rfl rfl (ref04_has_meets (hs.getD i default).2.2.2.l (k : Int) hal) (hpR := [_]) (List.Perm.refl _) ⟨(by repeat constructor), trivial⟩ fun z hz => ?_
  refine g_yes rfl rfl hg1 (r_geq rfl rfl rfl ?_)
  refine p_f rfl rfl (bf1 hg1) rfl ?_
  refine r_assign rfl rfl (hl_nil (then_n (hc_ret ?_)))
  exact ret1 () rfl (congrArg (fun b => some (Value.bool b)) (by rw [hnx, decide_eq_false hA, Bool.false_or]; exact decide_eq_decide.2 hz.1)) rfl trivial (List.nil_sublist _) trivial
 ·intro hg1; have hg1' := hg1; try simp at hg1'
  have hA : (hs.getD i default).2.2.1 = (k : Int) := Classical.byContradiction fun e => by rw [decide_eq_false e] at hg1; cases hg1
  refine g_no rfl rfl rfl rfl rfl hg1 (g_no rfl rfl rfl rfl rfl hg1 (g_no rfl rfl rfl rfl rfl hg1 (g_no rfl rfl rfl rfl rfl hg1 (g_no rfl rfl rfl rfl rfl hg1 (g_no rfl rfl rfl rfl rfl hg1 (g_no rfl rfl rfl rfl rfl hg1 ?_))))))
  refine hl_innerF (p := hs.getD i default) (f := Hd.row) (ps := hs) (by repeat constructor) (getD_mem hi) ?_
  refine g_no rfl rfl rfl rfl rfl hg1 (g_no rfl rfl rfl rfl rfl hg1 ?_)
  refine p_t rfl rfl (bt2 hg1) rfl ?_
  refine r_assign rfl rfl (hl_nil (then_n (hc_ret ?_)))
  exact ret1 () rfl (congrArg (fun b => some (Value.bool b)) (by rw [hnx, decide_eq_true hA, Bool.true_or])) rfl trivial (List.nil_sublist _) trivial

set_option maxHeartbeats 1000000 in
theorem ref04_steps_meets {A B : Option Addr} {ca cb : Nat} (cs : List Cl) (hs : List Hd) (h : Nat) (hok : TrOK (trOf cs hs)) (hh : h < hs.length) (ha : ∀ h ∈ hs, h.2.2.2.l.length ≤ 1000000) : Meets Tryz.prog F.ref04_steps [.agg #[.slice A cs.length ca, .slice B hs.length cb], int h] { LI := [RowsF B hs Hd.row], inv := fun x : OutC => (stepsT (trOf cs hs) (h : Int)).length ≤ x.2, val := fun x => .slice x.1 (stepsT (trOf cs hs) (h : Int)).length x.2, LO := fun x => [Row x.1 (rows (stepsT (trOf cs hs) (h : Int)))] } := by
 refine meets_intro F.ref04_steps_f rfl (Nat.le_of_ble_eq_true rfl) fun w0 => ?_
 refine hc_seq (hc_region ?_)
 refine r_box rfl rfl fun gB => ?_
 refine r_assign rfl rfl (hl_nil (then_n (hc_seq ?_)))
 have h6h := hok.h6
 have hln := hs_len cs hs
 rw [hln] at h6h
 refine hc_letgoB ?_
 refine hc_outerF (ps := hs) (A := B) (f := Hd.row) (by repeat constructor) ?_
 refine hc_region (r_assign rfl rfl (hl_nil (then_n (hc_seq (hc_seq (hc_region (r_assign rfl rfl (hl_nil (then_n (hc_block ?_))))))))))
 refine hc_loop (β := Nat × OutC × Hp) ⟨fun x => x.1 ≤ hs.length ∧ Grow T.int 1 x.2.1.1 x.1 x.2.1.2 (rows (List.replicate x.1 (-1 : Int))) x.2.2, fun x => [(1, int h), (2, .pointer (some ⟨gB, 0, none⟩)), (5, .slice x.2.1.1 x.1 x.2.1.2), (6, int x.1)], fun x => x.2.2, fun _ => [Row B (rows hs), Blk gB (.cells #[.slice A cs.length ca, .slice B hs.length cb] T.api_Trades (0, 0)), RowsF B hs Hd.row]⟩ (fun x => hs.length - x.1) (0, (none, 0), []) ⟨Nat.zero_le _, Grow.nil _ _⟩ ⟨rfl, rfl, rfl, rfl, trivial⟩ (List.nil_sublist _) ⟨(by repeat constructor), (by repeat constructor), (by repeat constructor), trivial⟩ fun x hx => ?_
 obtain ⟨k, ⟨da, dc⟩, og⟩ := x
 obtain ⟨hk, hG⟩ := hx
 simp only at hk hG
 refine hc_seq (hc_seq (hc_region (r_move rfl rfl ?_)))
 refine r_fieldAddr ⟨_, 1, none⟩ rfl rfl T.fa_api_Trades_1 rfl ?_
 refine r_load rfl T.cell_L_api_Head rfl (cell_blk (by repeat constructor) rfl) ?_
 refine r_len_sl rfl T.u_L_api_Head rfl ?_
 refine r_lss rfl rfl rfl (hl_nil (then_n ?_))
 refine c_dec rfl (fun hb1 => ?_) (fun hb1 => ?_)
 ·have hb1' := hb1; try simp at hb1'
  have hk2 : k < hs.length := by omega
  refine hc_skip (then_n (hc_seq (hc_block (hc_region (r_move rfl rfl ?_)))))
  refine r_buildSlice _ rfl rfl (fun _ => T.bs_ints_1 ..) fun gS => ?_
  refine hl_letgo (rows [(-1 : Int)]) (List.prefix_refl _) ?_
  refine r_append (k + 1) (rows (List.replicate (k + 1) (-1 : Int))) T.el_ints rfl rfl rfl hG (hp' := []) (show List.Perm og (og ++ []) from by rw [List.append_nil]) (Src.row (news := rows [(-1 : Int)]) (m := 1) m0 rfl (rows_one _) (by decide)) rfl (by rw [← rows_append, ← List.replicate_succ']) (by unfold maxLen; omega) (by omega) fun A' c' og' hG' => ?_
  refine r_assign rfl rfl (hl_nil (inb_n (then_n (hc_region (r_move rfl rfl ?_)))))
  refine r_add _ rfl rfl rfl rfl (by unfold I64; omega) ?_
  refine r_assign rfl rfl (hl_nil ?_)
  exact again _ (k + 1, (A', c'), og') ⟨by show k + 1 ≤ hs.length; omega, hG'⟩ (by show hs.length - (k + 1) < hs.length - k; omega) ⟨rfl, rfl, rfl, rfl, trivial⟩ (List.sublist_append_left _ _) ⟨(by repeat constructor), (by repeat constructor), (by repeat constructor), trivial⟩
 ·have hb1' := hb1; try simp at hb1'
  obtain rfl : k = hs.length := by omega
  rcases hG.2 with ⟨_, hz, _⟩ | ⟨g5, cur, e1, e2, hnc, hcm, hcs, hct⟩
  ·omega
  subst e1
  subst e2
  have hct : cur.toList.take ((List.replicate hs.length (-1 : Int)).length * 1) = rows (List.replicate hs.length (-1 : Int)) := by rw [List.length_replicate]; exact hct
  refine hc_exit (then_exit (then_exit (inb_hit (then_n (hc_seq (hc_region (r_move rfl rfl (r_move rfl rfl ?_))))))))
  refine r_indexAddr_own (h) (h) rfl T.u_ints T.sz_int rfl rfl rfl hh (by omega) ?_
  refine r_store rfl rfl (.refl _) T.sz_int (own_el rfl hct (by rw [List.length_replicate]; exact hh) rfl rfl) (by rfl) ?_
  have hct1 := take_set1 (α := Int) (k := h) (a := (0 : Int)) rfl rfl hct
  refine hl_nil (then_n (hc_seq (hc_seq (hc_region (r_assign rfl rfl (hl_nil (then_n (hc_block ?_))))))))
  refine hc_loop (β := Nat × List Int × Array Value) ⟨fun x => x.1 ≤ hs.length ∧ Lv hs.length (nextB (trOf cs hs)) h x.1 0 0 x.2.1 ∧ x.2.2.toList.take (x.2.1.length * 1) = rows x.2.1, fun x => [(2, .pointer (some ⟨gB, 0, none⟩)), (5, .slice (some ⟨g5, 0, none⟩) hs.length dc), (7, int x.1)], fun x => [(g5, Obj.cells x.2.2 T.int (0, 0))], fun _ => [Row B (rows hs), Blk gB (.cells #[.slice A cs.length ca, .slice B hs.length cb] T.api_Trades (0, 0)), RowsF B hs Hd.row]⟩ (fun x => hs.length - x.1) (0, _, _) ⟨Nat.zero_le _, lv_start hh, hct1⟩ ⟨rfl, rfl, rfl, trivial⟩ (List.Sublist.refl _) ⟨(by repeat constructor), (by repeat constructor), (by repeat constructor), trivial⟩ fun x hx => ?_
  clear hct hct1 hG hcs
  obtain ⟨k, ds, cur⟩ := x
  obtain ⟨hk, hV, hct⟩ := hx
  simp only at hk hV hct
  refine hc_seq (hc_seq (hc_region (r_move rfl rfl ?_)))
  refine r_fieldAddr ⟨_, 1, none⟩ rfl rfl T.fa_api_Trades_1 rfl ?_
  refine r_load rfl T.cell_L_api_Head rfl (cell_blk (by repeat constructor) rfl) ?_
  refine r_len_sl rfl T.u_L_api_Head rfl ?_
  refine r_lss rfl rfl rfl (hl_nil (then_n ?_))
  refine c_dec rfl (fun hb2 => ?_) (fun hb2 => ?_)
  ·have hb2' := hb2; try simp at hb2'
   have hk2 : k < hs.length := by omega
   refine hc_skip (then_n (hc_seq (hc_block (hc_seq (hc_region (r_assign rfl rfl (hl_nil (then_n (hc_block ?_)))))))))
   refine hc_loop (β := Nat × List Int × Array Value) ⟨fun x => x.1 ≤ hs.length ∧ Lv hs.length (nextB (trOf cs hs)) h k x.1 0 x.2.1 ∧ x.2.2.toList.take (x.2.1.length * 1) = rows x.2.1, fun x => [(2, .pointer (some ⟨gB, 0, none⟩)), (5, .slice (some ⟨g5, 0, none⟩) hs.length dc), (7, int k), (8, int x.1)], fun x => [(g5, Obj.cells x.2.2 T.int (0, 0))], fun _ => [Row B (rows hs), Blk gB (.cells #[.slice A cs.length ca, .slice B hs.length cb] T.api_Trades (0, 0)), RowsF B hs Hd.row]⟩ (fun x => hs.length - x.1) (0, ds, cur) ⟨Nat.zero_le _, hV, hct⟩ ⟨rfl, rfl, rfl, rfl, trivial⟩ (List.Sublist.refl _) ⟨(by repeat constructor), (by repeat constructor), (by repeat constructor), trivial⟩ fun x hx => ?_
   clear hct hV
   obtain ⟨i, ds, cur⟩ := x
   obtain ⟨hi, hV, hct⟩ := hx
   simp only at hi hV hct
   refine hc_seq (hc_seq (hc_region (r_move rfl rfl ?_)))
   refine r_fieldAddr ⟨_, 1, none⟩ rfl rfl T.fa_api_Trades_1 rfl ?_
   refine r_load rfl T.cell_L_api_Head rfl (cell_blk (by repeat constructor) rfl) ?_
   refine r_len_sl rfl T.u_L_api_Head rfl ?_
   refine r_lss rfl rfl rfl (hl_nil (then_n ?_))
   refine c_dec rfl (fun hb3 => ?_) (fun hb3 => ?_)
   ·have hb3' := hb3; try simp at hb3'
    have hi2 : i < hs.length := by omega
    refine hc_skip (then_n (hc_seq (hc_block (hc_seq (hc_region (r_assign rfl rfl (hl_nil (then_n (hc_block ?_)))))))))
    refine hc_loop (β := Nat × List Int × Array Value) ⟨fun x => x.1 ≤ hs.length ∧ Lv hs.length (nextB (trOf cs hs)) h k i x.1 x.2.1 ∧ x.2.2.toList.take (x.2.1.length * 1) = rows x.2.1, fun x => [(2, .pointer (some ⟨gB, 0, none⟩)), (5, .slice (some ⟨g5, 0, none⟩) hs.length dc), (7, int k), (8, int i), (9, int x.1)], fun x => [(g5, Obj.cells x.2.2 T.int (0, 0))], fun _ => [Row B (rows hs), Blk gB (.cells #[.slice A cs.length ca, .slice B hs.length cb] T.api_Trades (0, 0)), RowsF B hs Hd.row]⟩ (fun x => hs.length - x.1) (0, ds, cur) ⟨Nat.zero_le _, hV, hct⟩ ⟨rfl, rfl, rfl, rfl, rfl, trivial⟩ (List.Sublist.refl _) ⟨(by repeat constructor), (by repeat constructor), (by repeat constructor), trivial⟩ fun x hx => ?_
    clear hct hV
    obtain ⟨j, ds, cur⟩ := x
    obtain ⟨hj, hV, hct⟩ := hx
    simp only at hj hV hct
    have hdl := hV.len
    refine hc_seq (hc_seq (hc_region (r_move rfl rfl ?_)))
    refine r_fieldAddr ⟨_, 1, none⟩ rfl rfl T.fa_api_Trades_1 rfl ?_
    refine r_load rfl T.cell_L_api_Head rfl (cell_blk (by repeat constructor) rfl) ?_
    refine r_len_sl rfl T.u_L_api_Head rfl ?_
    refine r_lss rfl rfl rfl (r_move rfl rfl ?_)
    refine g_split rfl rfl ?_ ?_
    ·intro hg1; have hg1' := hg1; try simp at hg1'
     have g14_6 : (j : Int) < hs.length := of_decide_eq_true (eq_of_beq hg1)
     refine g_yes rfl rfl hg1 (r_move rfl rfl (g_yes rfl rfl hg1 (r_move rfl rfl (g_yes rfl rfl hg1 ?_))))
     refine r_indexAddr_own (i) (i) rfl T.u_ints T.sz_int rfl rfl rfl hi2 (by omega) ?_
     refine g_yes rfl rfl hg1 ?_
     refine r_load (v := int (dAt ds i)) rfl T.cell_int rfl (cell_own (by repeat constructor) (own_el rfl hct (by rw [hdl]; exact hi2) (by omega) rfl)) ?_
     refine g_yes rfl rfl hg1 (r_move rfl rfl (g_yes rfl rfl hg1 (r_eql rfl rfl rfl ?_)))
     refine p_t rfl rfl (bt1 hg1) rfl ?_
     refine hl_nil (then_n ?_)
     refine c_dec rfl (fun hb4 => ?_) (fun hb4 => ?_)
     ·have hb4' := hb4; try simp at hb4'
      have hj2 : j < hs.length := by omega
      refine hc_skip (then_n (hc_seq (hc_block (hc_seq (hc_region ?_)))))
      refine r_loadB rfl T.row_api_Trades T.sz_api_Trades rfl (by repeat constructor) (by rfl) ?_
      refine r_move rfl rfl (r_move rfl rfl ?_)
      refine hl_call F.ref04_refers_cb rfl rfl (ref04_refers_meets cs hs i j hi2 ha) (hpR := [(g5, Obj.cells cur T.int (0, 0))]) (List.Perm.refl _) ⟨(by repeat constructor), trivial⟩ fun _ _ => ?_
      refine r_move rfl rfl ?_
      refine g_split rfl rfl ?_ ?_
      ·intro hg2; have hg2' := hg2; try simp at hg2'
       have g16 : nextB (trOf cs hs) i j = true := by simpa using hg2
       refine g_yes rfl rfl hg2 (r_move rfl rfl (g_yes rfl rfl hg2 (r_move rfl rfl (g_yes rfl rfl hg2 ?_))))
       refine r_indexAddr_own (j) (j) rfl T.u_ints T.sz_int rfl rfl rfl hj2 (by omega) ?_
       refine g_yes rfl rfl hg2 ?_
       refine r_load (v := int (dAt ds j)) rfl T.cell_int rfl (cell_own (by repeat constructor) (own_el rfl hct (by rw [hdl]; exact hj2) (by omega) rfl)) ?_
       refine g_yes rfl rfl hg2 (r_lss rfl rfl rfl ?_)
       refine p_t rfl rfl (bt1 hg2) rfl ?_
       refine hl_nil (then_n ?_)
       refine c_dec rfl (fun hb5 => ?_) (fun hb5 => ?_)
       ·have hb5' := hb5; try simp at hb5'
        have hV2 := lv_hit hh hV hi2 hj2 hb4 g16 hb5
        refine hc_region (r_move rfl rfl (r_move rfl rfl (r_move rfl rfl ?_)))
        refine r_add _ rfl rfl rfl rfl (by unfold I64; omega) ?_
        refine r_indexAddr_own (j) (j) rfl T.u_ints T.sz_int rfl rfl rfl hj2 (by omega) ?_
        refine r_store rfl rfl (.refl _) T.sz_int (own_el rfl hct (by rw [hdl]; exact hj2) rfl rfl) (by rfl) ?_
        have hct1 := take_set1 (α := Int) (k := j) (a := (k : Int) + 1) rfl rfl hct
        refine hl_nil (inb_n (then_n (hc_region (r_move rfl rfl ?_))))
        refine r_add _ rfl rfl rfl rfl (by unfold I64; omega) ?_
        refine r_assign rfl rfl (hl_nil ?_)
        exact again _ (j + 1, ds.set j ((k : Int) + 1), cur.setIfInBounds j (int ((k : Int) + 1))) ⟨by show j + 1 ≤ hs.length; omega, hV2, hct1⟩ (by show hs.length - (j + 1) < hs.length - j; omega) ⟨rfl, rfl, rfl, rfl, rfl, trivial⟩ (List.Sublist.refl _) ⟨(by repeat constructor), (by repeat constructor), (by repeat constructor), trivial⟩
       ·have hb5' := hb5; try simp at hb5'
        have hV2 := lv_skip hV (fun _ => Int.not_lt.1 hb5)
        refine hc_skip (inb_n (then_n (hc_region (r_move rfl rfl ?_))))
        refine r_add _ rfl rfl rfl rfl (by unfold I64; omega) ?_
        refine r_assign rfl rfl (hl_nil ?_)
        exact again _ (j + 1, ds, cur) ⟨by show j + 1 ≤ hs.length; omega, hV2, hct⟩ (by show hs.length - (j + 1) < hs.length - j; omega) ⟨rfl, rfl, rfl, rfl, rfl, trivial⟩ (List.Sublist.refl _) ⟨(by repeat constructor), (by repeat constructor), (by repeat constructor), trivial⟩
      ·intro hg2; have hg2' := hg2; try simp at hg2'
       have g16 : ¬ nextB (trOf cs hs) i j = true := by simpa using hg2
       have hV2 := lv_skip hV (fun e1 => absurd e1 g16)
       refine g_no rfl rfl rfl rfl rfl hg2 (g_no rfl rfl rfl rfl rfl hg2 (g_no rfl rfl rfl rfl rfl hg2 (g_no rfl rfl rfl rfl rfl hg2 (g_no rfl rfl rfl rfl rfl hg2 ?_))))
       refine p_f rfl rfl (bf2 hg2) rfl ?_
       refine hl_nil (then_n (c_f rfl rfl (hc_skip (inb_n (then_n (hc_region (r_move rfl rfl ?_)))))))
       refine r_add _ rfl rfl rfl rfl (by unfold I64; omega) ?_
       refine r_assign rfl rfl (hl_nil ?_)
       exact again _ (j + 1, ds, cur) ⟨by show j + 1 ≤ hs.length; omega, hV2, hct⟩ (by show hs.length - (j + 1) < hs.length - j; omega) ⟨rfl, rfl, rfl, rfl, rfl, trivial⟩ (List.Sublist.refl _) ⟨(by repeat constructor), (by repeat constructor), (by repeat constructor), trivial⟩
     ·have hb4' := hb4; try simp at hb4'
      have hV2 := lv_row hh hV hi2 (.inr hb4)
      refine hc_exit (then_exit (then_exit (inb_hit (inb_n (then_n (hc_region (r_move rfl rfl ?_)))))))
      refine r_add _ rfl rfl rfl rfl (by unfold I64; omega) ?_
      refine r_assign rfl rfl (hl_nil ?_)
      exact again _ (i + 1, ds, cur) ⟨by show i + 1 ≤ hs.length; omega, hV2, hct⟩ (by show hs.length - (i + 1) < hs.length - i; omega) ⟨rfl, rfl, rfl, rfl, trivial⟩ (List.Sublist.refl _) ⟨(by repeat constructor), (by repeat constructor), (by repeat constructor), trivial⟩
    ·intro hg1; have hg1' := hg1; try simp at hg1'
     have g14_6 : ¬ (j : Int) < hs.length := of_decide_eq_false (bf2 hg1)
     refine g_no rfl rfl rfl rfl rfl hg1 (g_no rfl rfl rfl rfl rfl hg1 (g_no rfl rfl rfl rfl rfl hg1 (g_no rfl rfl rfl rfl rfl hg1 (g_no rfl rfl rfl rfl rfl hg1 (g_no rfl rfl rfl rfl rfl hg1 ?_)))))
     refine p_f rfl rfl (bf2 hg1) rfl ?_
     refine hl_nil (then_n (c_f rfl rfl (hc_exit (then_exit (then_exit (inb_hit (inb_n (then_n (hc_region (r_move rfl rfl ?_))))))))))
     refine r_add _ rfl rfl rfl rfl (by unfold I64; omega) ?_
     refine r_assign rfl rfl (hl_nil ?_)
     exact again _ (i + 1, ds, cur) ⟨by show i + 1 ≤ hs.length; omega, lv_row hh hV hi2 (.inl (by omega)), hct⟩ (by show hs.length - (i + 1) < hs.length - i; omega) ⟨rfl, rfl, rfl, rfl, trivial⟩ (List.Sublist.refl _) ⟨(by repeat constructor), (by repeat constructor), (by repeat constructor), trivial⟩
   ·have hb3' := hb3; try simp at hb3'
    obtain rfl : i = hs.length := by omega
    have hV2 := lv_lev hh hV
    refine hc_exit (then_exit (then_exit (inb_hit (inb_n (then_n (hc_region (r_move rfl rfl ?_)))))))
    refine r_add _ rfl rfl rfl rfl (by unfold I64; omega) ?_
    refine r_assign rfl rfl (hl_nil ?_)
    exact again _ (k + 1, ds, cur) ⟨by show k + 1 ≤ hs.length; omega, hV2, hct⟩ (by show hs.length - (k + 1) < hs.length - k; omega) ⟨rfl, rfl, rfl, trivial⟩ (List.Sublist.refl _) ⟨(by repeat constructor), (by repeat constructor), (by repeat constructor), trivial⟩
  ·have hb2' := hb2; try simp at hb2'
   obtain rfl : k = hs.length := by omega
   have hE := lv_end hV
   have hE2 : ds = (stepsT (trOf cs hs) (h : Int)) := by rw [hE]; unfold stepsT; rw [hln]; try rfl
   subst hE2
   refine hc_exit (then_exit (then_exit (inb_hit (then_n (hc_seq (hc_region (r_move rfl rfl (r_assign rfl rfl (hl_nil (then_n (hc_ret ?_)))))))))))
   have hle : (stepsT (trOf cs hs) (h : Int)).length = hs.length := by rw [steps_len, hln]
   have hpf : rows (stepsT (trOf cs hs) (h : Int)) <+: cur.toList := by rw [← hct]; exact List.take_prefix _ _
   refine hq_letgo (rows (stepsT (trOf cs hs) (h : Int))) hpf ?_
   exact ret1 (some ⟨g5, 0, none⟩, dc) rfl (by show some (Value.slice _ hs.length dc) = some (Value.slice _ (stepsT (trOf cs hs) (h : Int)).length dc); rw [hle]) rfl (by show (stepsT (trOf cs hs) (h : Int)).length ≤ dc; rw [hle]; exact hnc) (List.nil_sublist _) ⟨m0, trivial⟩

set_option maxHeartbeats 1000000 in
theorem ref04_hidden_meets {A B : Option Addr} {ca cb : Nat} (cs : List Cl) (hs : List Hd) (h : Nat) (s : Int) (hok : TrOK (trOf cs hs)) (hh : h < hs.length) (ha : ∀ h ∈ hs, h.2.2.2.l.length ≤ 1000000) : Meets Tryz.prog F.ref04_hidden [.agg #[.slice A cs.length ca, .slice B hs.length cb], int h, int s] { LI := [RowsF B hs Hd.row], inv := fun x : OutC => (hiddenT (trOf cs hs) (h : Int) s).length ≤ x.2, val := fun x => .slice x.1 (hiddenT (trOf cs hs) (h : Int) s).length x.2, LO := fun x => [Row x.1 (rows (hiddenT (trOf cs hs) (h : Int) s))] } := by
 refine meets_intro F.ref04_hidden_f rfl (Nat.le_of_ble_eq_true rfl) fun w0 => ?_
 refine hc_seq (hc_region ?_)
 refine r_box rfl rfl fun gB => ?_
 refine r_assign rfl rfl (hl_nil (then_n (hc_seq ?_)))
 have h6h := hok.h6
 have hln := hs_len cs hs
 rw [hln] at h6h
 refine hc_letgoB ?_
 refine hc_outerF (ps := hs) (A := B) (f := Hd.row) (by repeat constructor) ?_
 refine hc_region ?_
 refine r_loadB rfl T.row_api_Trades T.sz_api_Trades rfl (by repeat constructor) (by rfl) ?_
 refine r_move rfl rfl ?_
 refine hl_call F.ref04_steps_cb rfl rfl (ref04_steps_meets cs hs h hok hh ha) (List.Perm.refl _) ⟨(by repeat constructor), trivial⟩ fun y hy => ?_
 refine r_assign rfl rfl (hl_nil (then_n (hc_seq (hc_region (r_assign rfl rfl (hl_nil (then_n (hc_seq (hc_seq (hc_region (r_assign rfl rfl ?_)))))))))))
 refine hl_nil (then_n (hc_block ?_))
 have hsl := steps_len (trOf cs hs) (h : Int)
 rw [hln] at hsl
 refine hc_loop (β := Nat × OutC × Hp) ⟨fun x => x.1 ≤ hs.length ∧ Grow T.int 1 x.2.1.1 (hiK (trOf cs hs) (h : Int) s x.1).length x.2.1.2 (rows (hiK (trOf cs hs) (h : Int) s x.1)) x.2.2, fun x => [(2, int s), (3, .pointer (some ⟨gB, 0, none⟩)), (7, .slice y.1 (stepsT (trOf cs hs) (h : Int)).length y.2), (8, .slice x.2.1.1 (hiK (trOf cs hs) (h : Int) s x.1).length x.2.1.2), (9, int x.1)], fun x => x.2.2, fun _ => [Row y.1 (rows (stepsT (trOf cs hs) (h : Int))), Row B (rows hs), Blk gB (.cells #[.slice A cs.length ca, .slice B hs.length cb] T.api_Trades (0, 0)), RowsF B hs Hd.row]⟩ (fun x => hs.length - x.1) (0, (none, 0), []) ⟨Nat.zero_le _, Grow.nil _ _⟩ ⟨rfl, rfl, rfl, rfl, rfl, trivial⟩ (List.nil_sublist _) ⟨(by repeat constructor), (by repeat constructor), (by repeat constructor), (by repeat constructor), trivial⟩ fun x hx => ?_
 obtain ⟨k, ⟨na, nc⟩, og⟩ := x
 obtain ⟨hk, hG⟩ := hx
 simp only at hk hG
 refine hc_seq (hc_seq (hc_region (r_move rfl rfl ?_)))
 refine r_fieldAddr ⟨_, 1, none⟩ rfl rfl T.fa_api_Trades_1 rfl ?_
 refine r_load rfl T.cell_L_api_Head rfl (cell_blk (by repeat constructor) rfl) ?_
 refine r_len_sl rfl T.u_L_api_Head rfl ?_
 refine r_lss rfl rfl rfl (hl_nil (then_n ?_))
 refine c_dec rfl (fun hb1 => ?_) (fun hb1 => ?_)
 ·have hb1' := hb1; try simp at hb1'
  have hk2 : k < hs.length := by omega
  have hkl : k < (stepsT (trOf cs hs) (h : Int)).length := by omega
  have hul := hiK_len (trOf cs hs) (h : Int) s k
  have huc := hiK_succ (trOf cs hs) (h : Int) s k
  have hib : hiB (trOf cs hs) (h : Int) s k = (decide (0 ≤ (hs.getD k default).2.1) && !decide (0 ≤ ((stepsT (trOf cs hs) (h : Int)).getD k default) ∧ ((stepsT (trOf cs hs) (h : Int)).getD k default) ≤ s)) := by unfold hiB; rw [is_tr hok hk2]
  refine hc_skip (then_n (hc_seq (hc_block ?_)))
  refine hc_cut ⟨fun _ : Unit => True, fun _ => [(2, int s), (3, .pointer (some ⟨gB, 0, none⟩)), (7, .slice y.1 (stepsT (trOf cs hs) (h : Int)).length y.2), (8, .slice (na, nc).1 (hiK (trOf cs hs) (h : Int) s k).length (na, nc).2), (9, int k), (41, .bool (hiB (trOf cs hs) (h : Int) s k))], fun _ => og, fun _ => [Row y.1 (rows (stepsT (trOf cs hs) (h : Int))), Row B (rows hs), Blk gB (.cells #[.slice A cs.length ca, .slice B hs.length cb] T.api_Trades (0, 0)), RowsF B hs Hd.row]⟩ ?_ ?_
  ·skip
   refine hc_region ?_
   refine r_fieldAddr ⟨_, 1, none⟩ rfl rfl T.fa_api_Trades_1 rfl ?_
   refine r_load rfl T.cell_L_api_Head rfl (cell_blk (by repeat constructor) rfl) ?_
   refine r_move rfl rfl ?_
   refine r_elem (α := Hd) hs k rfl T.u_L_api_Head T.sz_api_Head rfl rfl rfl (by repeat constructor) rfl hk2 (by decide) ?_
   refine r_fieldAddr _ rfl rfl T.fa_api_Head_1 rfl ?_
   refine r_load (v := int (hs.getD k default).2.1) rfl T.cell_int rfl (cell_row_f (by repeat constructor) (rows_get hk2 rfl)) ?_
   refine r_geq rfl rfl rfl (r_move rfl rfl ?_)
   refine g_split rfl rfl ?_ ?_
   ·intro hg1; have hg1' := hg1; try simp at hg1'
    have g6_8 : 0 ≤ (hs.getD k default).2.1 := of_decide_eq_true (eq_of_beq hg1)
    refine g_yes rfl rfl hg1 (r_move rfl rfl (g_yes rfl rfl hg1 (r_move rfl rfl (g_yes rfl rfl hg1 ?_))))
    refine r_elem (α := Int) (stepsT (trOf cs hs) (h : Int)) k rfl T.u_ints T.sz_int rfl rfl rfl (by repeat constructor) rfl hkl (by decide) ?_
    refine g_yes rfl rfl hg1 ?_
    refine r_load (v := int ((stepsT (trOf cs hs) (h : Int)).getD k default)) rfl T.cell_int rfl (cell_row (by repeat constructor) (rows_get0 hkl rfl)) ?_
    refine g_yes rfl rfl hg1 (r_lss rfl rfl rfl (g_yes rfl rfl hg1 (r_move rfl rfl ?_)))
    refine g_split rfl rfl ?_ ?_
    ·intro hg2; have hg2' := hg2; try simp at hg2'
     have g6_14 : ¬ ((stepsT (trOf cs hs) (h : Int)).getD k default) < 0 := of_decide_eq_false (eq_of_beq hg2)
     refine g_yes rfl rfl hg2 (r_move rfl rfl (g_yes rfl rfl hg2 (r_move rfl rfl (g_yes rfl rfl hg2 ?_))))
     refine r_elem (α := Int) (stepsT (trOf cs hs) (h : Int)) k rfl T.u_ints T.sz_int rfl rfl rfl (by repeat constructor) rfl hkl (by decide) ?_
     refine g_yes rfl rfl hg2 ?_
     refine r_load (v := int ((stepsT (trOf cs hs) (h : Int)).getD k default)) rfl T.cell_int rfl (cell_row (by repeat constructor) (rows_get0 hkl rfl)) ?_
     refine g_yes rfl rfl hg2 (r_move rfl rfl (g_yes rfl rfl hg2 (r_gtr rfl rfl rfl (g_yes rfl rfl hg1 ?_))))
     refine p_f rfl rfl (bf1 hg2) rfl ?_
     refine p_t rfl rfl (bt1 hg1) rfl ?_
     refine hl_nil ?_
     exact cut_n _ () trivial ⟨rfl, rfl, rfl, rfl, rfl, congrArg (fun b => some (Value.bool b)) (by rw [hib, decide_eq_true g6_8, Bool.true_and]; by_cases e2 : s < ((stepsT (trOf cs hs) (h : Int)).getD k default); rw [decide_eq_true e2, decide_eq_false (fun e3 => by omega)]; rfl; rw [decide_eq_false e2, decide_eq_true (by omega)]; rfl), trivial⟩ (List.Sublist.refl _) ⟨(by repeat constructor), (by repeat constructor), (by repeat constructor), (by repeat constructor), trivial⟩
    ·intro hg2; have hg2' := hg2; try simp at hg2'
     have g6_14 : ((stepsT (trOf cs hs) (h : Int)).getD k default) < 0 := Classical.byContradiction (fun e => by rw [decide_eq_false e] at hg2; cases hg2)
     refine g_no rfl rfl rfl rfl rfl hg2 (g_no rfl rfl rfl rfl rfl hg2 (g_no rfl rfl rfl rfl rfl hg2 (g_no rfl rfl rfl rfl rfl hg2 (g_no rfl rfl rfl rfl rfl hg2 (g_no rfl rfl rfl rfl rfl hg2 (g_yes rfl rfl hg1 ?_))))))
     refine p_t rfl rfl (bt2 hg2) rfl ?_
     refine p_t rfl rfl (bt1 hg1) rfl ?_
     refine hl_nil ?_
     exact cut_n _ () trivial ⟨rfl, rfl, rfl, rfl, rfl, congrArg (fun b => some (Value.bool b)) (by rw [hib, decide_eq_true g6_8, Bool.true_and, decide_eq_false (fun e3 => by omega)]; rfl), trivial⟩ (List.Sublist.refl _) ⟨(by repeat constructor), (by repeat constructor), (by repeat constructor), (by repeat constructor), trivial⟩
   ·intro hg1; have hg1' := hg1; try simp at hg1'
    have g6_8 : ¬ 0 ≤ (hs.getD k default).2.1 := of_decide_eq_false (bf2 hg1)
    refine g_no rfl rfl rfl rfl rfl hg1 (g_no rfl rfl rfl rfl rfl hg1 (g_no rfl rfl rfl rfl rfl hg1 (g_no rfl rfl rfl rfl rfl hg1 (g_no rfl rfl rfl rfl rfl hg1 (g_no rfl rfl rfl rfl rfl hg1 (g_und rfl rfl rfl rfl rfl rfl (g_und rfl rfl rfl rfl rfl rfl (g_und rfl rfl rfl rfl rfl rfl (g_und rfl rfl rfl rfl rfl rfl (g_und rfl rfl rfl rfl rfl rfl (g_und rfl rfl rfl rfl rfl rfl ?_)))))))))))
    refine g_no rfl rfl rfl rfl rfl hg1 ?_
    refine p_f rfl rfl (bf2 hg1) rfl ?_
    refine hl_nil ?_
    exact cut_n _ () trivial ⟨rfl, rfl, rfl, rfl, rfl, congrArg (fun b => some (Value.bool b)) (by rw [hib, decide_eq_false g6_8, Bool.false_and]), trivial⟩ (List.Sublist.refl _) ⟨(by repeat constructor), (by repeat constructor), (by repeat constructor), (by repeat constructor), trivial⟩
  ·refine fun _ _ => ?_
   refine hc_cond rfl (fun hb2 => ?_) (fun hb2 => ?_)
   ·have hb2' := hb2; try simp at hb2'
    rw [if_pos hb2] at huc
    refine hc_region (r_move rfl rfl (r_move rfl rfl ?_))
    refine r_buildSlice _ rfl rfl (fun _ => T.bs_ints_1 ..) fun gS => ?_
    refine hl_letgo (rows [(k : Int)]) (List.prefix_refl _) ?_
    refine r_append ((hiK (trOf cs hs) (h : Int) s k).length + 1) (rows ((hiK (trOf cs hs) (h : Int) s k) ++ [(k : Int)])) T.el_ints rfl rfl rfl hG (hp' := []) (show List.Perm og (og ++ []) from by rw [List.append_nil]) (Src.row (news := rows [(k : Int)]) (m := 1) m0 rfl (rows_one _) (by decide)) rfl (rows_append _ _).symm (by unfold maxLen; omega) (by omega) fun A' c' og' hG' => ?_
    refine r_assign rfl rfl (hl_nil (inb_n (then_n (hc_region (r_move rfl rfl ?_)))))
    refine r_add _ rfl rfl rfl rfl (by unfold I64; omega) ?_
    refine r_assign rfl rfl (hl_nil ?_)
    exact again _ (k + 1, (A', c'), og') ⟨by show k + 1 ≤ hs.length; omega, by show Grow _ _ _ (hiK (trOf cs hs) (h : Int) s (k + 1)).length _ (rows (hiK (trOf cs hs) (h : Int) s (k + 1))) _; rw [huc, List.length_append]; exact hG'⟩ (by show hs.length - (k + 1) < hs.length - k; omega) ⟨rfl, rfl, rfl, by show some (Value.slice A' ((hiK (trOf cs hs) (h : Int) s k).length + 1) c') = some (Value.slice A' (hiK (trOf cs hs) (h : Int) s (k + 1)).length c'); rw [huc, List.length_append]; rfl, rfl, trivial⟩ (List.sublist_append_left _ _) ⟨(by repeat constructor), (by repeat constructor), (by repeat constructor), (by repeat constructor), trivial⟩
   ·have hb2' := hb2; try simp at hb2'
    rw [if_neg (by rw [hb2]; decide)] at huc
    refine hc_skip (inb_n (then_n (hc_region (r_move rfl rfl ?_))))
    refine r_add _ rfl rfl rfl rfl (by unfold I64; omega) ?_
    refine r_assign rfl rfl (hl_nil ?_)
    exact again _ (k + 1, (na, nc), og) ⟨by show k + 1 ≤ hs.length; omega, by show Grow _ _ _ (hiK (trOf cs hs) (h : Int) s (k + 1)).length _ (rows (hiK (trOf cs hs) (h : Int) s (k + 1))) _; rw [huc]; exact hG⟩ (by show hs.length - (k + 1) < hs.length - k; omega) ⟨rfl, rfl, rfl, by show some (Value.slice na (hiK (trOf cs hs) (h : Int) s k).length nc) = some (Value.slice na (hiK (trOf cs hs) (h : Int) s (k + 1)).length nc); rw [huc], rfl, trivial⟩ (List.Sublist.refl _) ⟨(by repeat constructor), (by repeat constructor), (by repeat constructor), (by repeat constructor), trivial⟩
 ·have hb1' := hb1; try simp at hb1'
  obtain rfl : k = hs.length := by omega
  have hG2 := hG
  rw [show (hiK (trOf cs hs) (h : Int) s hs.length) = hiddenT (trOf cs hs) (h : Int) s from by unfold hiddenT; rw [hln]] at hG2
  refine hc_exit (then_exit (then_exit (inb_hit (then_n (hc_seq (hc_region (r_move rfl rfl (r_assign rfl rfl (hl_nil (then_n (hc_ret ?_)))))))))))
  refine hq_grown0 hG2 ?_
  exact ret1 (na, nc) rfl (by show some (Value.slice na (hiK (trOf cs hs) (h : Int) s hs.length).length nc) = some (Value.slice na (hiddenT (trOf cs hs) (h : Int) s).length nc); rw [show (hiK (trOf cs hs) (h : Int) s hs.length) = (hiddenT (trOf cs hs) (h : Int) s) from by unfold hiddenT; rw [hln]]) rfl hG2.le (List.nil_sublist _) ⟨m0, trivial⟩

theorem ref04_counted_meets {A B : Option Addr} {ca cb : Nat} (cs : List Cl) (hs : List Hd) (h s : Int) (hhl : hs.length ≤ 1000) (hcl0 : cs.length ≤ 1000) (hwc : ∀ x ∈ cs, x.1.length ≤ 1000) (hwh : ∀ h ∈ hs, h.1.length ≤ 1000) (ha : ∀ h ∈ hs, h.2.2.2.l.length ≤ 1000000) : Meets Tryz.prog F.ref04_counted [.agg #[.slice A cs.length ca, .slice B hs.length cb], int h, int s] { LI := [Row A (rows cs), RowsF B hs Hd.row], val := fun _ : Unit => int (if ¬ askE (trOf cs hs) [h] = 0 then askE (trOf cs hs) [h] else if 0 ≤ s ∧ s ≤ 6 then 0 else 1) } := by
 refine meets_intro F.ref04_counted_f rfl (Nat.le_of_ble_eq_true rfl) fun w0 => ?_
 refine hc_seq (hc_region ?_)
 refine r_box rfl rfl fun gB => ?_
 refine r_assign rfl rfl (hl_nil (then_n (hc_seq (hc_seq (hc_region ?_)))))
 refine r_loadA rfl T.row_api_Trades T.sz_api_Trades rfl (by repeat constructor) (by rfl) ?_
 refine r_move rfl rfl ?_
 refine r_buildSlice _ rfl rfl (fun _ => T.bs_ints_1 ..) fun gS => ?_
 refine hl_letgo (rows [h]) (List.prefix_refl _) ?_
 refine hl_nilrow (α := Int) ?_
 refine hl_call F.ref04_asked_cb rfl rfl (ref04_asked_meets (C1 := none) (c1 := 0) cs hs ([] : List Int) [h] (by simp) (by simp) hhl hcl0 hwc hwh ha) (List.Perm.refl _) ⟨(by repeat constructor), (by repeat constructor), (by repeat constructor), (by repeat constructor), trivial⟩ fun _ _ => ?_
 refine r_assign rfl rfl (hl_nil (then_n (hc_seq (hc_region (r_move rfl rfl (r_neq rfl rfl rfl (hl_nil (then_n ?_))))))))
 refine c_dec rfl (fun hb1 => ?_) (fun hb1 => ?_)
 ·have hb1' := hb1; try simp at hb1'
  rw [askd_h] at hb1
  refine hc_seq (hc_region (r_move rfl rfl (r_assign rfl rfl (hl_nil (then_n (hc_ret (then_ret ?_)))))))
  exact ret1 () rfl (congrArg (fun z : Int => some (int z)) (by rw [if_pos hb1, askd_h])) rfl trivial (List.nil_sublist _) trivial
 ·have hb1' := hb1; try simp at hb1'
  rw [askd_h] at hb1
  refine hc_skip (then_n (hc_seq (hc_seq (hc_region (r_move rfl rfl (r_lss rfl rfl rfl (r_move rfl rfl ?_)))))))
  refine g_split rfl rfl ?_ ?_
  ·intro hg1; have hg1' := hg1; try simp at hg1'
   have g4_3 : ¬ s < 0 := of_decide_eq_false (eq_of_beq hg1)
   refine g_yes rfl rfl hg1 (r_move rfl rfl (g_yes rfl rfl hg1 (r_gtr rfl rfl rfl ?_)))
   refine p_f rfl rfl (bf1 hg1) rfl ?_
   refine hl_nil (then_n ?_)
   refine c_dec rfl (fun hb2 => ?_) (fun hb2 => ?_)
   ·have hb2' := hb2; try simp at hb2'
    refine hc_seq (hc_region (r_assign rfl rfl (hl_nil (then_n (hc_ret (then_ret ?_))))))
    exact ret1 () rfl (congrArg (fun z : Int => some (int z)) (by rw [if_neg hb1, if_neg (fun e => by omega)])) rfl trivial (List.nil_sublist _) trivial
   ·have hb2' := hb2; try simp at hb2'
    refine hc_skip (then_n (hc_seq (hc_region (r_assign rfl rfl (hl_nil (then_n (hc_ret ?_)))))))
    exact ret1 () rfl (congrArg (fun z : Int => some (int z)) (by rw [if_neg hb1, if_pos ⟨by omega, by omega⟩])) rfl trivial (List.nil_sublist _) trivial
  ·intro hg1; have hg1' := hg1; try simp at hg1'
   have g4_3 : s < 0 := Classical.byContradiction (fun e => by rw [decide_eq_false e] at hg1; cases hg1)
   refine g_no rfl rfl rfl rfl rfl hg1 (g_no rfl rfl rfl rfl rfl hg1 ?_)
   refine p_t rfl rfl (bt2 hg1) rfl ?_
   refine hl_nil (then_n (c_t rfl rfl (hc_seq (hc_region (r_assign rfl rfl (hl_nil (then_n (hc_ret (then_ret ?_)))))))))
   exact ret1 () rfl (congrArg (fun z : Int => some (int z)) (by rw [if_neg hb1, if_neg (fun e => by omega)])) rfl trivial (List.nil_sublist _) trivial



end Go.Proofs.YtlpgheniajdkfaaGreat
