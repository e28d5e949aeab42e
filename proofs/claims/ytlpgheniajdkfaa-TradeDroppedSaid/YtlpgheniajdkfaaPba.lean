/- The fewest references to add. -/
import Derived.Test.YtlpgheniajdkfaaPaz
namespace Go.Proofs.Ytlpgheniajdkfaa
open Go Go.W
set_option linter.unusedVariables false
set_option linter.unusedSimpArgs false
set_option maxRecDepth 20000
attribute [local irreducible] HL HC HQ HB Row Rows2 Blk Facts

theorem lt_succ_all {Q : Nat → Prop} {k : Nat} (h0 : ∀ m, m < k → Q m) (h1 : Q k) : ∀ m, m < k + 1 → Q m := fun m hm => by
  rcases Nat.lt_or_ge m k with h | h
  · exact h0 m h
  · obtain rfl : m = k := (by omega)
    exact h1
theorem combos_none {α : Type} : ∀ (k : Nat) (l : List α), l.length < k → combos k l = []
  | 0, l, h => by omega
  | k + 1, [], _ => rfl
  | k + 1, x :: l, h => by
    rw [List.length_cons] at h
    rw [combos, combos_none k l (by omega), combos_none (k + 1) l (by omega)]
    rfl
theorem combos_all {α : Type} : ∀ (l : List α), combos l.length l = [l]
  | [] => rfl
  | x :: l => by
    rw [List.length_cons, combos, combos_all l, combos_none (l.length + 1) l (by omega)]
    rfl
theorem range_none {α : Type} {f : Nat → Option α} {n : Nat} (h : ∀ m, m < n → f m = none) : (List.range n).findSome? f = none := by
  rw [List.findSome?_eq_none_iff]
  exact fun m hm => h m (List.mem_range.1 hm)
theorem range_at {α : Type} {f : Nat → Option α} {k : Nat} {x : α} (h : ∀ m, m < k → f m = none) (h1 : f k = some x) : ∀ (n : Nat), k < n → (List.range n).findSome? f = some x
  | 0, hk => by omega
  | n + 1, hk => by
    rw [List.range_succ, List.findSome?_append]
    by_cases hkn : k < n
    · rw [range_at h h1 n hkn]; rfl
    · have e : k = n := by omega
      subst e
      rw [range_none h]
      simp [h1]
theorem join_no {t : Tr} {h s : Int} (hf : fineB t h s (freeT t) = false) : joinT t h s = none := by unfold joinT; rw [if_pos hf]
theorem join_at {t : Tr} {h s : Int} {k : Nat} {b : List Rf} (hf : fineB t h s (freeT t) = true) (hk : k < (freeT t).length + 1) (h0 : ∀ m, m < k → growQ (fineB t h s) m [] (freeT t) = none) (h1 : growQ (fineB t h s) k [] (freeT t) = some b) : joinT t h s = some b := by
  unfold joinT
  rw [if_neg (by rw [hf]; decide), List.find?_flatMap]
  refine range_at (k := k) (fun m hm => ?_) ?_ _ hk
  · rw [← growQ_all]; exact h0 m hm
  · rw [← growQ_all]; exact h1
theorem join_end {t : Tr} {h s : Int} (hf : fineB t h s (freeT t) = true) (h0 : ∀ m, m < (freeT t).length + 1 → growQ (fineB t h s) m [] (freeT t) = none) : False := by
  have h1 := h0 (freeT t).length (by omega)
  rw [growQ_all, combos_all, List.find?_cons] at h1
  rw [hf] at h1
  cases h1
theorem free_in {t : Tr} : InRf t.hs.length (freeT t) := by
  intro r hr
  unfold freeT at hr
  obtain ⟨i, hi, hm⟩ := List.mem_flatMap.1 hr
  have hi := List.mem_range.1 hi
  split at hm
  · obtain ⟨k, hk, rfl⟩ := List.mem_map.1 hm
    have hk := List.mem_range.1 (List.mem_filter.1 hk).1
    simp only
    omega
  · cases hm
theorem free_len {t : Tr} (h6 : t.hs.length ≤ 6) : (freeT t).length ≤ 36 := by
  have h1 := frK_len t t.hs.length
  have h2 : t.hs.length * t.hs.length ≤ 6 * 6 := Nat.mul_le_mul h6 h6
  rw [free_frK]
  omega
abbrev OutS := List (Sl Int) × OutC
def pairsOf (l : List Rf) : List (List Int) := l.map fun r => [r.1, r.2]
theorem pairs_snoc (l : List Rf) (r : Rf) : pairsOf (l ++ [r]) = pairsOf l ++ [[r.1, r.2]] := by unfold pairsOf; rw [List.map_append]; rfl
def isOut (b : List Rf) (y : OutS) : Prop := y.1.map (·.l) = pairsOf b
abbrev cell12 (g : Nat) (v : Value) : Nat × Obj := (g, .cells #[v] T.intss (0, 0))
theorem res_tmps2 {c : Cx} {fr : Fr} {fn : Func} {t u : Tmp} {v1 v2 : Value} (hres : fn.results = #[.tmp t, .tmp u]) (hv : lk fr t = some v1) (hv2 : lk fr u = some v2) (a : Act) (w : World) (hfr : ∀ t v, lk fr t = some v → a.tmps.getD t undef = v) : (results fn a.tmps).run c.P w = .ok (.tuple #[v1, v2]) w := by
  have h : (results fn a.tmps).run c.P w = .ok (.tuple #[a.tmps.getD t undef, a.tmps.getD u undef]) w := by
    unfold results; rw [hres]; simp
  rw [hfr _ _ hv, hfr _ _ hv2] at h
  exact h

set_option maxHeartbeats 1000000 in
theorem trade_list_join_meets {A B oa ka : Option Addr} {ca cb oc kc gl : Nat} (cs : List Cl) (hs : List Hd) (h s : Nat) (hok : TrOK (trOf cs hs)) (hh : h < hs.length) (hs6 : s ≤ 6) : Meets Try.prog F.trade_list_join [.pointer (some ⟨gl, 0, none⟩), int h, int s] { LI := [Row (some ⟨gl, 0, none⟩) [.slice A cs.length ca, .slice B hs.length cb, .slice oa cs.length oc, .slice ka hs.length kc], Row ka (rows (kindsN hs hs.length)), RowsF B hs Hd.row], inv := fun x : OutS => isOut ((joinT (trOf cs hs) (h : Int) (s : Int)).getD []) x, val := fun x => .tuple #[.slice x.2.1 x.1.length x.2.2, .bool (joinT (trOf cs hs) (h : Int) (s : Int)).isSome], LO := fun x => [Rows2 x.2.1 x.1] } := by
 refine meetsM_intro F.trade_list_join_f rfl (Nat.le_of_ble_eq_true rfl) fun w0 => ?_
 refine hc_seq ?_
 refine hc_region ?_
 have h6h := hok.h6
 have hln := hs_len cs hs
 rw [hln] at h6h
 refine r_box rfl rfl fun g4 => ?_
 refine r_box rfl rfl fun g5 => ?_
 refine r_assign rfl rfl ?_
 refine r_assign rfl rfl ?_
 refine hl_nil ?_
 refine then_n ?_
 refine hc_scope ?_
 refine hc_seq ?_
 refine hc_region ?_
 refine r_move rfl rfl ?_
 refine hl_call F.trade_list_trades_cb rfl rfl (trade_list_trades_meets (A := A) (B := B) (oa := oa) (ka := ka) (ca := ca) (cb := cb) (oc := oc) (kc := kc) (gl := gl) cs hs (by omega)) (List.Perm.refl _) ⟨(by repeat constructor), (by repeat constructor), trivial⟩ fun due hD => ?_
 refine r_move rfl rfl ?_
 refine hl_call F.trade_list_nets_cb rfl rfl (trade_list_nets_meets (A := A) (B := B) (oa := oa) (ka := ka) (ca := ca) (cb := cb) (oc := oc) (kc := kc) (gl := gl) cs hs hok) (List.Perm.refl _) ⟨(by repeat constructor), (by repeat constructor), (by repeat constructor), trivial⟩ fun ns hN => ?_
 refine r_move rfl rfl ?_
 refine hl_call F.trade_list_free_cb rfl rfl (trade_list_free_meets (A := A) (B := B) (oa := oa) (ka := ka) (ca := ca) (cb := cb) (oc := oc) (kc := kc) (gl := gl) cs hs hok) (List.Perm.refl _) ⟨(by repeat constructor), (by repeat constructor), (by repeat constructor), trivial⟩ fun fo hfo => ?_
 refine r_alloc rfl (fun _ => T.al_trade_heads _) fun g8 => ?_
 refine r_alloc rfl (fun _ => T.al_trade_nets _) fun g9 => ?_
 refine r_store (v := u8 due) rfl rfl (.swap _ _ _) T.sz_trade_heads (by rfl) (by rfl) ?_
 rw [← hln] at hN hD
 obtain ⟨a0, a1, a2, a3, a4, a5, rfl⟩ := six hN.len
 refine r_storeS (cs := (rows [a0, a1, a2, a3, a4, a5]).toArray) rfl rfl (.swap _ _ _) T.sz_trade_nets (by rfl) (by rfl) ?_
 refine r_assign rfl rfl ?_
 refine hl_nil ?_
 refine then_n ?_
 refine hc_seq ?_
 have hfl := free_len (t := (trOf cs hs)) (by rw [hln]; exact h6h)
 refine hc_letgoB ?_
 refine hc_letgoB ?_
 refine hc_letgoB ?_
 refine hc_letgoB ?_
 refine hc_region ?_
 refine r_makeFunc rfl rfl rfl ?_
 refine r_alloc rfl (fun _ => T.al_func_L_trade_ref_bool _) fun g11 => ?_
 refine r_store rfl rfl (.refl _) T.sz_func_L_trade_ref_bool (by rfl) (by rfl) ?_
 refine hl_nil ?_
 refine then_n ?_
 refine hc_seq ?_
 refine hc_seq ?_
 refine hc_letgoB ?_
 refine hc_region ?_
 refine r_load (v := .func (.func F.trade_list_join_1) #[] [pt g9, pt g8, pt g4, pt g5].toArray) rfl T.cell_func_L_trade_ref_bool rfl (cell_blk (by repeat constructor) rfl) ?_
 refine r_move rfl rfl ?_
 refine hl_callv (vs := [.slice fo.1 (freeT (trOf cs hs)).length fo.2]) (cap := [pt g9, pt g8, pt g4, pt g5]) F.trade_list_join_1_cb rfl rfl rfl (trade_list_join_1_meets (t := (trOf cs hs)) [a0, a1, a2, a3, a4, a5] due h s (freeT (trOf cs hs)) (by rw [hln]; exact h6h) hN hD (by omega) (by omega) free_in (by omega)) (List.Perm.refl _) ⟨(by repeat constructor), (by repeat constructor), (by repeat constructor), (by repeat constructor), (by repeat constructor), trivial⟩ fun _ _ => ?_
 refine r_not rfl rfl ?_
 refine hl_nil ?_
 refine then_n ?_
 first | refine c_dec rfl (fun hb1 => ?_) (fun hb1 => ?_) | refine hc_cond rfl (fun hb1 => ?_) (fun hb1 => ?_)
 ·have hb1' := hb1; try simp at hb1'
  have hf : fineB (trOf cs hs) (h : Int) (s : Int) (freeT (trOf cs hs)) = false := by simpa using hb1
  refine hc_seq ?_
  refine hc_region ?_
  refine r_assign rfl rfl ?_
  refine r_assign rfl rfl ?_
  refine hl_nil ?_
  refine then_n ?_
  refine hc_ret ?_
  refine then_ret ?_
  refine ng_ret ?_
  refine hq_nilrow (α := Sl Int) ?_
  refine hq_facts (Fs := ([] : List (Sl Int)).map fun p => Row p.a (rows p.l)) (by intro F hF; simp at hF) ?_
  refine hq_rows2F (A := none) (ps := ([] : List (Sl Int))) (by repeat constructor) (by repeat constructor) ?_
  have hJ := join_no hf
  refine ret_marks [] (([] : List (Sl Int)), (none, 0)) rfl (List.Perm.refl _) (fun a w _ hfr _ => ?_) rfl (by show isOut _ _; rw [hJ]; rfl) (List.nil_sublist _) ⟨m0, trivial⟩
  rw [hJ]
  exact res_tmps2 rfl rfl rfl a w hfr
 ·have hb1' := hb1; try simp at hb1'
  have hf : fineB (trOf cs hs) (h : Int) (s : Int) (freeT (trOf cs hs)) = true := by simpa using hb1
  refine hc_skip ?_
  refine then_n ?_
  refine hc_seq ?_
  refine hc_region ?_
  refine r_alloc rfl (fun _ => T.al_intss _) fun g12 => ?_
  refine hl_nil ?_
  refine then_n ?_
  refine hc_seq ?_
  refine hc_label ?_
  refine then_n ?_
  refine hc_seq ?_
  refine hc_seq ?_
  refine hc_region ?_
  refine r_move rfl rfl ?_
  refine r_len_sl rfl T.u_L_trade_ref rfl ?_
  refine r_add _ rfl rfl rfl rfl (by unfold I64; omega) ?_
  refine r_move rfl rfl ?_
  refine hl_nil ?_
  refine then_n ?_
  refine hc_block ?_
  refine hc_loopM (β := Nat × List Nat) ⟨fun x => x.1 ≤ (freeT (trOf cs hs)).length + 1 ∧ ∀ m, m < x.1 → growQ (fineB (trOf cs hs) (h : Int) (s : Int)) m [] (freeT (trOf cs hs)) = none, fun x => [(10, .slice fo.1 (freeT (trOf cs hs)).length fo.2), (11, pt g11), (12, pt g12), (30, int ((freeT (trOf cs hs)).length + 1 : Nat)), (31, int x.1)], fun _ => [cell12 g12 (.slice none 0 0)], fun _ => (Row fo.1 (rows (freeT (trOf cs hs))) :: (boxF g11 (.func (.func F.trade_list_join_1) #[] [pt g9, pt g8, pt g4, pt g5].toArray) :: WL g9 g8 g4 g5 [a0, a1, a2, a3, a4, a5] due h s))⟩ (fun x => x.2) (fun x => (freeT (trOf cs hs)).length + 1 - x.1) (0, []) ⟨Nat.zero_le _, fun m hm => by omega⟩ rfl ⟨rfl, rfl, rfl, rfl, rfl, trivial⟩ (List.Sublist.refl _) ⟨(by repeat constructor), (by repeat constructor), (by repeat constructor), (by repeat constructor), (by repeat constructor), (by repeat constructor), trivial⟩ fun x hx => ?_
  obtain ⟨k, ds⟩ := x
  obtain ⟨hk, h0⟩ := hx
  simp only at hk h0
  refine hc_seq ?_
  refine hc_region ?_
  refine r_lss rfl rfl rfl ?_
  refine hl_nil ?_
  refine then_n ?_
  refine hc_seq ?_
  first | refine c_dec rfl (fun hb2 => ?_) (fun hb2 => ?_) | refine hc_cond rfl (fun hb2 => ?_) (fun hb2 => ?_)
  ·have hb2' := hb2; try simp at hb2'
   have hk2 : k < (freeT (trOf cs hs)).length + 1 := by omega
   refine hc_skip ?_
   refine then_n ?_
   refine hc_seq ?_
   refine hc_block ?_
   refine hc_seq ?_
   refine hc_region ?_
   refine r_move rfl rfl ?_
   refine r_assign rfl rfl ?_
   refine hl_nil ?_
   refine then_n ?_
   refine hc_seq ?_
   refine hc_region ?_
   refine r_move rfl rfl ?_
   refine r_move rfl rfl ?_
   refine hl_call F.trade_picks_cb rfl rfl (trade_picks_meets (A := fo.1) (n := (freeT (trOf cs hs)).length) (c := fo.2) (k : Int)) (List.Perm.refl _) trivial fun gp _ => ?_
   obtain ⟨gm, gl2⟩ := gp
   refine hl_nil ?_
   refine then_n ?_
   refine hc_block ?_
   refine hc_rangeFunc (β := OrdG OutS) (cap := [pt gm, pt gl2]) (hpR := shutM ds) [cell12 g12 (.slice none 0 0)] (boxN gm k :: boxL gl2 fo.1 (freeT (trOf cs hs)).length fo.2 :: Row fo.1 (rows (freeT (trOf cs hs))) :: (boxF g11 (.func (.func F.trade_list_join_1) #[] [pt g9, pt g8, pt g4, pt g5].toArray) :: WL g9 g8 g4 g5 [a0, a1, a2, a3, a4, a5] due h s)) (fun x => growQ (fineB (trOf cs hs) (h : Int) (s : Int)) k [] (freeT (trOf cs hs)) = x.map (·.1) ∧ ∀ y, x = some y → isOut y.1 y.2) (fun _ => .tuple #[]) (fun x => x.map fun _ => .exit 0) (fun x => ry [cell12 g12 (.slice none 0 0)] (fun y : OutS => [cell12 g12 (.slice y.2.1 y.1.length y.2.2)]) (x.map (·.2))) (fun x => ly (fun y : OutS => [Rows2 y.2.1 y.1]) (x.map (·.2))) rfl F.trade_picks_1_cb (List.perm_append_comm (l₁ := shutM ds) (l₂ := [cell12 g12 (.slice none 0 0)])) ⟨(by repeat constructor), (by repeat constructor), (by repeat constructor), (by repeat constructor), (by repeat constructor), (by repeat constructor), (by repeat constructor), (by repeat constructor), trivial⟩ ?_ ?_ ?_
   ·intro lb d fn tmps hsz hfr
    refine trade_picks_1_meets (lb := lb) (rc := recL fn tmps #[37] _ _ d) (J := .exit 0) (R0 := [cell12 g12 (.slice none 0 0)]) (R1 := (fun y : OutS => [cell12 g12 (.slice y.2.1 y.1.length y.2.2)])) (L1 := (fun y : OutS => [Rows2 y.2.1 y.1])) (I1 := isOut) (LI0 := (boxF g11 (.func (.func F.trade_list_join_1) #[] [pt g9, pt g8, pt g4, pt g5].toArray) :: WL g9 g8 g4 g5 [a0, a1, a2, a3, a4, a5] due h s)) (p := (fineB (trOf cs hs) (h : Int) (s : Int))) (cap := k) (LA := fo.1) (lc := fo.2) (freeT (trOf cs hs)) (by omega) (by omega) (fun gb b cur hbl hbs hct => ?_)
    refine meetsY_intro m0 hsz hfr rfl (by intro t ht; simp at ht; subst ht; exact Nat.lt_of_lt_of_le (show 37 < 59 by decide) (Nat.le_refl _)) fun w => ?_
    refine hc_regionR rfl ?_
    refine r_assign rfl rfl ?_
    refine hl_nil ?_
    refine then_begin (.refl _) ?_
    refine hc_block ?_
    refine hc_seq ?_
    refine hc_seq ?_
    refine hc_regionR rfl ?_
    refine r_load (v := .func (.func F.trade_list_join_1) #[] [pt g9, pt g8, pt g4, pt g5].toArray) rfl T.cell_func_L_trade_ref_bool rfl (cell_blk (by repeat constructor) rfl) ?_
    refine r_move rfl rfl ?_
    refine hl_callv (vs := [.slice (some ⟨gb, 0, none⟩) b.length k]) (cap := [pt g9, pt g8, pt g4, pt g5]) F.trade_list_join_1_cb rfl rfl rfl (trade_list_join_1_meetsO (gb := gb) (c := k) (cur := cur) (t := (trOf cs hs)) [a0, a1, a2, a3, a4, a5] due h s b (by rw [hln]; exact h6h) hN hD (by omega) (by omega) (fun r hr => free_in r (hbs r hr)) (by omega) hct) (List.Perm.swap _ _ _) ⟨(by repeat constructor), (by repeat constructor), (by repeat constructor), (by repeat constructor), trivial⟩ fun _ _ => ?_
    refine r_not rfl rfl ?_
    refine hl_nil ?_
    refine then_n ?_
    first | refine c_dec rfl (fun hb3 => ?_) (fun hb3 => ?_) | refine hc_cond rfl (fun hb3 => ?_) (fun hb3 => ?_)
    ·have hb3' := hb3; try simp at hb3'
     have hpb : (fineB (trOf cs hs) (h : Int) (s : Int)) b = false := by simpa using hb3
     refine hc_exit ?_
     refine then_exit ?_
     refine inb_hit ?_
     exact rp_n none (List.Perm.swap _ _ _) rfl rfl ⟨hpb.symm, fun y hy => by cases hy⟩ (List.Sublist.refl _) trivial
    ·have hb3' := hb3; try simp at hb3'
     have hpb : (fineB (trOf cs hs) (h : Int) (s : Int)) b = true := by simpa using hb3
     refine hc_skip ?_
     refine then_n ?_
     refine hc_seq ?_
     refine hc_seq ?_
     refine hc_facts (Fs := ([] : List (Sl Int)).map (fun p : Sl Int => Row p.a (rows p.l))) (by intro F hF; simp at hF) ?_
     refine hc_regionR rfl ?_
     refine r_move rfl rfl ?_
     refine r_len_sl rfl T.u_L_trade_ref rfl ?_
     refine r_move rfl rfl ?_
     refine hl_nil ?_
     refine then_n ?_
     refine hc_block ?_
     refine hc_perm (List.reverse_perm _).symm ?_
     refine hc_loop (β := Nat × List (Sl Int) × OutC × Hp) ⟨fun x => x.1 ≤ b.length ∧ Grow T.ints 1 x.2.2.1.1 x.2.1.length x.2.2.1.2 (rows x.2.1) x.2.2.2 ∧ x.2.1.map (·.l) = pairsOf (b.take x.1), fun x => [(12, pt g12), (42, .slice (some ⟨gb, 0, none⟩) b.length k), (43, int b.length), (44, int x.1)], fun x => cell12 g12 (.slice x.2.2.1.1 x.2.1.length x.2.2.1.2) :: (x.2.2.2 ++ [(lb, .loop (recB fn tmps #[37] _ _ d)), gbO gb cur]), fun x => [Facts (x.2.1.map (fun p : Sl Int => Row p.a (rows p.l)))]⟩ (fun x => b.length - x.1) (0, [], (none, 0), []) ⟨Nat.zero_le _, Grow.nil _ _, rfl⟩ ⟨rfl, rfl, rfl, rfl, trivial⟩ (show List.Sublist _ _ from List.Sublist.refl _) ⟨(by repeat constructor), trivial⟩ fun x hx => ?_
     obtain ⟨j, ps, ⟨na, nc⟩, og⟩ := x
     obtain ⟨hj, hG, hps⟩ := hx
     simp only at hj hG hps
     have hpl : ps.length = j := by have := congrArg List.length hps; rw [List.length_map, pairsOf, List.length_map, List.length_take] at this; omega
     refine hc_seq ?_
     refine hc_regionR rfl ?_
     refine r_lss rfl rfl rfl ?_
     refine hl_nil ?_
     refine then_n ?_
     refine hc_seq ?_
     first | refine c_dec rfl (fun hb4 => ?_) (fun hb4 => ?_) | refine hc_cond rfl (fun hb4 => ?_) (fun hb4 => ?_)
     ·have hb4' := hb4; try simp at hb4'
      have hj2 : j < b.length := by omega
      refine hc_skip ?_
      refine then_n ?_
      refine hc_seq ?_
      refine hc_block ?_
      refine hc_seq ?_
      refine hc_regionR rfl ?_
      refine r_indexAddr_own j (0 + j * 2) rfl T.u_L_trade_ref T.sz_trade_ref rfl rfl rfl hj2 rfl ?_
      refine r_loadS rfl T.row_trade_ref T.sz_trade_ref rfl rfl (cells_own (List.mem_cons_of_mem _ (List.mem_append_right _ (List.mem_cons_of_mem _ (List.mem_cons_self ..)))) (own2 hct hj2)) ?_
      refine r_alloc rfl (fun _ => T.al_trade_ref _) fun gA => ?_
      refine r_storeS rfl rfl (by first | exact .refl _ | exact perm2 _ _ _ | exact perm3 _ _ _ _ | exact perm4 _ _ _ _ _) T.sz_trade_ref (by rfl) (by rfl) ?_
      refine hl_nil ?_
      refine then_n ?_
      refine hc_letgo (rows [b.getD j default]) ⟨[], List.append_nil _⟩ ?_
      refine hc_regionR rfl ?_
      refine r_load (v := .slice na ps.length nc) rfl T.cell_intss rfl (cell_own (List.mem_cons_self ..) rfl) ?_
      first | refine r_fieldAddr ⟨_, 0, none⟩ rfl rfl T.fa_trade_ref_0 rfl ?_ | refine r_fieldAddr _ rfl rfl T.fa_trade_ref_0 rfl ?_
      first | refine r_load rfl T.cell_int rfl (cell_own (by repeat constructor) rfl) ?_ | refine r_load rfl T.cell_int rfl (cell_blk (by repeat constructor) rfl) ?_ | refine r_load rfl T.cell_int rfl (cell_row (by repeat constructor) (rows_get0 (by omega) rfl)) ?_ | refine r_load rfl T.cell_int rfl (cell_row_f (by repeat constructor) (rows_get (by omega) rfl)) ?_ | refine r_load rfl T.cell_int rfl (cell_rowg (by repeat constructor) rfl) ?_
      first | refine r_fieldAddr ⟨_, 1, none⟩ rfl rfl T.fa_trade_ref_1 rfl ?_ | refine r_fieldAddr _ rfl rfl T.fa_trade_ref_1 rfl ?_
      first | refine r_load rfl T.cell_int rfl (cell_own (by repeat constructor) rfl) ?_ | refine r_load rfl T.cell_int rfl (cell_blk (by repeat constructor) rfl) ?_ | refine r_load rfl T.cell_int rfl (cell_row (by repeat constructor) (rows_get0 (by omega) rfl)) ?_ | refine r_load rfl T.cell_int rfl (cell_row_f (by repeat constructor) (rows_get (by omega) rfl)) ?_ | refine r_load rfl T.cell_int rfl (cell_rowg (by repeat constructor) rfl) ?_
      refine r_buildSlice _ rfl rfl (fun _ => T.bs_ints_2 ..) fun gS => ?_
      refine hl_letgo (rows [(b.getD j default).1, (b.getD j default).2]) (List.prefix_refl _) ?_
      refine r_buildSlice _ rfl rfl (fun _ => T.bs_intss_1 ..) fun gS2 => ?_
      refine hl_letgo (rows [(⟨some ⟨gS, 0, none⟩, 2, [(b.getD j default).1, (b.getD j default).2]⟩ : Sl Int)]) (List.prefix_refl _) ?_
      refine r_append (ps.length + 1) (rows (ps ++ [(⟨some ⟨gS, 0, none⟩, 2, [(b.getD j default).1, (b.getD j default).2]⟩ : Sl Int)])) T.el_intss rfl rfl rfl hG (pm3 _ _ _ _) (Src.row (news := rows [(⟨some ⟨gS, 0, none⟩, 2, [(b.getD j default).1, (b.getD j default).2]⟩ : Sl Int)]) (m := 1) m0 rfl (rows_one _) (by decide)) rfl (rows_append _ _).symm (by unfold maxLen; omega) (by omega) fun A' c' og' hG' => ?_
      refine r_store rfl rfl (pm4 _ _ _ _) T.sz_intss (by rfl) (by rfl) ?_
      refine hl_facts (innerF_snoc (ps := ps) (f := fun p : Sl Int => Row p.a (rows p.l)) (p := (⟨some ⟨gS, 0, none⟩, 2, [(b.getD j default).1, (b.getD j default).2]⟩ : Sl Int)) (by repeat constructor) (by repeat constructor)) ?_
      refine hl_nil ?_
      refine inb_n ?_
      refine then_n ?_
      refine hc_regionR rfl ?_
      refine r_add _ rfl rfl rfl rfl (by unfold I64; omega) ?_
      refine r_move rfl rfl ?_
      refine hl_nil ?_
      exact again _ (j + 1, ps ++ [(⟨some ⟨gS, 0, none⟩, 2, [(b.getD j default).1, (b.getD j default).2]⟩ : Sl Int)], (A', c'), og') ⟨by show j + 1 ≤ b.length; omega, by show Grow _ _ _ (ps ++ [_]).length _ _ _; rw [List.length_append]; exact hG', by show (ps ++ [_]).map (fun p : Sl Int => p.l) = pairsOf (b.take (j + 1)); rw [take_succ_getD b j hj2, pairs_snoc, List.map_append, hps]; rfl⟩ (by show b.length - (j + 1) < b.length - j; omega) ⟨rfl, rfl, rfl, rfl, trivial⟩ (by show List.Sublist (cell12 g12 (.slice A' (ps ++ [_]).length c') :: _) _; rw [List.length_append]; exact List.Sublist.refl _) ⟨(by repeat constructor), trivial⟩
     ·have hb4' := hb4; try simp at hb4'
      have hj2 : j = b.length := by omega
      subst hj2
      rw [List.take_length] at hps
      refine hc_exit ?_
      refine then_exit ?_
      refine then_exit ?_
      refine inb_hit ?_
      refine then_n ?_
      refine hc_exit ?_
      refine inb_miss rfl ?_
      refine hq_perm (pm3 _ _ _ _) ?_
      refine hq_grown hG ?_
      refine hq_rows2F (A := na) (ps := ps) (by repeat constructor) (by repeat constructor) ?_
      exact rp_exit (some (ps, (na, nc))) (hp' := [gbO gb cur, cell12 g12 (.slice na ps.length nc)]) ((List.Perm.swap _ _ _).trans (List.Perm.cons _ (List.Perm.swap _ _ _))) rfl rfl ⟨hpb.symm, fun y hy => by cases hy; exact hps⟩ (List.Sublist.refl _) ⟨m0, trivial⟩
   ·intro x d hx hp
    obtain rfl : x = none := by cases x with | none => rfl | some y => cases hp
    refine inb_n ?_
    refine inb_n ?_
    refine then_n ?_
    refine hc_region ?_
    refine r_add _ rfl rfl rfl rfl (by unfold I64; omega) ?_
    refine r_move rfl rfl ?_
    refine hl_nil ?_
    refine hq_perm (List.Perm.cons _ (List.perm_append_comm (l₂ := shutM ds))) ?_
    exact againM _ (k + 1, d :: ds) ⟨by show k + 1 ≤ (freeT (trOf cs hs)).length + 1; omega, lt_succ_all h0 hx.1⟩ (by show (freeT (trOf cs hs)).length + 1 - (k + 1) < (freeT (trOf cs hs)).length + 1 - k; omega) rfl ⟨rfl, rfl, rfl, rfl, rfl, trivial⟩ (List.Sublist.refl _) ⟨(by repeat constructor), (by repeat constructor), (by repeat constructor), (by repeat constructor), (by repeat constructor), (by repeat constructor), trivial⟩
   ·intro x d j hx hp
    obtain ⟨y, rfl⟩ : ∃ y, x = some y := by cases x with | none => cases hp | some y => exact ⟨y, rfl⟩
    cases hp
    refine hc_exit ?_
    refine inb_miss rfl ?_
    refine inb_miss rfl ?_
    refine then_exit ?_
    refine then_exit ?_
    refine inb_hit ?_
    refine then_n ?_
    refine hc_seq ?_
    refine hc_region ?_
    refine r_load (v := .slice y.2.2.1 y.2.1.length y.2.2.2) rfl T.cell_intss rfl (cell_own (List.mem_cons_of_mem _ (List.mem_append_left _ (List.mem_cons_self ..))) rfl) ?_
    refine r_assign rfl rfl ?_
    refine r_assign rfl rfl ?_
    refine hl_nil ?_
    refine then_n ?_
    refine hc_ret ?_
    refine ng_ret ?_
    have hJ := join_at hf hk2 h0 hx.1
    have hIs := hx.2 _ rfl
    refine ret_marks (d :: ds) y.2 rfl (List.Perm.cons _ (List.perm_append_comm (l₂ := shutM ds))) (fun a w _ hfr _ => ?_) rfl (by show isOut _ _; rw [hJ]; exact hIs) (List.nil_sublist _) ⟨(by repeat constructor), trivial⟩
    rw [hJ]
    exact res_tmps2 rfl rfl rfl a w hfr
  ·exact (join_end hf fun m hm => h0 m (by omega)).elim

end Go.Proofs.Ytlpgheniajdkfaa
