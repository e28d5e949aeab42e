/- Whether no trade is hidden with so many references more. -/
import Derived.Test.YtlpgheniajdkfaaPax
namespace Go.Proofs.Ytlpgheniajdkfaa
open Go Go.W
set_option linter.unusedVariables false
set_option linter.unusedSimpArgs false
set_option maxRecDepth 20000
attribute [local irreducible] HL HC HQ HB Row Rows2 Blk Facts

theorem diff8_zero {a b : Nat} (ha : a < 256) (hb : b < 256) : diff8 a b = 0 ↔ ∀ j, a.testBit j = true → b.testBit j = true := by
  have hnot : ∀ j, (255 - b).testBit j = (decide (j < 8) && !b.testBit j) := fun j => by
    rw [show 255 - b = 2 ^ 8 - (b + 1) by omega]
    exact Nat.testBit_two_pow_sub_succ (n := 8) hb j
  have hhi : ∀ j, 8 ≤ j → a.testBit j = false := fun j hj => Nat.testBit_lt_two_pow (Nat.lt_of_lt_of_le ha (Nat.pow_le_pow_right (by omega) hj : 2 ^ 8 ≤ 2 ^ j))
  unfold diff8
  constructor
  · intro h j hj
    have h1 := congrArg (fun m => m.testBit j) h
    simp only [Nat.testBit_and, hnot, hj, Nat.zero_testBit, Bool.true_and] at h1
    by_cases h8 : j < 8
    · simpa [h8] using h1
    · rw [hhi j (by omega)] at hj; cases hj
  · intro h
    refine Nat.eq_of_testBit_eq fun j => ?_
    rw [Nat.testBit_and, hnot, Nat.zero_testBit]
    cases hj : a.testBit j
    · rfl
    · rw [h j hj]; simp
theorem reach6 {n : Nat} (hn : n ≤ 6) {e e' : Edges} {h : Nat} (hE : ∀ k, k < n → ∀ i, e k i = e' k i) (h0 : ∀ k, n ≤ k → ∀ i, e k i = false) : ∀ (s i : Nat), reachB 6 e h s i = reachB n e' h s i
  | 0, i => rfl
  | s + 1, i => by
    rw [Bool.eq_iff_iff, reach_succ, reach_succ, reach6 hn hE h0 s i]
    refine or_congr_right ⟨?_, ?_⟩
    · rintro ⟨k, h1, h2, h3⟩
      by_cases hk : k < n
      · exact ⟨k, hk, by rw [← reach6 hn hE h0 s k]; exact h2, by rw [← hE k hk]; exact h3⟩
      · rw [h0 k (by omega)] at h3; cases h3
    · rintro ⟨k, h1, h2, h3⟩
      exact ⟨k, by omega, by rw [reach6 hn hE h0 s k]; exact h2, by rw [hE k h1]; exact h3⟩
/-- References within the headings. -/
abbrev InRf (n : Nat) (l : List Rf) : Prop := ∀ r ∈ l, (0 ≤ r.1 ∧ r.1 < (n : Int)) ∧ 0 ≤ r.2 ∧ r.2 < (n : Int)
abbrev wE (t : Tr) (n : Nat) (r : List Rf) (i x : Nat) : Bool := (decide (i < n) && nextB t i x) || decide (((i : Int), (x : Int)) ∈ r)
structure WithK (t : Tr) (n : Nat) (r : List Rf) (ns : List Nat) : Prop where
  len : ns.length = 6
  is : ∀ i, SetIs (ns.getD i default) (fun x => wE t n r i x)
theorem WithK.start {t : Tr} {n : Nat} {ns : List Nat} (h : NetK t n ns) : WithK t n [] ns := ⟨h.len, fun i => (h.is i).same fun j => by simp [wE]⟩
theorem WithK.add {t : Tr} {n a e : Nat} {r : List Rf} {ns : List Nat} (h : WithK t n r ns) (ha : a < 6) (he : e < 8) : WithK t n (r ++ [((a : Int), (e : Int))]) (ns.set a (ns.getD a default ||| 2 ^ e)) := ⟨by rw [List.length_set]; exact h.len, fun i => by
  rw [get_set8 (by rw [h.len]; exact ha)]
  by_cases hi : a = i
  · subst hi
    rw [if_pos rfl]
    refine (h.is a).add he fun j => ?_
    show wE t n _ a j = (wE t n r a j || decide (e = j))
    unfold wE
    rw [Bool.or_assoc]
    congr 1
    rw [← Bool.decide_or]
    refine decide_eq_decide.2 ?_
    rw [List.mem_append, List.mem_singleton, Prod.mk.injEq]
    exact or_congr_right ⟨fun e => by omega, fun e => by omega⟩
  · rw [if_neg hi]
    refine (h.is i).same fun j => ?_
    show wE t n _ i j = wE t n r i j
    unfold wE
    congr 1
    refine decide_eq_decide.2 ?_
    rw [List.mem_append, List.mem_singleton, Prod.mk.injEq]
    exact ⟨fun e => e.elim id (fun e => by omega), .inl⟩⟩
theorem fine_of {t : Tr} {r : List Rf} {due m h s : Nat} (hn : t.hs.length ≤ 6) (hr : InRf t.hs.length r) (hd : SetIs due (fun j => decide (j < t.hs.length) && isTrB t (j : Int))) (hm : SetIs m (reachB 6 (wE t t.hs.length r) h s)) : decide ((diff8 due m : Int) = 0) = fineB t (h : Int) (s : Int) r := by
  have hR : ∀ i, reachB 6 (wE t t.hs.length r) h s i = reachB t.hs.length (withE t r) h s i := fun i => reach6 hn (fun k hk i => by unfold wE withE; rw [decide_eq_true hk, Bool.true_and]) (fun k hk i => by
    unfold wE
    rw [decide_eq_false (show ¬ k < t.hs.length by omega), Bool.false_and, Bool.false_or]
    refine decide_eq_false fun hm => ?_
    have := (hr _ hm).1.2
    simp only at this
    omega) s i
  rw [Bool.eq_iff_iff, decide_eq_true_eq]
  unfold fineB
  rw [List.all_eq_true]
  have hz := diff8_zero hd.1 hm.1
  constructor
  · intro h0 i hi
    have hi := List.mem_range.1 hi
    have h1 := hz.1 (by omega) i
    rw [hd.2 i, hm.2 i, hR i] at h1
    simp only [Int.toNat_natCast]
    cases ht : isTrB t (i : Int)
    · rfl
    · rw [h1 (by simp [hi, ht])]; rfl
  · intro h0
    have : diff8 due m = 0 := hz.2 fun j hj => by
      rw [hd.2 j] at hj
      simp only [Bool.and_eq_true, decide_eq_true_eq] at hj
      have h1 := h0 j (List.mem_range.2 hj.1)
      rw [hj.2] at h1
      rw [hm.2 j, hR j]
      simpa using h1
    omega
/-- What the question leans on. -/
abbrev gbO (g : Nat) (cur : Array Value) : Nat × Obj := (g, .cells cur T.trade_ref (0, 0))
abbrev WL (g9 g8 g4 g5 : Nat) (ns : List Nat) (due h s : Nat) : List Fact := [Blk g9 (.cells (rows ns).toArray T.trade_nets (0, 0)), Blk g8 (.cells #[u8 due] T.trade_heads (0, 0)), Blk g4 (.cells #[int h] T.int (0, 0)), Blk g5 (.cells #[int s] T.int (0, 0))]
abbrev pt (g : Nat) : Value := .pointer (some ⟨g, 0, none⟩)
theorem own2 {cur : Array Value} {l : List Rf} {k : Nat} (h : cur.toList.take (l.length * 2) = rows l) (hk : k < l.length) : ∀ i u, [int (l.getD k default).1, int (l.getD k default).2][i]? = some u → cur[0 + k * 2 + i]? = some u := by
  intro i u hu
  have hlt : i < 2 := (List.getElem?_eq_some_iff.1 hu).1
  have h2 : (rows l)[k * 2 + i]? = some u := rows_get (α := Rf) hk hu
  rw [← h, List.getElem?_take, if_pos (by omega)] at h2
  rw [Nat.zero_add, ← Array.getElem?_toList]
  exact h2

set_option maxHeartbeats 1000000 in
theorem trade_list_join_1_meets {A : Option Addr} {c : Nat} {g9 g8 g4 g5 : Nat} {t : Tr} (ns : List Nat) (due h s : Nat) (refs : List Rf) (hn : t.hs.length ≤ 6) (hN : NetK t t.hs.length ns) (hD : SetIs due (fun j => decide (j < t.hs.length) && isTrB t (j : Int))) (hh : h < 6) (hs : s ≤ 1000000) (hr : InRf t.hs.length refs) (hrl : refs.length ≤ 1000000) :
    Meets Try.prog F.trade_list_join_1 [.slice A refs.length c, pt g9, pt g8, pt g4, pt g5] { LI := Row A (rows refs) :: WL g9 g8 g4 g5 ns due h s, val := fun _ : Unit => .bool (fineB t h s refs) } := by
 refine meets_intro F.trade_list_join_1_f rfl (Nat.le_of_ble_eq_true rfl) fun w0 => ?_
 refine hc_seq ?_
 obtain ⟨a0, a1, a2, a3, a4, a5, rfl⟩ := six hN.len
 refine hc_region ?_
 refine r_assign rfl rfl ?_
 refine hl_nil ?_
 refine then_n ?_
 refine hc_seq ?_
 refine hc_region ?_
 first | refine r_loadA rfl T.row_trade_nets T.sz_trade_nets rfl (by repeat constructor) (by rfl) ?_ | refine r_loadB rfl T.row_trade_nets T.sz_trade_nets rfl (by repeat constructor) (by rfl) ?_ | refine r_loadS rfl T.row_trade_nets T.sz_trade_nets rfl rfl (cells_row (by repeat constructor) (rows_all (by omega))) ?_
 refine r_alloc rfl (fun _ => T.al_trade_nets _) fun g7 => ?_
 refine r_storeS rfl rfl (by first | exact .refl _ | exact perm2 _ _ _ | exact perm3 _ _ _ _ | exact perm4 _ _ _ _ _) T.sz_trade_nets (by rfl) (by rfl) ?_
 refine hl_nil ?_
 refine then_n ?_
 refine hc_seq ?_
 refine hc_seq ?_
 refine hc_region ?_
 refine r_move rfl rfl ?_
 refine r_len_sl rfl T.u_L_trade_ref rfl ?_
 refine r_move rfl rfl ?_
 refine hl_nil ?_
 refine then_n ?_
 refine hc_block ?_
 refine hc_loop (β := Nat × List Nat) ⟨fun x => x.1 ≤ refs.length ∧ WithK t t.hs.length (refs.take x.1) x.2, fun x => [(2, pt g8), (3, pt g4), (4, pt g5), (7, pt g7), (11, .slice A refs.length c), (12, int refs.length), (13, int x.1)], fun x => arr8 g7 x.2 :: [], fun _ => Row A (rows refs) :: WL g9 g8 g4 g5 [a0, a1, a2, a3, a4, a5] due h s⟩ (fun x => refs.length - x.1) (0, [a0, a1, a2, a3, a4, a5]) ⟨Nat.zero_le _, .start hN⟩ ⟨rfl, rfl, rfl, rfl, rfl, rfl, rfl, trivial⟩ (List.Sublist.refl _) ⟨(by repeat constructor), (by repeat constructor), (by repeat constructor), (by repeat constructor), (by repeat constructor), trivial⟩ fun x hx => ?_
 obtain ⟨k, ns⟩ := x
 obtain ⟨hk, hW⟩ := hx
 simp only at hk hW
 refine hc_seq ?_
 refine hc_region ?_
 refine r_lss rfl rfl rfl ?_
 refine hl_nil ?_
 refine then_n ?_
 refine hc_seq ?_
 first | refine c_dec rfl (fun hb1 => ?_) (fun hb1 => ?_) | refine hc_cond rfl (fun hb1 => ?_) (fun hb1 => ?_)
 ·have hb1' := hb1; try simp at hb1'
  have hk2 : k < refs.length := by omega
  have hrk := hr _ (getD_mem hk2)
  obtain ⟨a, ha⟩ := Int.eq_ofNat_of_zero_le hrk.1.1
  obtain ⟨e, he⟩ := Int.eq_ofNat_of_zero_le hrk.2.1
  have hax : a < ns.length := by rw [hW.len]; omega
  refine hc_skip ?_
  refine then_n ?_
  refine hc_seq ?_
  refine hc_block ?_
  refine hc_seq ?_
  refine hc_region ?_
  refine r_elem (α := Rf) refs k rfl T.u_L_trade_ref T.sz_trade_ref rfl rfl rfl (by repeat constructor) rfl hk2 (by decide) ?_
  refine r_loadS rfl T.row_trade_ref T.sz_trade_ref rfl rfl (cells_row (by repeat constructor) (rows_all (by omega))) ?_
  refine r_alloc rfl (fun _ => T.al_trade_ref _) fun gA => ?_
  refine r_storeS rfl rfl (by first | exact .refl _ | exact perm2 _ _ _ | exact perm3 _ _ _ _ | exact perm4 _ _ _ _ _) T.sz_trade_ref (by rfl) (by rfl) ?_
  refine hl_nil ?_
  refine then_n ?_
  refine hc_letgo (rows [refs.getD k default]) ⟨[], List.append_nil _⟩ ?_
  refine hc_draw 9 mixed (by decide) (by decide) rfl rfl ?_
  apply hb_ex _ rfl rfl rfl
  ·intro w1
   first | refine r_fieldAddr ⟨_, 0, none⟩ rfl rfl T.fa_trade_ref_0 rfl ?_ | refine r_fieldAddr _ rfl rfl T.fa_trade_ref_0 rfl ?_
   refine hl_nil ?_
   exact qe_done rfl
  apply hb_ex _ rfl rfl rfl
  ·intro w1
   first | refine r_load rfl T.cell_int rfl (cell_blk (by repeat constructor) rfl) ?_ | refine r_load rfl T.cell_int rfl (cell_own (by repeat constructor) rfl) ?_ | refine r_load rfl T.cell_int rfl (cell_row (by repeat constructor) (rows_get0 (by omega) rfl)) ?_ | refine r_load rfl T.cell_int rfl (cell_row_f (by repeat constructor) (rows_get (by omega) rfl)) ?_ | refine r_load rfl T.cell_int rfl (cell_rowg (by repeat constructor) rfl) ?_
   refine hl_nil ?_
   exact qe_done rfl
  apply hb_ex _ rfl rfl rfl
  ·intro w1
   first | refine r_fieldAddr ⟨_, 0, none⟩ rfl rfl T.fa_trade_ref_0 rfl ?_ | refine r_fieldAddr _ rfl rfl T.fa_trade_ref_0 rfl ?_
   refine hl_nil ?_
   exact qe_done rfl
  apply hb_ex _ rfl rfl rfl
  ·intro w1
   first | refine r_load rfl T.cell_int rfl (cell_blk (by repeat constructor) rfl) ?_ | refine r_load rfl T.cell_int rfl (cell_own (by repeat constructor) rfl) ?_ | refine r_load rfl T.cell_int rfl (cell_row (by repeat constructor) (rows_get0 (by omega) rfl)) ?_ | refine r_load rfl T.cell_int rfl (cell_row_f (by repeat constructor) (rows_get (by omega) rfl)) ?_ | refine r_load rfl T.cell_int rfl (cell_rowg (by repeat constructor) rfl) ?_
   refine hl_nil ?_
   exact qe_done rfl
  apply hb_ex _ rfl rfl rfl
  ·intro w1
   refine r_indexArr a a rfl T.u_trade_nets T.sz_trade_heads rfl rfl ha (by omega) (by omega) ?_
   refine hl_nil ?_
   exact qe_done rfl
  apply hb_ex _ rfl rfl rfl
  ·intro w1
   refine r_load (v := u8 (ns.getD a default)) rfl T.cell_trade_heads rfl (cell_blk (by repeat constructor) (at8 hax)) ?_
   refine hl_nil ?_
   exact qe_done rfl
  apply hb_ex _ rfl rfl rfl
  ·intro w1
   first | refine r_fieldAddr ⟨_, 1, none⟩ rfl rfl T.fa_trade_ref_1 rfl ?_ | refine r_fieldAddr _ rfl rfl T.fa_trade_ref_1 rfl ?_
   refine hl_nil ?_
   exact qe_done rfl
  apply hb_ex _ rfl rfl rfl
  ·intro w1
   first | refine r_load rfl T.cell_int rfl (cell_blk (by repeat constructor) rfl) ?_ | refine r_load rfl T.cell_int rfl (cell_own (by repeat constructor) rfl) ?_ | refine r_load rfl T.cell_int rfl (cell_row (by repeat constructor) (rows_get0 (by omega) rfl)) ?_ | refine r_load rfl T.cell_int rfl (cell_row_f (by repeat constructor) (rows_get (by omega) rfl)) ?_ | refine r_load rfl T.cell_int rfl (cell_rowg (by repeat constructor) rfl) ?_
   refine hl_nil ?_
   exact qe_done rfl
  apply hb_ex _ rfl rfl rfl
  ·intro w1
   refine hl_call (vs := [u8 (ns.getD a default), int (e : Int)]) F.trade_heads_with_cb rfl (by rw [← he]; rfl) (trade_heads_with_meets (ns.getD a default) e (hW.is a).1 (by omega)) (List.Perm.refl _) trivial fun _ _ => ?_
   refine hl_nil ?_
   exact qe_done rfl
  refine hb_nil ⟨rfl, ?_⟩
  refine r_indexArr a a rfl T.u_trade_nets T.sz_trade_heads rfl rfl ha (by omega) (by omega) ?_
  refine r_store (v := u8 (ns.getD a default ||| 2 ^ e)) rfl rfl (.refl _) T.sz_trade_heads (at8 hax) (by rfl) ?_
  rw [arr8_set]
  refine hl_nil ?_
  refine inb_n ?_
  refine then_n ?_
  refine hc_region ?_
  refine r_add _ rfl rfl rfl rfl (by unfold I64; omega) ?_
  refine r_move rfl rfl ?_
  refine hl_nil ?_
  exact again _ (k + 1, ns.set a (ns.getD a default ||| 2 ^ e)) ⟨by show k + 1 ≤ refs.length; omega, by show WithK _ _ (refs.take (k + 1)) _; rw [take_succ_getD refs k hk2, show refs.getD k default = ((a : Int), (e : Int)) from Prod.ext ha he]; exact hW.add (by omega) (by omega)⟩ (by show refs.length - (k + 1) < refs.length - k; omega) ⟨rfl, rfl, rfl, rfl, rfl, rfl, rfl, trivial⟩ (List.Sublist.refl _) ⟨(by repeat constructor), (by repeat constructor), (by repeat constructor), (by repeat constructor), (by repeat constructor), trivial⟩
 ·have hb1' := hb1; try simp at hb1'
  have hk2 : k = refs.length := by omega
  subst hk2
  rw [List.take_length] at hW
  refine hc_exit ?_
  refine then_exit ?_
  refine then_exit ?_
  refine inb_hit ?_
  refine then_n ?_
  refine hc_seq ?_
  refine hc_draw 5 mixed (by decide) (by decide) rfl rfl ?_
  apply hb_ex _ rfl rfl rfl
  ·intro w1
   first | refine r_load rfl T.cell_trade_heads rfl (cell_blk (by repeat constructor) rfl) ?_ | refine r_load rfl T.cell_trade_heads rfl (cell_own (by repeat constructor) rfl) ?_ | refine r_load rfl T.cell_trade_heads rfl (cell_row (by repeat constructor) (rows_get0 (by omega) rfl)) ?_ | refine r_load rfl T.cell_trade_heads rfl (cell_row_f (by repeat constructor) (rows_get (by omega) rfl)) ?_ | refine r_load rfl T.cell_trade_heads rfl (cell_rowg (by repeat constructor) rfl) ?_
   refine hl_nil ?_
   exact qe_done rfl
  apply hb_ex _ rfl rfl rfl
  ·intro w1
   refine r_loadB (n := 6) rfl T.row_trade_nets T.sz_trade_nets rfl (by repeat constructor) (by rw [List.size_toArray, rows_len]; show ns.length * 1 = 6; rw [hW.len]) ?_
   refine hl_nil ?_
   exact qe_done rfl
  apply hb_ex _ rfl rfl rfl
  ·intro w1
   first | refine r_load rfl T.cell_int rfl (cell_blk (by repeat constructor) rfl) ?_ | refine r_load rfl T.cell_int rfl (cell_own (by repeat constructor) rfl) ?_ | refine r_load rfl T.cell_int rfl (cell_row (by repeat constructor) (rows_get0 (by omega) rfl)) ?_ | refine r_load rfl T.cell_int rfl (cell_row_f (by repeat constructor) (rows_get (by omega) rfl)) ?_ | refine r_load rfl T.cell_int rfl (cell_rowg (by repeat constructor) rfl) ?_
   refine hl_nil ?_
   exact qe_done rfl
  apply hb_ex _ rfl rfl rfl
  ·intro w1
   first | refine r_load rfl T.cell_int rfl (cell_blk (by repeat constructor) rfl) ?_ | refine r_load rfl T.cell_int rfl (cell_own (by repeat constructor) rfl) ?_ | refine r_load rfl T.cell_int rfl (cell_row (by repeat constructor) (rows_get0 (by omega) rfl)) ?_ | refine r_load rfl T.cell_int rfl (cell_row_f (by repeat constructor) (rows_get (by omega) rfl)) ?_ | refine r_load rfl T.cell_int rfl (cell_rowg (by repeat constructor) rfl) ?_
   refine hl_nil ?_
   exact qe_done rfl
  refine hb_vs ⟨Nat, fun m => SetIs m (reachB 6 (fun i x => wE t t.hs.length refs i x) h s), fun m => u8 m, fun _ => []⟩ rfl rfl rfl ?_ ?_
  ·intro w1
   refine hl_call F.trade_nets_found_cb rfl rfl (trade_nets_found_meets ns hW.len (fun i x => wE t t.hs.length refs i x) hW.is h s hh hs) (List.Perm.refl _) trivial fun m hm => ?_
   refine hl_nil ?_
   exact qv_done m hm rfl trivial
  refine hb_nil ⟨rfl, ?_⟩
  intro m hm
  refine r_andNot8 rfl rfl rfl hD.1 hm.1 ?_
  refine r_eql rfl rfl rfl ?_
  refine r_assign rfl rfl ?_
  refine hl_nil ?_
  refine then_n ?_
  refine hc_ret ?_
  exact ret1 () rfl (congrArg (fun b => some (Value.bool b)) (fine_of hn hr hD hm)) rfl trivial (List.nil_sublist _) trivial

set_option maxHeartbeats 1000000 in
theorem trade_list_join_1_meetsO {gb : Nat} {c : Nat} {cur : Array Value} {g9 g8 g4 g5 : Nat} {t : Tr} (ns : List Nat) (due h s : Nat) (refs : List Rf) (hn : t.hs.length ≤ 6) (hN : NetK t t.hs.length ns) (hD : SetIs due (fun j => decide (j < t.hs.length) && isTrB t (j : Int))) (hh : h < 6) (hs : s ≤ 1000000) (hr : InRf t.hs.length refs) (hrl : refs.length ≤ 1000000) (hct : cur.toList.take (refs.length * 2) = rows refs) :
    Meets Try.prog F.trade_list_join_1 [.slice (some ⟨gb, 0, none⟩) refs.length c, pt g9, pt g8, pt g4, pt g5] { hpI := [gbO gb cur], hpO := fun _ => [gbO gb cur], LI := WL g9 g8 g4 g5 ns due h s, val := fun _ : Unit => .bool (fineB t h s refs) } := by
 refine meets_intro F.trade_list_join_1_f rfl (Nat.le_of_ble_eq_true rfl) fun w0 => ?_
 refine hc_seq ?_
 obtain ⟨a0, a1, a2, a3, a4, a5, rfl⟩ := six hN.len
 refine hc_region ?_
 refine r_assign rfl rfl ?_
 refine hl_nil ?_
 refine then_n ?_
 refine hc_seq ?_
 refine hc_region ?_
 first | refine r_loadA rfl T.row_trade_nets T.sz_trade_nets rfl (by repeat constructor) (by rfl) ?_ | refine r_loadB rfl T.row_trade_nets T.sz_trade_nets rfl (by repeat constructor) (by rfl) ?_ | refine r_loadS rfl T.row_trade_nets T.sz_trade_nets rfl rfl (cells_row (by repeat constructor) (rows_all (by omega))) ?_
 refine r_alloc rfl (fun _ => T.al_trade_nets _) fun g7 => ?_
 refine r_storeS rfl rfl (by first | exact .refl _ | exact perm2 _ _ _ | exact perm3 _ _ _ _ | exact perm4 _ _ _ _ _) T.sz_trade_nets (by rfl) (by rfl) ?_
 refine hl_nil ?_
 refine then_n ?_
 refine hc_seq ?_
 refine hc_seq ?_
 refine hc_region ?_
 refine r_move rfl rfl ?_
 refine r_len_sl rfl T.u_L_trade_ref rfl ?_
 refine r_move rfl rfl ?_
 refine hl_nil ?_
 refine then_n ?_
 refine hc_block ?_
 refine hc_loop (β := Nat × List Nat) ⟨fun x => x.1 ≤ refs.length ∧ WithK t t.hs.length (refs.take x.1) x.2, fun x => [(2, pt g8), (3, pt g4), (4, pt g5), (7, pt g7), (11, .slice (some ⟨gb, 0, none⟩) refs.length c), (12, int refs.length), (13, int x.1)], fun x => arr8 g7 x.2 :: [gbO gb cur], fun _ => WL g9 g8 g4 g5 [a0, a1, a2, a3, a4, a5] due h s⟩ (fun x => refs.length - x.1) (0, [a0, a1, a2, a3, a4, a5]) ⟨Nat.zero_le _, .start hN⟩ ⟨rfl, rfl, rfl, rfl, rfl, rfl, rfl, trivial⟩ (List.Sublist.refl _) ⟨(by repeat constructor), (by repeat constructor), (by repeat constructor), (by repeat constructor), trivial⟩ fun x hx => ?_
 obtain ⟨k, ns⟩ := x
 obtain ⟨hk, hW⟩ := hx
 simp only at hk hW
 refine hc_seq ?_
 refine hc_region ?_
 refine r_lss rfl rfl rfl ?_
 refine hl_nil ?_
 refine then_n ?_
 refine hc_seq ?_
 first | refine c_dec rfl (fun hb1 => ?_) (fun hb1 => ?_) | refine hc_cond rfl (fun hb1 => ?_) (fun hb1 => ?_)
 ·have hb1' := hb1; try simp at hb1'
  have hk2 : k < refs.length := by omega
  have hrk := hr _ (getD_mem hk2)
  obtain ⟨a, ha⟩ := Int.eq_ofNat_of_zero_le hrk.1.1
  obtain ⟨e, he⟩ := Int.eq_ofNat_of_zero_le hrk.2.1
  have hax : a < ns.length := by rw [hW.len]; omega
  refine hc_skip ?_
  refine then_n ?_
  refine hc_seq ?_
  refine hc_block ?_
  refine hc_seq ?_
  refine hc_region ?_
  refine r_indexAddr_own k (0 + k * 2) rfl T.u_L_trade_ref T.sz_trade_ref rfl rfl rfl hk2 rfl ?_
  refine r_loadS rfl T.row_trade_ref T.sz_trade_ref rfl rfl (cells_own (by repeat constructor) (own2 hct hk2)) ?_
  refine r_alloc rfl (fun _ => T.al_trade_ref _) fun gA => ?_
  refine r_storeS rfl rfl (by first | exact .refl _ | exact perm2 _ _ _ | exact perm3 _ _ _ _ | exact perm4 _ _ _ _ _) T.sz_trade_ref (by rfl) (by rfl) ?_
  refine hl_nil ?_
  refine then_n ?_
  refine hc_letgo (rows [refs.getD k default]) ⟨[], List.append_nil _⟩ ?_
  refine hc_draw 9 mixed (by decide) (by decide) rfl rfl ?_
  apply hb_ex _ rfl rfl rfl
  ·intro w1
   first | refine r_fieldAddr ⟨_, 0, none⟩ rfl rfl T.fa_trade_ref_0 rfl ?_ | refine r_fieldAddr _ rfl rfl T.fa_trade_ref_0 rfl ?_
   refine hl_nil ?_
   exact qe_done rfl
  apply hb_ex _ rfl rfl rfl
  ·intro w1
   first | refine r_load rfl T.cell_int rfl (cell_blk (by repeat constructor) rfl) ?_ | refine r_load rfl T.cell_int rfl (cell_own (by repeat constructor) rfl) ?_ | refine r_load rfl T.cell_int rfl (cell_row (by repeat constructor) (rows_get0 (by omega) rfl)) ?_ | refine r_load rfl T.cell_int rfl (cell_row_f (by repeat constructor) (rows_get (by omega) rfl)) ?_ | refine r_load rfl T.cell_int rfl (cell_rowg (by repeat constructor) rfl) ?_
   refine hl_nil ?_
   exact qe_done rfl
  apply hb_ex _ rfl rfl rfl
  ·intro w1
   first | refine r_fieldAddr ⟨_, 0, none⟩ rfl rfl T.fa_trade_ref_0 rfl ?_ | refine r_fieldAddr _ rfl rfl T.fa_trade_ref_0 rfl ?_
   refine hl_nil ?_
   exact qe_done rfl
  apply hb_ex _ rfl rfl rfl
  ·intro w1
   first | refine r_load rfl T.cell_int rfl (cell_blk (by repeat constructor) rfl) ?_ | refine r_load rfl T.cell_int rfl (cell_own (by repeat constructor) rfl) ?_ | refine r_load rfl T.cell_int rfl (cell_row (by repeat constructor) (rows_get0 (by omega) rfl)) ?_ | refine r_load rfl T.cell_int rfl (cell_row_f (by repeat constructor) (rows_get (by omega) rfl)) ?_ | refine r_load rfl T.cell_int rfl (cell_rowg (by repeat constructor) rfl) ?_
   refine hl_nil ?_
   exact qe_done rfl
  apply hb_ex _ rfl rfl rfl
  ·intro w1
   refine r_indexArr a a rfl T.u_trade_nets T.sz_trade_heads rfl rfl ha (by omega) (by omega) ?_
   refine hl_nil ?_
   exact qe_done rfl
  apply hb_ex _ rfl rfl rfl
  ·intro w1
   refine r_load (v := u8 (ns.getD a default)) rfl T.cell_trade_heads rfl (cell_blk (by repeat constructor) (at8 hax)) ?_
   refine hl_nil ?_
   exact qe_done rfl
  apply hb_ex _ rfl rfl rfl
  ·intro w1
   first | refine r_fieldAddr ⟨_, 1, none⟩ rfl rfl T.fa_trade_ref_1 rfl ?_ | refine r_fieldAddr _ rfl rfl T.fa_trade_ref_1 rfl ?_
   refine hl_nil ?_
   exact qe_done rfl
  apply hb_ex _ rfl rfl rfl
  ·intro w1
   first | refine r_load rfl T.cell_int rfl (cell_blk (by repeat constructor) rfl) ?_ | refine r_load rfl T.cell_int rfl (cell_own (by repeat constructor) rfl) ?_ | refine r_load rfl T.cell_int rfl (cell_row (by repeat constructor) (rows_get0 (by omega) rfl)) ?_ | refine r_load rfl T.cell_int rfl (cell_row_f (by repeat constructor) (rows_get (by omega) rfl)) ?_ | refine r_load rfl T.cell_int rfl (cell_rowg (by repeat constructor) rfl) ?_
   refine hl_nil ?_
   exact qe_done rfl
  apply hb_ex _ rfl rfl rfl
  ·intro w1
   refine hl_call (vs := [u8 (ns.getD a default), int (e : Int)]) F.trade_heads_with_cb rfl (by rw [← he]; rfl) (trade_heads_with_meets (ns.getD a default) e (hW.is a).1 (by omega)) (List.Perm.refl _) trivial fun _ _ => ?_
   refine hl_nil ?_
   exact qe_done rfl
  refine hb_nil ⟨rfl, ?_⟩
  refine r_indexArr a a rfl T.u_trade_nets T.sz_trade_heads rfl rfl ha (by omega) (by omega) ?_
  refine r_store (v := u8 (ns.getD a default ||| 2 ^ e)) rfl rfl (.refl _) T.sz_trade_heads (at8 hax) (by rfl) ?_
  rw [arr8_set]
  refine hl_nil ?_
  refine inb_n ?_
  refine then_n ?_
  refine hc_region ?_
  refine r_add _ rfl rfl rfl rfl (by unfold I64; omega) ?_
  refine r_move rfl rfl ?_
  refine hl_nil ?_
  exact again _ (k + 1, ns.set a (ns.getD a default ||| 2 ^ e)) ⟨by show k + 1 ≤ refs.length; omega, by show WithK _ _ (refs.take (k + 1)) _; rw [take_succ_getD refs k hk2, show refs.getD k default = ((a : Int), (e : Int)) from Prod.ext ha he]; exact hW.add (by omega) (by omega)⟩ (by show refs.length - (k + 1) < refs.length - k; omega) ⟨rfl, rfl, rfl, rfl, rfl, rfl, rfl, trivial⟩ (List.Sublist.refl _) ⟨(by repeat constructor), (by repeat constructor), (by repeat constructor), (by repeat constructor), trivial⟩
 ·have hb1' := hb1; try simp at hb1'
  have hk2 : k = refs.length := by omega
  subst hk2
  rw [List.take_length] at hW
  refine hc_exit ?_
  refine then_exit ?_
  refine then_exit ?_
  refine inb_hit ?_
  refine then_n ?_
  refine hc_seq ?_
  refine hc_draw 5 mixed (by decide) (by decide) rfl rfl ?_
  apply hb_ex _ rfl rfl rfl
  ·intro w1
   first | refine r_load rfl T.cell_trade_heads rfl (cell_blk (by repeat constructor) rfl) ?_ | refine r_load rfl T.cell_trade_heads rfl (cell_own (by repeat constructor) rfl) ?_ | refine r_load rfl T.cell_trade_heads rfl (cell_row (by repeat constructor) (rows_get0 (by omega) rfl)) ?_ | refine r_load rfl T.cell_trade_heads rfl (cell_row_f (by repeat constructor) (rows_get (by omega) rfl)) ?_ | refine r_load rfl T.cell_trade_heads rfl (cell_rowg (by repeat constructor) rfl) ?_
   refine hl_nil ?_
   exact qe_done rfl
  apply hb_ex _ rfl rfl rfl
  ·intro w1
   refine r_loadB (n := 6) rfl T.row_trade_nets T.sz_trade_nets rfl (by repeat constructor) (by rw [List.size_toArray, rows_len]; show ns.length * 1 = 6; rw [hW.len]) ?_
   refine hl_nil ?_
   exact qe_done rfl
  apply hb_ex _ rfl rfl rfl
  ·intro w1
   first | refine r_load rfl T.cell_int rfl (cell_blk (by repeat constructor) rfl) ?_ | refine r_load rfl T.cell_int rfl (cell_own (by repeat constructor) rfl) ?_ | refine r_load rfl T.cell_int rfl (cell_row (by repeat constructor) (rows_get0 (by omega) rfl)) ?_ | refine r_load rfl T.cell_int rfl (cell_row_f (by repeat constructor) (rows_get (by omega) rfl)) ?_ | refine r_load rfl T.cell_int rfl (cell_rowg (by repeat constructor) rfl) ?_
   refine hl_nil ?_
   exact qe_done rfl
  apply hb_ex _ rfl rfl rfl
  ·intro w1
   first | refine r_load rfl T.cell_int rfl (cell_blk (by repeat constructor) rfl) ?_ | refine r_load rfl T.cell_int rfl (cell_own (by repeat constructor) rfl) ?_ | refine r_load rfl T.cell_int rfl (cell_row (by repeat constructor) (rows_get0 (by omega) rfl)) ?_ | refine r_load rfl T.cell_int rfl (cell_row_f (by repeat constructor) (rows_get (by omega) rfl)) ?_ | refine r_load rfl T.cell_int rfl (cell_rowg (by repeat constructor) rfl) ?_
   refine hl_nil ?_
   exact qe_done rfl
  refine hb_vs ⟨Nat, fun m => SetIs m (reachB 6 (fun i x => wE t t.hs.length refs i x) h s), fun m => u8 m, fun _ => []⟩ rfl rfl rfl ?_ ?_
  ·intro w1
   refine hl_call F.trade_nets_found_cb rfl rfl (trade_nets_found_meets ns hW.len (fun i x => wE t t.hs.length refs i x) hW.is h s hh hs) (List.Perm.refl _) trivial fun m hm => ?_
   refine hl_nil ?_
   exact qv_done m hm rfl trivial
  refine hb_nil ⟨rfl, ?_⟩
  intro m hm
  refine r_andNot8 rfl rfl rfl hD.1 hm.1 ?_
  refine r_eql rfl rfl rfl ?_
  refine r_assign rfl rfl ?_
  refine hl_nil ?_
  refine then_n ?_
  refine hc_ret ?_
  exact ret1 () rfl (congrArg (fun b => some (Value.bool b)) (fine_of hn hr hD hm)) rfl trivial (List.sublist_cons_self _ _) trivial

end Go.Proofs.Ytlpgheniajdkfaa
