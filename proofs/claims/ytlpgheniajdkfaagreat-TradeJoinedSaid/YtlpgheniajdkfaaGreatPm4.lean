/- Join, the closed examples, trades made of numbers. -/
import Derived.Test.YtlpgheniajdkfaaGreatPm3
namespace Go.Proofs.YtlpgheniajdkfaaGreat
open Go Go.W
set_option linter.unusedVariables false
set_option linter.unusedSimpArgs false
set_option maxRecDepth 20000
attribute [local irreducible] HL HC HQ HB Row Rows2 Blk Facts

theorem diff8_zero {a b : Nat} (ha : a < 256) (hb : b < 256) : diff8 a b = 0 ↔ ∀ j, a.testBit j = true → b.testBit j = true := by
  have hnot : ∀ j, (255 - b).testBit j = (decide (j < 8) && !b.testBit j) := fun j => by
    rw [show 255 - b = 2 ^ 8 - (b + 1) by omega]
    exact Nat.testBit_two_pow_sub_succ (n := 8) hb j
  have hhi : ∀ j, 8 ≤ j → a.testBit j = false := fun j hj => Nat.testBit_lt_two_pow (Nat.lt_of_lt_of_le ha (Nat.pow_le_pow_right (by omega) hj : 2 ^ 8 ≤ 2 ^ j))
  unfold diff8
  constructor
  · intro h j hj
    have h1 := congrArg (fun m => m.testBit j) h
    simp only [Nat.testBit_and, hnot, hj, Nat.zero_testBit, Bool.true_and] at h1
    by_cases h8 : j < 8
    · simpa [h8] using h1
    · rw [hhi j (by omega)] at hj; cases hj
  · intro h
    refine Nat.eq_of_testBit_eq fun j => ?_
    rw [Nat.testBit_and, hnot, Nat.zero_testBit]
    cases hj : a.testBit j
    · rfl
    · rw [h j hj]; simp
theorem reach6 {n : Nat} (hn : n ≤ 6) {e e' : Edges} {h : Nat} (hE : ∀ k, k < n → ∀ i, e k i = e' k i) (h0 : ∀ k, n ≤ k → ∀ i, e k i = false) : ∀ (s i : Nat), reachB 6 e h s i = reachB n e' h s i
  | 0, i => rfl
  | s + 1, i => by
    rw [Bool.eq_iff_iff, reach_succ, reach_succ, reach6 hn hE h0 s i]
    refine or_congr_right ⟨?_, ?_⟩
    · rintro ⟨k, h1, h2, h3⟩
      by_cases hk : k < n
      · exact ⟨k, hk, by rw [← reach6 hn hE h0 s k]; exact h2, by rw [← hE k hk]; exact h3⟩
      · rw [h0 k (by omega)] at h3; cases h3
    · rintro ⟨k, h1, h2, h3⟩
      exact ⟨k, by omega, by rw [reach6 hn hE h0 s k]; exact h2, by rw [hE k h1]; exact h3⟩
/-- References within the headings. -/
abbrev InRf (n : Nat) (l : List Rf) : Prop := ∀ r ∈ l, (0 ≤ r.1 ∧ r.1 < (n : Int)) ∧ 0 ≤ r.2 ∧ r.2 < (n : Int)
abbrev wE (t : Tr) (n : Nat) (r : List Rf) (i x : Nat) : Bool := (decide (i < n) && nextB t i x) || decide (((i : Int), (x : Int)) ∈ r)
structure WithK (t : Tr) (n : Nat) (r : List Rf) (ns : List Nat) : Prop where
  len : ns.length = 6
  is : ∀ i, SetIs (ns.getD i default) (fun x => wE t n r i x)
theorem WithK.start {t : Tr} {n : Nat} {ns : List Nat} (h : NetK t n ns) : WithK t n [] ns := ⟨h.len, fun i => (h.is i).same fun j => by simp [wE]⟩
theorem WithK.add {t : Tr} {n a e : Nat} {r : List Rf} {ns : List Nat} (h : WithK t n r ns) (ha : a < 6) (he : e < 8) : WithK t n (r ++ [((a : Int), (e : Int))]) (ns.set a (ns.getD a default ||| 2 ^ e)) := ⟨by rw [List.length_set]; exact h.len, fun i => by
  rw [get_set8 (by rw [h.len]; exact ha)]
  by_cases hi : a = i
  · subst hi
    rw [if_pos rfl]
    refine (h.is a).add he fun j => ?_
    show wE t n _ a j = (wE t n r a j || decide (e = j))
    unfold wE
    rw [Bool.or_assoc]
    congr 1
    rw [← Bool.decide_or]
    refine decide_eq_decide.2 ?_
    rw [List.mem_append, List.mem_singleton, Prod.mk.injEq]
    exact or_congr_right ⟨fun e => by omega, fun e => by omega⟩
  · rw [if_neg hi]
    refine (h.is i).same fun j => ?_
    show wE t n _ i j = wE t n r i j
    unfold wE
    congr 1
    refine decide_eq_decide.2 ?_
    rw [List.mem_append, List.mem_singleton, Prod.mk.injEq]
    exact ⟨fun e => e.elim id (fun e => by omega), .inl⟩⟩
theorem fine_of {t : Tr} {r : List Rf} {due m h s : Nat} (hn : t.hs.length ≤ 6) (hr : InRf t.hs.length r) (hd : SetIs due (fun j => decide (j < t.hs.length) && isTrB t (j : Int))) (hm : SetIs m (reachB 6 (wE t t.hs.length r) h s)) : decide ((diff8 due m : Int) = 0) = fineB t (h : Int) (s : Int) r := by
  have hR : ∀ i, reachB 6 (wE t t.hs.length r) h s i = reachB t.hs.length (withE t r) h s i := fun i => reach6 hn (fun k hk i => by unfold wE withE; rw [decide_eq_true hk, Bool.true_and]) (fun k hk i => by
    unfold wE
    rw [decide_eq_false (show ¬ k < t.hs.length by omega), Bool.false_and, Bool.false_or]
    refine decide_eq_false fun hm => ?_
    have := (hr _ hm).1.2
    simp only at this
    omega) s i
  rw [Bool.eq_iff_iff, decide_eq_true_eq]
  unfold fineB
  rw [List.all_eq_true]
  have hz := diff8_zero hd.1 hm.1
  constructor
  · intro h0 i hi
    have hi := List.mem_range.1 hi
    have h1 := hz.1 (by omega) i
    rw [hd.2 i, hm.2 i, hR i] at h1
    simp only [Int.toNat_natCast]
    cases ht : isTrB t (i : Int)
    · rfl
    · rw [h1 (by simp [hi, ht])]; rfl
  · intro h0
    have : diff8 due m = 0 := hz.2 fun j hj => by
      rw [hd.2 j] at hj
      simp only [Bool.and_eq_true, decide_eq_true_eq] at hj
      have h1 := h0 j (List.mem_range.2 hj.1)
      rw [hj.2] at h1
      rw [hm.2 j, hR j]
      simpa using h1
    omega
/-- What the question leans on. -/
abbrev gbO (g : Nat) (cur : Array Value) : Nat × Obj := (g, .cells cur T.trade_ref (0, 0))
abbrev WL (g9 g8 g4 g5 : Nat) (ns : List Nat) (due h s : Nat) : List Fact := [Blk g9 (.cells (rows ns).toArray T.trade_nets (0, 0)), Blk g8 (.cells #[u8 due] T.trade_heads (0, 0)), Blk g4 (.cells #[int h] T.int (0, 0)), Blk g5 (.cells #[int s] T.int (0, 0))]
abbrev pt (g : Nat) : Value := .pointer (some ⟨g, 0, none⟩)
theorem own2 {cur : Array Value} {l : List Rf} {k : Nat} (h : cur.toList.take (l.length * 2) = rows l) (hk : k < l.length) : ∀ i u, [int (l.getD k default).1, int (l.getD k default).2][i]? = some u → cur[0 + k * 2 + i]? = some u := by
  intro i u hu
  have hlt : i < 2 := (List.getElem?_eq_some_iff.1 hu).1
  have h2 : (rows l)[k * 2 + i]? = some u := rows_get (α := Rf) hk hu
  rw [← h, List.getElem?_take, if_pos (by omega)] at h2
  rw [Nat.zero_add, ← Array.getElem?_toList]
  exact h2

set_option maxHeartbeats 1000000 in
theorem trade_list_join_1_meets {A : Option Addr} {c : Nat} {g9 g8 g4 g5 : Nat} {t : Tr} (ns : List Nat) (due h s : Nat) (refs : List Rf) (hn : t.hs.length ≤ 6) (hN : NetK t t.hs.length ns) (hD : SetIs due (fun j => decide (j < t.hs.length) && isTrB t (j : Int))) (hh : h < 6) (hs : s ≤ 1000000) (hr : InRf t.hs.length refs) (hrl : refs.length ≤ 1000000) :
    Meets Tryz.prog F.trade_list_join_1 [.slice A refs.length c, pt g9, pt g8, pt g4, pt g5] { LI := Row A (rows refs) :: WL g9 g8 g4 g5 ns due h s, val := fun _ : Unit => .bool (fineB t h s refs) } := by
 refine meets_intro F.trade_list_join_1_f rfl (Nat.le_of_ble_eq_true rfl) fun w0 => ?_
 refine hc_seq ?_
 obtain ⟨a0, a1, a2, a3, a4, a5, rfl⟩ := six hN.len
 refine hc_region (r_assign rfl rfl (hl_nil (then_n (hc_seq (hc_region ?_)))))
 refine r_loadB rfl T.row_trade_nets T.sz_trade_nets rfl (by repeat constructor) (by rfl) ?_
 refine r_alloc rfl (fun _ => T.al_trade_nets _) fun g7 => ?_
 refine r_storeS rfl rfl (by first | exact .refl _ | exact perm2 _ _ _ | exact perm3 _ _ _ _ | exact perm4 _ _ _ _ _) T.sz_trade_nets (by rfl) (by rfl) ?_
 refine hl_nil (then_n (hc_seq (hc_seq (hc_region (r_move rfl rfl ?_)))))
 refine r_len_sl rfl T.u_L_trade_ref rfl ?_
 refine r_move rfl rfl (hl_nil (then_n (hc_block ?_)))
 refine hc_loop (β := Nat × List Nat) ⟨fun x => x.1 ≤ refs.length ∧ WithK t t.hs.length (refs.take x.1) x.2, fun x => [(2, pt g8), (3, pt g4), (4, pt g5), (7, pt g7), (11, .slice A refs.length c), (12, int refs.length), (13, int x.1)], fun x => arr8 g7 x.2 :: [], fun _ => Row A (rows refs) :: WL g9 g8 g4 g5 [a0, a1, a2, a3, a4, a5] due h s⟩ (fun x => refs.length - x.1) (0, [a0, a1, a2, a3, a4, a5]) ⟨Nat.zero_le _, .start hN⟩ ⟨rfl, rfl, rfl, rfl, rfl, rfl, rfl, trivial⟩ (List.Sublist.refl _) ⟨(by repeat constructor), (by repeat constructor), (by repeat constructor), (by repeat constructor), (by repeat constructor), trivial⟩ fun x hx => ?_
 obtain ⟨k, ns⟩ := x
 obtain ⟨hk, hW⟩ := hx
 simp only at hk hW
 refine hc_seq (hc_region (r_lss rfl rfl rfl (hl_nil (then_n (hc_seq ?_)))))
 refine c_dec rfl (fun hb1 => ?_) (fun hb1 => ?_)
 ·have hb1' := hb1; try simp at hb1'
  have hk2 : k < refs.length := by omega
  have hrk := hr _ (getD_mem hk2)
  obtain ⟨a, ha⟩ := Int.eq_ofNat_of_zero_le hrk.1.1
  obtain ⟨e, he⟩ := Int.eq_ofNat_of_zero_le hrk.2.1
  have hax : a < ns.length := by rw [hW.len]; omega
  refine hc_skip (then_n (hc_seq (hc_block (hc_seq (hc_region ?_)))))
  refine r_elem (α := Rf) refs k rfl T.u_L_trade_ref T.sz_trade_ref rfl rfl rfl (by repeat constructor) rfl hk2 (by decide) ?_
  refine r_loadS rfl T.row_trade_ref T.sz_trade_ref rfl rfl (cells_row (by repeat constructor) (rows_all (by omega))) ?_
  refine r_alloc rfl (fun _ => T.al_trade_ref _) fun gA => ?_
  refine r_storeS rfl rfl (by first | exact .refl _ | exact perm2 _ _ _ | exact perm3 _ _ _ _ | exact perm4 _ _ _ _ _) T.sz_trade_ref (by rfl) (by rfl) ?_
  refine hl_nil (then_n ?_)
  refine hc_letgo (rows [refs.getD k default]) ⟨[], List.append_nil _⟩ ?_
  refine hc_draw 9 mixed (by decide) (by decide) rfl rfl ?_
  apply hb_ex _ rfl rfl rfl
  ·intro w1
   refine r_fieldAddr ⟨_, 0, none⟩ rfl rfl T.fa_trade_ref_0 rfl ?_
   refine hl_nil ?_
   exact qe_done rfl
  apply hb_ex _ rfl rfl rfl
  ·intro w1
   refine r_load rfl T.cell_int rfl (cell_rowg (by repeat constructor) rfl) ?_
   refine hl_nil ?_
   exact qe_done rfl
  apply hb_ex _ rfl rfl rfl
  ·intro w1
   refine r_fieldAddr ⟨_, 0, none⟩ rfl rfl T.fa_trade_ref_0 rfl ?_
   refine hl_nil ?_
   exact qe_done rfl
  apply hb_ex _ rfl rfl rfl
  ·intro w1
   refine r_load rfl T.cell_int rfl (cell_rowg (by repeat constructor) rfl) ?_
   refine hl_nil ?_
   exact qe_done rfl
  apply hb_ex _ rfl rfl rfl
  ·intro w1
   refine r_indexArr a a rfl T.u_trade_nets T.sz_trade_heads rfl rfl ha (by omega) (by omega) ?_
   refine hl_nil ?_
   exact qe_done rfl
  apply hb_ex _ rfl rfl rfl
  ·intro w1
   refine r_load (v := u8 (ns.getD a default)) rfl T.cell_trade_heads rfl (cell_blk (by repeat constructor) (at8 hax)) ?_
   refine hl_nil ?_
   exact qe_done rfl
  apply hb_ex _ rfl rfl rfl
  ·intro w1
   refine r_fieldAddr ⟨_, 1, none⟩ rfl rfl T.fa_trade_ref_1 rfl ?_
   refine hl_nil ?_
   exact qe_done rfl
  apply hb_ex _ rfl rfl rfl
  ·intro w1
   refine r_load rfl T.cell_int rfl (cell_rowg (by repeat constructor) rfl) ?_
   refine hl_nil ?_
   exact qe_done rfl
  apply hb_ex _ rfl rfl rfl
  ·intro w1
   refine hl_call (vs := [u8 (ns.getD a default), int (e : Int)]) F.trade_heads_with_cb rfl (by rw [← he]; rfl) (trade_heads_with_meets (ns.getD a default) e (hW.is a).1 (by omega)) (List.Perm.refl _) trivial fun _ _ => ?_
   refine hl_nil ?_
   exact qe_done rfl
  refine hb_nil ⟨rfl, ?_⟩
  refine r_indexArr a a rfl T.u_trade_nets T.sz_trade_heads rfl rfl ha (by omega) (by omega) ?_
  refine r_store (v := u8 (ns.getD a default ||| 2 ^ e)) rfl rfl (.refl _) T.sz_trade_heads (at8 hax) (by rfl) ?_
  rw [arr8_set]
  refine hl_nil (inb_n (then_n (hc_region ?_)))
  refine r_add _ rfl rfl rfl rfl (by unfold I64; omega) ?_
  refine r_move rfl rfl (hl_nil ?_)
  exact again _ (k + 1, ns.set a (ns.getD a default ||| 2 ^ e)) ⟨by show k + 1 ≤ refs.length; omega, by show WithK _ _ (refs.take (k + 1)) _; rw [take_succ_getD refs k hk2, show refs.getD k default = ((a : Int), (e : Int)) from Prod.ext ha he]; exact hW.add (by omega) (by omega)⟩ (by show refs.length - (k + 1) < refs.length - k; omega) ⟨rfl, rfl, rfl, rfl, rfl, rfl, rfl, trivial⟩ (List.Sublist.refl _) ⟨(by repeat constructor), (by repeat constructor), (by repeat constructor), (by repeat constructor), (by repeat constructor), trivial⟩
 ·have hb1' := hb1; try simp at hb1'
  have hk2 : k = refs.length := by omega
  subst hk2
  rw [List.take_length] at hW
  refine hc_exit (then_exit (then_exit (inb_hit (then_n (hc_seq ?_)))))
  refine hc_draw 5 mixed (by decide) (by decide) rfl rfl ?_
  apply hb_ex _ rfl rfl rfl
  ·intro w1
   refine r_load rfl T.cell_trade_heads rfl (cell_blk (by repeat constructor) rfl) ?_
   refine hl_nil ?_
   exact qe_done rfl
  apply hb_ex _ rfl rfl rfl
  ·intro w1
   refine r_loadB (n := 6) rfl T.row_trade_nets T.sz_trade_nets rfl (by repeat constructor) (by rw [List.size_toArray, rows_len]; show ns.length * 1 = 6; rw [hW.len]) ?_
   refine hl_nil ?_
   exact qe_done rfl
  apply hb_ex _ rfl rfl rfl
  ·intro w1
   refine r_load rfl T.cell_int rfl (cell_blk (by repeat constructor) rfl) ?_
   refine hl_nil ?_
   exact qe_done rfl
  apply hb_ex _ rfl rfl rfl
  ·intro w1
   refine r_load rfl T.cell_int rfl (cell_blk (by repeat constructor) rfl) ?_
   refine hl_nil ?_
   exact qe_done rfl
  refine hb_vs ⟨Nat, fun m => SetIs m (reachB 6 (fun i x => wE t t.hs.length refs i x) h s), fun m => u8 m, fun _ => []⟩ rfl rfl rfl ?_ ?_
  ·intro w1
   refine hl_call F.trade_nets_found_cb rfl rfl (trade_nets_found_meets ns hW.len (fun i x => wE t t.hs.length refs i x) hW.is h s hh hs) (List.Perm.refl _) trivial fun m hm => ?_
   refine hl_nil ?_
   exact qv_done m hm rfl trivial
  refine hb_nil ⟨rfl, ?_⟩
  intro m hm
  refine r_andNot8 rfl rfl rfl hD.1 hm.1 (r_eql rfl rfl rfl (r_assign rfl rfl (hl_nil (then_n (hc_ret ?_)))))
  exact ret1 () rfl (congrArg (fun b => some (Value.bool b)) (fine_of hn hr hD hm)) rfl trivial (List.nil_sublist _) trivial

set_option maxHeartbeats 1000000 in
theorem trade_list_join_1_meetsO {gb : Nat} {c : Nat} {cur : Array Value} {g9 g8 g4 g5 : Nat} {t : Tr} (ns : List Nat) (due h s : Nat) (refs : List Rf) (hn : t.hs.length ≤ 6) (hN : NetK t t.hs.length ns) (hD : SetIs due (fun j => decide (j < t.hs.length) && isTrB t (j : Int))) (hh : h < 6) (hs : s ≤ 1000000) (hr : InRf t.hs.length refs) (hrl : refs.length ≤ 1000000) (hct : cur.toList.take (refs.length * 2) = rows refs) :
    Meets Tryz.prog F.trade_list_join_1 [.slice (some ⟨gb, 0, none⟩) refs.length c, pt g9, pt g8, pt g4, pt g5] { hpI := [gbO gb cur], hpO := fun _ => [gbO gb cur], LI := WL g9 g8 g4 g5 ns due h s, val := fun _ : Unit => .bool (fineB t h s refs) } := by
 refine meets_intro F.trade_list_join_1_f rfl (Nat.le_of_ble_eq_true rfl) fun w0 => ?_
 refine hc_seq ?_
 obtain ⟨a0, a1, a2, a3, a4, a5, rfl⟩ := six hN.len
 refine hc_region (r_assign rfl rfl (hl_nil (then_n (hc_seq (hc_region ?_)))))
 refine r_loadB rfl T.row_trade_nets T.sz_trade_nets rfl (by repeat constructor) (by rfl) ?_
 refine r_alloc rfl (fun _ => T.al_trade_nets _) fun g7 => ?_
 refine r_storeS rfl rfl (by first | exact .refl _ | exact perm2 _ _ _ | exact perm3 _ _ _ _ | exact perm4 _ _ _ _ _) T.sz_trade_nets (by rfl) (by rfl) ?_
 refine hl_nil (then_n (hc_seq (hc_seq (hc_region (r_move rfl rfl ?_)))))
 refine r_len_sl rfl T.u_L_trade_ref rfl ?_
 refine r_move rfl rfl (hl_nil (then_n (hc_block ?_)))
 refine hc_loop (β := Nat × List Nat) ⟨fun x => x.1 ≤ refs.length ∧ WithK t t.hs.length (refs.take x.1) x.2, fun x => [(2, pt g8), (3, pt g4), (4, pt g5), (7, pt g7), (11, .slice (some ⟨gb, 0, none⟩) refs.length c), (12, int refs.length), (13, int x.1)], fun x => arr8 g7 x.2 :: [gbO gb cur], fun _ => WL g9 g8 g4 g5 [a0, a1, a2, a3, a4, a5] due h s⟩ (fun x => refs.length - x.1) (0, [a0, a1, a2, a3, a4, a5]) ⟨Nat.zero_le _, .start hN⟩ ⟨rfl, rfl, rfl, rfl, rfl, rfl, rfl, trivial⟩ (List.Sublist.refl _) ⟨(by repeat constructor), (by repeat constructor), (by repeat constructor), (by repeat constructor), trivial⟩ fun x hx => ?_
 obtain ⟨k, ns⟩ := x
 obtain ⟨hk, hW⟩ := hx
 simp only at hk hW
 refine hc_seq (hc_region (r_lss rfl rfl rfl (hl_nil (then_n (hc_seq ?_)))))
 refine c_dec rfl (fun hb1 => ?_) (fun hb1 => ?_)
 ·have hb1' := hb1; try simp at hb1'
  have hk2 : k < refs.length := by omega
  have hrk := hr _ (getD_mem hk2)
  obtain ⟨a, ha⟩ := Int.eq_ofNat_of_zero_le hrk.1.1
  obtain ⟨e, he⟩ := Int.eq_ofNat_of_zero_le hrk.2.1
  have hax : a < ns.length := by rw [hW.len]; omega
  refine hc_skip (then_n (hc_seq (hc_block (hc_seq (hc_region ?_)))))
  refine r_indexAddr_own k (0 + k * 2) rfl T.u_L_trade_ref T.sz_trade_ref rfl rfl rfl hk2 rfl ?_
  refine r_loadS rfl T.row_trade_ref T.sz_trade_ref rfl rfl (cells_own (by repeat constructor) (own2 hct hk2)) ?_
  refine r_alloc rfl (fun _ => T.al_trade_ref _) fun gA => ?_
  refine r_storeS rfl rfl (by first | exact .refl _ | exact perm2 _ _ _ | exact perm3 _ _ _ _ | exact perm4 _ _ _ _ _) T.sz_trade_ref (by rfl) (by rfl) ?_
  refine hl_nil (then_n ?_)
  refine hc_letgo (rows [refs.getD k default]) ⟨[], List.append_nil _⟩ ?_
  refine hc_draw 9 mixed (by decide) (by decide) rfl rfl ?_
  apply hb_ex _ rfl rfl rfl
  ·intro w1
   refine r_fieldAddr ⟨_, 0, none⟩ rfl rfl T.fa_trade_ref_0 rfl ?_
   refine hl_nil ?_
   exact qe_done rfl
  apply hb_ex _ rfl rfl rfl
  ·intro w1
   refine r_load rfl T.cell_int rfl (cell_rowg (by repeat constructor) rfl) ?_
   refine hl_nil ?_
   exact qe_done rfl
  apply hb_ex _ rfl rfl rfl
  ·intro w1
   refine r_fieldAddr ⟨_, 0, none⟩ rfl rfl T.fa_trade_ref_0 rfl ?_
   refine hl_nil ?_
   exact qe_done rfl
  apply hb_ex _ rfl rfl rfl
  ·intro w1
   refine r_load rfl T.cell_int rfl (cell_rowg (by repeat constructor) rfl) ?_
   refine hl_nil ?_
   exact qe_done rfl
  apply hb_ex _ rfl rfl rfl
  ·intro w1
   refine r_indexArr a a rfl T.u_trade_nets T.sz_trade_heads rfl rfl ha (by omega) (by omega) ?_
   refine hl_nil ?_
   exact qe_done rfl
  apply hb_ex _ rfl rfl rfl
  ·intro w1
   refine r_load (v := u8 (ns.getD a default)) rfl T.cell_trade_heads rfl (cell_blk (by repeat constructor) (at8 hax)) ?_
   refine hl_nil ?_
   exact qe_done rfl
  apply hb_ex _ rfl rfl rfl
  ·intro w1
   refine r_fieldAddr ⟨_, 1, none⟩ rfl rfl T.fa_trade_ref_1 rfl ?_
   refine hl_nil ?_
   exact qe_done rfl
  apply hb_ex _ rfl rfl rfl
  ·intro w1
   refine r_load rfl T.cell_int rfl (cell_rowg (by repeat constructor) rfl) ?_
   refine hl_nil ?_
   exact qe_done rfl
  apply hb_ex _ rfl rfl rfl
  ·intro w1
   refine hl_call (vs := [u8 (ns.getD a default), int (e : Int)]) F.trade_heads_with_cb rfl (by rw [← he]; rfl) (trade_heads_with_meets (ns.getD a default) e (hW.is a).1 (by omega)) (List.Perm.refl _) trivial fun _ _ => ?_
   refine hl_nil ?_
   exact qe_done rfl
  refine hb_nil ⟨rfl, ?_⟩
  refine r_indexArr a a rfl T.u_trade_nets T.sz_trade_heads rfl rfl ha (by omega) (by omega) ?_
  refine r_store (v := u8 (ns.getD a default ||| 2 ^ e)) rfl rfl (.refl _) T.sz_trade_heads (at8 hax) (by rfl) ?_
  rw [arr8_set]
  refine hl_nil (inb_n (then_n (hc_region ?_)))
  refine r_add _ rfl rfl rfl rfl (by unfold I64; omega) ?_
  refine r_move rfl rfl (hl_nil ?_)
  exact again _ (k + 1, ns.set a (ns.getD a default ||| 2 ^ e)) ⟨by show k + 1 ≤ refs.length; omega, by show WithK _ _ (refs.take (k + 1)) _; rw [take_succ_getD refs k hk2, show refs.getD k default = ((a : Int), (e : Int)) from Prod.ext ha he]; exact hW.add (by omega) (by omega)⟩ (by show refs.length - (k + 1) < refs.length - k; omega) ⟨rfl, rfl, rfl, rfl, rfl, rfl, rfl, trivial⟩ (List.Sublist.refl _) ⟨(by repeat constructor), (by repeat constructor), (by repeat constructor), (by repeat constructor), trivial⟩
 ·have hb1' := hb1; try simp at hb1'
  have hk2 : k = refs.length := by omega
  subst hk2
  rw [List.take_length] at hW
  refine hc_exit (then_exit (then_exit (inb_hit (then_n (hc_seq ?_)))))
  refine hc_draw 5 mixed (by decide) (by decide) rfl rfl ?_
  apply hb_ex _ rfl rfl rfl
  ·intro w1
   refine r_load rfl T.cell_trade_heads rfl (cell_blk (by repeat constructor) rfl) ?_
   refine hl_nil ?_
   exact qe_done rfl
  apply hb_ex _ rfl rfl rfl
  ·intro w1
   refine r_loadB (n := 6) rfl T.row_trade_nets T.sz_trade_nets rfl (by repeat constructor) (by rw [List.size_toArray, rows_len]; show ns.length * 1 = 6; rw [hW.len]) ?_
   refine hl_nil ?_
   exact qe_done rfl
  apply hb_ex _ rfl rfl rfl
  ·intro w1
   refine r_load rfl T.cell_int rfl (cell_blk (by repeat constructor) rfl) ?_
   refine hl_nil ?_
   exact qe_done rfl
  apply hb_ex _ rfl rfl rfl
  ·intro w1
   refine r_load rfl T.cell_int rfl (cell_blk (by repeat constructor) rfl) ?_
   refine hl_nil ?_
   exact qe_done rfl
  refine hb_vs ⟨Nat, fun m => SetIs m (reachB 6 (fun i x => wE t t.hs.length refs i x) h s), fun m => u8 m, fun _ => []⟩ rfl rfl rfl ?_ ?_
  ·intro w1
   refine hl_call F.trade_nets_found_cb rfl rfl (trade_nets_found_meets ns hW.len (fun i x => wE t t.hs.length refs i x) hW.is h s hh hs) (List.Perm.refl _) trivial fun m hm => ?_
   refine hl_nil ?_
   exact qv_done m hm rfl trivial
  refine hb_nil ⟨rfl, ?_⟩
  intro m hm
  refine r_andNot8 rfl rfl rfl hD.1 hm.1 (r_eql rfl rfl rfl (r_assign rfl rfl (hl_nil (then_n (hc_ret ?_)))))
  exact ret1 () rfl (congrArg (fun b => some (Value.bool b)) (fine_of hn hr hD hm)) rfl trivial (List.sublist_cons_self _ _) trivial

/-- The first list of d more out of the rest that is as wanted. -/
def growQ (p : List Rf → Bool) (d : Nat) (b r : List Rf) : Option (List Rf) := ((combos d r).map (b ++ ·)).find? p
theorem growQ_zero (p : List Rf → Bool) (b r : List Rf) : growQ p 0 b r = if p b = true then some b else none := by
  unfold growQ
  rw [combos]
  simp only [List.map_cons, List.map_nil, List.append_nil, List.find?_cons, List.find?_nil]
  cases p b <;> rfl
theorem growQ_nil (p : List Rf → Bool) (d : Nat) (b : List Rf) : growQ p (d + 1) b [] = none := rfl
theorem growQ_cons (p : List Rf → Bool) (d : Nat) (b r : List Rf) (x : Rf) : growQ p (d + 1) b (x :: r) = (growQ p d (b ++ [x]) r).or (growQ p (d + 1) b r) := by
  unfold growQ
  rw [combos, List.map_append, List.find?_append, List.map_map]
  congr 3
  funext l
  simp
theorem growQ_all (p : List Rf → Bool) (d : Nat) (r : List Rf) : growQ p d [] r = (combos d r).find? p := by
  unfold growQ
  congr 1
  exact (List.map_congr_left fun l _ => List.nil_append l).trans (List.map_id _)
theorem take_shrink {cur : Array Value} {b : List Rf} {x : Rf} (h : cur.toList.take ((b.length + 1) * 2) = rows (b ++ [x])) : cur.toList.take (b.length * 2) = rows b := by
  have h2 : (cur.toList.take ((b.length + 1) * 2)).take (b.length * 2) = (rows (b ++ [x])).take (b.length * 2) := by rw [h]
  rw [List.take_take, Nat.min_eq_left (by omega), rows_append] at h2
  rw [h2]
  exact List.take_left' (rows_len b)
section
variable (lb : Nat) (rc : Option Code → Loop) (J : Code) (gb cap : Nat) (R0 : Hp) {γ : Type} (R1 : γ → Hp) (L1 : γ → List Fact) (I1 : List Rf → γ → Prop) (LI0 : List Fact) (p : List Rf → Bool)
def ry : Option γ → Hp | none => R0 | some y => R1 y
def ly : Option γ → List Fact | none => [] | some y => L1 y
/-- What a call of yield does: it stops at the first list that is as wanted. -/
def yC (b : List Rf) (cur : Array Value) : Con (Option γ) :=
  { hpI := (lb, .loop (rc none)) :: gbO gb cur :: R0, LI := LI0, inv := fun x => x.isSome = p b ∧ ∀ y, x = some y → I1 b y, val := fun x => .bool x.isNone, hpO := fun x => (lb, .loop (rc (x.map fun _ => J))) :: gbO gb cur :: ry R0 R1 x, LO := ly L1 }
abbrev OrdG (γ : Type) := Option (List Rf × γ)
def gC (b : List Rf) (cur : Array Value) (q : Option (List Rf)) (LI : List Fact) : Con (OrdG γ × Array Value) :=
  { hpI := (lb, .loop (rc none)) :: gbO gb cur :: R0, LI := LI, inv := fun x => (q = x.1.map (·.1) ∧ ∀ y, x.1 = some y → I1 y.1 y.2) ∧ x.2.size = cap * 2 ∧ x.2.toList.take (b.length * 2) = rows b, val := fun x => .bool x.1.isNone, hpO := fun x => (lb, .loop (rc (x.1.map fun _ => J))) :: gbO gb x.2 :: ry R0 R1 (x.1.map (·.2)), LO := fun x => ly L1 (x.1.map (·.2)) }
def pC (q : Option (List Rf)) (LI : List Fact) : Con (OrdG γ) :=
  { hpI := (lb, .loop (rc none)) :: R0, LI := LI, inv := fun x => q = x.map (·.1) ∧ ∀ y, x = some y → I1 y.1 y.2, val := fun _ => .tuple #[], hpO := fun x => (lb, .loop (rc (x.map fun _ => J))) :: ry R0 R1 (x.map (·.2)), LO := fun x => ly L1 (x.map (·.2)) }
end
abbrev boxN (g : Nat) (n : Int) : Fact := Blk g (.cells #[int n] T.int (0, 0))
abbrev boxF (g : Nat) (v : Value) : Fact := Blk g (.cells #[v] T.func_L_trade_ref_bool (0, 0))
abbrev boxG (g : Nat) (v : Value) : Fact := Blk g (.cells #[v] T.func_L_trade_ref_int_bool (0, 0))
abbrev boxL (g : Nat) (A : Option Addr) (n c : Nat) : Fact := Blk g (.cells #[.slice A n c] T.L_trade_ref (0, 0))
def growV (gm gy gl gg : Nat) : Value := .func (.func F.trade_picks_1_1) #[] [pt gm, pt gy, pt gl, pt gg].toArray

set_option maxHeartbeats 1000000 in
theorem trade_picks_1_1_meets {lb : Nat} {rc : Option Code → Loop} {J : Code} {R0 : Hp} {γ : Type} {R1 : γ → Hp} {L1 : γ → List Fact} {I1 : List Rf → γ → Prop} {LI0 : List Fact} {p : List Rf → Bool} {cap : Nat} {LA : Option Addr} {lc : Nat} (l : List Rf) {gb gm gy gl gg : Nat} (hn : l.length ≤ 1000) (hc : cap ≤ 1000) (hY : ∀ (b : List Rf) (cur : Array Value), b.length = cap → (∀ r ∈ b, r ∈ l) → cur.toList.take (b.length * 2) = rows b → MeetsY Tryz.prog lb [.slice (some ⟨gb, 0, none⟩) b.length cap] (yC lb rc J gb R0 R1 L1 I1 LI0 p b cur)) :
    ∀ (d : Nat) (b : List Rf) (frm : Nat) (cur : Array Value), d + b.length = cap → (∀ r ∈ b, r ∈ l) → frm ≤ l.length → cur.size = cap * 2 → cur.toList.take (b.length * 2) = rows b → Meets Tryz.prog F.trade_picks_1_1 [.slice (some ⟨gb, 0, none⟩) b.length cap, int (frm : Nat), pt gm, pt gy, pt gl, pt gg] (gC lb rc J gb cap R0 R1 L1 I1 b cur (growQ p d b (l.drop frm)) (boxN gm cap :: boxF gy (yieldV lb) :: boxL gl LA l.length lc :: boxG gg (growV gm gy gl gg) :: Row LA (rows l) :: LI0)) := by
 intro d
 induction d using Nat.strongRecOn
 rename_i d ih
 intro b frm cur hd hsub hfrm hcs hct
 refine meets_intro F.trade_picks_1_1_f rfl (Nat.le_of_ble_eq_true rfl) fun w0 => ?_
 refine hc_seq (hc_region (r_assign rfl rfl (hl_nil (then_n (hc_seq (hc_seq (hc_region (r_move rfl rfl ?_))))))))
 refine r_len_sl rfl T.u_L_trade_ref rfl ?_
 refine r_load (v := int (cap : Nat)) rfl T.cell_int rfl (cell_blk (by repeat constructor) rfl) ?_
 refine r_eql rfl rfl rfl (hl_nil (then_n ?_))
 refine c_dec rfl (fun hb1 => ?_) (fun hb1 => ?_)
 ·have hb1' := hb1; try simp at hb1'
  have h0 : d = 0 := by omega
  subst h0
  have hlen : b.length = cap := by omega
  refine hc_seq (hc_region ?_)
  refine r_load (v := yieldV lb) rfl T.cell_func_L_trade_ref_bool rfl (cell_blk (by repeat constructor) rfl) ?_
  refine r_move rfl rfl ?_
  refine hl_yield (k := yC lb rc J gb R0 R1 L1 I1 LI0 p b cur) rfl rfl rfl (hY b cur hlen hsub hct) (hpR := []) (by rw [List.append_nil]; exact .refl _) (LSub.of_mem fun F hF => by repeat (first | exact hF | apply List.Mem.tail)) fun x hx => ?_
  refine r_assign rfl rfl (hl_nil (then_n (hc_ret (then_ret ?_))))
  obtain ⟨hx1, hx2⟩ := hx
  cases x with
  | none => exact ret1 (none, cur) rfl rfl rfl ⟨⟨by rw [growQ_zero, ← hx1]; rfl, fun y hy => by cases hy⟩, hcs, hct⟩ (by rw [List.append_nil]; exact .refl _) trivial
  | some y => exact ret1 (some (b, y), cur) rfl rfl rfl ⟨⟨by rw [growQ_zero, ← hx1]; rfl, fun z hz => by cases hz; exact hx2 y rfl⟩, hcs, hct⟩ (by rw [List.append_nil]; exact .refl _) (LSub.of_mem fun F hF => List.mem_append_left _ hF)
 ·have hb1' := hb1; try simp at hb1'
  obtain ⟨d0, rfl⟩ : ∃ d0, d = d0 + 1 := ⟨d - 1, by omega⟩
  refine hc_skip (then_n (hc_seq (hc_seq (hc_region (r_move rfl rfl (r_assign rfl rfl (hl_nil (then_n (hc_block ?_)))))))))
  refine hc_loop (β := Nat × Array Value) ⟨fun x => x.1 ≤ l.length ∧ growQ p (d0 + 1) b (l.drop frm) = growQ p (d0 + 1) b (l.drop x.1) ∧ x.2.size = cap * 2 ∧ x.2.toList.take (b.length * 2) = rows b, fun x => [(0, .slice (some ⟨gb, 0, none⟩) b.length cap), (2, pt gm), (3, pt gy), (4, pt gl), (5, pt gg), (9, int x.1)], fun x => (lb, .loop (rc none)) :: gbO gb x.2 :: R0, fun _ => (boxN gm cap :: boxF gy (yieldV lb) :: boxL gl LA l.length lc :: boxG gg (growV gm gy gl gg) :: Row LA (rows l) :: LI0)⟩ (fun x => l.length - x.1) (frm, cur) ⟨hfrm, rfl, hcs, hct⟩ ⟨rfl, rfl, rfl, rfl, rfl, rfl, trivial⟩ (.refl _) ⟨(by repeat constructor), (by repeat constructor), (by repeat constructor), (by repeat constructor), (by repeat constructor), (LSub.of_mem fun F hF => by repeat (first | exact hF | apply List.Mem.tail))⟩ fun x hx => ?_
  clear hcs hct
  obtain ⟨i, cur⟩ := x
  obtain ⟨hi, hq, hcs, hct⟩ := hx
  simp only at hi hq hcs hct
  refine hc_seq (hc_seq (hc_region (r_move rfl rfl ?_)))
  refine r_load (v := .slice LA l.length lc) rfl T.cell_L_trade_ref rfl (cell_blk (by repeat constructor) rfl) ?_
  refine r_len_sl rfl T.u_L_trade_ref rfl ?_
  refine r_lss rfl rfl rfl (hl_nil (then_n ?_))
  refine c_dec rfl (fun hb2 => ?_) (fun hb2 => ?_)
  ·have hb2' := hb2; try simp at hb2'
   have hi2 : i < l.length := by omega
   have hdr : l.drop i = l.getD i default :: l.drop (i + 1) := by rw [List.drop_eq_getElem_cons hi2, getD_at hi2]
   rw [hdr, growQ_cons] at hq
   refine hc_skip (then_n (hc_seq (hc_block (hc_seq ?_))))
   refine hc_drawW ([gbO gb cur]) ((lb, .loop (rc none)) :: R0) (List.Perm.swap _ _ _) 10 [7] mixed (by decide) (by decide) (by decide) rfl rfl rfl ?_
   apply hb_ex _ rfl rfl rfl
   ·intro w1
    refine r_load (v := growV gm gy gl gg) rfl T.cell_func_L_trade_ref_int_bool rfl (cell_blk (List.mem_append_right _ (by repeat constructor)) rfl) ?_
    refine hl_nil ?_
    exact qe_done rfl
   apply hb_ex _ rfl rfl rfl
   ·intro w1
    refine r_move rfl rfl (hl_nil ?_)
    exact qe_done rfl
   apply hb_ex _ rfl rfl rfl
   ·intro w1
    refine r_load (v := .slice LA l.length lc) rfl T.cell_L_trade_ref rfl (cell_blk (List.mem_append_right _ (by repeat constructor)) rfl) ?_
    refine hl_nil ?_
    exact qe_done rfl
   apply hb_ex _ rfl rfl rfl
   ·intro w1
    refine r_move rfl rfl (hl_nil ?_)
    exact qe_done rfl
   apply hb_ex _ rfl rfl rfl
   ·intro w1
    refine r_elem (α := Rf) l i rfl T.u_L_trade_ref T.sz_trade_ref rfl rfl rfl (List.mem_append_right _ (by repeat constructor)) rfl hi2 (by decide) ?_
    refine hl_nil ?_
    exact qe_done rfl
   apply hb_ex _ rfl rfl rfl
   ·intro w1
    refine r_loadS rfl T.row_trade_ref T.sz_trade_ref rfl rfl (cells_row (List.mem_append_right _ (by repeat constructor)) (rows_all hi2)) ?_
    refine hl_nil ?_
    exact qe_done rfl
   refine hb_vs ⟨Nat, fun _ => True, fun g1 => .slice (some ⟨g1, 0, none⟩) 1 1, fun g1 => [Row (some ⟨g1, 0, none⟩) (rows [l.getD i default])]⟩ rfl rfl rfl ?_ ?_
   ·intro w1
    refine r_buildSlice _ rfl rfl (fun _ => T.bs_L_trade_ref_1 ..) fun gS => ?_
    refine hl_nil ?_
    refine hq_letgo (rows [l.getD i default]) (List.prefix_refl _) ?_
    exact qv_done gS trivial rfl ⟨m0, trivial⟩
   refine hb_wr ⟨Array Value, fun x => x.size = cap * 2 ∧ x.toList.take ((b.length + 1) * 2) = rows (b ++ [l.getD i default]), fun _ => .slice (some ⟨gb, 0, none⟩) (b.length + 1) cap, fun _ => [], fun x => [gbO gb x]⟩ rfl rfl rfl ?_ ?_
   ·intro g1 _; intro w1
    refine r_append_in T.el_L_trade_ref rfl rfl rfl hcs hct (.refl _) (Src.row (news := rows [l.getD i default]) (m := 1) m0 rfl (rows_one _) (by decide)) (by decide) (by omega) fun cur2 hs2 ht2 => ?_
    refine hl_nil ?_
    exact qw_done cur2 ⟨hs2, by rw [rows_append]; exact ht2⟩ (fun _ => rfl) (.refl _) trivial
   apply hb_ex _ rfl rfl rfl
   ·intro w1
    refine r_move rfl rfl (hl_nil ?_)
    exact qe_done rfl
   apply hb_ex _ rfl rfl rfl
   ·intro w1
    refine r_add _ rfl rfl rfl rfl (by unfold I64; omega) ?_
    refine hl_nil ?_
    exact qe_done rfl
   refine hb_nil ⟨rfl, ?_⟩
   intro g1 _ cur2 hx2
   obtain ⟨hs2, ht2⟩ := hx2
   have hl1 : (b ++ [l.getD i default]).length = b.length + 1 := by simp
   have ihk := ih d0 (by omega) (b ++ [l.getD i default]) (i + 1) cur2 (by omega) (fun r hr => (List.mem_append.1 hr).elim (hsub r) (fun h => by rw [List.mem_singleton] at h; subst h; exact getD_mem hi2)) (by omega) hs2 (by rw [hl1]; exact ht2)
   rw [hl1] at ihk
   refine hl_callv (vs := [.slice (some ⟨gb, 0, none⟩) (b.length + 1) cap, int ((i + 1 : Nat) : Int)]) (cap := [pt gm, pt gy, pt gl, pt gg]) F.trade_picks_1_1_cb rfl rfl rfl ihk (hpR := []) (by rw [List.append_nil]; exact List.Perm.swap _ _ _) ⟨(by repeat constructor), (by repeat constructor), (by repeat constructor), (by repeat constructor), (by repeat constructor), (LSub.of_mem fun F hF => by repeat (first | exact hF | apply List.Mem.tail))⟩ fun y hy => ?_
   obtain ⟨z, cur3⟩ := y
   obtain ⟨⟨hz1, hz2⟩, hs3, ht3⟩ := hy
   simp only at hz1 hz2 hs3 ht3
   rw [hl1] at ht3
   refine r_not rfl rfl (hl_nil (then_n ?_))
   refine hc_cond rfl (fun hb3 => ?_) (fun hb3 => ?_)
   ·have hb3' := hb3; try simp at hb3'
    obtain ⟨y, rfl⟩ : ∃ y, z = some y := by cases z with | none => cases hb3 | some y => exact ⟨y, rfl⟩
    refine hc_seq (hc_region (r_assign rfl rfl (hl_nil (then_n (hc_ret (inb_ret (then_ret (then_ret (inb_ret (then_ret ?_))))))))))
    exact ret1 (some y, cur3) rfl rfl rfl ⟨⟨by rw [hq, hz1]; rfl, hz2⟩, hs3, take_shrink ht3⟩ (by rw [List.append_nil]; exact .refl _) (LSub.of_mem fun F hF => List.mem_append_left _ hF)
   ·have hb3' := hb3; try simp at hb3'
    have hzn : z = none := by cases z with | none => rfl | some y => cases hb3
    subst hzn
    refine hc_skip (inb_n (then_n (hc_region (r_move rfl rfl ?_))))
    refine r_add _ rfl rfl rfl rfl (by unfold I64; omega) ?_
    refine r_assign rfl rfl (hl_nil ?_)
    exact again _ (i + 1, cur3) ⟨by show i + 1 ≤ l.length; omega, by rw [hq, hz1]; rfl, hs3, take_shrink ht3⟩ (by show l.length - (i + 1) < l.length - i; omega) ⟨rfl, rfl, rfl, rfl, rfl, rfl, trivial⟩ (by rw [List.append_nil]; exact .refl _) ⟨(by repeat constructor), (by repeat constructor), (by repeat constructor), (by repeat constructor), (by repeat constructor), (LSub.of_mem fun F hF => by repeat (first | exact hF | apply List.Mem.tail))⟩
  ·have hb2' := hb2; try simp at hb2'
   have hi2 : i = l.length := by omega
   subst hi2
   rw [List.drop_length, growQ_nil] at hq
   refine hc_exit (then_exit (then_exit (inb_hit (then_n (hc_seq (hc_region (r_assign rfl rfl (hl_nil (then_n (hc_ret ?_))))))))))
   exact ret1 (none, cur) rfl rfl rfl ⟨⟨hq, fun y hy => by cases hy⟩, hcs, hct⟩ (.refl _) trivial

theorem trade_picks_1_meets {lb : Nat} {rc : Option Code → Loop} {J : Code} {R0 : Hp} {γ : Type} {R1 : γ → Hp} {L1 : γ → List Fact} {I1 : List Rf → γ → Prop} {LI0 : List Fact} {p : List Rf → Bool} {cap : Nat} {LA : Option Addr} {lc : Nat} (l : List Rf) {gm gl : Nat} (hn : l.length ≤ 1000) (hc : cap ≤ 1000) (hY : ∀ (gb : Nat) (b : List Rf) (cur : Array Value), b.length = cap → (∀ r ∈ b, r ∈ l) → cur.toList.take (b.length * 2) = rows b → MeetsY Tryz.prog lb [.slice (some ⟨gb, 0, none⟩) b.length cap] (yC lb rc J gb R0 R1 L1 I1 LI0 p b cur)) : Meets Tryz.prog F.trade_picks_1 [yieldV lb, pt gm, pt gl] (pC lb rc J R0 R1 L1 I1 (growQ p cap [] l) (boxN gm cap :: boxL gl LA l.length lc :: Row LA (rows l) :: LI0)) := by
 refine meets_intro F.trade_picks_1_f rfl (Nat.le_of_ble_eq_true rfl) fun w0 => ?_
 refine hc_seq (hc_region ?_)
 refine r_box rfl rfl fun gy => ?_
 refine hl_nil (then_n (hc_seq (hc_region ?_)))
 refine r_alloc rfl (fun _ => T.al_func_L_trade_ref_int_bool _) fun gg => ?_
 refine hl_nil (then_n (hc_seq (hc_region (r_makeFunc rfl rfl rfl ?_))))
 refine r_store rfl rfl (.refl _) T.sz_func_L_trade_ref_int_bool (by rfl) (by rfl) ?_
 refine hl_nil (then_n (hc_letgoB (hc_letgoB ?_)))
 refine hc_drawW ([]) (_) (.refl _) 3 [2] mixed (by decide) (by decide) (by decide) rfl rfl rfl ?_
 apply hb_ex _ rfl rfl rfl
 ·intro w1
  refine r_load (v := growV gm gy gl gg) rfl T.cell_func_L_trade_ref_int_bool rfl (cell_blk (List.mem_append_right _ (by repeat constructor)) rfl) ?_
  refine hl_nil ?_
  exact qe_done rfl
 apply hb_ex _ rfl rfl rfl
 ·intro w1
  refine r_load (v := int (cap : Nat)) rfl T.cell_int rfl (cell_blk (List.mem_append_right _ (by repeat constructor)) rfl) ?_
  refine hl_nil ?_
  exact qe_done rfl
 refine hb_wr ⟨Nat × Array Value, fun x => x.2.size = cap * 2, fun x => .slice (some ⟨x.1, 0, none⟩) 0 cap, fun _ => [], fun x => [gbO x.1 x.2]⟩ rfl rfl rfl ?_ ?_
 ·intro w1
  refine r_make0 (n := cap) T.el_L_trade_ref rfl rfl rfl rfl (by omega) (by omega) fun g cur hcs => ?_
  refine hl_nil ?_
  exact qw_done (g, cur) hcs (fun _ => rfl) (List.Sublist.refl _) trivial
 refine hb_nil ⟨rfl, ?_⟩
 intro x hx
 obtain ⟨gb, cur⟩ := x
 have hcs : cur.size = cap * 2 := hx
 refine hl_callv (vs := [.slice (some ⟨gb, 0, none⟩) 0 cap, int (0 : Nat)]) (cap := [pt gm, pt gy, pt gl, pt gg]) F.trade_picks_1_1_cb rfl rfl rfl (trade_picks_1_1_meets (gb := gb) (gm := gm) (gy := gy) (gl := gl) (gg := gg) (LA := LA) (lc := lc) l hn hc (hY gb) cap [] 0 cur (by simp) (by simp) (Nat.zero_le _) hcs (by simp [rows])) (hpR := []) (by rw [List.append_nil]; exact List.Perm.swap _ _ _) ⟨(by repeat constructor), (by repeat constructor), (by repeat constructor), (by repeat constructor), (by repeat constructor), (LSub.of_mem fun F hF => by repeat (first | exact hF | apply List.Mem.tail))⟩ fun y hy => ?_
 obtain ⟨z, cur3⟩ := y
 obtain ⟨⟨hz1, hz2⟩, _, _⟩ := hy
 refine hl_nil ?_
 exact ret0n z rfl rfl rfl ⟨hz1, hz2⟩ (by rw [List.append_nil]; exact List.Sublist.cons_cons _ (List.sublist_cons_self _ _)) (LSub.of_mem fun F hF => List.mem_append_left _ hF)

theorem trade_picks_meets {A : Option Addr} {n c : Nat} (many : Int) : Meets Tryz.prog F.trade_picks [.slice A n c, int many] { val := fun x : Nat × Nat => .func (.func F.trade_picks_1) #[] [pt x.1, pt x.2].toArray, LO := fun x => [boxN x.1 many, boxL x.2 A n c] } := by
 refine meets_intro F.trade_picks_f rfl (Nat.le_of_ble_eq_true rfl) fun w0 => ?_
 refine hc_seq (hc_region ?_)
 refine r_box rfl rfl fun gl => ?_
 refine r_box rfl rfl fun gm => ?_
 refine r_assign rfl rfl (hl_nil (then_n (hc_seq (hc_region (r_makeFunc rfl rfl rfl (r_assign rfl rfl (hl_nil (then_n (hc_ret (hq_letgoB (hq_letgoB ?_)))))))))))
 exact ret1 (gm, gl) rfl rfl rfl trivial (.refl _) ⟨(by repeat constructor), (by repeat constructor), trivial⟩

theorem lt_succ_all {Q : Nat → Prop} {k : Nat} (h0 : ∀ m, m < k → Q m) (h1 : Q k) : ∀ m, m < k + 1 → Q m := fun m hm => by
  rcases Nat.lt_or_ge m k with h | h
  · exact h0 m h
  · obtain rfl : m = k := (by omega)
    exact h1
theorem combos_none {α : Type} : ∀ (k : Nat) (l : List α), l.length < k → combos k l = []
  | 0, l, h => by omega
  | k + 1, [], _ => rfl
  | k + 1, x :: l, h => by
    rw [List.length_cons] at h
    rw [combos, combos_none k l (by omega), combos_none (k + 1) l (by omega)]
    rfl
theorem combos_all {α : Type} : ∀ (l : List α), combos l.length l = [l]
  | [] => rfl
  | x :: l => by
    rw [List.length_cons, combos, combos_all l, combos_none (l.length + 1) l (by omega)]
    rfl
theorem range_none {α : Type} {f : Nat → Option α} {n : Nat} (h : ∀ m, m < n → f m = none) : (List.range n).findSome? f = none := by
  rw [List.findSome?_eq_none_iff]
  exact fun m hm => h m (List.mem_range.1 hm)
theorem range_at {α : Type} {f : Nat → Option α} {k : Nat} {x : α} (h : ∀ m, m < k → f m = none) (h1 : f k = some x) : ∀ (n : Nat), k < n → (List.range n).findSome? f = some x
  | 0, hk => by omega
  | n + 1, hk => by
    rw [List.range_succ, List.findSome?_append]
    by_cases hkn : k < n
    · rw [range_at h h1 n hkn]; rfl
    · have e : k = n := by omega
      subst e
      rw [range_none h]
      simp [h1]
theorem join_no {t : Tr} {h s : Int} (hf : fineB t h s (freeT t) = false) : joinT t h s = none := by unfold joinT; rw [if_pos hf]
theorem join_at {t : Tr} {h s : Int} {k : Nat} {b : List Rf} (hf : fineB t h s (freeT t) = true) (hk : k < (freeT t).length + 1) (h0 : ∀ m, m < k → growQ (fineB t h s) m [] (freeT t) = none) (h1 : growQ (fineB t h s) k [] (freeT t) = some b) : joinT t h s = some b := by
  unfold joinT
  rw [if_neg (by rw [hf]; decide), List.find?_flatMap]
  refine range_at (k := k) (fun m hm => ?_) ?_ _ hk
  · rw [← growQ_all]; exact h0 m hm
  · rw [← growQ_all]; exact h1
theorem join_end {t : Tr} {h s : Int} (hf : fineB t h s (freeT t) = true) (h0 : ∀ m, m < (freeT t).length + 1 → growQ (fineB t h s) m [] (freeT t) = none) : False := by
  have h1 := h0 (freeT t).length (by omega)
  rw [growQ_all, combos_all, List.find?_cons] at h1
  rw [hf] at h1
  cases h1
theorem free_in {t : Tr} : InRf t.hs.length (freeT t) := by
  intro r hr
  unfold freeT at hr
  obtain ⟨i, hi, hm⟩ := List.mem_flatMap.1 hr
  have hi := List.mem_range.1 hi
  split at hm
  · obtain ⟨k, hk, rfl⟩ := List.mem_map.1 hm
    have hk := List.mem_range.1 (List.mem_filter.1 hk).1
    simp only
    omega
  · cases hm
theorem free_len {t : Tr} (h6 : t.hs.length ≤ 6) : (freeT t).length ≤ 36 := by
  have h1 := frK_len t t.hs.length
  have h2 : t.hs.length * t.hs.length ≤ 6 * 6 := Nat.mul_le_mul h6 h6
  rw [free_frK]
  omega
abbrev OutS := List (Sl Int) × OutC
def pairsOf (l : List Rf) : List (List Int) := l.map fun r => [r.1, r.2]
theorem pairs_snoc (l : List Rf) (r : Rf) : pairsOf (l ++ [r]) = pairsOf l ++ [[r.1, r.2]] := by unfold pairsOf; rw [List.map_append]; rfl
def isOut (b : List Rf) (y : OutS) : Prop := y.1.map (·.l) = pairsOf b
abbrev cell12 (g : Nat) (v : Value) : Nat × Obj := (g, .cells #[v] T.intss (0, 0))
theorem res_tmps2 {c : Cx} {fr : Fr} {fn : Func} {t u : Tmp} {v1 v2 : Value} (hres : fn.results = #[.tmp t, .tmp u]) (hv : lk fr t = some v1) (hv2 : lk fr u = some v2) (a : Act) (w : World) (hfr : ∀ t v, lk fr t = some v → a.tmps.getD t undef = v) : (results fn a.tmps).run c.P w = .ok (.tuple #[v1, v2]) w := by
  have h : (results fn a.tmps).run c.P w = .ok (.tuple #[a.tmps.getD t undef, a.tmps.getD u undef]) w := by
    unfold results; rw [hres]; simp
  rw [hfr _ _ hv, hfr _ _ hv2] at h
  exact h

set_option maxHeartbeats 1000000 in
theorem trade_list_join_meets {A B oa ka : Option Addr} {ca cb oc kc gl : Nat} (cs : List Cl) (hs : List Hd) (h s : Nat) (hok : TrOK (trOf cs hs)) (hh : h < hs.length) (hs6 : s ≤ 6) : Meets Tryz.prog F.trade_list_join [.pointer (some ⟨gl, 0, none⟩), int h, int s] { LI := [Row (some ⟨gl, 0, none⟩) [.slice A cs.length ca, .slice B hs.length cb, .slice oa cs.length oc, .slice ka hs.length kc], Row ka (rows (kindsN hs hs.length)), RowsF B hs Hd.row], inv := fun x : OutS => isOut ((joinT (trOf cs hs) (h : Int) (s : Int)).getD []) x, val := fun x => .tuple #[.slice x.2.1 x.1.length x.2.2, .bool (joinT (trOf cs hs) (h : Int) (s : Int)).isSome], LO := fun x => [Rows2 x.2.1 x.1] } := by
 refine meetsM_intro F.trade_list_join_f rfl (Nat.le_of_ble_eq_true rfl) fun w0 => ?_
 refine hc_seq (hc_region ?_)
 have h6h := hok.h6
 have hln := hs_len cs hs
 rw [hln] at h6h
 refine r_box rfl rfl fun g4 => ?_
 refine r_box rfl rfl fun g5 => ?_
 refine r_assign rfl rfl (r_assign rfl rfl (hl_nil (then_n (hc_scope (hc_seq (hc_region (r_move rfl rfl ?_)))))))
 refine hl_call F.trade_list_trades_cb rfl rfl (trade_list_trades_meets (A := A) (B := B) (oa := oa) (ka := ka) (ca := ca) (cb := cb) (oc := oc) (kc := kc) (gl := gl) cs hs (by omega)) (List.Perm.refl _) ⟨(by repeat constructor), (by repeat constructor), trivial⟩ fun due hD => ?_
 refine r_move rfl rfl ?_
 refine hl_call F.trade_list_nets_cb rfl rfl (trade_list_nets_meets (A := A) (B := B) (oa := oa) (ka := ka) (ca := ca) (cb := cb) (oc := oc) (kc := kc) (gl := gl) cs hs hok) (List.Perm.refl _) ⟨(by repeat constructor), (by repeat constructor), (by repeat constructor), trivial⟩ fun ns hN => ?_
 refine r_move rfl rfl ?_
 refine hl_call F.trade_list_free_cb rfl rfl (trade_list_free_meets (A := A) (B := B) (oa := oa) (ka := ka) (ca := ca) (cb := cb) (oc := oc) (kc := kc) (gl := gl) cs hs hok) (List.Perm.refl _) ⟨(by repeat constructor), (by repeat constructor), (by repeat constructor), trivial⟩ fun fo hfo => ?_
 refine r_alloc rfl (fun _ => T.al_trade_heads _) fun g8 => ?_
 refine r_alloc rfl (fun _ => T.al_trade_nets _) fun g9 => ?_
 refine r_store (v := u8 due) rfl rfl (.swap _ _ _) T.sz_trade_heads (by rfl) (by rfl) ?_
 rw [← hln] at hN hD
 obtain ⟨a0, a1, a2, a3, a4, a5, rfl⟩ := six hN.len
 refine r_storeS (cs := (rows [a0, a1, a2, a3, a4, a5]).toArray) rfl rfl (.swap _ _ _) T.sz_trade_nets (by rfl) (by rfl) ?_
 refine r_assign rfl rfl (hl_nil (then_n (hc_seq ?_)))
 have hfl := free_len (t := (trOf cs hs)) (by rw [hln]; exact h6h)
 refine hc_letgoB (hc_letgoB (hc_letgoB (hc_letgoB (hc_region (r_makeFunc rfl rfl rfl ?_)))))
 refine r_alloc rfl (fun _ => T.al_func_L_trade_ref_bool _) fun g11 => ?_
 refine r_store rfl rfl (.refl _) T.sz_func_L_trade_ref_bool (by rfl) (by rfl) ?_
 refine hl_nil (then_n (hc_seq (hc_seq (hc_letgoB (hc_region ?_)))))
 refine r_load (v := .func (.func F.trade_list_join_1) #[] [pt g9, pt g8, pt g4, pt g5].toArray) rfl T.cell_func_L_trade_ref_bool rfl (cell_blk (by repeat constructor) rfl) ?_
 refine r_move rfl rfl ?_
 refine hl_callv (vs := [.slice fo.1 (freeT (trOf cs hs)).length fo.2]) (cap := [pt g9, pt g8, pt g4, pt g5]) F.trade_list_join_1_cb rfl rfl rfl (trade_list_join_1_meets (t := (trOf cs hs)) [a0, a1, a2, a3, a4, a5] due h s (freeT (trOf cs hs)) (by rw [hln]; exact h6h) hN hD (by omega) (by omega) free_in (by omega)) (List.Perm.refl _) ⟨(by repeat constructor), (by repeat constructor), (by repeat constructor), (by repeat constructor), (by repeat constructor), trivial⟩ fun _ _ => ?_
 refine r_not rfl rfl (hl_nil (then_n ?_))
 refine hc_cond rfl (fun hb1 => ?_) (fun hb1 => ?_)
 ·have hb1' := hb1; try simp at hb1'
  have hf : fineB (trOf cs hs) (h : Int) (s : Int) (freeT (trOf cs hs)) = false := by simpa using hb1
  refine hc_seq (hc_region (r_assign rfl rfl (r_assign rfl rfl (hl_nil (then_n (hc_ret (then_ret (ng_ret ?_))))))))
  refine hq_nilrow (α := Sl Int) ?_
  refine hq_facts (Fs := ([] : List (Sl Int)).map fun p => Row p.a (rows p.l)) (by intro F hF; simp at hF) ?_
  refine hq_rows2F (A := none) (ps := ([] : List (Sl Int))) (by repeat constructor) (by repeat constructor) ?_
  have hJ := join_no hf
  refine ret_marks [] (([] : List (Sl Int)), (none, 0)) rfl (List.Perm.refl _) (fun a w _ hfr _ => ?_) rfl (by show isOut _ _; rw [hJ]; rfl) (List.nil_sublist _) ⟨m0, trivial⟩
  rw [hJ]
  exact res_tmps2 rfl rfl rfl a w hfr
 ·have hb1' := hb1; try simp at hb1'
  have hf : fineB (trOf cs hs) (h : Int) (s : Int) (freeT (trOf cs hs)) = true := by simpa using hb1
  refine hc_skip (then_n (hc_seq (hc_region ?_)))
  refine r_alloc rfl (fun _ => T.al_intss _) fun g12 => ?_
  refine hl_nil (then_n (hc_seq (hc_label (then_n (hc_seq (hc_seq (hc_region (r_move rfl rfl ?_))))))))
  refine r_len_sl rfl T.u_L_trade_ref rfl ?_
  refine r_add _ rfl rfl rfl rfl (by unfold I64; omega) ?_
  refine r_move rfl rfl (hl_nil (then_n (hc_block ?_)))
  refine hc_loopM (β := Nat × List Nat) ⟨fun x => x.1 ≤ (freeT (trOf cs hs)).length + 1 ∧ ∀ m, m < x.1 → growQ (fineB (trOf cs hs) (h : Int) (s : Int)) m [] (freeT (trOf cs hs)) = none, fun x => [(10, .slice fo.1 (freeT (trOf cs hs)).length fo.2), (11, pt g11), (12, pt g12), (30, int ((freeT (trOf cs hs)).length + 1 : Nat)), (31, int x.1)], fun _ => [cell12 g12 (.slice none 0 0)], fun _ => (Row fo.1 (rows (freeT (trOf cs hs))) :: (boxF g11 (.func (.func F.trade_list_join_1) #[] [pt g9, pt g8, pt g4, pt g5].toArray) :: WL g9 g8 g4 g5 [a0, a1, a2, a3, a4, a5] due h s))⟩ (fun x => x.2) (fun x => (freeT (trOf cs hs)).length + 1 - x.1) (0, []) ⟨Nat.zero_le _, fun m hm => by omega⟩ rfl ⟨rfl, rfl, rfl, rfl, rfl, trivial⟩ (List.Sublist.refl _) ⟨(by repeat constructor), (by repeat constructor), (by repeat constructor), (by repeat constructor), (by repeat constructor), (by repeat constructor), trivial⟩ fun x hx => ?_
  obtain ⟨k, ds⟩ := x
  obtain ⟨hk, h0⟩ := hx
  simp only at hk h0
  refine hc_seq (hc_region (r_lss rfl rfl rfl (hl_nil (then_n (hc_seq ?_)))))
  refine c_dec rfl (fun hb2 => ?_) (fun hb2 => ?_)
  ·have hb2' := hb2; try simp at hb2'
   have hk2 : k < (freeT (trOf cs hs)).length + 1 := by omega
   refine hc_skip (then_n (hc_seq (hc_block (hc_seq (hc_region (r_move rfl rfl (r_assign rfl rfl (hl_nil (then_n (hc_seq (hc_region ?_)))))))))))
   refine r_move rfl rfl (r_move rfl rfl ?_)
   refine hl_call F.trade_picks_cb rfl rfl (trade_picks_meets (A := fo.1) (n := (freeT (trOf cs hs)).length) (c := fo.2) (k : Int)) (List.Perm.refl _) trivial fun gp _ => ?_
   obtain ⟨gm, gl2⟩ := gp
   refine hl_nil (then_n (hc_block ?_))
   refine hc_rangeFunc (β := OrdG OutS) (cap := [pt gm, pt gl2]) (hpR := shutM ds) [cell12 g12 (.slice none 0 0)] (boxN gm k :: boxL gl2 fo.1 (freeT (trOf cs hs)).length fo.2 :: Row fo.1 (rows (freeT (trOf cs hs))) :: (boxF g11 (.func (.func F.trade_list_join_1) #[] [pt g9, pt g8, pt g4, pt g5].toArray) :: WL g9 g8 g4 g5 [a0, a1, a2, a3, a4, a5] due h s)) (fun x => growQ (fineB (trOf cs hs) (h : Int) (s : Int)) k [] (freeT (trOf cs hs)) = x.map (·.1) ∧ ∀ y, x = some y → isOut y.1 y.2) (fun _ => .tuple #[]) (fun x => x.map fun _ => .exit 0) (fun x => ry [cell12 g12 (.slice none 0 0)] (fun y : OutS => [cell12 g12 (.slice y.2.1 y.1.length y.2.2)]) (x.map (·.2))) (fun x => ly (fun y : OutS => [Rows2 y.2.1 y.1]) (x.map (·.2))) rfl F.trade_picks_1_cb (List.perm_append_comm (l₁ := shutM ds) (l₂ := [cell12 g12 (.slice none 0 0)])) ⟨(by repeat constructor), (by repeat constructor), (by repeat constructor), (by repeat constructor), (by repeat constructor), (by repeat constructor), (by repeat constructor), (by repeat constructor), trivial⟩ ?_ ?_ ?_
   ·intro lb d fn tmps hsz hfr
    refine trade_picks_1_meets (lb := lb) (rc := recL fn tmps #[37] _ _ d) (J := .exit 0) (R0 := [cell12 g12 (.slice none 0 0)]) (R1 := (fun y : OutS => [cell12 g12 (.slice y.2.1 y.1.length y.2.2)])) (L1 := (fun y : OutS => [Rows2 y.2.1 y.1])) (I1 := isOut) (LI0 := (boxF g11 (.func (.func F.trade_list_join_1) #[] [pt g9, pt g8, pt g4, pt g5].toArray) :: WL g9 g8 g4 g5 [a0, a1, a2, a3, a4, a5] due h s)) (p := (fineB (trOf cs hs) (h : Int) (s : Int))) (cap := k) (LA := fo.1) (lc := fo.2) (freeT (trOf cs hs)) (by omega) (by omega) (fun gb b cur hbl hbs hct => ?_)
    refine meetsY_intro m0 hsz hfr rfl (by intro t ht; simp at ht; subst ht; exact Nat.lt_of_lt_of_le (show 37 < 59 by decide) (Nat.le_refl _)) fun w => ?_
    refine hc_regionR rfl (r_assign rfl rfl (hl_nil ?_))
    refine then_begin (.refl _) ?_
    refine hc_block (hc_seq (hc_seq (hc_regionR rfl ?_)))
    refine r_load (v := .func (.func F.trade_list_join_1) #[] [pt g9, pt g8, pt g4, pt g5].toArray) rfl T.cell_func_L_trade_ref_bool rfl (cell_blk (by repeat constructor) rfl) ?_
    refine r_move rfl rfl ?_
    refine hl_callv (vs := [.slice (some ⟨gb, 0, none⟩) b.length k]) (cap := [pt g9, pt g8, pt g4, pt g5]) F.trade_list_join_1_cb rfl rfl rfl (trade_list_join_1_meetsO (gb := gb) (c := k) (cur := cur) (t := (trOf cs hs)) [a0, a1, a2, a3, a4, a5] due h s b (by rw [hln]; exact h6h) hN hD (by omega) (by omega) (fun r hr => free_in r (hbs r hr)) (by omega) hct) (List.Perm.swap _ _ _) ⟨(by repeat constructor), (by repeat constructor), (by repeat constructor), (by repeat constructor), trivial⟩ fun _ _ => ?_
    refine r_not rfl rfl (hl_nil (then_n ?_))
    refine hc_cond rfl (fun hb3 => ?_) (fun hb3 => ?_)
    ·have hb3' := hb3; try simp at hb3'
     have hpb : (fineB (trOf cs hs) (h : Int) (s : Int)) b = false := by simpa using hb3
     refine hc_exit (then_exit (inb_hit ?_))
     exact rp_n none (List.Perm.swap _ _ _) rfl rfl ⟨hpb.symm, fun y hy => by cases hy⟩ (List.Sublist.refl _) trivial
    ·have hb3' := hb3; try simp at hb3'
     have hpb : (fineB (trOf cs hs) (h : Int) (s : Int)) b = true := by simpa using hb3
     refine hc_skip (then_n (hc_seq (hc_seq ?_)))
     refine hc_facts (Fs := ([] : List (Sl Int)).map (fun p : Sl Int => Row p.a (rows p.l))) (by intro F hF; simp at hF) ?_
     refine hc_regionR rfl (r_move rfl rfl ?_)
     refine r_len_sl rfl T.u_L_trade_ref rfl ?_
     refine r_move rfl rfl (hl_nil (then_n (hc_block ?_)))
     refine hc_perm (List.reverse_perm _).symm ?_
     refine hc_loop (β := Nat × List (Sl Int) × OutC × Hp) ⟨fun x => x.1 ≤ b.length ∧ Grow T.ints 1 x.2.2.1.1 x.2.1.length x.2.2.1.2 (rows x.2.1) x.2.2.2 ∧ x.2.1.map (·.l) = pairsOf (b.take x.1), fun x => [(12, pt g12), (42, .slice (some ⟨gb, 0, none⟩) b.length k), (43, int b.length), (44, int x.1)], fun x => cell12 g12 (.slice x.2.2.1.1 x.2.1.length x.2.2.1.2) :: (x.2.2.2 ++ [(lb, .loop (recB fn tmps #[37] _ _ d)), gbO gb cur]), fun x => [Facts (x.2.1.map (fun p : Sl Int => Row p.a (rows p.l)))]⟩ (fun x => b.length - x.1) (0, [], (none, 0), []) ⟨Nat.zero_le _, Grow.nil _ _, rfl⟩ ⟨rfl, rfl, rfl, rfl, trivial⟩ (show List.Sublist _ _ from List.Sublist.refl _) ⟨(by repeat constructor), trivial⟩ fun x hx => ?_
     obtain ⟨j, ps, ⟨na, nc⟩, og⟩ := x
     obtain ⟨hj, hG, hps⟩ := hx
     simp only at hj hG hps
     have hpl : ps.length = j := by have := congrArg List.length hps; rw [List.length_map, pairsOf, List.length_map, List.length_take] at this; omega
     refine hc_seq (hc_regionR rfl (r_lss rfl rfl rfl (hl_nil (then_n (hc_seq ?_)))))
     refine c_dec rfl (fun hb4 => ?_) (fun hb4 => ?_)
     ·have hb4' := hb4; try simp at hb4'
      have hj2 : j < b.length := by omega
      refine hc_skip (then_n (hc_seq (hc_block (hc_seq (hc_regionR rfl ?_)))))
      refine r_indexAddr_own j (0 + j * 2) rfl T.u_L_trade_ref T.sz_trade_ref rfl rfl rfl hj2 rfl ?_
      refine r_loadS rfl T.row_trade_ref T.sz_trade_ref rfl rfl (cells_own (List.mem_cons_of_mem _ (List.mem_append_right _ (List.mem_cons_of_mem _ (List.mem_cons_self ..)))) (own2 hct hj2)) ?_
      refine r_alloc rfl (fun _ => T.al_trade_ref _) fun gA => ?_
      refine r_storeS rfl rfl (by first | exact .refl _ | exact perm2 _ _ _ | exact perm3 _ _ _ _ | exact perm4 _ _ _ _ _) T.sz_trade_ref (by rfl) (by rfl) ?_
      refine hl_nil (then_n ?_)
      refine hc_letgo (rows [b.getD j default]) ⟨[], List.append_nil _⟩ ?_
      refine hc_regionR rfl ?_
      refine r_load (v := .slice na ps.length nc) rfl T.cell_intss rfl (cell_own (List.mem_cons_self ..) rfl) ?_
      refine r_fieldAddr ⟨_, 0, none⟩ rfl rfl T.fa_trade_ref_0 rfl ?_
      refine r_load rfl T.cell_int rfl (cell_rowg (by repeat constructor) rfl) ?_
      refine r_fieldAddr ⟨_, 1, none⟩ rfl rfl T.fa_trade_ref_1 rfl ?_
      refine r_load rfl T.cell_int rfl (cell_rowg (by repeat constructor) rfl) ?_
      refine r_buildSlice _ rfl rfl (fun _ => T.bs_ints_2 ..) fun gS => ?_
      refine hl_letgo (rows [(b.getD j default).1, (b.getD j default).2]) (List.prefix_refl _) ?_
      refine r_buildSlice _ rfl rfl (fun _ => T.bs_intss_1 ..) fun gS2 => ?_
      refine hl_letgo (rows [(⟨some ⟨gS, 0, none⟩, 2, [(b.getD j default).1, (b.getD j default).2]⟩ : Sl Int)]) (List.prefix_refl _) ?_
      refine r_append (ps.length + 1) (rows (ps ++ [(⟨some ⟨gS, 0, none⟩, 2, [(b.getD j default).1, (b.getD j default).2]⟩ : Sl Int)])) T.el_intss rfl rfl rfl hG (pm3 _ _ _ _) (Src.row (news := rows [(⟨some ⟨gS, 0, none⟩, 2, [(b.getD j default).1, (b.getD j default).2]⟩ : Sl Int)]) (m := 1) m0 rfl (rows_one _) (by decide)) rfl (rows_append _ _).symm (by unfold maxLen; omega) (by omega) fun A' c' og' hG' => ?_
      refine r_store rfl rfl (pm4 _ _ _ _) T.sz_intss (by rfl) (by rfl) ?_
      refine hl_facts (innerF_snoc (ps := ps) (f := fun p : Sl Int => Row p.a (rows p.l)) (p := (⟨some ⟨gS, 0, none⟩, 2, [(b.getD j default).1, (b.getD j default).2]⟩ : Sl Int)) (by repeat constructor) (by repeat constructor)) ?_
      refine hl_nil (inb_n (then_n (hc_regionR rfl ?_)))
      refine r_add _ rfl rfl rfl rfl (by unfold I64; omega) ?_
      refine r_move rfl rfl (hl_nil ?_)
      exact again _ (j + 1, ps ++ [(⟨some ⟨gS, 0, none⟩, 2, [(b.getD j default).1, (b.getD j default).2]⟩ : Sl Int)], (A', c'), og') ⟨by show j + 1 ≤ b.length; omega, by show Grow _ _ _ (ps ++ [_]).length _ _ _; rw [List.length_append]; exact hG', by show (ps ++ [_]).map (fun p : Sl Int => p.l) = pairsOf (b.take (j + 1)); rw [take_succ_getD b j hj2, pairs_snoc, List.map_append, hps]; rfl⟩ (by show b.length - (j + 1) < b.length - j; omega) ⟨rfl, rfl, rfl, rfl, trivial⟩ (by show List.Sublist (cell12 g12 (.slice A' (ps ++ [_]).length c') :: _) _; rw [List.length_append]; exact List.Sublist.refl _) ⟨(by repeat constructor), trivial⟩
     ·have hb4' := hb4; try simp at hb4'
      have hj2 : j = b.length := by omega
      subst hj2
      rw [List.take_length] at hps
      refine hc_exit (then_exit (then_exit (inb_hit (then_n (hc_exit (inb_miss rfl ?_))))))
      refine hq_perm (pm3 _ _ _ _) ?_
      refine hq_grown hG ?_
      refine hq_rows2F (A := na) (ps := ps) (by repeat constructor) (by repeat constructor) ?_
      exact rp_exit (some (ps, (na, nc))) (hp' := [gbO gb cur, cell12 g12 (.slice na ps.length nc)]) ((List.Perm.swap _ _ _).trans (List.Perm.cons _ (List.Perm.swap _ _ _))) rfl rfl ⟨hpb.symm, fun y hy => by cases hy; exact hps⟩ (List.Sublist.refl _) ⟨m0, trivial⟩
   ·intro x d hx hp
    obtain rfl : x = none := by cases x with | none => rfl | some y => cases hp
    refine inb_n (inb_n (then_n (hc_region ?_)))
    refine r_add _ rfl rfl rfl rfl (by unfold I64; omega) ?_
    refine r_move rfl rfl (hl_nil ?_)
    refine hq_perm (List.Perm.cons _ (List.perm_append_comm (l₂ := shutM ds))) ?_
    exact againM _ (k + 1, d :: ds) ⟨by show k + 1 ≤ (freeT (trOf cs hs)).length + 1; omega, lt_succ_all h0 hx.1⟩ (by show (freeT (trOf cs hs)).length + 1 - (k + 1) < (freeT (trOf cs hs)).length + 1 - k; omega) rfl ⟨rfl, rfl, rfl, rfl, rfl, trivial⟩ (List.Sublist.refl _) ⟨(by repeat constructor), (by repeat constructor), (by repeat constructor), (by repeat constructor), (by repeat constructor), (by repeat constructor), trivial⟩
   ·intro x d j hx hp
    obtain ⟨y, rfl⟩ : ∃ y, x = some y := by cases x with | none => cases hp | some y => exact ⟨y, rfl⟩
    cases hp
    refine hc_exit (inb_miss rfl (inb_miss rfl (then_exit (then_exit (inb_hit (then_n (hc_seq (hc_region ?_))))))))
    refine r_load (v := .slice y.2.2.1 y.2.1.length y.2.2.2) rfl T.cell_intss rfl (cell_own (List.mem_cons_of_mem _ (List.mem_append_left _ (List.mem_cons_self ..))) rfl) ?_
    refine r_assign rfl rfl (r_assign rfl rfl (hl_nil (then_n (hc_ret (ng_ret ?_)))))
    have hJ := join_at hf hk2 h0 hx.1
    have hIs := hx.2 _ rfl
    refine ret_marks (d :: ds) y.2 rfl (List.Perm.cons _ (List.perm_append_comm (l₂ := shutM ds))) (fun a w _ hfr _ => ?_) rfl (by show isOut _ _; rw [hJ]; exact hIs) (List.nil_sublist _) ⟨(by repeat constructor), trivial⟩
    rw [hJ]
    exact res_tmps2 rfl rfl rfl a w hfr
  ·exact (join_end hf fun m hm => h0 m (by omega)).elim

def joinE (t : Tr) (h s : Int) : List (List Int) × Int := if ¬ askE t [h] = 0 then ([], askE t [h]) else if ¬ (0 ≤ s ∧ s ≤ 6) then ([], 1) else if (joinT t h s).isSome = false then ([], 11) else (pairsOf ((joinT t h s).getD []), 0)

set_option maxHeartbeats 1000000 in
theorem trade_Join_meets {A B : Option Addr} {ca cb : Nat} (cs : List Cl) (hs : List Hd) (h s : Int) (hca : cs.length ≤ ca) (hcb : hs.length ≤ cb) (ha : ∀ h ∈ hs, h.2.2.2.l.length ≤ 1000000) : Meets Tryz.prog F.trade_Join [.agg #[.slice A cs.length ca, .slice B hs.length cb], int h, int s] { LI := [Row A (rows cs), RowsF B hs Hd.row], inv := fun x : OutS => lsts x.1 = (joinE (trOf cs hs) h s).1, val := fun x => .tuple #[.slice x.2.1 x.1.length x.2.2, int (joinE (trOf cs hs) h s).2], LO := fun x => [Rows2 x.2.1 x.1] } := by
 refine meets_intro F.trade_Join_f rfl (Nat.le_of_ble_eq_true rfl) fun w0 => ?_
 refine hc_seq (hc_region ?_)
 refine r_box rfl rfl fun gB => ?_
 refine r_assign rfl rfl (r_assign rfl rfl (hl_nil (then_n ?_)))
 refine hc_cut ⟨fun _ : Nat × OutC × OutC => True, fun x => [(1, int h), (2, int s), (3, .pointer (some ⟨gB, 0, none⟩)), (8, if askE (trOf cs hs) [h] = 0 then .pointer (some ⟨x.1, 0, none⟩) else .pointer none), (9, int (askE (trOf cs hs) [h]))], fun _ => [(gB, .cells #[.slice A cs.length ca, .slice B hs.length cb] T.api_Trades (0, 0))], fun x => (if askE (trOf cs hs) [h] = 0 then beginL cs hs A ca B cb x else []) ++ [Row A (rows cs), RowsF B hs Hd.row]⟩ ?_ ?_
 ·skip
  refine hc_region ?_
  refine r_loadA rfl T.row_api_Trades T.sz_api_Trades rfl (by repeat constructor) (by rfl) ?_
  refine r_move rfl rfl ?_
  refine r_buildSlice _ rfl rfl (fun _ => T.bs_ints_1 ..) fun gS => ?_
  refine hl_letgo (rows [h]) (List.prefix_refl _) ?_
  refine hl_call F.trade_ask_cb rfl rfl (trade_ask_meets cs hs [h] hca hcb ha (by simp)) (List.Perm.refl _) ⟨(by repeat constructor), (by repeat constructor), (by repeat constructor), trivial⟩ fun x _ => ?_
  refine r_move rfl rfl (r_extract rfl rfl rfl (r_extract rfl rfl rfl (r_assign rfl rfl (r_assign rfl rfl (hl_nil ?_)))))
  exact cut_n _ x trivial ⟨rfl, rfl, rfl, rfl, rfl, trivial⟩ (List.Sublist.refl _) (LSub.of_mem fun F hF => (List.mem_append.1 hF).elim (fun h1 => List.mem_append_left _ h1) (fun h2 => List.mem_append_right _ (List.mem_cons_of_mem _ h2)))
 ·refine fun x _ => ?_
  dsimp only
  refine hc_seq (hc_block (hc_seq (hc_region (r_move rfl rfl (r_neq rfl rfl rfl (r_assign rfl rfl (hl_nil (then_n ?_))))))))
  refine c_dec rfl (fun hb1 => ?_) (fun hb1 => ?_)
  ·have hb1' := hb1; try simp at hb1'
   refine hc_seq (hc_region (r_move rfl rfl (r_assign rfl rfl (r_assign rfl rfl (hl_nil (then_n (hc_ret (inb_ret (then_ret ?_)))))))))
   refine hq_nilrow (α := Sl Int) ?_
   refine hq_facts (Fs := ([] : List (Sl Int)).map fun p => Row p.a (rows p.l)) (by intro F hF; simp at hF) ?_
   refine hq_rows2F (A := none) (ps := ([] : List (Sl Int))) (by repeat constructor) (by repeat constructor) ?_
   have hE : (joinE (trOf cs hs) h s) = ([], askE (trOf cs hs) [h]) := by unfold joinE; rw [if_pos hb1]
   exact ret2 (([] : List (Sl Int)), (none, 0)) rfl rfl rfl (by show Value.tuple #[.slice none 0 0, int ((joinE (trOf cs hs) h s)).2] = _; rw [hE]) rfl (by show [] = ((joinE (trOf cs hs) h s)).1; rw [hE]) (List.nil_sublist _) ⟨m0, trivial⟩
  ·have hb1' := hb1; try simp at hb1'
   have h0 := Classical.not_not.1 hb1
   rw [if_pos h0, if_pos h0]
   have hch := ask_check h0
   have hin := ask_in h0 (List.mem_singleton.2 rfl)
   rw [hs_len] at hin
   have hok := tr_ok hch
   have h6 : cs.length ≤ 6 := hok.c6
   have h6h := hok.h6
   rw [hs_len] at h6h
   have hcl : ∀ i, i < cs.length → ClsOK cs i := hok.c
   obtain ⟨gl, ⟨oa, oc⟩, ⟨ka, kc⟩⟩ := x
   show HC _ _ _ _ _ [Row (some ⟨gl, 0, none⟩) [.slice A cs.length ca, .slice B hs.length cb, .slice oa cs.length oc, .slice ka hs.length kc], Row oa (rows (masksN cs cs.length)), Row ka (rows (kindsN hs hs.length)), Row A (rows cs), RowsF B hs Hd.row]
   refine hc_seq (hc_region (r_move rfl rfl ?_))
   refine hl_call F.trade_between_cb rfl rfl (trade_between_meets _ _ _) (List.Perm.refl _) trivial fun _ _ => ?_
   refine r_not rfl rfl (r_assign rfl rfl (hl_nil (then_n ?_)))
   refine hc_cond rfl (fun hb2 => ?_) (fun hb2 => ?_)
   ·have hb2' := hb2; try simp at hb2'
    have h2 : ¬ (0 ≤ s ∧ s ≤ 6) := fun e => by rw [decide_eq_true e] at hb2; cases hb2
    refine hc_seq (hc_region (r_assign rfl rfl (r_assign rfl rfl (hl_nil (then_n (hc_ret (inb_ret (then_ret ?_))))))))
    refine hq_nilrow (α := Sl Int) ?_
    refine hq_facts (Fs := ([] : List (Sl Int)).map fun p => Row p.a (rows p.l)) (by intro F hF; simp at hF) ?_
    refine hq_rows2F (A := none) (ps := ([] : List (Sl Int))) (by repeat constructor) (by repeat constructor) ?_
    have hE : (joinE (trOf cs hs) h s) = ([], 1) := by unfold joinE; rw [if_neg hb1, if_pos h2]
    exact ret2 (([] : List (Sl Int)), (none, 0)) rfl rfl rfl (by show Value.tuple #[.slice none 0 0, int ((joinE (trOf cs hs) h s)).2] = _; rw [hE]) rfl (by show [] = ((joinE (trOf cs hs) h s)).1; rw [hE]) (List.nil_sublist _) ⟨m0, trivial⟩
   ·have hb2' := hb2; try simp at hb2'
    have h2 : 0 ≤ s ∧ s ≤ 6 := by simpa using hb2
    obtain ⟨sn, rfl⟩ : ∃ sn : Nat, s = (sn : Int) := ⟨s.toNat, by omega⟩
    obtain ⟨hn, rfl⟩ : ∃ hn : Nat, h = (hn : Int) := ⟨h.toNat, by omega⟩
    refine hc_skip (inb_n (then_n (hc_seq (hc_region (r_move rfl rfl (r_move rfl rfl (r_move rfl rfl ?_)))))))
    refine hl_call F.trade_list_join_cb rfl rfl (trade_list_join_meets (A := A) (B := B) (oa := oa) (ka := ka) (ca := ca) (cb := cb) (oc := oc) (kc := kc) (gl := gl) cs hs hn sn hok (by omega) (by omega)) (List.Perm.refl _) ⟨(by repeat constructor), (by repeat constructor), (by repeat constructor), trivial⟩ fun y hy => ?_
    refine r_move rfl rfl (r_extract rfl rfl rfl (r_extract rfl rfl rfl (r_assign rfl rfl (r_assign rfl rfl (hl_nil (then_n (hc_seq (hc_seq (hc_region (r_move rfl rfl (r_not rfl rfl ?_)))))))))))
    refine hl_nil (then_n ?_)
    refine hc_cond rfl (fun hb3 => ?_) (fun hb3 => ?_)
    ·have hb3' := hb3; try simp at hb3'
     have h3 : (joinT (trOf cs hs) (hn : Int) (sn : Int)).isSome = false := by simpa using hb3
     refine hc_seq (hc_region (r_assign rfl rfl (r_assign rfl rfl (hl_nil (then_n (hc_ret (then_ret ?_)))))))
     refine hq_nilrow (α := Sl Int) ?_
     refine hq_facts (Fs := ([] : List (Sl Int)).map fun p => Row p.a (rows p.l)) (by intro F hF; simp at hF) ?_
     refine hq_rows2F (A := none) (ps := ([] : List (Sl Int))) (by repeat constructor) (by repeat constructor) ?_
     have hE : (joinE (trOf cs hs) (hn : Int) (sn : Int)) = ([], 11) := by unfold joinE; rw [if_neg hb1, if_neg (fun e => e h2), if_pos h3]
     exact ret2 (([] : List (Sl Int)), (none, 0)) rfl rfl rfl (by show Value.tuple #[.slice none 0 0, int ((joinE (trOf cs hs) (hn : Int) (sn : Int))).2] = _; rw [hE]) rfl (by show [] = ((joinE (trOf cs hs) (hn : Int) (sn : Int))).1; rw [hE]) (List.nil_sublist _) ⟨m0, trivial⟩
    ·have hb3' := hb3; try simp at hb3'
     have h3 : ¬ (joinT (trOf cs hs) (hn : Int) (sn : Int)).isSome = false := fun e => by rw [e] at hb3; cases hb3
     refine hc_skip (then_n (hc_seq (hc_region (r_move rfl rfl (r_assign rfl rfl (r_assign rfl rfl (hl_nil (then_n (hc_ret ?_)))))))))
     have hE : joinE (trOf cs hs) (hn : Int) (sn : Int) = (pairsOf ((joinT (trOf cs hs) (hn : Int) (sn : Int)).getD []), 0) := by unfold joinE; rw [if_neg hb1, if_neg (fun e => e h2), if_neg h3]
     exact ret2 y rfl rfl rfl (by show Value.tuple #[.slice y.2.1 y.1.length y.2.2, int (joinE (trOf cs hs) (hn : Int) (sn : Int)).2] = _; rw [hE]; rfl) rfl (by show lsts y.1 = (joinE (trOf cs hs) (hn : Int) (sn : Int)).1; rw [hE]; exact hy) (List.nil_sublist _) ⟨m0, trivial⟩

def shT : Tr := ⟨shopsC, (shopsH 0 0).map Hd.p⟩
def laT : Tr := ⟨shopsC, (laterH 0).map Hd.p⟩
theorem sh_of (a b : Nat) : trOf shopsC (shopsH a b) = shT := rfl
theorem la_of (a : Nat) : trOf shopsC (laterH a) = laT := rfl
theorem ix_least : leastE shT 1 0 = (0, 0) := by kernel_rfl
theorem ix_follow : followE shT 5 = (3, 2, 0) := by kernel_rfl
theorem ix_join : joinE shT 3 2 = ([[2, 4], [3, 2]], 0) := by kernel_rfl
theorem ix_may : mayE shT [109] = ([3, 4], 0) := by kernel_rfl
theorem ix_short : shortE shT 1 = ([98, 111], 0) := by kernel_rfl
theorem ix_compare : compareE shT laT = ([([99, 111, 110, 102, 101, 99, 116, 105, 111, 110, 101, 114], 1), ([104, 97, 116, 116, 101, 114], 3), ([105, 114, 111, 110, 109, 111, 110, 103, 101, 114], 2)], 0) := by kernel_rfl

theorem sh_ok (a b : Nat) : ∀ h ∈ shopsH a b, h.2.2.2.l.length ≤ 1000000 := by
  intro h hh
  simp only [shopsH, List.mem_cons, List.not_mem_nil, or_false] at hh
  rcases hh with rfl | rfl | rfl | rfl | rfl | rfl <;> simp
theorem la_ok (a : Nat) : ∀ h ∈ laterH a, h.2.2.2.l.length ≤ 1000000 := by
  intro h hh
  simp only [laterH, List.mem_cons, List.not_mem_nil, or_false] at hh
  rcases hh with rfl | rfl | rfl | rfl | rfl | rfl <;> simp
abbrev shF (x : Nat × Nat × Nat × Nat) : List Fact := [Row (some ⟨x.1, 0, none⟩) (rows shopsC), RowsF (some ⟨x.2.1, 0, none⟩) (shopsH x.2.2.1 x.2.2.2) Hd.row]
abbrev shV (x : Nat × Nat × Nat × Nat) : Value := .agg #[.slice (some ⟨x.1, 0, none⟩) 4 4, .slice (some ⟨x.2.1, 0, none⟩) 6 6]
theorem ex_least (x : Nat × Nat × Nat × Nat) : Meets Tryz.prog F.trade_Least [shV x, int 1, int 0] { LI := shF x, val := fun _ : Unit => .tuple #[int 0, int 0] } := by
  have h := trade_Least_meets (A := some ⟨x.1, 0, none⟩) (B := some ⟨x.2.1, 0, none⟩) (ca := 4) (cb := 6) shopsC (shopsH x.2.2.1 x.2.2.2) 1 0 (Nat.le_refl 4) (Nat.le_refl 6) (sh_ok _ _)
  rw [sh_of, ix_least] at h
  exact h
theorem ex_follow (x : Nat × Nat × Nat × Nat) : Meets Tryz.prog F.trade_Follow [shV x, int 5] { LI := shF x, val := fun _ : Unit => .tuple #[int 3, int 2, int 0] } := by
  have h := trade_Follow_meets (A := some ⟨x.1, 0, none⟩) (B := some ⟨x.2.1, 0, none⟩) (ca := 4) (cb := 6) shopsC (shopsH x.2.2.1 x.2.2.2) 5 (Nat.le_refl 4) (Nat.le_refl 6) (sh_ok _ _)
  rw [sh_of, ix_follow] at h
  exact h
theorem ex_join (x : Nat × Nat × Nat × Nat) : Meets Tryz.prog F.trade_Join [shV x, int 3, int 2] { LI := shF x, inv := fun y : OutS => lsts y.1 = [[2, 4], [3, 2]], val := fun y => .tuple #[.slice y.2.1 y.1.length y.2.2, int 0], LO := fun y => [Rows2 y.2.1 y.1] } := by
  have h := trade_Join_meets (A := some ⟨x.1, 0, none⟩) (B := some ⟨x.2.1, 0, none⟩) (ca := 4) (cb := 6) shopsC (shopsH x.2.2.1 x.2.2.2) 3 2 (Nat.le_refl 4) (Nat.le_refl 6) (sh_ok _ _)
  rw [sh_of, ix_join] at h
  exact h
theorem ex_may (x : Nat × Nat × Nat × Nat) : Meets Tryz.prog F.trade_May [shV x, str [109]] { LI := shF x, inv := fun y : OutC => 2 ≤ y.2, val := fun y => .tuple #[.slice y.1 2 y.2, int 0], LO := fun y => [Row y.1 (rows ([3, 4] : List Int))] } := by
  have h := trade_May_meets (A := some ⟨x.1, 0, none⟩) (B := some ⟨x.2.1, 0, none⟩) (ca := 4) (cb := 6) shopsC (shopsH x.2.2.1 x.2.2.2) [109] (Nat.le_refl 4) (Nat.le_refl 6) (sh_ok _ _)
  rw [sh_of, ix_may] at h
  exact h
theorem ex_short (x : Nat × Nat × Nat × Nat) : Meets Tryz.prog F.trade_Short [shV x, int 1] { LI := shF x, val := fun _ : Unit => .tuple #[str [98, 111], int 0] } := by
  have h := trade_Short_meets (A := some ⟨x.1, 0, none⟩) (B := some ⟨x.2.1, 0, none⟩) (ca := 4) (cb := 6) shopsC (shopsH x.2.2.1 x.2.2.2) 1 (Nat.le_refl 4) (Nat.le_refl 6) (sh_ok _ _)
  rw [sh_of, ix_short] at h
  exact h
def movesX : List Cl := [([99, 111, 110, 102, 101, 99, 116, 105, 111, 110, 101, 114], 1), ([104, 97, 116, 116, 101, 114], 3), ([105, 114, 111, 110, 109, 111, 110, 103, 101, 114], 2)]
theorem ex_compare (x : Nat × Nat × Nat × Nat) (y : Nat × Nat × Nat) : Meets Tryz.prog F.trade_Compare [shV x, .agg #[.slice (some ⟨y.1, 0, none⟩) 4 4, .slice (some ⟨y.2.1, 0, none⟩) 6 6]] { LI := shF x ++ [Row (some ⟨y.1, 0, none⟩) (rows shopsC), RowsF (some ⟨y.2.1, 0, none⟩) (laterH y.2.2) Hd.row], inv := fun z : OutC => 3 ≤ z.2, val := fun z => .tuple #[.slice z.1 3 z.2, int 0], LO := fun z => [Row z.1 (rows movesX)] } := by
  have h := trade_Compare_meets (A := some ⟨x.1, 0, none⟩) (B := some ⟨x.2.1, 0, none⟩) (ca := 4) (cb := 6) (A2 := some ⟨y.1, 0, none⟩) (B2 := some ⟨y.2.1, 0, none⟩) (ca2 := 4) (cb2 := 6) shopsC (shopsH x.2.2.1 x.2.2.2) shopsC (laterH y.2.2) (Nat.le_refl 4) (Nat.le_refl 6) (sh_ok _ _) (Nat.le_refl 4) (Nat.le_refl 6) (la_ok _)
  rw [sh_of, la_of, ix_compare] at h
  exact h
def pairsX (p q : Nat) : List (Sl Int) := [⟨some ⟨p, 0, none⟩, 2, [2, 4]⟩, ⟨some ⟨q, 0, none⟩, 2, [3, 2]⟩]
theorem ex_lists {A B : Option Addr} {ca p q : Nat} {a : List (Sl Int)} (h : lsts a = [[2, 4], [3, 2]]) : Meets Tryz.prog F.kit_EqLists [.slice A a.length ca, .slice B 2 2] { LI := [Rows2 A a, Rows2 B (pairsX p q)], val := fun _ : Unit => .bool true } := by
  have hl : a.length = 2 := by have := congrArg List.length h; rw [lsts_len] at this; exact this
  have h2 := kit_EqLists_meets (A := A) (B := B) (ca := ca) (cb := 2) a (pairsX p q) (by omega) (fun s hs => by
    have hm : s.l ∈ lsts a := List.mem_map.2 ⟨s, hs, rfl⟩
    rw [h] at hm
    simp only [List.mem_cons, List.not_mem_nil, or_false] at hm
    rcases hm with e | e <;> rw [e] <;> decide)
  rw [decide_eq_true (show lsts a = lsts (pairsX p q) from h)] at h2
  exact h2
theorem ex_moves {A B : Option Addr} {ca cb : Nat} : Meets Tryz.prog F.kit_EqMoves [.slice A 3 ca, .slice B 3 cb] { LI := [Row A (rows movesX), Row B (rows movesX)], val := fun _ : Unit => .bool true } := by
  have h2 := kit_EqMoves_meets (A := A) (B := B) (ca := ca) (cb := cb) movesX movesX (by decide)
  rw [decide_eq_true rfl] at h2
  exact h2
theorem ex_ints {A B : Option Addr} {ca cb : Nat} : Meets Tryz.prog F.kit_EqInts [.slice A 2 ca, .slice B 2 cb] { LI := [Row A (rows ([3, 4] : List Int)), Row B (rows ([3, 4] : List Int))], val := fun _ : Unit => .bool true } := by
  have h2 := kit_EqInts_meets (A := A) (B := B) (ca := ca) (cb := cb) [3, 4] [3, 4] (by decide)
  rw [decide_eq_true rfl] at h2
  exact h2

set_option maxHeartbeats 1000000 in
theorem law04_indexed_meets : Meets Tryz.prog F.law04_indexed [] { val := fun _ : Unit => .bool true } := by
 refine meets_intro F.law04_indexed_f rfl (Nat.le_of_ble_eq_true rfl) fun w0 => ?_
 refine hc_seq (hc_region (r_assign rfl rfl (hl_nil (then_n (hc_seq (hc_region ?_))))))
 refine hl_call F.law04_shops_cb rfl rfl (law04_shops_meets) (List.Perm.refl _) trivial fun x1 _ => ?_
 refine hl_call F.trade_Least_cb rfl rfl (ex_least x1) (List.Perm.refl _) ⟨(by repeat constructor), (by repeat constructor), trivial⟩ fun _ _ => ?_
 refine r_move rfl rfl (r_extract rfl rfl rfl (r_extract rfl rfl rfl (r_assign rfl rfl (r_assign rfl rfl (hl_nil (then_n (hc_seq (hc_region ?_))))))))
 refine hl_call F.law04_shops_cb rfl rfl (law04_shops_meets) (List.Perm.refl _) trivial fun x2 _ => ?_
 refine hl_call F.trade_Follow_cb rfl rfl (ex_follow x2) (List.Perm.refl _) ⟨(by repeat constructor), (by repeat constructor), trivial⟩ fun _ _ => ?_
 refine r_move rfl rfl (r_extract rfl rfl rfl (r_extract rfl rfl rfl (r_extract rfl rfl rfl (r_assign rfl rfl (r_assign rfl rfl (r_assign rfl rfl (hl_nil (then_n (hc_seq (hc_region ?_))))))))))
 refine hl_call F.law04_shops_cb rfl rfl (law04_shops_meets) (List.Perm.refl _) trivial fun x3 _ => ?_
 refine hl_call F.trade_Join_cb rfl rfl (ex_join x3) (List.Perm.refl _) ⟨(by repeat constructor), (by repeat constructor), trivial⟩ fun y3 hy3 => ?_
 refine r_move rfl rfl (r_extract rfl rfl rfl (r_extract rfl rfl rfl (r_assign rfl rfl (r_assign rfl rfl (hl_nil (then_n (hc_seq (hc_region ?_))))))))
 refine hl_call F.law04_shops_cb rfl rfl (law04_shops_meets) (List.Perm.refl _) trivial fun x4 _ => ?_
 refine hl_call F.trade_May_cb rfl rfl (ex_may x4) (List.Perm.refl _) ⟨(by repeat constructor), (by repeat constructor), trivial⟩ fun y4 _ => ?_
 refine r_move rfl rfl (r_extract rfl rfl rfl (r_extract rfl rfl rfl (r_assign rfl rfl (r_assign rfl rfl (hl_nil (then_n (hc_seq (hc_region ?_))))))))
 refine hl_call F.law04_shops_cb rfl rfl (law04_shops_meets) (List.Perm.refl _) trivial fun x5 _ => ?_
 refine hl_call F.trade_Short_cb rfl rfl (ex_short x5) (List.Perm.refl _) ⟨(by repeat constructor), (by repeat constructor), trivial⟩ fun _ _ => ?_
 refine r_move rfl rfl (r_extract rfl rfl rfl (r_extract rfl rfl rfl (r_assign rfl rfl (r_assign rfl rfl (hl_nil (then_n (hc_seq (hc_region ?_))))))))
 refine hl_call F.law04_shops_cb rfl rfl (law04_shops_meets) (List.Perm.refl _) trivial fun x6 _ => ?_
 refine hl_call F.law04_later_cb rfl rfl (law04_later_meets) (List.Perm.refl _) trivial fun x7 _ => ?_
 refine hl_call F.trade_Compare_cb rfl rfl (ex_compare x6 x7) (List.Perm.refl _) ⟨(by repeat constructor), (by repeat constructor), (by repeat constructor), (by repeat constructor), trivial⟩ fun y6 _ => ?_
 refine r_move rfl rfl (r_extract rfl rfl rfl (r_extract rfl rfl rfl (r_assign rfl rfl (r_assign rfl rfl (hl_nil (then_n (hc_seq (hc_region (r_move rfl rfl (r_eql rfl rfl rfl (r_move rfl rfl ?_)))))))))))
 refine g_split rfl rfl ?_ ?_
 ·intro hg1; have hg1' := hg1; try simp at hg1'
  refine g_yes rfl rfl hg1 (r_move rfl rfl (g_yes rfl rfl hg1 (r_eql rfl rfl rfl ?_)))
  refine p_t rfl rfl (bt1 hg1) rfl ?_
  refine r_move rfl rfl ?_
  refine g_split rfl rfl ?_ ?_
  ·intro hg2; have hg2' := hg2; try simp at hg2'
   refine g_yes rfl rfl hg2 (r_move rfl rfl (g_yes rfl rfl hg2 (r_eql rfl rfl rfl ?_)))
   refine p_t rfl rfl (bt1 hg2) rfl ?_
   refine r_move rfl rfl ?_
   refine g_split rfl rfl ?_ ?_
   ·intro hg3; have hg3' := hg3; try simp at hg3'
    refine g_yes rfl rfl hg3 (r_move rfl rfl (g_yes rfl rfl hg3 (r_eql rfl rfl rfl ?_)))
    refine p_t rfl rfl (bt1 hg3) rfl ?_
    refine r_move rfl rfl ?_
    refine g_split rfl rfl ?_ ?_
    ·intro hg4; have hg4' := hg4; try simp at hg4'
     refine g_yes rfl rfl hg4 (r_move rfl rfl (g_yes rfl rfl hg4 (r_eql rfl rfl rfl ?_)))
     refine p_t rfl rfl (bt1 hg4) rfl ?_
     refine r_move rfl rfl ?_
     refine g_split rfl rfl ?_ ?_
     ·intro hg5; have hg5' := hg5; try simp at hg5'
      refine g_yes rfl rfl hg5 (r_move rfl rfl (g_yes rfl rfl hg5 (r_eql rfl rfl rfl ?_)))
      refine p_t rfl rfl (bt1 hg5) rfl ?_
      refine r_move rfl rfl ?_
      refine g_split rfl rfl ?_ ?_
      ·intro hg6; have hg6' := hg6; try simp at hg6'
       refine g_yes rfl rfl hg6 (r_move rfl rfl (g_yes rfl rfl hg6 (r_eql rfl rfl rfl ?_)))
       refine p_t rfl rfl (bt1 hg6) rfl ?_
       refine r_move rfl rfl ?_
       refine g_split rfl rfl ?_ ?_
       ·intro hg7; have hg7' := hg7; try simp at hg7'
        refine g_yes rfl rfl hg7 (r_move rfl rfl (g_yes rfl rfl hg7 (r_eql rfl rfl rfl ?_)))
        refine p_t rfl rfl (bt1 hg7) rfl ?_
        refine r_move rfl rfl ?_
        refine g_split rfl rfl ?_ ?_
        ·intro hg8; have hg8' := hg8; try simp at hg8'
         refine g_yes rfl rfl hg8 (r_move rfl rfl (g_yes rfl rfl hg8 (r_eql rfl rfl rfl ?_)))
         refine p_t rfl rfl (bt1 hg8) rfl ?_
         refine r_move rfl rfl ?_
         refine g_split rfl rfl ?_ ?_
         ·intro hg9; have hg9' := hg9; try simp at hg9'
          refine g_yes rfl rfl hg9 (r_move rfl rfl (g_yes rfl rfl hg9 (r_seql rfl rfl rfl ?_)))
          refine p_t rfl rfl (bt1 hg9) rfl ?_
          refine r_move rfl rfl ?_
          refine g_split rfl rfl ?_ ?_
          ·intro hg10; have hg10' := hg10; try simp at hg10'
           refine g_yes rfl rfl hg10 (r_move rfl rfl (g_yes rfl rfl hg10 ?_))
           refine r_buildSlice _ rfl rfl (fun _ => T.bs_ints_2 ..) fun gp => ?_
           refine hl_letgo (rows [(2 : Int), 4]) (List.prefix_refl _) ?_
           refine g_yes rfl rfl hg10 ?_
           refine r_buildSlice _ rfl rfl (fun _ => T.bs_ints_2 ..) fun gq => ?_
           refine hl_letgo (rows [(3 : Int), 2]) (List.prefix_refl _) ?_
           refine g_yes rfl rfl hg10 ?_
           refine r_buildSlice _ rfl rfl (fun _ => T.bs_intss_2 ..) fun gr => ?_
           refine hl_letgo (rows (pairsX gp gq)) (List.prefix_refl _) ?_
           refine hl_rows2 (A := some ⟨gr, 0, none⟩) (ps := pairsX gp gq) (by repeat constructor) (by intro p hp; simp only [pairsX, List.mem_cons, List.not_mem_nil, or_false] at hp; rcases hp with rfl | rfl <;> repeat constructor) ?_
           refine g_yes rfl rfl hg10 ?_
           refine hl_call F.kit_EqLists_cb rfl rfl (ex_lists (p := gp) (q := gq) hy3) (List.Perm.refl _) ⟨(by repeat constructor), (by repeat constructor), trivial⟩ fun _ _ => ?_
           refine p_t rfl rfl (bt1 hg10) rfl ?_
           refine r_move rfl rfl ?_
           refine g_split rfl rfl ?_ ?_
           ·intro hg11; have hg11' := hg11; try simp at hg11'
            refine g_yes rfl rfl hg11 (r_move rfl rfl (g_yes rfl rfl hg11 ?_))
            refine r_buildSlice _ rfl rfl (fun _ => T.bs_ints_2 ..) fun gS => ?_
            refine g_yes rfl rfl hg11 ?_
            refine hl_letgo (rows ([3, 4] : List Int)) (List.prefix_refl _) ?_
            refine hl_call F.kit_EqInts_cb rfl rfl (ex_ints) (List.Perm.refl _) ⟨(by repeat constructor), (by repeat constructor), trivial⟩ fun _ _ => ?_
            refine p_t rfl rfl (bt1 hg11) rfl ?_
            refine r_move rfl rfl ?_
            refine g_split rfl rfl ?_ ?_
            ·intro hg12; have hg12' := hg12; try simp at hg12'
             refine g_yes rfl rfl hg12 (r_move rfl rfl (g_yes rfl rfl hg12 ?_))
             refine r_build _ rfl rfl (fun _ => T.bd_api_Move_0_1 ..) ?_
             refine g_yes rfl rfl hg12 ?_
             refine r_build _ rfl rfl (fun _ => T.bd_api_Move_0_1 ..) ?_
             refine g_yes rfl rfl hg12 ?_
             refine r_build _ rfl rfl (fun _ => T.bd_api_Move_0_1 ..) ?_
             refine g_yes rfl rfl hg12 ?_
             refine r_buildSlice _ rfl rfl (fun _ => T.bs_L_api_Move_3 ..) fun gS => ?_
             refine g_yes rfl rfl hg12 ?_
             refine hl_letgo (rows movesX) (List.prefix_refl _) ?_
             refine hl_call F.kit_EqMoves_cb rfl rfl (ex_moves) (List.Perm.refl _) ⟨(by repeat constructor), (by repeat constructor), trivial⟩ fun _ _ => ?_
             refine p_t rfl rfl (bt1 hg12) rfl ?_
             refine r_assign rfl rfl (hl_nil (then_n (hc_ret ?_)))
             exact ret1 () rfl rfl rfl trivial (List.nil_sublist _) trivial
            ·intro hg12; have hg12' := hg12; try simp at hg12'
           ·intro hg11; have hg11' := hg11; try simp at hg11'
          ·intro hg10; have hg10' := hg10; try simp at hg10'
         ·intro hg9; have hg9' := hg9; try simp at hg9'
        ·intro hg8; have hg8' := hg8; try simp at hg8'
       ·intro hg7; have hg7' := hg7; try simp at hg7'
      ·intro hg6; have hg6' := hg6; try simp at hg6'
     ·intro hg5; have hg5' := hg5; try simp at hg5'
    ·intro hg4; have hg4' := hg4; try simp at hg4'
   ·intro hg3; have hg3' := hg3; try simp at hg3'
  ·intro hg2; have hg2' := hg2; try simp at hg2'
 ·intro hg1; have hg1' := hg1; try simp at hg1'

theorem firstE_all {f : Nat → Int} : ∀ {n : Nat}, (∀ i, i < n → f i = 0) → firstE f n = 0
  | 0, _ => rfl
  | n + 1, h => by rw [firstE, if_pos (firstE_all fun i hi => h i (by omega))]; exact h n (by omega)
def sortN (names : List Int) (i : Nat) : Str := sortsL.getD (names.getD i default).toNat default
def callN (words : List Int) (i : Nat) : Str := callingsL.getD (words.getD i default).toNat default
theorem sorts_word : ∀ k, k < 9 → wordB (sortsL.getD k default) = true := by decide
theorem calls_word : ∀ k, k < 16 → wordB (callingsL.getD k default) = true := by decide
theorem sorts_inj : ∀ a, a < 9 → ∀ b, b < 9 → sortsL.getD a default = sortsL.getD b default → a = b := by decide
theorem calls_asc : ∀ b, b < 16 → ∀ a, a < b → callingsL.getD a default < callingsL.getD b default := by decide
theorem rng_at {names : List Int} {n i : Nat} (hP : names.Perm (rngI n)) (hi : i < n) : 0 ≤ names.getD i default ∧ names.getD i default < (n : Int) := by
  have hl : names.length = n := by rw [hP.length_eq, rng_len]
  have hm : names.getD i default ∈ rngI n := hP.mem_iff.1 (getD_mem (by omega))
  obtain ⟨k, hk, e⟩ := List.mem_map.1 hm
  have := List.mem_range.1 hk
  omega
theorem rng_inj {names : List Int} {n i j : Nat} (hP : names.Perm (rngI n)) (hi : i < n) (hj : j < i) : ¬ names.getD j default = names.getD i default := by
  have hl : names.length = n := by rw [hP.length_eq, rng_len]
  have hnd : names.Nodup := hP.nodup_iff.2 (by
    unfold rngI
    rw [List.nodup_iff_pairwise_ne, List.pairwise_map]
    exact List.pairwise_lt_range.imp fun h => by omega)
  rw [getD_at (show j < names.length by omega), getD_at (show i < names.length by omega)]
  intro e
  have := (List.getElem_inj hnd).1 e
  omega
/-- Classes as they are made. -/
def ClsMade (names : List Int) (cs : List Cl) : Prop := ∀ i, i < cs.length → (cs.getD i default).1 = sortN names i ∧ -1 ≤ (cs.getD i default).2 ∧ (cs.getD i default).2 < (i : Int)
theorem ClsMade.snoc {names : List Int} {cs : List Cl} (h : ClsMade names cs) {u : Int} (h1 : -1 ≤ u) (h2 : u < (cs.length : Int)) : ClsMade names (cs ++ [(sortN names cs.length, u)]) := by
  intro i hi
  rw [List.length_append, List.length_singleton] at hi
  rw [getD_at (by simp; omega)]
  by_cases e : i < cs.length
  · rw [List.getElem_append_left e, ← getD_at e]
    exact h i e
  · obtain rfl : i = cs.length := by omega
    rw [List.getElem_append_right (by omega)]
    simp only [Nat.sub_self, List.getElem_cons_zero]
    exact ⟨trivial, h1, h2⟩
theorem cls_all {names : List Int} {cs : List Cl} (hP : names.Perm (rngI 9)) (h : ClsMade names cs) (h6 : cs.length ≤ 6) (i : Nat) (hi : i < cs.length) : clsErr cs i = 0 := by
  obtain ⟨e1, e2, e3⟩ := h i hi
  have hr := rng_at hP (show i < 9 by omega)
  unfold clsErr
  rw [if_neg, if_neg, if_neg (by omega), if_neg (by omega)]
  · intro hm
    obtain ⟨x, hx, ex⟩ := List.mem_map.1 hm
    obtain ⟨j, hj, rfl⟩ := List.getElem_of_mem hx
    rw [List.length_take] at hj
    have hj2 : j < i := by omega
    rw [List.getElem_take, ← getD_at (show j < cs.length by omega), (h j (by omega)).1, e1] at ex
    have hrj := rng_at hP (show j < 9 by omega)
    have := sorts_inj _ (by omega) _ (by omega) ex
    exact rng_inj hP (show i < 9 by omega) hj2 (by omega)
  · rw [e1]
    have := sorts_word (names.getD i default).toNat (by omega)
    unfold sortN
    rw [this]
    decide
/-- Headings as they are made. -/
def HdMade (nc n i : Nat) (h : Hd) : Prop := (∀ k, k < h.2.2.2.l.length → alsoErr n i h.2.2.2.l k = 0) ∧ ((0 ≤ h.2.2.1 ∧ h.2.2.1 < (n : Int) ∧ ¬ h.2.2.1 = (i : Int) ∧ h.2.1 = -1 ∧ h.2.2.2.l = []) ∨ (h.2.2.1 = -1 ∧ 0 ≤ h.2.1 ∧ h.2.1 < (nc : Int)) ∨ (h.2.2.1 = -1 ∧ h.2.1 = -1 ∧ h.2.2.2.l ≠ []))
def HsMade (words : List Int) (nc n : Nat) (hs : List Hd) : Prop := ∀ i, i < hs.length → (hs.getD i default).1 = callN words i ∧ HdMade nc n i (hs.getD i default)
theorem HsMade.snoc {words : List Int} {nc n : Nat} {hs : List Hd} (h : HsMade words nc n hs) {x : Hd} (h1 : x.1 = callN words hs.length) (h2 : HdMade nc n hs.length x) : HsMade words nc n (hs ++ [x]) := by
  intro i hi
  rw [List.length_append, List.length_singleton] at hi
  rw [getD_at (by simp; omega)]
  by_cases e : i < hs.length
  · rw [List.getElem_append_left e, ← getD_at e]
    exact h i e
  · obtain rfl : i = hs.length := by omega
    rw [List.getElem_append_right (by omega)]
    simp only [Nat.sub_self, List.getElem_cons_zero]
    exact ⟨h1, h2⟩
theorem asc_at {l : List Int} (h : l.Pairwise (· < ·)) {j i : Nat} (hji : j < i) (hi : i < l.length) : l.getD j default < l.getD i default := by
  rw [getD_at (show j < l.length by omega), getD_at hi]
  exact (List.pairwise_iff_getElem.1 h) j i (by omega) hi hji
theorem calls_at {words : List Int} (h : words.Pairwise (· < ·)) (h2 : ∀ v ∈ words, 0 ≤ v ∧ v < 16) {j i : Nat} (hji : j < i) (hi : i < words.length) : callN words j < callN words i := by
  have h3 := asc_at h hji hi
  have h4 := h2 _ (getD_mem (show j < words.length by omega))
  have h5 := h2 _ (getD_mem hi)
  exact calls_asc _ (by omega) _ (by omega)
theorem kind_made {n nc i : Nat} {h : Hd} (e : (0 ≤ h.2.2.1 ∧ h.2.2.1 < (n : Int) ∧ ¬ h.2.2.1 = (i : Int) ∧ h.2.1 = -1 ∧ h.2.2.2.l = []) ∨ (h.2.2.1 = -1 ∧ 0 ≤ h.2.1 ∧ h.2.1 < (nc : Int)) ∨ (h.2.2.1 = -1 ∧ h.2.1 = -1 ∧ h.2.2.2.l ≠ [])) : kindBad h.p = false := by
  have e1 : h.p.2.2.1 = h.2.2.1 := rfl
  have e2 : h.p.2.1 = h.2.1 := rfl
  have e3 : h.p.2.2.2 = h.2.2.2.l := rfl
  unfold kindBad
  rw [e1, e2, e3]
  rcases e with ⟨h1, _, _, h2, h3⟩ | ⟨h1, h2, _⟩ | ⟨h1, h2, h3⟩
  · have h4 : ¬ h.2.2.1 = -1 := by omega
    rw [h2, h3, decide_eq_false h4]; simp
  · have h4 : ¬ h.2.1 = -1 := by omega
    rw [h1, decide_eq_false h4]; simp
  · have h4 : ¬ h.2.2.2.l.length = 0 := fun e => h3 (List.eq_nil_of_length_eq_zero e)
    rw [h1, h2, decide_eq_false h4]; simp
theorem head_all {words : List Int} {cs : List Cl} {hs : List Hd} {n : Nat} (hw : words.Pairwise (· < ·)) (hw2 : ∀ v ∈ words, 0 ≤ v ∧ v < 16) (hn : words.length = n) (hl : hs.length = n) (h : HsMade words cs.length n hs) (i : Nat) (hi : i < n) : headErr (trOf cs hs) i = 0 := by
  obtain ⟨e1, e2, e3⟩ := h i (by omega)
  have hg : ∀ j, j < n → (trOf cs hs).hs.getD j default = (hs.getD j default).p := fun j hj => hd_get (by omega)
  have hlen : (trOf cs hs).hs.length = n := by rw [hs_len, hl]
  have hwi := hw2 _ (getD_mem (show i < words.length by omega))
  unfold headErr
  rw [hlen, hg i hi]
  rw [if_neg, if_neg, if_neg, if_neg, if_neg, if_neg, if_neg]
  · rw [kind_made e3]; decide
  · rw [Classical.not_not]
    exact firstE_all e2
  · show ¬ (hs.getD i default).2.2.1 = (i : Int)
    rcases e3 with ⟨_, _, h1, _, _⟩ | ⟨h1, _, _⟩ | ⟨h1, _, _⟩ <;> omega
  · show ¬ ((hs.getD i default).2.1 < -1 ∨ (cs.length : Int) ≤ (hs.getD i default).2.1 ∨ (hs.getD i default).2.2.1 < -1 ∨ (n : Int) ≤ (hs.getD i default).2.2.1)
    rcases e3 with ⟨h1, h2, _, h3, _⟩ | ⟨h1, h2, h3⟩ | ⟨h1, h2, _⟩ <;> omega
  · rintro ⟨h0, hlt⟩
    rw [hg (i - 1) (by omega)] at hlt
    have h1 : (hs.getD i default).1 < (hs.getD (i - 1) default).1 := hlt
    rw [e1, (h (i - 1) (by omega)).1] at h1
    exact slt_irr _ (List.lt_trans h1 (calls_at hw hw2 (show i - 1 < i by omega) (by omega)))
  · intro hm
    obtain ⟨x, hx, ex⟩ := List.mem_map.1 hm
    obtain ⟨j, hj, rfl⟩ := List.getElem_of_mem hx
    rw [List.length_take, hlen] at hj
    have hj2 : j < i := by omega
    rw [List.getElem_take, ← getD_at (show j < (trOf cs hs).hs.length by rw [hlen]; omega), hg j (by omega)] at ex
    have h1 : (hs.getD j default).1 = (hs.getD i default).1 := ex
    rw [(h j (by omega)).1, e1] at h1
    have h2 := calls_at hw hw2 hj2 (by omega)
    rw [h1] at h2
    exact slt_irr _ h2
  · show ¬ wordB (hs.getD i default).1 = false
    rw [e1]
    have := calls_word (words.getD i default).toNat (by omega)
    unfold callN
    rw [this]
    decide
theorem made_ok {names words : List Int} {cs : List Cl} {hs : List Hd} (hP : names.Perm (rngI 9)) (hC : ClsMade names cs) (h6 : cs.length ≤ 6) (hw : words.Pairwise (· < ·)) (hw2 : ∀ v ∈ words, 0 ≤ v ∧ v < 16) (hl : hs.length = words.length) (hn : words.length ≤ 6) (h : HsMade words cs.length words.length hs) : checkT (trOf cs hs) = 0 := by
  unfold checkT
  have hlen : (trOf cs hs).hs.length = words.length := by rw [hs_len, hl]
  have h1 : firstE (clsErr cs) cs.length = 0 := firstE_all fun i hi => cls_all hP hC h6 i hi
  have h2 : firstE (headErr (trOf cs hs)) words.length = 0 := firstE_all fun i hi => head_all hw hw2 rfl hl h i hi
  rw [hlen, if_neg (by show ¬ (6 < cs.length ∨ 6 < words.length); omega), if_neg (by rw [Classical.not_not]; exact h1)]
  exact h2
/-- References as they are made. -/
def AscB (i k : Nat) (l : List Int) : Prop := l.Pairwise (· < ·) ∧ ∀ x ∈ l, 0 ≤ x ∧ x < (k : Int) ∧ ¬ x = (i : Int)
theorem AscB.step {i k : Nat} {l : List Int} (h : AscB i k l) : AscB i (k + 1) l := ⟨h.1, fun x hx => by have := h.2 x hx; omega⟩
theorem AscB.snoc {i k : Nat} {l : List Int} (h : AscB i k l) (hk : ¬ k = i) : AscB i (k + 1) (l ++ [(k : Int)]) := by
  refine ⟨List.pairwise_append.2 ⟨h.1, by simp, fun a ha b hb => ?_⟩, fun x hx => ?_⟩
  · rw [List.mem_singleton] at hb; have := (h.2 a ha).2.1; omega
  · rcases List.mem_append.1 hx with hx | hx
    · have := h.2 x hx; omega
    · rw [List.mem_singleton] at hx; omega
theorem AscB.err {i n : Nat} {l : List Int} (h : AscB i n l) (k : Nat) (hk : k < l.length) : alsoErr n i l k = 0 := by
  have h1 := h.2 _ (getD_mem hk)
  unfold alsoErr
  rw [if_neg (by omega), if_neg h1.2.2, if_neg]
  rintro ⟨h0, h2⟩
  have := asc_at h.1 (show k - 1 < k by omega) hk
  omega
theorem AscB.len {i n : Nat} {l : List Int} (h : AscB i n l) : l.length ≤ n := by
  have hg := asc_ge (l := l) fun k hk => ⟨(h.2 _ (getD_mem hk)).1, fun h0 => asc_at h.1 (show k - 1 < k by omega) hk⟩
  by_cases h0 : l.length = 0
  · omega
  · have h1 := hg (l.length - 1) (by omega)
    have h2 := (h.2 _ (getD_mem (show l.length - 1 < l.length by omega))).2.1
    omega
/-- A pointer from i, past i. -/
theorem past {n i : Nat} {v : Int} (hi : i < n) (h0 : 0 ≤ v) (h1 : v ≤ (n : Int) - 2) : 0 ≤ (((i : Int) + 1 + v).tmod n) ∧ (((i : Int) + 1 + v).tmod n) < (n : Int) ∧ ¬ (((i : Int) + 1 + v).tmod n) = (i : Int) := by
  rw [Int.tmod_eq_emod_of_nonneg (by omega)]
  by_cases h : (i : Int) + 1 + v < (n : Int)
  · rw [Int.emod_eq_of_lt (by omega) h]; omega
  · have e : ((i : Int) + 1 + v) % (n : Int) = (i : Int) + 1 + v - n := by
      rw [← Int.sub_emod_right]
      exact Int.emod_eq_of_lt (by omega) (by omega)
    rw [e]; omega

abbrev trB (g : Nat) (A : Option Addr) (n c : Nat) (B : Option Addr) (m k : Nat) : Nat × Obj := (g, .cells #[.slice A n c, .slice B m k] T.api_Trades (0, 0))
abbrev hdB (g : Nat) (w : Str) (cl se : Int) (A : Option Addr) (n c : Nat) : Nat × Obj := (g, .cells #[str w, int cl, int se, .slice A n c] T.api_Head (0, 0))
abbrev TRes := List Cl × List Hd × OutC × OutC
structure TOf (m1 m2 : Nat) (x : TRes) : Prop where
  ok : checkT (trOf x.1 x.2.1) = 0
  c1 : 1 ≤ x.1.length
  c2 : x.1.length ≤ m1
  h2 : x.2.1.length ≤ m2
  ca : x.1.length ≤ x.2.2.1.2
  cb : x.2.1.length ≤ x.2.2.2.2
  ha : ∀ h ∈ x.2.1, h.2.2.2.l.length ≤ 1000000
theorem hs_ha {words : List Int} {nc n : Nat} {hs : List Hd} (hn : n ≤ 6) (h : HsMade words nc n hs) : ∀ x ∈ hs, x.2.2.2.l.length ≤ 1000000 := by
  intro x hx
  obtain ⟨i, hi, rfl⟩ := List.getElem_of_mem hx
  have ha := (h i hi).2.1
  rw [getD_at hi] at ha
  have hg := asc_ge (l := hs[i].2.2.2.l) fun k hk => ⟨(also_ok (ha k hk)).1, (also_ok (ha k hk)).2.2.2⟩
  by_cases h0 : hs[i].2.2.2.l.length = 0
  · omega
  · have h1 := hg (hs[i].2.2.2.l.length - 1) (by omega)
    have h2 := (also_ok (ha (hs[i].2.2.2.l.length - 1) (by omega))).2.1
    omega

set_option maxHeartbeats 2000000 in
theorem kit_TradesOf_meets {g : Nat} {A : Option Addr} {c : Nat} {nums : List Int} {s : Int × Int} (m1 m2 : Nat) (hn : nums.length ≤ 9223372036854775807) (hs : DOK nums s) (h1 : 2 ≤ m1 ∧ m1 ≤ 6) (h2 : m2 ≤ 6) :
    Meets Tryz.prog F.kit_TradesOf [.pointer (some ⟨g, 0, none⟩), int m1, int m2] (diceCon g A c nums s (TOf m1 m2) (fun x => .agg #[.slice x.2.2.1.1 x.1.length x.2.2.1.2, .slice x.2.2.2.1 x.2.1.length x.2.2.2.2]) (fun x => [Row x.2.2.1.1 (rows x.1), RowsF x.2.2.2.1 x.2.1 Hd.row])) := by
 refine meets_intro F.kit_TradesOf_f rfl (Nat.le_of_ble_eq_true rfl) fun w0 => ?_
 refine hc_seq (hc_region ?_)
 refine r_alloc rfl (fun _ => T.al_api_Trades _) fun g6 => ?_
 refine hl_nil (then_n (hc_seq (hc_region ?_)))
 refine r_alloc rfl (fun _ => T.al_api_Trades _) fun g7 => ?_
 refine hl_nil (then_n (hc_seq ?_))
 refine hc_perm (List.perm_append_comm (l₁ := [trB g7 none 0 0 none 0 0, trB g6 none 0 0 none 0 0]) (l₂ := [dice g A c nums s])) ?_
 refine hc_region (r_move rfl rfl ?_)
 refine hl_call F.kit_sorts_cb rfl rfl (kit_sorts_meets) (List.Perm.refl _) trivial fun gs _ => ?_
 refine r_len_sl rfl T.u_strs rfl ?_
 refine hl_call F.kit_Dice_Order_cb rfl rfl (kit_Dice_Order_meets 9 hn hs (by decide)) (List.Perm.refl _) ⟨(by repeat constructor), trivial⟩ fun x hx => ?_
 obtain ⟨s1, no⟩ := x
 obtain ⟨hs1, hno⟩ := hx
 simp only at hs1
 obtain ⟨names, nA, nC⟩ := no
 obtain ⟨hP, hnc⟩ := hno
 simp only at hP hnc
 have hnl : names.length = 9 := by rw [hP.length_eq, rng_len]
 refine r_assign rfl rfl (hl_nil (then_n (hc_seq (hc_seq (hc_region (r_move rfl rfl (r_move rfl rfl ?_)))))))
 refine hl_call F.kit_Dice_From_cb rfl rfl (kit_Dice_From_meets 1 (m1 : Int) hn hs1 (by omega)) (List.Perm.refl _) ⟨(by repeat constructor), trivial⟩ fun x hx => ?_
 obtain ⟨s2, z⟩ := x
 obtain ⟨hs2, hz⟩ := hx
 simp only at hs2
 simp only [FromInv] at hz
 have hz2 : 1 ≤ z ∧ z ≤ m1 := ⟨hz.1, by by_cases h1 : (1 : Int) < m1; exact hz.2.1 h1; have := hz.2.2 (by omega); omega⟩
 obtain ⟨zn, rfl⟩ := Int.eq_ofNat_of_zero_le (show 0 ≤ z by omega)
 refine r_assign rfl rfl (hl_nil (then_n (hc_block ?_)))
 refine hc_loop (β := Nat × List Cl × OutC × Hp × (Int × Int)) ⟨fun x => x.2.1.length + x.1 = zn ∧ ClsMade names x.2.1 ∧ Grow T.api_Class 2 x.2.2.1.1 x.2.1.length x.2.2.1.2 (rows x.2.1) x.2.2.2.1 ∧ DOK nums x.2.2.2.2, fun x => [(0, .pointer (some ⟨g, 0, none⟩)), (2, int m2), (6, .pointer (some ⟨g6, 0, none⟩)), (7, .pointer (some ⟨g7, 0, none⟩)), (8, .slice nA names.length nC), (9, int x.1)], fun x => dice g A c nums x.2.2.2.2 :: trB g7 x.2.2.1.1 x.2.1.length x.2.2.1.2 none 0 0 :: trB g6 none 0 0 none 0 0 :: x.2.2.2.1, fun _ => [Row nA (rows names), Row A (rows nums)]⟩ (fun x => x.1) (zn, [], (none, 0), [], s2) ⟨Nat.zero_add _, fun i hi => by simp at hi, Grow.nil _ _, hs2⟩ ⟨rfl, rfl, rfl, rfl, rfl, rfl, trivial⟩ (List.Sublist.refl _) ⟨(by repeat constructor), (by repeat constructor), trivial⟩ fun x hx => ?_
 clear hs hs1 hs2 hz
 obtain ⟨r, cs, ⟨cA, cC⟩, og, s⟩ := x
 obtain ⟨hr, hC, hG, hs⟩ := hx
 simp only at hr hC hG hs
 refine hc_seq (hc_seq (hc_region (r_move rfl rfl (r_gtr rfl rfl rfl (hl_nil (then_n ?_))))))
 refine c_dec rfl (fun hb1 => ?_) (fun hb1 => ?_)
 ·have hb1' := hb1; try simp at hb1'
  obtain ⟨r, rfl⟩ : ∃ q, r = q + 1 := ⟨r - 1, by omega⟩
  have hcl : cs.length < 6 := by omega
  have hrg := rng_at hP (show cs.length < 9 by omega)
  obtain ⟨nm, hnm⟩ := Int.eq_ofNat_of_zero_le hrg.1
  have hnm9 : nm < 9 := by omega
  have hsn : sortsL.getD nm default = sortN names cs.length := by unfold sortN; rw [hnm, Int.toNat_natCast]
  refine hc_skip (then_n (hc_seq (hc_block ?_)))
  refine hc_drawW (dice g A c nums s :: og) ([trB g7 cA cs.length cC none 0 0, trB g6 none 0 0 none 0 0]) (perm_of fun p => by simp only [List.countP_append, List.countP_cons, List.countP_nil]; omega) 19 [16] mixed (by decide) (by decide) (by decide) rfl rfl rfl ?_
  apply hb_ex _ rfl rfl rfl
  ·intro w1
   refine r_fieldAddr ⟨_, 0, none⟩ rfl rfl T.fa_api_Trades_0 rfl ?_
   refine hl_nil ?_
   exact qe_done rfl
  apply hb_ex _ rfl rfl rfl
  ·intro w1
   refine r_load rfl T.cell_L_api_Class rfl (cell_blk (by repeat constructor) rfl) ?_
   refine hl_nil ?_
   exact qe_done rfl
  refine hb_vs ⟨Nat, fun _ => True, fun g => .slice (some ⟨g, 0, none⟩) 9 9, fun g => [Row (some ⟨g, 0, none⟩) (rows sortsL)]⟩ rfl rfl rfl ?_ ?_
  ·intro w1
   refine hl_call F.kit_sorts_cb rfl rfl (kit_sorts_meets) (List.Perm.refl _) trivial fun gs2 _ => ?_
   refine hl_nil ?_
   exact qv_done gs2 trivial rfl ⟨m0, trivial⟩
  apply hb_ex _ rfl rfl rfl
  ·intro w1
   refine r_move rfl rfl (hl_nil ?_)
   exact qe_done rfl
  apply hb_ex _ rfl rfl rfl
  ·intro w1
   refine r_fieldAddr ⟨_, 0, none⟩ rfl rfl T.fa_api_Trades_0 rfl ?_
   refine hl_nil ?_
   exact qe_done rfl
  apply hb_ex _ rfl rfl rfl
  ·intro w1
   refine r_load rfl T.cell_L_api_Class rfl (cell_blk (by repeat constructor) rfl) ?_
   refine hl_nil ?_
   exact qe_done rfl
  apply hb_ex _ rfl rfl rfl
  ·intro w1
   refine r_len_sl rfl T.u_L_api_Class rfl ?_
   refine hl_nil ?_
   exact qe_done rfl
  apply hb_ex _ rfl rfl rfl
  ·intro w1
   refine r_elem (α := Int) names cs.length rfl T.u_ints T.sz_int rfl rfl rfl (by repeat constructor) rfl (by omega) (by decide) ?_
   refine hl_nil ?_
   exact qe_done rfl
  apply hb_ex _ rfl rfl rfl
  ·intro w1
   refine r_load (v := int (names.getD cs.length default)) rfl T.cell_int rfl (cell_row (by repeat constructor) (rows_get0 (by omega) rfl)) ?_
   refine hl_nil ?_
   exact qe_done rfl
  refine hb_vs ⟨Nat, fun _ => True, fun g => .pointer (some ((adr (some ⟨g, 0, none⟩)).add (nm * 1))), fun g => [Row (some ⟨g, 0, none⟩) (rows sortsL)]⟩ rfl rfl rfl ?_ ?_
  ·intro g2 _; intro w1
   refine r_elem (α := Str) sortsL nm rfl T.u_strs T.sz_string rfl rfl hnm (by repeat constructor) rfl hnm9 (by decide) ?_
   refine hl_nil ?_
   exact qv_done g2 trivial rfl ⟨(by repeat constructor), trivial⟩
  apply hb_ex _ rfl rfl rfl
  ·intro g9 _; intro w1
   refine r_load (v := str (sortN names cs.length)) rfl T.cell_string rfl (cell_row (by repeat constructor) (by rw [← hsn]; exact rows_get0 (show nm < 9 from hnm9) rfl)) ?_
   refine hl_nil ?_
   exact qe_done rfl
  apply hb_ex _ rfl rfl rfl
  ·intro w1
   refine r_move rfl rfl (hl_nil ?_)
   exact qe_done rfl
  apply hb_ex _ rfl rfl rfl
  ·intro w1
   refine r_fieldAddr ⟨_, 0, none⟩ rfl rfl T.fa_api_Trades_0 rfl ?_
   refine hl_nil ?_
   exact qe_done rfl
  apply hb_ex _ rfl rfl rfl
  ·intro w1
   refine r_load rfl T.cell_L_api_Class rfl (cell_blk (by repeat constructor) rfl) ?_
   refine hl_nil ?_
   exact qe_done rfl
  apply hb_ex _ rfl rfl rfl
  ·intro w1
   refine r_len_sl rfl T.u_L_api_Class rfl ?_
   refine hl_nil ?_
   exact qe_done rfl
  apply hb_ex _ rfl rfl rfl
  ·intro w1
   refine r_sub ((cs.length : Int) - 1) rfl rfl rfl rfl (by unfold I64; omega) ?_
   refine hl_nil ?_
   exact qe_done rfl
  refine hb_wr ⟨(Int × Int) × Int, fun x => DOK nums x.1 ∧ FromInv (-1) ((cs.length : Int) - 1) x.2, fun x => int x.2, fun _ => [], fun x => dice g A c nums x.1 :: og⟩ rfl rfl rfl ?_ ?_
  ·intro w1
   refine hl_call F.kit_Dice_From_cb rfl rfl (kit_Dice_From_meets (-1) ((cs.length : Int) - 1) hn hs (by omega)) (List.Perm.refl _) ⟨(by repeat constructor), trivial⟩ fun x hx => ?_
   obtain ⟨s3, u⟩ := x
   obtain ⟨hs3, hu⟩ := hx
   simp only at hs3
   refine hl_nil ?_
   exact qw_done (s3, u) ⟨hs3, hu⟩ (fun _ => rfl) (List.Sublist.refl _) trivial
  refine hb_vs ⟨Int, fun u => FromInv (-1) ((cs.length : Int) - 1) u, fun u => .agg #[str (sortN names cs.length), int u], fun _ => []⟩ rfl rfl rfl ?_ ?_
  ·intro x hx; intro w1
   refine r_build _ rfl rfl (fun _ => T.bd_api_Class_0_1 ..) ?_
   refine hl_nil ?_
   exact qv_done x.2 hx.2 rfl trivial
  refine hb_vs ⟨Nat × Int, fun x => FromInv (-1) ((cs.length : Int) - 1) x.2, fun x => .slice (some ⟨x.1, 0, none⟩) 1 1, fun x => [Row (some ⟨x.1, 0, none⟩) (rows [(((sortN names cs.length), x.2) : Cl)])]⟩ rfl rfl rfl ?_ ?_
  ·intro u hu; intro w1
   refine r_buildSlice _ rfl rfl (fun _ => T.bs_L_api_Class_1 ..) fun gS => ?_
   refine hl_nil ?_
   refine hq_letgo (rows [(((sortN names cs.length), u) : Cl)]) (List.prefix_refl _) ?_
   exact qv_done (gS, u) hu rfl ⟨m0, trivial⟩
  refine hb_nil ⟨rfl, ?_⟩
  intro g2 _ g9 _ x16 h16 u17 h17 x18 h18
  obtain ⟨s4, z16⟩ := x16
  obtain ⟨hs4, _⟩ := h16
  obtain ⟨g18, u⟩ := x18
  simp only at hs4
  simp only [FromInv] at h18
  have hu5 : -1 ≤ u ∧ u < (cs.length : Int) := by
    refine ⟨h18.1, ?_⟩
    by_cases h1 : (-1 : Int) < (cs.length : Int) - 1
    · have := h18.2.1 h1; omega
    · have := h18.2.2 (by omega); omega
  refine r_append (hp' := [dice g A c nums s4, trB g7 cA cs.length cC none 0 0, trB g6 none 0 0 none 0 0]) (cs.length + 1) (rows (cs ++ [(((sortN names cs.length), u) : Cl)])) T.el_L_api_Class rfl rfl rfl hG (show List.Perm (dice g A c nums s4 :: og ++ [trB g7 cA cs.length cC none 0 0, trB g6 none 0 0 none 0 0]) (og ++ [dice g A c nums s4, trB g7 cA cs.length cC none 0 0, trB g6 none 0 0 none 0 0]) from (perm_of fun p => by simp only [List.countP_append, List.countP_cons, List.countP_nil]; omega)) (Src.row (news := rows [(((sortN names cs.length), u) : Cl)]) (m := 1) (by repeat constructor) rfl (rows_one _) (by decide)) rfl (rows_append _ _).symm (by unfold maxLen; omega) (by omega) fun A4 c4 og4 hG4 => ?_
  refine r_fieldAddr ⟨_, 0, none⟩ rfl rfl T.fa_api_Trades_0 rfl ?_
  refine r_store (hp' := og4 ++ [dice g A c nums s4, trB g6 none 0 0 none 0 0]) rfl rfl (show List.Perm (og4 ++ [dice g A c nums s4, trB g7 cA cs.length cC none 0 0, trB g6 none 0 0 none 0 0]) (trB g7 cA cs.length cC none 0 0 :: (og4 ++ [dice g A c nums s4, trB g6 none 0 0 none 0 0])) from (perm_of fun p => by simp only [List.countP_append, List.countP_cons, List.countP_nil]; omega)) T.sz_L_api_Class (by rfl) (by rfl) ?_
  refine hl_nil (inb_n (then_n (hc_region (r_move rfl rfl ?_))))
  refine r_sub (r : Int) rfl rfl rfl (by omega) (by unfold I64; omega) ?_
  refine r_assign rfl rfl (hl_nil ?_)
  have hl1 : (cs ++ [(((sortN names cs.length), u) : Cl)]).length = cs.length + 1 := by simp
  refine hq_perm (show List.Perm (trB g7 A4 (cs.length + 1) c4 none 0 0 :: (og4 ++ [dice g A c nums s4, trB g6 none 0 0 none 0 0])) (dice g A c nums s4 :: trB g7 A4 (cs.length + 1) c4 none 0 0 :: trB g6 none 0 0 none 0 0 :: og4) from (perm_of fun p => by simp only [List.countP_append, List.countP_cons, List.countP_nil]; omega)) ?_
  exact again _ (r, cs ++ [(((sortN names cs.length), u) : Cl)], (A4, c4), og4, s4) ⟨by show (cs ++ [_]).length + r = zn; rw [hl1]; omega, hC.snoc hu5.1 hu5.2, by show Grow _ _ _ (cs ++ [_]).length _ _ _; rw [hl1]; exact hG4, hs4⟩ (by show r < r + 1; omega) ⟨rfl, rfl, rfl, rfl, rfl, rfl, trivial⟩ (by show List.Sublist (_ :: trB g7 A4 (cs ++ [_]).length c4 none 0 0 :: _) _; rw [hl1]; exact List.Sublist.refl _) ⟨(by repeat constructor), (by repeat constructor), trivial⟩
 ·have hb1' := hb1; try simp at hb1'
  have hr0 : r = 0 := by omega
  subst hr0
  refine hc_exit (then_exit (then_exit (inb_hit (then_n (hc_seq ?_)))))
  refine hc_count (og ++ [dice g A c nums s, trB g7 cA cs.length cC none 0 0, trB g6 none 0 0 none 0 0]) (by intro p; simp only [List.countP_append, List.countP_cons, List.countP_nil]; omega) ?_
  have hCle := hG.le
  have hC1 := hC
  refine hc_grown hG ?_
  clear hG
  refine hc_region (r_move rfl rfl ?_)
  refine hl_call F.kit_callings_cb rfl rfl (kit_callings_meets) (List.Perm.refl _) trivial fun gk _ => ?_
  refine r_len_sl rfl T.u_strs rfl ?_
  refine r_move rfl rfl (r_move rfl rfl ?_)
  refine hl_call F.kit_Dice_To_cb rfl rfl (kit_Dice_To_meets (m2 : Int) hn hs (by omega)) (List.Perm.refl _) ⟨(by repeat constructor), trivial⟩ fun x hx => ?_
  obtain ⟨s5, z5⟩ := x
  obtain ⟨hs5, hz5⟩ := hx
  simp only at hs5
  simp only [ToInv] at hz5
  obtain ⟨zm, rfl⟩ := Int.eq_ofNat_of_zero_le hz5.1
  have hzm : zm ≤ m2 := by by_cases h1 : (1 : Int) ≤ m2; have := hz5.2.1 h1; omega; have := hz5.2.2 (by omega); omega
  refine hl_call F.kit_partOf_cb rfl rfl (kit_partOf_meets 16 zm hn hs5 ⟨by decide, by omega⟩) (List.Perm.refl _) ⟨(by repeat constructor), trivial⟩ fun x hx => ?_
  obtain ⟨s6, wo⟩ := x
  obtain ⟨hs6, hwo⟩ := hx
  simp only at hs6
  obtain ⟨words, wA, wC⟩ := wo
  obtain ⟨⟨hwp, hwi⟩, hwl, hwc⟩ := hwo
  simp only at hwp hwi hwl hwc
  refine r_assign rfl rfl (hl_nil (then_n (hc_seq (hc_region (r_move rfl rfl ?_)))))
  refine r_len_sl rfl T.u_ints rfl ?_
  refine r_assign rfl rfl (hl_nil (then_n (hc_seq (hc_seq (hc_region (r_assign rfl rfl (hl_nil (then_n (hc_block ?_)))))))))
  have hcs1 : 1 ≤ cs.length := by omega
  have hcs6 : cs.length ≤ 6 := by omega
  have hwl6 : words.length ≤ 6 := by omega
  refine hc_facts (Fs := ([] : List Hd).map Hd.row) (by intro F hF; simp at hF) ?_
  refine hc_loop (β := Nat × List Hd × OutC × Hp × (Int × Int)) ⟨fun x => x.1 ≤ words.length ∧ x.2.1.length = x.1 ∧ HsMade words cs.length words.length x.2.1 ∧ Grow T.api_Head 4 x.2.2.1.1 x.2.1.length x.2.2.1.2 (rows x.2.1) x.2.2.2.1 ∧ DOK nums x.2.2.2.2, fun x => [(0, .pointer (some ⟨g, 0, none⟩)), (6, .pointer (some ⟨g6, 0, none⟩)), (7, .pointer (some ⟨g7, 0, none⟩)), (10, .slice wA words.length wC), (11, int words.length), (12, int x.1)], fun x => dice g A c nums x.2.2.2.2 :: trB g7 cA cs.length cC x.2.2.1.1 x.2.1.length x.2.2.1.2 :: trB g6 none 0 0 none 0 0 :: x.2.2.2.1, fun x => [Row wA (rows words), Row cA (rows cs), Row A (rows nums), innersF x.2.1 Hd.row]⟩ (fun x => words.length - x.1) (0, [], (none, 0), [], s6) ⟨Nat.zero_le _, rfl, fun i hi => by simp at hi, Grow.nil _ _, hs6⟩ ⟨rfl, rfl, rfl, rfl, rfl, rfl, trivial⟩ (List.Sublist.refl _) ⟨(by repeat constructor), (by repeat constructor), (by repeat constructor), (by repeat constructor), trivial⟩ fun x hx => ?_
  clear hs hs5 hs6 hz5
  obtain ⟨i, hs, ⟨hA, hC⟩, og, s⟩ := x
  obtain ⟨hi, hhl, hH, hG, hD⟩ := hx
  simp only at hi hhl hH hG hD
  refine hc_seq (hc_seq (hc_region (r_move rfl rfl (r_move rfl rfl (r_lss rfl rfl rfl (hl_nil (then_n ?_)))))))
  refine c_dec rfl (fun hb2 => ?_) (fun hb2 => ?_)
  ·have hb2' := hb2; try simp at hb2'
   have hi2 : i < words.length := by omega
   have hwi2 := hwi _ (getD_mem hi2)
   obtain ⟨wm, hwm⟩ := Int.eq_ofNat_of_zero_le hwi2.1
   have hwm16 : wm < 16 := by omega
   have hcn : callingsL.getD wm default = callN words i := by unfold callN; rw [hwm, Int.toNat_natCast]
   refine hc_skip (then_n (hc_seq (hc_block (hc_seq ?_))))
   refine hc_drawW ([dice g A c nums s]) (trB g7 cA cs.length cC hA hs.length hC :: trB g6 none 0 0 none 0 0 :: og) (List.Perm.refl _) 15 [12] mixed (by decide) (by decide) (by decide) rfl rfl rfl ?_
   refine hb_vs ⟨Nat, fun _ => True, fun g => .slice (some ⟨g, 0, none⟩) 16 16, fun g => [Row (some ⟨g, 0, none⟩) (rows callingsL)]⟩ rfl rfl rfl ?_ ?_
   ·intro w1
    refine hl_call F.kit_callings_cb rfl rfl (kit_callings_meets) (List.Perm.refl _) trivial fun gk2 _ => ?_
    refine hl_nil ?_
    exact qv_done gk2 trivial rfl ⟨m0, trivial⟩
   apply hb_ex _ rfl rfl rfl
   ·intro w1
    refine r_move rfl rfl (hl_nil ?_)
    exact qe_done rfl
   apply hb_ex _ rfl rfl rfl
   ·intro w1
    refine r_move rfl rfl (hl_nil ?_)
    exact qe_done rfl
   apply hb_ex _ rfl rfl rfl
   ·intro w1
    refine r_elem (α := Int) words i rfl T.u_ints T.sz_int rfl rfl rfl (List.mem_append_right _ (by repeat constructor)) rfl hi2 (by decide) ?_
    refine hl_nil ?_
    exact qe_done rfl
   apply hb_ex _ rfl rfl rfl
   ·intro w1
    refine r_load (v := int (words.getD i default)) rfl T.cell_int rfl (cell_row (List.mem_append_right _ (by repeat constructor)) (rows_get0 hi2 rfl)) ?_
    refine hl_nil ?_
    exact qe_done rfl
   refine hb_vs ⟨Nat, fun _ => True, fun g => .pointer (some ((adr (some ⟨g, 0, none⟩)).add (wm * 1))), fun g => [Row (some ⟨g, 0, none⟩) (rows callingsL)]⟩ rfl rfl rfl ?_ ?_
   ·intro g0 _; intro w1
    refine r_elem (α := Str) callingsL wm rfl T.u_strs T.sz_string rfl rfl hwm (by repeat constructor) rfl hwm16 (by decide) ?_
    refine hl_nil ?_
    exact qv_done g0 trivial rfl ⟨(by repeat constructor), trivial⟩
   apply hb_ex _ rfl rfl rfl
   ·intro g5 _; intro w1
    refine r_load (v := str (callN words i)) rfl T.cell_string rfl (cell_row (by repeat constructor) (by rw [← hcn]; exact rows_get0 (show wm < 16 from hwm16) rfl)) ?_
    refine hl_nil ?_
    exact qe_done rfl
   apply hb_ex _ rfl rfl rfl
   ·intro w1
    refine r_move rfl rfl (hl_nil ?_)
    exact qe_done rfl
   apply hb_ex _ rfl rfl rfl
   ·intro w1
    refine r_fieldAddr ⟨_, 0, none⟩ rfl rfl T.fa_api_Trades_0 rfl ?_
    refine hl_nil ?_
    exact qe_done rfl
   apply hb_ex _ rfl rfl rfl
   ·intro w1
    refine r_load rfl T.cell_L_api_Class rfl (cell_blk (by repeat constructor) rfl) ?_
    refine hl_nil ?_
    exact qe_done rfl
   apply hb_ex _ rfl rfl rfl
   ·intro w1
    refine r_len_sl rfl T.u_L_api_Class rfl ?_
    refine hl_nil ?_
    exact qe_done rfl
   apply hb_ex _ rfl rfl rfl
   ·intro w1
    refine r_sub ((cs.length : Int) - 1) rfl rfl rfl rfl (by unfold I64; omega) ?_
    refine hl_nil ?_
    exact qe_done rfl
   refine hb_wr ⟨(Int × Int) × Int, fun x => DOK nums x.1 ∧ ToInv ((cs.length : Int) - 1) x.2, fun x => int x.2, fun _ => [], fun x => [dice g A c nums x.1]⟩ rfl rfl rfl ?_ ?_
   ·intro w1
    refine hl_call F.kit_Dice_To_cb rfl rfl (kit_Dice_To_meets ((cs.length : Int) - 1) hn hD (by omega)) (List.Perm.refl _) ⟨(by repeat constructor), trivial⟩ fun x hx => ?_
    obtain ⟨s7, z7⟩ := x
    obtain ⟨hs7, hz7⟩ := hx
    simp only at hs7
    refine hl_nil ?_
    exact qw_done (s7, z7) ⟨hs7, hz7⟩ (fun _ => rfl) (List.sublist_append_left _ _) trivial
   refine hb_vs ⟨Int, fun z => ToInv ((cs.length : Int) - 1) z, fun z => .agg #[str (callN words i), int z, int (-1), .slice none 0 0], fun _ => []⟩ rfl rfl rfl ?_ ?_
   ·intro x hx; intro w1
    refine r_build _ rfl rfl (fun _ => T.bd_api_Head_0_1_2 ..) ?_
    refine hl_nil ?_
    exact qv_done x.2 hx.2 rfl trivial
   refine hb_ad ⟨Nat, fun _ => True, fun g => .pointer (some ⟨g, 0, none⟩), fun _ => [], fun g => [hdB g [] 0 0 none 0 0]⟩ rfl rfl rfl ?_ ?_
   ·intro w1
    refine r_alloc rfl (fun _ => T.al_api_Head _) fun g13 => ?_
    refine hl_nil ?_
    exact qw_done g13 trivial (fun _ => rfl) (List.Sublist.refl _) trivial
   refine hb_nil ⟨rfl, ?_⟩
   intro _ _ _ _ x12 h12
   refine fun (z : Int) hz => ?_
   intro g13 _
   obtain ⟨s8, _⟩ := x12
   have hs8 : DOK nums s8 := h12.1
   clear h12
   simp only [ToInv] at hz
   have hz2 : 0 ≤ z ∧ z < (cs.length : Int) := by
     refine ⟨hz.1, ?_⟩
     by_cases h1 : 1 ≤ (cs.length : Int) - 1
     · have := hz.2.1 h1; omega
     · have := hz.2.2 (by omega); omega
   refine r_storeS (cs := #[str (callN words i), int z, int (-1), .slice none 0 0]) rfl rfl (.refl _) T.sz_api_Head (by rfl) (by rfl) ?_
   refine hl_nil (then_n (hc_seq ?_))
   refine hc_cut ⟨fun x : (Int × Int) × Bool => DOK nums x.1 ∧ (x.2 = true → 1 < words.length), fun x => [(0, .pointer (some ⟨g, 0, none⟩)), (6, .pointer (some ⟨g6, 0, none⟩)), (7, .pointer (some ⟨g7, 0, none⟩)), (10, .slice wA words.length wC), (11, int words.length), (12, int i), (13, .pointer (some ⟨g13, 0, none⟩)), (80, .bool x.2)], fun x => dice g A c nums x.1 :: hdB g13 (callN words i) z (-1) none 0 0 :: trB g7 cA cs.length cC hA hs.length hC :: trB g6 none 0 0 none 0 0 :: og, fun _ => [Row wA (rows words), Row cA (rows cs), Row A (rows nums), innersF hs Hd.row]⟩ ?_ ?_
   ·skip
    refine hc_region (r_move rfl rfl (r_gtr rfl rfl rfl (r_move rfl rfl ?_)))
    refine g_split rfl rfl ?_ ?_
    ·intro hg1; have hg1' := hg1; try simp at hg1'
     refine g_yes rfl rfl hg1 (r_move rfl rfl (g_yes rfl rfl hg1 ?_))
     refine hl_call F.kit_Dice_Once_cb rfl rfl (kit_Dice_Once_meets 3 hn hs8 (by omega)) (List.Perm.swap _ _ _) ⟨(by repeat constructor), trivial⟩ fun x hx => ?_
     obtain ⟨s9, b9⟩ := x
     obtain ⟨hs9, hb9⟩ := hx
     simp only at hs9
     refine p_t rfl rfl (bt1 hg1) rfl ?_
     refine hl_nil ?_
     exact cut_n _ (s9, b9) ⟨hs9, fun _ => by simp at hg1; omega⟩ ⟨rfl, rfl, rfl, rfl, rfl, rfl, rfl, rfl, trivial⟩ (List.Sublist.refl _) ⟨(by repeat constructor), (by repeat constructor), (by repeat constructor), (by repeat constructor), trivial⟩
    ·intro hg1; have hg1' := hg1; try simp at hg1'
     refine g_no rfl rfl rfl rfl rfl hg1 (g_no rfl rfl rfl rfl rfl hg1 ?_)
     refine p_f rfl rfl (bf2 hg1) rfl ?_
     refine hl_nil ?_
     refine hq_perm (List.Perm.swap _ _ _) ?_
     exact cut_n _ (s8, false) ⟨hs8, fun h => by cases h⟩ ⟨rfl, rfl, rfl, rfl, rfl, rfl, rfl, rfl, trivial⟩ (List.Sublist.refl _) ⟨(by repeat constructor), (by repeat constructor), (by repeat constructor), (by repeat constructor), trivial⟩
   ·intro x hx
    obtain ⟨s9, b9⟩ := x
    obtain ⟨hs9, hb9⟩ := hx
    simp only at hs9 hb9
    refine hc_cond rfl (fun hb3 => ?_) (fun hb3 => ?_)
    ·have hb3' := hb3; try simp at hb3'
     have h1w : 1 < words.length := hb9 hb3
     refine hc_seq ?_
     refine hc_drawW ([dice g A c nums s9, hdB g13 (callN words i) z (-1) none 0 0]) (trB g7 cA cs.length cC hA hs.length hC :: trB g6 none 0 0 none 0 0 :: og) (List.Perm.refl _) 11 [10, 5] mixed (by decide) (by decide) (by decide) rfl rfl rfl ?_
     apply hb_ex _ rfl rfl rfl
     ·intro w1
      refine r_move rfl rfl (hl_nil ?_)
      exact qe_done rfl
     apply hb_ex _ rfl rfl rfl
     ·intro w1
      refine r_add _ rfl rfl rfl rfl (by unfold I64; omega) ?_
      refine hl_nil ?_
      exact qe_done rfl
     apply hb_ex _ rfl rfl rfl
     ·intro w1
      refine r_move rfl rfl (hl_nil ?_)
      exact qe_done rfl
     apply hb_ex _ rfl rfl rfl
     ·intro w1
      refine r_move rfl rfl (hl_nil ?_)
      exact qe_done rfl
     apply hb_ex _ rfl rfl rfl
     ·intro w1
      refine r_sub ((words.length : Int) - 2) rfl rfl rfl rfl (by unfold I64; omega) ?_
      refine hl_nil ?_
      exact qe_done rfl
     refine hb_wr ⟨(Int × Int) × Int, fun x => DOK nums x.1 ∧ ToInv ((words.length : Int) - 2) x.2, fun x => int x.2, fun _ => [], fun x => [dice g A c nums x.1, hdB g13 (callN words i) z (-1) none 0 0]⟩ rfl rfl rfl ?_ ?_
     ·intro w1
      refine hl_call F.kit_Dice_To_cb rfl rfl (kit_Dice_To_meets ((words.length : Int) - 2) hn hs9 (by omega)) (List.Perm.refl _) ⟨(by repeat constructor), trivial⟩ fun x hx => ?_
      obtain ⟨s10, v10⟩ := x
      obtain ⟨hs10, hv10⟩ := hx
      simp only at hs10
      refine hl_nil ?_
      exact qw_done (s10, v10) ⟨hs10, hv10⟩ (fun _ => rfl) (List.Sublist.refl _) trivial
     refine hb_vs ⟨Int, fun v => ToInv ((words.length : Int) - 2) v, fun v => int ((i : Int) + 1 + v), fun _ => []⟩ rfl rfl rfl ?_ ?_
     ·intro x hx; intro w1
      refine r_add ((i : Int) + 1 + x.2) rfl rfl rfl rfl (by have h1 := hx.2; simp only [ToInv] at h1; have h2 : x.2 ≤ 6 := (by by_cases h3 : 1 ≤ (words.length : Int) - 2; have := h1.2.1 h3; omega; have := h1.2.2 (by omega); omega); unfold I64; omega) ?_
      refine hl_nil ?_
      exact qv_done x.2 hx.2 rfl trivial
     apply hb_ex _ rfl rfl rfl
     ·intro w1
      refine r_move rfl rfl (hl_nil ?_)
      exact qe_done rfl
     refine hb_vs ⟨Int, fun v => ToInv ((words.length : Int) - 2) v, fun v => int (((i : Int) + 1 + v).tmod words.length), fun _ => []⟩ rfl rfl rfl ?_ ?_
     ·intro v hv; intro w1
      refine r_rem rfl rfl rfl (by omega) ?_
      refine hl_nil ?_
      exact qv_done v hv rfl trivial
     apply hb_ex _ rfl rfl rfl
     ·intro w1
      refine r_fieldAddr ⟨_, 1, none⟩ rfl rfl T.fa_api_Head_1 rfl ?_
      refine hl_nil ?_
      exact qe_done rfl
     refine hb_st ⟨Int × Int, fun s => DOK nums s, fun _ => undef, fun _ => [], fun s => [hdB g13 (callN words i) (-1) (-1) none 0 0, dice g A c nums s]⟩ rfl rfl ?_ ?_
     ·intro x hx; intro w1
      refine r_store rfl rfl (.swap _ _ _) T.sz_int (by rfl) (by rfl) ?_
      refine hl_nil ?_
      exact qw_done x.1 hx.1 (fun h => by cases h) (List.Sublist.refl _) trivial
     refine hb_nil ⟨rfl, ?_⟩
     intro _ _ _ _
     refine fun (v : Int) hv => ?_
     intro s11 hs11
     have hs11 : DOK nums s11 := hs11
     simp only [ToInv] at hv
     have hv2 : 0 ≤ v ∧ v ≤ (words.length : Int) - 2 := by
       refine ⟨hv.1, ?_⟩
       by_cases h1 : 1 ≤ (words.length : Int) - 2
       · exact hv.2.1 h1
       · have := hv.2.2 (by omega); omega
     have hps := past hi2 hv2.1 hv2.2
     refine r_fieldAddr ⟨_, 2, none⟩ rfl rfl T.fa_api_Head_2 rfl ?_
     refine r_store rfl rfl (.refl _) T.sz_int (by rfl) (by rfl) ?_
     refine hl_nil (then_n (hc_seq (hc_region ?_)))
     refine r_fieldAddr ⟨_, 1, none⟩ rfl rfl T.fa_api_Trades_1 rfl ?_
     refine r_load rfl T.cell_L_api_Head rfl (cell_own (by repeat constructor) rfl) ?_
     refine r_loadA rfl T.row_api_Head T.sz_api_Head rfl (by repeat constructor) (by rfl) ?_
     refine r_buildSlice _ rfl rfl (fun _ => T.bs_L_api_Head_1 ..) fun gS => ?_
     refine hl_letgo (rows [(((callN words i), -1, (((i : Int) + 1 + v).tmod words.length), ⟨none, 0, []⟩) : Hd)]) (List.prefix_refl _) ?_
     refine hl_nilrow (α := Int) ?_
     refine r_append (hp' := [hdB g13 (callN words i) (-1) (((i : Int) + 1 + v).tmod words.length) none 0 0, dice g A c nums s11, trB g7 cA cs.length cC hA hs.length hC, trB g6 none 0 0 none 0 0]) (hs.length + 1) (rows (hs ++ [(((callN words i), -1, (((i : Int) + 1 + v).tmod words.length), ⟨none, 0, []⟩) : Hd)])) T.el_L_api_Head rfl rfl rfl hG (show List.Perm (hdB g13 (callN words i) (-1) (((i : Int) + 1 + v).tmod words.length) none 0 0 :: dice g A c nums s11 :: trB g7 cA cs.length cC hA hs.length hC :: trB g6 none 0 0 none 0 0 :: og) (og ++ [hdB g13 (callN words i) (-1) (((i : Int) + 1 + v).tmod words.length) none 0 0, dice g A c nums s11, trB g7 cA cs.length cC hA hs.length hC, trB g6 none 0 0 none 0 0]) from (perm_of fun p => by simp only [List.countP_append, List.countP_cons, List.countP_nil]; omega)) (Src.row (news := rows [(((callN words i), -1, (((i : Int) + 1 + v).tmod words.length), ⟨none, 0, []⟩) : Hd)]) (m := 1) (by repeat constructor) rfl (rows_one _) (by decide)) rfl (rows_append _ _).symm (by unfold maxLen; omega) (by omega) fun A' c' og' hG' => ?_
     refine r_fieldAddr ⟨_, 1, none⟩ rfl rfl T.fa_api_Trades_1 rfl ?_
     refine r_store (hp' := og' ++ [hdB g13 (callN words i) (-1) (((i : Int) + 1 + v).tmod words.length) none 0 0, dice g A c nums s11, trB g6 none 0 0 none 0 0]) rfl rfl (show List.Perm (og' ++ [hdB g13 (callN words i) (-1) (((i : Int) + 1 + v).tmod words.length) none 0 0, dice g A c nums s11, trB g7 cA cs.length cC hA hs.length hC, trB g6 none 0 0 none 0 0]) (trB g7 cA cs.length cC hA hs.length hC :: (og' ++ [hdB g13 (callN words i) (-1) (((i : Int) + 1 + v).tmod words.length) none 0 0, dice g A c nums s11, trB g6 none 0 0 none 0 0])) from (perm_of fun p => by simp only [List.countP_append, List.countP_cons, List.countP_nil]; omega)) T.sz_L_api_Head (by rfl) (by rfl) ?_
     refine hl_facts (innerF_snoc (ps := hs) (f := Hd.row) (p := (((callN words i), -1, (((i : Int) + 1 + v).tmod words.length), ⟨none, 0, []⟩) : Hd)) (by repeat constructor) (by repeat constructor)) ?_
     refine hl_nil (then_n (hc_exit (then_exit (inb_hit (then_n (hc_region (r_move rfl rfl ?_)))))))
     refine r_add _ rfl rfl rfl rfl (by unfold I64; omega) ?_
     refine r_assign rfl rfl (hl_nil ?_)
     have hl1 : (hs ++ [(((callN words i), -1, (((i : Int) + 1 + v).tmod words.length), ⟨none, 0, []⟩) : Hd)]).length = hs.length + 1 := by simp
     refine hq_perm (show List.Perm (trB g7 cA cs.length cC A' (hs.length + 1) c' :: (og' ++ [hdB g13 (callN words i) (-1) (((i : Int) + 1 + v).tmod words.length) none 0 0, dice g A c nums s11, trB g6 none 0 0 none 0 0])) (hdB g13 (callN words i) (-1) (((i : Int) + 1 + v).tmod words.length) none 0 0 :: dice g A c nums s11 :: trB g7 cA cs.length cC A' (hs.length + 1) c' :: trB g6 none 0 0 none 0 0 :: og') from (perm_of fun p => by simp only [List.countP_append, List.countP_cons, List.countP_nil]; omega)) ?_
     exact again _ (i + 1, hs ++ [(((callN words i), -1, (((i : Int) + 1 + v).tmod words.length), ⟨none, 0, []⟩) : Hd)], (A', c'), og', s11) ⟨by show i + 1 ≤ words.length; omega, by show (hs ++ [_]).length = i + 1; rw [hl1]; omega, hH.snoc (by rw [hhl]) (by rw [hhl]; exact ⟨fun k hk => by simp at hk, .inl ⟨hps.1, hps.2.1, hps.2.2, rfl, rfl⟩⟩), by show Grow _ _ _ (hs ++ [_]).length _ _ _; rw [hl1]; exact hG', by assumption⟩ (by show words.length - (i + 1) < words.length - i; omega) ⟨rfl, rfl, rfl, rfl, rfl, rfl, trivial⟩ (by show List.Sublist (_ :: trB g7 _ _ _ _ (hs ++ [_]).length _ :: _) _; rw [hl1]; exact List.sublist_cons_self _ _) ⟨(by repeat constructor), (by repeat constructor), (by repeat constructor), (by repeat constructor), trivial⟩
    ·have hb3' := hb3; try simp at hb3'
     refine hc_skip (then_n (hc_seq (hc_seq (hc_region (r_assign rfl rfl (hl_nil (then_n (hc_block ?_))))))))
     refine hc_loop (β := Nat × List Int × OutC × Hp × (Int × Int)) ⟨fun x => x.1 ≤ words.length ∧ AscB i x.1 x.2.1 ∧ Grow T.int 1 x.2.2.1.1 x.2.1.length x.2.2.1.2 (rows x.2.1) x.2.2.2.1 ∧ DOK nums x.2.2.2.2, fun x => [(0, .pointer (some ⟨g, 0, none⟩)), (6, .pointer (some ⟨g6, 0, none⟩)), (7, .pointer (some ⟨g7, 0, none⟩)), (10, .slice wA words.length wC), (11, int words.length), (12, int i), (13, .pointer (some ⟨g13, 0, none⟩)), (14, int x.1)], fun x => dice g A c nums x.2.2.2.2 :: hdB g13 (callN words i) z (-1) x.2.2.1.1 x.2.1.length x.2.2.1.2 :: trB g7 cA cs.length cC hA hs.length hC :: trB g6 none 0 0 none 0 0 :: (x.2.2.2.1 ++ og), fun _ => [Row wA (rows words), Row cA (rows cs), Row A (rows nums), innersF hs Hd.row]⟩ (fun x => words.length - x.1) (0, [], (none, 0), [], s9) ⟨Nat.zero_le _, ⟨List.Pairwise.nil, fun x hx => by cases hx⟩, Grow.nil _ _, hs9⟩ ⟨rfl, rfl, rfl, rfl, rfl, rfl, rfl, rfl, trivial⟩ (List.Sublist.refl _) ⟨(by repeat constructor), (by repeat constructor), (by repeat constructor), (by repeat constructor), trivial⟩ fun x hx => ?_
     clear hs9
     obtain ⟨k, al, ⟨aA, aC⟩, og3, s9⟩ := x
     obtain ⟨hk, hB, hG3, hs9⟩ := hx
     simp only at hk hB hG3 hs9
     refine hc_seq (hc_seq (hc_region (r_move rfl rfl (r_move rfl rfl (r_lss rfl rfl rfl (hl_nil (then_n ?_)))))))
     refine c_dec rfl (fun hb4 => ?_) (fun hb4 => ?_)
     ·have hb4' := hb4; try simp at hb4'
      have hk2 : k < words.length := by omega
      have hal := hB.len
      refine hc_skip (then_n (hc_seq (hc_block ?_)))
      refine hc_cut ⟨fun x : (Int × Int) × Bool => DOK nums x.1 ∧ (x.2 = true → ¬ k = i), fun x => [(0, .pointer (some ⟨g, 0, none⟩)), (6, .pointer (some ⟨g6, 0, none⟩)), (7, .pointer (some ⟨g7, 0, none⟩)), (10, .slice wA words.length wC), (11, int words.length), (12, int i), (13, .pointer (some ⟨g13, 0, none⟩)), (14, int k), (109, .bool x.2)], fun x => dice g A c nums x.1 :: hdB g13 (callN words i) z (-1) aA al.length aC :: trB g7 cA cs.length cC hA hs.length hC :: trB g6 none 0 0 none 0 0 :: (og3 ++ og), fun _ => [Row wA (rows words), Row cA (rows cs), Row A (rows nums), innersF hs Hd.row]⟩ ?_ ?_
      ·skip
       refine hc_region (r_move rfl rfl (r_move rfl rfl (r_neq rfl rfl rfl (r_move rfl rfl ?_))))
       refine g_split rfl rfl ?_ ?_
       ·intro hg2; have hg2' := hg2; try simp at hg2'
        refine g_yes rfl rfl hg2 (r_move rfl rfl (g_yes rfl rfl hg2 ?_))
        refine hl_call F.kit_Dice_Once_cb rfl rfl (kit_Dice_Once_meets 4 hn hs9 (by omega)) (List.Perm.refl _) ⟨(by repeat constructor), trivial⟩ fun x hx => ?_
        obtain ⟨s12, b12⟩ := x
        obtain ⟨hs12, hb12⟩ := hx
        simp only at hs12
        refine p_t rfl rfl (bt1 hg2) rfl ?_
        refine hl_nil ?_
        exact cut_n _ (s12, b12) ⟨hs12, fun _ => by simp at hg2; omega⟩ ⟨rfl, rfl, rfl, rfl, rfl, rfl, rfl, rfl, rfl, trivial⟩ (List.Sublist.refl _) ⟨(by repeat constructor), (by repeat constructor), (by repeat constructor), (by repeat constructor), trivial⟩
       ·intro hg2; have hg2' := hg2; try simp at hg2'
        refine g_no rfl rfl rfl rfl rfl hg2 (g_no rfl rfl rfl rfl rfl hg2 ?_)
        refine p_f rfl rfl (bf2 hg2) rfl ?_
        refine hl_nil ?_
        exact cut_n _ (s9, false) ⟨hs9, fun h => by cases h⟩ ⟨rfl, rfl, rfl, rfl, rfl, rfl, rfl, rfl, rfl, trivial⟩ (List.Sublist.refl _) ⟨(by repeat constructor), (by repeat constructor), (by repeat constructor), (by repeat constructor), trivial⟩
      ·intro x hx
       obtain ⟨s13, b13⟩ := x
       obtain ⟨hs13, hb13⟩ := hx
       simp only at hs13 hb13
       refine hc_cond rfl (fun hb5 => ?_) (fun hb5 => ?_)
       ·have hb5' := hb5; try simp at hb5'
        refine hc_region ?_
        refine r_fieldAddr ⟨_, 3, none⟩ rfl rfl T.fa_api_Head_3 rfl ?_
        refine r_load rfl T.cell_ints rfl (cell_own (by repeat constructor) rfl) ?_
        refine r_move rfl rfl ?_
        refine r_buildSlice _ rfl rfl (fun _ => T.bs_ints_1 ..) fun gS => ?_
        refine hl_letgo (rows [(k : Int)]) (List.prefix_refl _) ?_
        refine r_append (hp' := dice g A c nums s13 :: hdB g13 (callN words i) z (-1) aA al.length aC :: trB g7 cA cs.length cC hA hs.length hC :: trB g6 none 0 0 none 0 0 :: og) (al.length + 1) (rows (al ++ [(k : Int)])) T.el_ints rfl rfl rfl hG3 (show List.Perm (dice g A c nums s13 :: hdB g13 (callN words i) z (-1) aA al.length aC :: trB g7 cA cs.length cC hA hs.length hC :: trB g6 none 0 0 none 0 0 :: (og3 ++ og)) (og3 ++ (dice g A c nums s13 :: hdB g13 (callN words i) z (-1) aA al.length aC :: trB g7 cA cs.length cC hA hs.length hC :: trB g6 none 0 0 none 0 0 :: og)) from (perm_of fun p => by simp only [List.countP_append, List.countP_cons, List.countP_nil]; omega)) (Src.row (news := rows [(k : Int)]) (m := 1) m0 rfl (rows_one _) (by decide)) rfl (rows_append _ _).symm (by unfold maxLen; omega) (by omega) fun A' c' og' hG' => ?_
        refine r_fieldAddr ⟨_, 3, none⟩ rfl rfl T.fa_api_Head_3 rfl ?_
        refine r_store (hp' := og' ++ (dice g A c nums s13 :: trB g7 cA cs.length cC hA hs.length hC :: trB g6 none 0 0 none 0 0 :: og)) rfl rfl (show List.Perm (og' ++ (dice g A c nums s13 :: hdB g13 (callN words i) z (-1) aA al.length aC :: trB g7 cA cs.length cC hA hs.length hC :: trB g6 none 0 0 none 0 0 :: og)) (hdB g13 (callN words i) z (-1) aA al.length aC :: (og' ++ (dice g A c nums s13 :: trB g7 cA cs.length cC hA hs.length hC :: trB g6 none 0 0 none 0 0 :: og))) from (perm_of fun p => by simp only [List.countP_append, List.countP_cons, List.countP_nil]; omega)) T.sz_ints (by rfl) (by rfl) ?_
        refine hl_nil (inb_n (then_n (hc_region (r_move rfl rfl ?_))))
        refine r_add _ rfl rfl rfl rfl (by unfold I64; omega) ?_
        refine r_assign rfl rfl (hl_nil ?_)
        have hl1 : (al ++ [(k : Int)]).length = al.length + 1 := by simp
        refine hq_perm (show List.Perm (hdB g13 (callN words i) z (-1) A' (al.length + 1) c' :: (og' ++ (dice g A c nums s13 :: trB g7 cA cs.length cC hA hs.length hC :: trB g6 none 0 0 none 0 0 :: og))) (dice g A c nums s13 :: hdB g13 (callN words i) z (-1) A' (al.length + 1) c' :: trB g7 cA cs.length cC hA hs.length hC :: trB g6 none 0 0 none 0 0 :: (og' ++ og)) from (perm_of fun p => by simp only [List.countP_append, List.countP_cons, List.countP_nil]; omega)) ?_
        exact again _ (k + 1, al ++ [(k : Int)], (A', c'), og', s13) ⟨by show k + 1 ≤ words.length; omega, hB.snoc (hb13 hb5), by show Grow _ _ _ (al ++ [_]).length _ _ _; rw [hl1]; exact hG', hs13⟩ (by show words.length - (k + 1) < words.length - k; omega) ⟨rfl, rfl, rfl, rfl, rfl, rfl, rfl, rfl, trivial⟩ (by show List.Sublist (_ :: hdB g13 _ _ _ _ (al ++ [_]).length _ :: _) _; rw [hl1]; exact List.Sublist.refl _) ⟨(by repeat constructor), (by repeat constructor), (by repeat constructor), (by repeat constructor), trivial⟩
       ·have hb5' := hb5; try simp at hb5'
        refine hc_skip (inb_n (then_n (hc_region (r_move rfl rfl ?_))))
        refine r_add _ rfl rfl rfl rfl (by unfold I64; omega) ?_
        refine r_assign rfl rfl (hl_nil ?_)
        exact again _ (k + 1, al, (aA, aC), og3, s13) ⟨by show k + 1 ≤ words.length; omega, hB.step, hG3, hs13⟩ (by show words.length - (k + 1) < words.length - k; omega) ⟨rfl, rfl, rfl, rfl, rfl, rfl, rfl, rfl, trivial⟩ (List.Sublist.refl _) ⟨(by repeat constructor), (by repeat constructor), (by repeat constructor), (by repeat constructor), trivial⟩
     ·have hb4' := hb4; try simp at hb4'
      have hk2 : k = words.length := by omega
      subst hk2
      have hal := hB.len
      refine hc_exit (then_exit (then_exit (inb_hit (then_n ?_))))
      refine hc_cut ⟨fun x : (Int × Int) × Int => DOK nums x.1 ∧ ((0 ≤ x.2 ∧ x.2 < (cs.length : Int)) ∨ (x.2 = -1 ∧ al ≠ [])), fun x => [(0, .pointer (some ⟨g, 0, none⟩)), (6, .pointer (some ⟨g6, 0, none⟩)), (7, .pointer (some ⟨g7, 0, none⟩)), (10, .slice wA words.length wC), (11, int words.length), (12, int i), (13, .pointer (some ⟨g13, 0, none⟩))], fun x => dice g A c nums x.1 :: hdB g13 (callN words i) x.2 (-1) aA al.length aC :: trB g7 cA cs.length cC hA hs.length hC :: trB g6 none 0 0 none 0 0 :: (og3 ++ og), fun _ => [Row wA (rows words), Row cA (rows cs), Row A (rows nums), innersF hs Hd.row]⟩ ?_ ?_
      ·skip
       refine hc_cut ⟨fun x : (Int × Int) × Bool => DOK nums x.1 ∧ (x.2 = true → al ≠ []), fun x => [(0, .pointer (some ⟨g, 0, none⟩)), (6, .pointer (some ⟨g6, 0, none⟩)), (7, .pointer (some ⟨g7, 0, none⟩)), (10, .slice wA words.length wC), (11, int words.length), (12, int i), (13, .pointer (some ⟨g13, 0, none⟩)), (123, .bool x.2)], fun x => dice g A c nums x.1 :: hdB g13 (callN words i) z (-1) aA al.length aC :: trB g7 cA cs.length cC hA hs.length hC :: trB g6 none 0 0 none 0 0 :: (og3 ++ og), fun _ => [Row wA (rows words), Row cA (rows cs), Row A (rows nums), innersF hs Hd.row]⟩ ?_ ?_
       ·skip
        refine hc_region ?_
        refine r_fieldAddr ⟨_, 3, none⟩ rfl rfl T.fa_api_Head_3 rfl ?_
        refine r_load rfl T.cell_ints rfl (cell_own (by repeat constructor) rfl) ?_
        refine r_len_sl rfl T.u_ints rfl ?_
        refine r_gtr rfl rfl rfl (r_move rfl rfl ?_)
        refine g_split rfl rfl ?_ ?_
        ·intro hg3; have hg3' := hg3; try simp at hg3'
         refine g_yes rfl rfl hg3 (r_move rfl rfl (g_yes rfl rfl hg3 ?_))
         refine hl_call F.kit_Dice_Once_cb rfl rfl (kit_Dice_Once_meets 4 hn hs9 (by omega)) (List.Perm.refl _) ⟨(by repeat constructor), trivial⟩ fun x hx => ?_
         obtain ⟨s14, b14⟩ := x
         obtain ⟨hs14, hb14⟩ := hx
         simp only at hs14
         refine p_t rfl rfl (bt1 hg3) rfl ?_
         refine hl_nil ?_
         exact cut_n _ (s14, b14) ⟨hs14, fun _ e => by subst e; simp at hg3⟩ ⟨rfl, rfl, rfl, rfl, rfl, rfl, rfl, rfl, trivial⟩ (List.Sublist.refl _) ⟨(by repeat constructor), (by repeat constructor), (by repeat constructor), (by repeat constructor), trivial⟩
        ·intro hg3; have hg3' := hg3; try simp at hg3'
         refine g_no rfl rfl rfl rfl rfl hg3 (g_no rfl rfl rfl rfl rfl hg3 ?_)
         refine p_f rfl rfl (bf2 hg3) rfl ?_
         refine hl_nil ?_
         exact cut_n _ (s9, false) ⟨hs9, fun h => by cases h⟩ ⟨rfl, rfl, rfl, rfl, rfl, rfl, rfl, rfl, trivial⟩ (List.Sublist.refl _) ⟨(by repeat constructor), (by repeat constructor), (by repeat constructor), (by repeat constructor), trivial⟩
       ·intro x hx
        obtain ⟨s15, b15⟩ := x
        obtain ⟨hs15, hb15⟩ := hx
        simp only at hs15 hb15
        refine hc_cond rfl (fun hb6 => ?_) (fun hb6 => ?_)
        ·have hb6' := hb6; try simp at hb6'
         refine hc_region ?_
         refine r_fieldAddr ⟨_, 1, none⟩ rfl rfl T.fa_api_Head_1 rfl ?_
         refine r_store rfl rfl (.swap _ _ _) T.sz_int (by rfl) (by rfl) ?_
         refine hl_nil ?_
         refine hq_perm (List.Perm.swap _ _ _) ?_
         exact cut_n _ (s15, -1) ⟨hs15, .inr ⟨rfl, hb15 hb6⟩⟩ ⟨rfl, rfl, rfl, rfl, rfl, rfl, rfl, trivial⟩ (List.Sublist.refl _) ⟨(by repeat constructor), (by repeat constructor), (by repeat constructor), (by repeat constructor), trivial⟩
        ·have hb6' := hb6; try simp at hb6'
         refine hc_skip ?_
         exact cut_n _ (s15, z) ⟨hs15, .inl hz2⟩ ⟨rfl, rfl, rfl, rfl, rfl, rfl, rfl, trivial⟩ (List.Sublist.refl _) ⟨(by repeat constructor), (by repeat constructor), (by repeat constructor), (by repeat constructor), trivial⟩
      ·intro x hx
       obtain ⟨s16, cl⟩ := x
       obtain ⟨hs16, hcl⟩ := hx
       simp only at hs16 hcl
       refine hc_perm (show List.Perm (dice g A c nums s16 :: hdB g13 (callN words i) cl (-1) aA al.length aC :: trB g7 cA cs.length cC hA hs.length hC :: trB g6 none 0 0 none 0 0 :: (og3 ++ og)) (og3 ++ (hdB g13 (callN words i) cl (-1) aA al.length aC :: dice g A c nums s16 :: trB g7 cA cs.length cC hA hs.length hC :: trB g6 none 0 0 none 0 0 :: og)) from (perm_of fun p => by simp only [List.countP_append, List.countP_cons, List.countP_nil]; omega)) ?_
       refine hc_grown hG3 (hc_region ?_)
       refine r_fieldAddr ⟨_, 1, none⟩ rfl rfl T.fa_api_Trades_1 rfl ?_
       refine r_load rfl T.cell_L_api_Head rfl (cell_own (by repeat constructor) rfl) ?_
       refine r_loadA rfl T.row_api_Head T.sz_api_Head rfl (by repeat constructor) (by rfl) ?_
       refine r_buildSlice _ rfl rfl (fun _ => T.bs_L_api_Head_1 ..) fun gS => ?_
       refine hl_letgo (rows [(((callN words i), cl, -1, ⟨aA, aC, al⟩) : Hd)]) (List.prefix_refl _) ?_
       refine r_append (hp' := [hdB g13 (callN words i) cl (-1) aA al.length aC, dice g A c nums s16, trB g7 cA cs.length cC hA hs.length hC, trB g6 none 0 0 none 0 0]) (hs.length + 1) (rows (hs ++ [(((callN words i), cl, -1, ⟨aA, aC, al⟩) : Hd)])) T.el_L_api_Head rfl rfl rfl hG (show List.Perm (hdB g13 (callN words i) cl (-1) aA al.length aC :: dice g A c nums s16 :: trB g7 cA cs.length cC hA hs.length hC :: trB g6 none 0 0 none 0 0 :: og) (og ++ [hdB g13 (callN words i) cl (-1) aA al.length aC, dice g A c nums s16, trB g7 cA cs.length cC hA hs.length hC, trB g6 none 0 0 none 0 0]) from (perm_of fun p => by simp only [List.countP_append, List.countP_cons, List.countP_nil]; omega)) (Src.row (news := rows [(((callN words i), cl, -1, ⟨aA, aC, al⟩) : Hd)]) (m := 1) m0 rfl (rows_one _) (by decide)) rfl (rows_append _ _).symm (by unfold maxLen; omega) (by omega) fun A' c' og' hG' => ?_
       refine r_fieldAddr ⟨_, 1, none⟩ rfl rfl T.fa_api_Trades_1 rfl ?_
       refine r_store (hp' := og' ++ [hdB g13 (callN words i) cl (-1) aA al.length aC, dice g A c nums s16, trB g6 none 0 0 none 0 0]) rfl rfl (show List.Perm (og' ++ [hdB g13 (callN words i) cl (-1) aA al.length aC, dice g A c nums s16, trB g7 cA cs.length cC hA hs.length hC, trB g6 none 0 0 none 0 0]) (trB g7 cA cs.length cC hA hs.length hC :: (og' ++ [hdB g13 (callN words i) cl (-1) aA al.length aC, dice g A c nums s16, trB g6 none 0 0 none 0 0])) from (perm_of fun p => by simp only [List.countP_append, List.countP_cons, List.countP_nil]; omega)) T.sz_L_api_Head (by rfl) (by rfl) ?_
       refine hl_facts (innerF_snoc (ps := hs) (f := Hd.row) (p := (((callN words i), cl, -1, ⟨aA, aC, al⟩) : Hd)) (by repeat constructor) (by repeat constructor)) ?_
       refine hl_nil (inb_n (then_n (hc_region (r_move rfl rfl ?_))))
       refine r_add _ rfl rfl rfl rfl (by unfold I64; omega) ?_
       refine r_assign rfl rfl (hl_nil ?_)
       have hl1 : (hs ++ [(((callN words i), cl, -1, ⟨aA, aC, al⟩) : Hd)]).length = hs.length + 1 := by simp
       refine hq_perm (show List.Perm (trB g7 cA cs.length cC A' (hs.length + 1) c' :: (og' ++ [hdB g13 (callN words i) cl (-1) aA al.length aC, dice g A c nums s16, trB g6 none 0 0 none 0 0])) (hdB g13 (callN words i) cl (-1) aA al.length aC :: dice g A c nums s16 :: trB g7 cA cs.length cC A' (hs.length + 1) c' :: trB g6 none 0 0 none 0 0 :: og') from (perm_of fun p => by simp only [List.countP_append, List.countP_cons, List.countP_nil]; omega)) ?_
       exact again _ (i + 1, hs ++ [(((callN words i), cl, -1, ⟨aA, aC, al⟩) : Hd)], (A', c'), og', s16) ⟨by show i + 1 ≤ words.length; omega, by show (hs ++ [_]).length = i + 1; rw [hl1]; omega, hH.snoc (by rw [hhl]) (by rw [hhl]; exact ⟨hB.err, hcl.elim (fun h => .inr (.inl ⟨rfl, h.1, h.2⟩)) (fun h => .inr (.inr ⟨rfl, h.1, h.2⟩))⟩), by show Grow _ _ _ (hs ++ [_]).length _ _ _; rw [hl1]; exact hG', by assumption⟩ (by show words.length - (i + 1) < words.length - i; omega) ⟨rfl, rfl, rfl, rfl, rfl, rfl, trivial⟩ (by show List.Sublist (_ :: trB g7 _ _ _ _ (hs ++ [_]).length _ :: _) _; rw [hl1]; exact List.sublist_cons_self _ _) ⟨(by repeat constructor), (by repeat constructor), (by repeat constructor), (by repeat constructor), trivial⟩
  ·have hb2' := hb2; try simp at hb2'
   have hi2 : i = words.length := by omega
   subst hi2
   refine hc_exit (then_exit (then_exit (inb_hit (then_n (hc_seq ?_)))))
   refine hc_perm (show List.Perm (dice g A c nums s :: trB g7 cA cs.length cC hA hs.length hC :: trB g6 none 0 0 none 0 0 :: og) (og ++ [trB g7 cA cs.length cC hA hs.length hC, trB g6 none 0 0 none 0 0, dice g A c nums s]) from (perm_of fun p => by simp only [List.countP_append, List.countP_cons, List.countP_nil]; omega)) ?_
   have hHle := hG.le
   refine hc_grown hG ?_
   refine hc_rowsF (A := hA) (ps := hs) (f := Hd.row) (by repeat constructor) (by repeat constructor) ?_
   refine hc_region ?_
   refine r_loadA rfl T.row_api_Trades T.sz_api_Trades rfl (by repeat constructor) (by rfl) ?_
   refine r_storeS (cs := #[.slice cA cs.length cC, .slice hA hs.length hC]) rfl rfl (.swap _ _ _) T.sz_api_Trades (by rfl) (by rfl) ?_
   refine hl_nil (then_n (hc_ret ?_))
   refine ret_row (s, cs, hs, (cA, cC), (hA, hC)) rfl rfl T.row_api_Trades T.sz_api_Trades rfl m0 rfl rfl ⟨hD, ⟨made_ok hP hC1 hcs6 hwp hwi hhl hwl6 hH, hcs1, by show cs.length ≤ m1; omega, by show hs.length ≤ m2; omega, hCle, hHle, hs_ha hwl6 hH⟩⟩ (List.Sublist.cons _ (List.Sublist.cons _ (List.Sublist.refl _))) ⟨(by repeat constructor), (by repeat constructor), trivial⟩

theorem dok0 (nums : List Int) : DOK nums (0, 11400714819323198485) := ⟨by decide, by show (0 : Int) ≤ nums.length; omega, by decide, by decide⟩

theorem ask_one {t : Tr} {h : Int} (h0 : checkT t = 0) (h1 : 0 ≤ h ∧ h ≤ (t.hs.length : Int) - 1) : askE t [h] = 0 := by
  unfold askE
  rw [if_neg (by rw [Classical.not_not]; exact h0)]
  simp [h1]

end Go.Proofs.YtlpgheniajdkfaaGreat
