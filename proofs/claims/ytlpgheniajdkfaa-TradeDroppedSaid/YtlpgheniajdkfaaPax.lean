/- The references that can be added. -/
import Derived.Test.YtlpgheniajdkfaaPaw
namespace Go.Proofs.Ytlpgheniajdkfaa
open Go Go.W
set_option linter.unusedVariables false
set_option linter.unusedSimpArgs false
set_option maxRecDepth 20000
attribute [local irreducible] HL HC HQ HB Row Rows2 Blk Facts

abbrev Rf := Int × Int
instance : El Rf where
  default := (0, 0)
  cells m := [int m.1, int m.2]
  sz := 2
  len _ := rfl
  one a u h := by simp at h; rcases h with rfl | rfl <;> rfl
theorem eq_ref (p q : Rf) (w : World) : (Op.equal T.trade_ref (pair p) (pair q)).run Try.prog w = .ok (decide (p = q)) w := T.eqi_trade_ref p.1 q.1 p.2 q.2 w
theorem findA_ref (k : Rf) (w : World) : ∀ (l : List (Ment Rf)) (i : Nat), (Instr.findAsking T.trade_ref (pair k) (l.map (entOf pair)) i).run Try.prog w = .ok (findM k l i) w
  | [], i => rfl
  | p :: l, i => by
    rw [List.map_cons, Instr.findAsking]
    simp only [Sem.run_bind, entOf, eq_ref, Result.andThen_ok, findM]
    by_cases hk : p.1 = k
    · simp [hk]
    · have h' : ¬ k = p.1 := fun e => hk e.symm
      simp only [hk, h', decide_false, Bool.false_eq_true, if_false]
      exact findA_ref k w l (i + 1)
theorem KRf : KeyC Try.prog T.trade_ref pair where
  chk b k w := by
    cases b <;> kernel_rfl
  find k l w := by
    unfold Instr.findKey
    simp only [Sem.run_bind, run_underlying Try.underlying139, Result.andThen_ok]
    cases l with
    | nil => rfl
    | cons p l => exact findA_ref k w (p :: l) 0
  stays k w := by
    obtain ⟨a, b⟩ := k
    have : Instr.sameBits 10000 (W.pair (a, b)) (W.pair (a, b)) = true := by
      simp [Instr.sameBits, W.pair]
    unfold Instr.keyThatStays
    rw [if_pos this]
    rfl
theorem zv_bool (w : World) : (zeroValue T.bool).run Try.prog w = .ok (.bool false) w := by kernel_rfl
/-- The set of the references that are there. -/
def ThereOK (M : List (Ment Rf)) (S : List Rf) : Prop := ∀ p, getM M p = if p ∈ S then some (.bool true) else none
theorem ThereOK.put {M : List (Ment Rf)} {S : List Rf} (h : ThereOK M S) (p : Rf) (clk : Nat) : ThereOK (putM M p (.bool true) clk) (S ++ [p]) := fun q => by
  rw [getM_put, h q]
  by_cases e : p = q
  · rw [if_pos e, if_pos (by rw [e]; simp)]
  · rw [if_neg e]
    by_cases e2 : q ∈ S
    · rw [if_pos e2, if_pos (List.mem_append_left _ e2)]
    · rw [if_neg e2, if_neg (by rw [List.mem_append, List.mem_singleton]; exact fun h => h.elim e2 (fun h => e h.symm))]
section
variable {c : Cx} {Q : Exit → Act → World → Prop} {fr : Fr} {hp : Hp} {L : List Fact} {ops : Array Oper} {rest : List Oper} {d : Tmp} {ty : TypeId} {pos : String} {af : Array Edge}
theorem r_there {x y : Operand} {g clk : Nat} {M : List (Ment Rf)} {S : List Rf} {p : Rf} (hT : ThereOK M S) (hd : Nat.blt d c.n = true) (hP : c.P = Try.prog) (hx : ev fr x = some (.map (some g))) (hy : ev fr y = some (pair p)) (hm : MapAt c.b hp L g (mapO pair M clk))
    (k : HL c ops Q rest ((d, .bool (decide (p ∈ S))) :: fr) hp L) : HL c ops Q (⟨some d, .lookup T.map_trade_ref_bool x y false, ty, pos, af, none⟩ :: rest) fr hp L := by
  have K := KRf
  have hu := T.u_map_trade_ref_bool
  have hz := zv_bool
  rw [← hP] at K hu
  rw [← hP] at hz
  have ht := hT p
  by_cases e : p ∈ S
  · rw [if_pos e] at ht
    rw [decide_eq_true e] at k
    exact r_look K hd hu hx hy hm ht k
  · rw [if_neg e] at ht
    rw [decide_eq_false e] at k
    exact r_look0 K hd hu hx hy hm hz ht k
end
def refsK (hs : List Hd) (k : Nat) : List Rf := (List.range k).flatMap fun i => (nextL (hs.getD i default)).map fun x => ((i : Int), x)
theorem refs_succ (hs : List Hd) (k : Nat) : refsK hs (k + 1) = refsK hs k ++ (nextL (hs.getD k default)).map fun x => ((k : Int), x) := by
  unfold refsK
  rw [List.range_succ, List.flatMap_append]
  simp
theorem refs_mem {cs : List Cl} {hs : List Hd} (hok : TrOK (trOf cs hs)) {i j : Nat} (hi : i < hs.length) : (((i : Int), (j : Int)) ∈ refsK hs hs.length) ↔ nextB (trOf cs hs) i j = true := by
  rw [nextB_of hok hi, decide_eq_true_eq]
  unfold refsK
  rw [List.mem_flatMap]
  constructor
  · rintro ⟨q, _, hm⟩
    obtain ⟨x, hx, e⟩ := List.mem_map.1 hm
    have e1 : (q : Int) = (i : Int) := congrArg Prod.fst e
    have e2 : x = (j : Int) := congrArg Prod.snd e
    have e3 : q = i := by omega
    subst e2
    subst e3
    exact hx
  · intro h
    exact ⟨i, List.mem_range.2 hi, List.mem_map.2 ⟨_, h, rfl⟩⟩
def frI (t : Tr) (i m : Nat) : List Rf := ((List.range m).filter fun k => decide (¬ k = i) && !nextB t i k).map fun k : Nat => ((i : Int), (k : Int))
theorem frI_succ (t : Tr) (i m : Nat) : frI t i (m + 1) = if (decide (¬ m = i) && !nextB t i m) = true then frI t i m ++ [((i : Int), (m : Int))] else frI t i m := by
  unfold frI
  rw [List.range_succ, List.filter_append, List.map_append, List.filter_cons, List.filter_nil]
  by_cases h : (decide (¬ m = i) && !nextB t i m) = true
  · rw [if_pos h, if_pos h]; rfl
  · rw [if_neg h, if_neg h]; simp
def frK (t : Tr) (k : Nat) : List Rf := (List.range k).flatMap fun i => if (t.hs.getD i default).2.2.1 = -1 then frI t i t.hs.length else []
theorem frK_succ (t : Tr) (k : Nat) : frK t (k + 1) = frK t k ++ if (t.hs.getD k default).2.2.1 = -1 then frI t k t.hs.length else [] := by
  unfold frK
  rw [List.range_succ, List.flatMap_append]
  simp
theorem frI_len (t : Tr) (i m : Nat) : (frI t i m).length ≤ m := by
  unfold frI
  rw [List.length_map]
  exact Nat.le_trans (List.length_filter_le _ _) (by simp)
theorem frK_len (t : Tr) : ∀ k, (frK t k).length ≤ k * t.hs.length
  | 0 => by simp [frK]
  | k + 1 => by
    rw [frK_succ, List.length_append, Nat.succ_mul]
    have := frK_len t k
    have h2 := frI_len t k t.hs.length
    split
    · omega
    · simp; omega
theorem ks_ne {k j : Nat} : (((k : Int), (j : Int)) = ((k : Int), (k : Int))) ↔ j = k := by
  rw [Prod.mk.injEq]
  exact ⟨fun h => by have := h.2; omega, fun h => by subst h; exact ⟨rfl, rfl⟩⟩
theorem ks_y {k j : Nat} {S : List Rf} {b : Bool} (h : ((decide (¬ ((k : Int), (j : Int)) = ((k : Int), (k : Int)))) == true) = true) (h2 : ((k : Int), (j : Int)) ∈ S ↔ b = true) : (!decide (((k : Int), (j : Int)) ∈ S)) = (decide (¬ j = k) && !b) := by
  have h3 : ¬ j = k := fun e => by rw [beq_iff_eq, decide_eq_true_eq] at h; exact h (ks_ne.2 e)
  rw [decide_eq_true h3, Bool.true_and]
  congr 1
  rw [Bool.eq_iff_iff, decide_eq_true_eq]
  exact h2
theorem ks_n {k j : Nat} {b : Bool} (h : ((decide (¬ ((k : Int), (j : Int)) = ((k : Int), (k : Int)))) == true) = false) : false = (decide (¬ j = k) && !b) := by
  have h3 : j = k := Classical.byContradiction fun e => by
    have h2 : ¬ ((k : Int), (j : Int)) = ((k : Int), (k : Int)) := fun h2 => e (ks_ne.1 h2)
    rw [decide_eq_true h2] at h; cases h
  rw [decide_eq_false (fun e => e h3), Bool.false_and]
theorem free_frK (t : Tr) : freeT t = frK t t.hs.length := rfl

set_option maxHeartbeats 1000000 in
theorem trade_list_free_meets {A B oa ka : Option Addr} {ca cb oc kc gl : Nat} (cs : List Cl) (hs : List Hd) (hok : TrOK (trOf cs hs)) : Meets Try.prog F.trade_list_free [.pointer (some ⟨gl, 0, none⟩)] { LI := [Row (some ⟨gl, 0, none⟩) [.slice A cs.length ca, .slice B hs.length cb, .slice oa cs.length oc, .slice ka hs.length kc], Row ka (rows (kindsN hs hs.length)), RowsF B hs Hd.row], inv := fun x : OutC => (freeT (trOf cs hs)).length ≤ x.2, val := fun x => .slice x.1 (freeT (trOf cs hs)).length x.2, LO := fun x => [Row x.1 (rows (freeT (trOf cs hs)))] } := by
 refine meets_intro F.trade_list_free_f rfl (Nat.le_of_ble_eq_true rfl) fun w0 => ?_
 refine hc_seq ?_
 refine hc_region ?_
 refine r_assign rfl rfl ?_
 refine hl_nil ?_
 refine then_n ?_
 refine hc_seq ?_
 refine hc_region ?_
 have h6h := hok.h6
 have hln := hs_len cs hs
 rw [hln] at h6h
 refine r_makeMapM pair rfl fun gM => ?_
 refine r_assign rfl rfl ?_
 refine hl_nil ?_
 refine then_n ?_
 refine hc_seq ?_
 refine hc_seq ?_
 refine hc_region ?_
 refine r_move rfl rfl ?_
 refine r_nilCheck rfl rfl ?_
 first | refine r_fieldAddr ⟨_, 3, none⟩ rfl rfl T.fa_trade_list_2 rfl ?_ | refine r_fieldAddr _ rfl rfl T.fa_trade_list_2 rfl ?_
 first | refine r_load rfl T.cell_L_trade_kind rfl (cell_own (by repeat constructor) rfl) ?_ | refine r_load rfl T.cell_L_trade_kind rfl (cell_blk (by repeat constructor) rfl) ?_ | refine r_load rfl T.cell_L_trade_kind rfl (cell_row (by repeat constructor) (rows_get0 (by omega) rfl)) ?_ | refine r_load rfl T.cell_L_trade_kind rfl (cell_row_f (by repeat constructor) (rows_get (by omega) rfl)) ?_ | refine r_load rfl T.cell_L_trade_kind rfl (cell_rowg (by repeat constructor) rfl) ?_
 refine r_len_sl rfl T.u_L_trade_kind rfl ?_
 refine r_move rfl rfl ?_
 refine hl_nil ?_
 refine then_n ?_
 refine hc_block ?_
 refine hc_loop (β := Nat × List (Ment Rf) × Nat) ⟨fun x => x.1 ≤ hs.length ∧ ThereOK x.2.1 (refsK hs x.1), fun x => [(0, .pointer (some ⟨gl, 0, none⟩)), (3, .map (some gM)), (19, .slice ka hs.length kc), (20, int hs.length), (21, int x.1)], fun x => [(gM, mapO pair x.2.1 x.2.2)], fun _ => [Row (some ⟨gl, 0, none⟩) [.slice A cs.length ca, .slice B hs.length cb, .slice oa cs.length oc, .slice ka hs.length kc], Row ka (rows (kindsN hs hs.length)), RowsF B hs Hd.row]⟩ (fun x => hs.length - x.1) (0, [], 0) ⟨Nat.zero_le _, fun p => by rw [if_neg (by simp [refsK])]; rfl⟩ ⟨rfl, rfl, rfl, rfl, rfl, trivial⟩ (List.Sublist.refl _) ⟨(by repeat constructor), (by repeat constructor), (by repeat constructor), trivial⟩ fun x hx => ?_
 obtain ⟨k, M, clk⟩ := x
 obtain ⟨hk, hM⟩ := hx
 simp only at hk hM
 refine hc_seq ?_
 refine hc_region ?_
 refine r_lss rfl rfl rfl ?_
 refine hl_nil ?_
 refine then_n ?_
 refine hc_seq ?_
 first | refine c_dec rfl (fun hb1 => ?_) (fun hb1 => ?_) | refine hc_cond rfl (fun hb1 => ?_) (fun hb1 => ?_)
 ·have hb1' := hb1; try simp at hb1'
  have hk2 : k < hs.length := by omega
  have hin := next_in hok hk2
  have hnle := next_len hok hk2
  generalize hnl : nextL (hs.getD k default) = nl at hin hnle
  refine hc_skip ?_
  refine then_n ?_
  refine hc_seq ?_
  refine hc_block ?_
  refine hc_seq ?_
  refine hc_region ?_
  refine r_move rfl rfl ?_
  refine r_elem (α := Kd) (kindsN hs hs.length) k rfl T.u_L_trade_kind T.sz_trade_kind rfl rfl rfl (by repeat constructor) (kinds_len (Nat.le_refl _)).symm (by rw [kinds_len (Nat.le_refl _)]; exact hk2) (by decide) ?_
  refine r_load (v := (kindOf (hs.getD k default)).v) rfl T.cell_trade_kind rfl (cell_row (by repeat constructor) (by rw [← kind_get hk2]; exact rows_get0 (by rw [kinds_len (Nat.le_refl _)]; exact hk2) rfl)) ?_
  refine r_assign rfl rfl ?_
  refine r_assign rfl rfl ?_
  refine hl_nil ?_
  refine then_n ?_
  refine hc_seq ?_
  refine hc_region ?_
  refine r_move rfl rfl ?_
  refine hl_innerF (p := (hs.getD k default)) (by repeat constructor) (getD_mem hk2) ?_
  refine r_next rfl rfl rfl m0 fun o => ?_
  rw [hnl]
  refine r_len_sl rfl T.u_ints rfl ?_
  refine r_move rfl rfl ?_
  refine hl_nil ?_
  refine then_n ?_
  refine hc_block ?_
  refine hc_loop (β := Nat × List (Ment Rf) × Nat) ⟨fun x => x.1 ≤ nl.length ∧ ThereOK x.2.1 (refsK hs k ++ (nl.take x.1).map fun x => ((k : Int), x)), fun x => [(0, .pointer (some ⟨gl, 0, none⟩)), (3, .map (some gM)), (19, .slice ka hs.length kc), (20, int hs.length), (21, int k), (4, int k), (27, .slice o.1 nl.length o.2), (28, int nl.length), (29, int x.1)], fun x => [(gM, mapO pair x.2.1 x.2.2)], fun _ => Row o.1 (rows nl) :: [Row (some ⟨gl, 0, none⟩) [.slice A cs.length ca, .slice B hs.length cb, .slice oa cs.length oc, .slice ka hs.length kc], Row ka (rows (kindsN hs hs.length)), RowsF B hs Hd.row]⟩ (fun x => nl.length - x.1) (0, M, clk) ⟨Nat.zero_le _, by simpa using hM⟩ ⟨rfl, rfl, rfl, rfl, rfl, rfl, rfl, rfl, rfl, trivial⟩ (List.Sublist.refl _) ⟨(by repeat constructor), (by repeat constructor), (by repeat constructor), (by repeat constructor), trivial⟩ fun x hx => ?_
  clear hM
  obtain ⟨j, M, clk⟩ := x
  obtain ⟨hj, hM⟩ := hx
  simp only at hj hM
  refine hc_seq ?_
  refine hc_region ?_
  refine r_lss rfl rfl rfl ?_
  refine hl_nil ?_
  refine then_n ?_
  refine hc_seq ?_
  first | refine c_dec rfl (fun hb2 => ?_) (fun hb2 => ?_) | refine hc_cond rfl (fun hb2 => ?_) (fun hb2 => ?_)
  ·have hb2' := hb2; try simp at hb2'
   have hj2 : j < nl.length := by omega
   refine hc_skip ?_
   refine then_n ?_
   refine hc_seq ?_
   refine hc_block ?_
   refine hc_seq ?_
   refine hc_region ?_
   refine r_elem (α := Int) nl j rfl T.u_ints T.sz_int rfl rfl rfl (by repeat constructor) rfl hj2 (by decide) ?_
   refine r_load (v := int (nl.getD j default)) rfl T.cell_int rfl (cell_row (by repeat constructor) (rows_get0 hj2 rfl)) ?_
   refine r_assign rfl rfl ?_
   refine hl_nil ?_
   refine then_n ?_
   refine hc_region ?_
   refine r_move rfl rfl ?_
   refine r_move rfl rfl ?_
   refine r_move rfl rfl ?_
   refine r_build _ rfl rfl (fun _ => T.bd_trade_ref_0_1 ..) ?_
   refine r_insert (k := ((k : Int), nl.getD j default)) KRf (.inl rfl) T.u_map_trade_ref_bool rfl rfl rfl (.refl _) ?_
   refine hl_nil ?_
   refine inb_n ?_
   refine then_n ?_
   refine hc_region ?_
   refine r_add _ rfl rfl rfl rfl (by unfold I64; omega) ?_
   refine r_move rfl rfl ?_
   refine hl_nil ?_
   exact again _ (j + 1, _, _) ⟨by show j + 1 ≤ nl.length; omega, by show ThereOK _ (refsK hs k ++ (nl.take (j + 1)).map fun x => ((k : Int), x)); rw [take_succ_getD nl j hj2, List.map_append, ← List.append_assoc]; exact hM.put _ _⟩ (by show nl.length - (j + 1) < nl.length - j; omega) ⟨rfl, rfl, rfl, rfl, rfl, rfl, rfl, rfl, rfl, trivial⟩ (List.Sublist.refl _) ⟨(by repeat constructor), (by repeat constructor), (by repeat constructor), (by repeat constructor), trivial⟩
  ·have hb2' := hb2; try simp at hb2'
   have hj2 : j = nl.length := by omega
   subst hj2
   rw [List.take_length, ← hnl, ← refs_succ] at hM
   refine hc_exit ?_
   refine then_exit ?_
   refine then_exit ?_
   refine inb_hit ?_
   refine inb_n ?_
   refine then_n ?_
   refine hc_region ?_
   refine r_add _ rfl rfl rfl rfl (by unfold I64; omega) ?_
   refine r_move rfl rfl ?_
   refine hl_nil ?_
   exact again _ (k + 1, M, clk) ⟨by show k + 1 ≤ hs.length; omega, hM⟩ (by show hs.length - (k + 1) < hs.length - k; omega) ⟨rfl, rfl, rfl, rfl, rfl, trivial⟩ (List.Sublist.refl _) ⟨(by repeat constructor), (by repeat constructor), (by repeat constructor), trivial⟩
 ·have hb1' := hb1; try simp at hb1'
  have hk2 : k = hs.length := by omega
  subst hk2
  refine hc_exit ?_
  refine then_exit ?_
  refine then_exit ?_
  refine inb_hit ?_
  refine then_n ?_
  refine hc_seq ?_
  refine hc_region ?_
  refine r_assign rfl rfl ?_
  refine hl_nil ?_
  refine then_n ?_
  refine hc_seq ?_
  refine hc_seq ?_
  refine hc_region ?_
  refine r_move rfl rfl ?_
  refine r_nilCheck rfl rfl ?_
  first | refine r_fieldAddr ⟨_, 3, none⟩ rfl rfl T.fa_trade_list_2 rfl ?_ | refine r_fieldAddr _ rfl rfl T.fa_trade_list_2 rfl ?_
  first | refine r_load rfl T.cell_L_trade_kind rfl (cell_own (by repeat constructor) rfl) ?_ | refine r_load rfl T.cell_L_trade_kind rfl (cell_blk (by repeat constructor) rfl) ?_ | refine r_load rfl T.cell_L_trade_kind rfl (cell_row (by repeat constructor) (rows_get0 (by omega) rfl)) ?_ | refine r_load rfl T.cell_L_trade_kind rfl (cell_row_f (by repeat constructor) (rows_get (by omega) rfl)) ?_ | refine r_load rfl T.cell_L_trade_kind rfl (cell_rowg (by repeat constructor) rfl) ?_
  refine r_len_sl rfl T.u_L_trade_kind rfl ?_
  refine r_move rfl rfl ?_
  refine hl_nil ?_
  refine then_n ?_
  refine hc_block ?_
  have hRM := fun (i j : Nat) (hi : i < hs.length) => refs_mem hok (i := i) (j := j) hi
  generalize refsK hs hs.length = S at *
  refine hc_loop (β := Nat × OutC × Hp) ⟨fun x => x.1 ≤ hs.length ∧ Grow T.trade_ref 2 x.2.1.1 (frK (trOf cs hs) x.1).length x.2.1.2 (rows (frK (trOf cs hs) x.1)) x.2.2, fun x => [(0, .pointer (some ⟨gl, 0, none⟩)), (3, .map (some gM)), (42, .slice ka hs.length kc), (43, int hs.length), (44, int x.1), (8, .slice x.2.1.1 (frK (trOf cs hs) x.1).length x.2.1.2)], fun x => x.2.2 ++ [(gM, mapO pair M clk)], fun _ => [Row (some ⟨gl, 0, none⟩) [.slice A cs.length ca, .slice B hs.length cb, .slice oa cs.length oc, .slice ka hs.length kc], Row ka (rows (kindsN hs hs.length)), RowsF B hs Hd.row]⟩ (fun x => hs.length - x.1) (0, (none, 0), []) ⟨Nat.zero_le _, Grow.nil _ _⟩ ⟨rfl, rfl, rfl, rfl, rfl, rfl, trivial⟩ (List.Sublist.refl _) ⟨(by repeat constructor), (by repeat constructor), (by repeat constructor), trivial⟩ fun x hx => ?_
  obtain ⟨k, ⟨na, nc⟩, og⟩ := x
  obtain ⟨hk, hG⟩ := hx
  simp only at hk hG
  refine hc_seq ?_
  refine hc_region ?_
  refine r_lss rfl rfl rfl ?_
  refine hl_nil ?_
  refine then_n ?_
  refine hc_seq ?_
  first | refine c_dec rfl (fun hb3 => ?_) (fun hb3 => ?_) | refine hc_cond rfl (fun hb3 => ?_) (fun hb3 => ?_)
  ·have hb3' := hb3; try simp at hb3'
   have hk2 : k < hs.length := by omega
   have hgd : ((trOf cs hs).hs.getD k default).2.2.1 = (hs.getD k default).2.2.1 := by rw [show (trOf cs hs).hs.getD k default = (hs.getD k default).p from hd_get hk2]; rfl
   have hfk := frK_succ (trOf cs hs) k
   rw [hgd, hln] at hfk
   refine hc_skip ?_
   refine then_n ?_
   refine hc_seq ?_
   refine hc_block ?_
   refine hc_seq ?_
   refine hc_region ?_
   refine r_move rfl rfl ?_
   refine r_elem (α := Kd) (kindsN hs hs.length) k rfl T.u_L_trade_kind T.sz_trade_kind rfl rfl rfl (by repeat constructor) (kinds_len (Nat.le_refl _)).symm (by rw [kinds_len (Nat.le_refl _)]; exact hk2) (by decide) ?_
   refine r_load (v := (kindOf (hs.getD k default)).v) rfl T.cell_trade_kind rfl (cell_row (by repeat constructor) (by rw [← kind_get hk2]; exact rows_get0 (by rw [kinds_len (Nat.le_refl _)]; exact hk2) rfl)) ?_
   refine r_assign rfl rfl ?_
   refine r_assign rfl rfl ?_
   refine hl_nil ?_
   refine then_n ?_
   refine hc_seq ?_
   refine hc_seq ?_
   refine hc_region ?_
   refine r_move rfl rfl ?_
   refine r_asP rfl rfl rfl ?_
   refine r_move rfl rfl ?_
   refine r_extract rfl rfl rfl ?_
   refine r_extract rfl rfl rfl ?_
   refine r_alloc rfl (fun _ => T.al_trade_pointer _) fun gA => ?_
   refine r_storeS rfl rfl (by first | exact .refl _ | exact perm2 _ _ _ | exact perm3 _ _ _ _ | exact perm4 _ _ _ _ _) T.sz_trade_pointer (by rfl) (by rfl) ?_
   refine r_assign rfl rfl ?_
   refine hl_nil ?_
   refine then_n ?_
   refine hc_seq ?_
   refine hc_region ?_
   refine r_move rfl rfl ?_
   refine hl_nil ?_
   refine then_n ?_
   first | refine c_dec rfl (fun hb4 => ?_) (fun hb4 => ?_) | refine hc_cond rfl (fun hb4 => ?_) (fun hb4 => ?_)
   ·have hb4' := hb4; try simp at hb4'
    rw [isP_of, decide_eq_true_eq] at hb4
    rw [if_neg hb4, List.append_nil] at hfk
    refine hc_exit ?_
    refine then_exit ?_
    refine inb_hit ?_
    refine then_n ?_
    refine hc_region ?_
    refine r_add _ rfl rfl rfl rfl (by unfold I64; omega) ?_
    refine r_move rfl rfl ?_
    refine hl_nil ?_
    exact again _ (k + 1, (na, nc), og) ⟨by show k + 1 ≤ hs.length; omega, by show Grow _ _ _ (frK (trOf cs hs) (k + 1)).length _ (rows (frK (trOf cs hs) (k + 1))) _; rw [hfk]; exact hG⟩ (by show hs.length - (k + 1) < hs.length - k; omega) ⟨rfl, rfl, rfl, rfl, rfl, (by show some (Value.slice na (frK (trOf cs hs) k).length nc) = some (Value.slice na (frK (trOf cs hs) (k + 1)).length nc); rw [hfk]), trivial⟩ (List.sublist_cons_self _ _) ⟨(by repeat constructor), (by repeat constructor), (by repeat constructor), trivial⟩
   ·have hb4' := hb4; try simp at hb4'
    have hb4 : (hs.getD k default).2.2.1 = -1 := by rw [isP_of, decide_eq_false_iff_not] at hb4; exact Classical.not_not.1 hb4
    rw [if_pos hb4] at hfk
    refine hc_skip ?_
    refine then_n ?_
    refine hc_seq ?_
    refine hc_region ?_
    refine r_move rfl rfl ?_
    refine r_nilCheck rfl rfl ?_
    first | refine r_fieldAddr ⟨_, 3, none⟩ rfl rfl T.fa_trade_list_2 rfl ?_ | refine r_fieldAddr _ rfl rfl T.fa_trade_list_2 rfl ?_
    first | refine r_load rfl T.cell_L_trade_kind rfl (cell_own (by repeat constructor) rfl) ?_ | refine r_load rfl T.cell_L_trade_kind rfl (cell_blk (by repeat constructor) rfl) ?_ | refine r_load rfl T.cell_L_trade_kind rfl (cell_row (by repeat constructor) (rows_get0 (by omega) rfl)) ?_ | refine r_load rfl T.cell_L_trade_kind rfl (cell_row_f (by repeat constructor) (rows_get (by omega) rfl)) ?_ | refine r_load rfl T.cell_L_trade_kind rfl (cell_rowg (by repeat constructor) rfl) ?_
    refine r_len_sl rfl T.u_L_trade_kind rfl ?_
    refine r_move rfl rfl ?_
    refine hl_nil ?_
    refine then_n ?_
    refine hc_block ?_
    refine hc_loop (β := Nat × OutC × Hp) ⟨fun x => x.1 ≤ hs.length ∧ Grow T.trade_ref 2 x.2.1.1 (frK (trOf cs hs) k ++ frI (trOf cs hs) k x.1).length x.2.1.2 (rows (frK (trOf cs hs) k ++ frI (trOf cs hs) k x.1)) x.2.2, fun x => [(0, .pointer (some ⟨gl, 0, none⟩)), (3, .map (some gM)), (42, .slice ka hs.length kc), (43, int hs.length), (44, int k), (8, .slice x.2.1.1 (frK (trOf cs hs) k ++ frI (trOf cs hs) k x.1).length x.2.1.2), (9, int k), (59, int hs.length), (60, int x.1)], fun x => x.2.2 ++ [(gM, mapO pair M clk)], fun _ => [Row (some ⟨gl, 0, none⟩) [.slice A cs.length ca, .slice B hs.length cb, .slice oa cs.length oc, .slice ka hs.length kc], Row ka (rows (kindsN hs hs.length)), RowsF B hs Hd.row]⟩ (fun x => hs.length - x.1) (0, (na, nc), og) ⟨Nat.zero_le _, by show Grow _ _ _ (frK (trOf cs hs) k ++ []).length _ (rows (frK (trOf cs hs) k ++ [])) _; rw [List.append_nil]; exact hG⟩ ⟨rfl, rfl, rfl, rfl, rfl, (by show some (Value.slice na (frK (trOf cs hs) k).length nc) = some (Value.slice na (frK (trOf cs hs) k ++ []).length nc); rw [List.append_nil]), rfl, rfl, rfl, trivial⟩ (List.sublist_cons_self _ _) ⟨(by repeat constructor), (by repeat constructor), (by repeat constructor), trivial⟩ fun x hx => ?_
    clear hG
    obtain ⟨j, ⟨na, nc⟩, og⟩ := x
    obtain ⟨hj, hG⟩ := hx
    simp only at hj hG
    have hfs := frI_succ (trOf cs hs) k j
    have hle1 := frK_len (trOf cs hs) k
    have hle2 := frI_len (trOf cs hs) k j
    rw [hln] at hle1
    have hle3 : k * hs.length ≤ 6 * 6 := Nat.mul_le_mul (by omega) h6h
    refine hc_seq ?_
    refine hc_region ?_
    refine r_lss rfl rfl rfl ?_
    refine hl_nil ?_
    refine then_n ?_
    refine hc_seq ?_
    first | refine c_dec rfl (fun hb5 => ?_) (fun hb5 => ?_) | refine hc_cond rfl (fun hb5 => ?_) (fun hb5 => ?_)
    ·have hb5' := hb5; try simp at hb5'
     have hj2 : j < hs.length := by omega
     refine hc_skip ?_
     refine then_n ?_
     refine hc_seq ?_
     refine hc_block ?_
     refine hc_seq ?_
     refine hc_region ?_
     refine r_move rfl rfl ?_
     refine r_assign rfl rfl ?_
     refine hl_nil ?_
     refine then_n ?_
     refine hc_seq ?_
     refine hc_region ?_
     refine r_move rfl rfl ?_
     refine r_move rfl rfl ?_
     refine r_build _ rfl rfl (fun _ => T.bd_trade_ref_0_1 ..) ?_
     refine r_alloc rfl (fun _ => T.al_trade_ref _) fun gA => ?_
     refine r_storeS rfl rfl (by first | exact .refl _ | exact perm2 _ _ _ | exact perm3 _ _ _ _ | exact perm4 _ _ _ _ _) T.sz_trade_ref (by rfl) (by rfl) ?_
     refine hl_nil ?_
     refine then_n ?_
     refine hc_cut ⟨fun _ : Unit => True, fun _ => [(0, .pointer (some ⟨gl, 0, none⟩)), (3, .map (some gM)), (42, .slice ka hs.length kc), (43, int hs.length), (44, int k), (8, .slice na (frK (trOf cs hs) k ++ frI (trOf cs hs) k j).length nc), (9, int k), (59, int hs.length), (60, int j), (14, .pointer (some ⟨gA, 0, none⟩)), (76, .bool (decide (¬ j = k) && !nextB (trOf cs hs) k j))], fun _ => (gA, .cells #[int k, int j] T.trade_ref (0, 0)) :: (og ++ [(gM, mapO pair M clk)]), fun _ => [Row (some ⟨gl, 0, none⟩) [.slice A cs.length ca, .slice B hs.length cb, .slice oa cs.length oc, .slice ka hs.length kc], Row ka (rows (kindsN hs hs.length)), RowsF B hs Hd.row]⟩ ?_ ?_
     ·skip
      refine hc_region ?_
      first | refine r_loadA rfl T.row_trade_ref T.sz_trade_ref rfl (by repeat constructor) (by rfl) ?_ | refine r_loadB rfl T.row_trade_ref T.sz_trade_ref rfl (by repeat constructor) (by rfl) ?_ | refine r_loadS rfl T.row_trade_ref T.sz_trade_ref rfl rfl (cells_row (by repeat constructor) (rows_all (by omega))) ?_
      refine r_move rfl rfl ?_
      refine r_move rfl rfl ?_
      refine r_build _ rfl rfl (fun _ => T.bd_trade_ref_0_1 ..) ?_
      refine r_bin _ rfl rfl rfl (fun _ => T.eqg_trade_ref ..) (fun _ => T.neq_trade_ref ..) ?_
      refine r_move rfl rfl ?_
      refine g_split rfl rfl ?_ ?_
      ·intro hg1; have hg1' := hg1; try simp at hg1'
       refine g_yes rfl rfl hg1 ?_
       refine r_move rfl rfl ?_
       refine g_yes rfl rfl hg1 ?_
       first | refine r_loadA rfl T.row_trade_ref T.sz_trade_ref rfl (by repeat constructor) (by rfl) ?_ | refine r_loadB rfl T.row_trade_ref T.sz_trade_ref rfl (by repeat constructor) (by rfl) ?_ | refine r_loadS rfl T.row_trade_ref T.sz_trade_ref rfl rfl (cells_row (by repeat constructor) (rows_all (by omega))) ?_
       refine g_yes rfl rfl hg1 ?_
       refine r_there (p := ((k : Int), (j : Int))) hM rfl rfl rfl rfl (map_own (List.mem_cons_of_mem _ (List.mem_append_right _ (List.mem_cons_self ..)))) ?_
       refine g_yes rfl rfl hg1 ?_
       refine r_not rfl rfl ?_
       refine p_t rfl rfl (bt1 hg1) rfl ?_
       refine hl_nil ?_
       exact cut_n _ () trivial ⟨rfl, rfl, rfl, rfl, rfl, rfl, rfl, rfl, rfl, rfl, congrArg (fun b => some (Value.bool b)) (ks_y hg1 (hRM k j hk2)), trivial⟩ (List.Sublist.refl _) ⟨(by repeat constructor), (by repeat constructor), (by repeat constructor), trivial⟩
      ·intro hg1; have hg1' := hg1; try simp at hg1'
       refine g_no rfl rfl rfl rfl rfl hg1 ?_
       refine g_no rfl rfl rfl rfl rfl hg1 ?_
       refine g_no rfl rfl rfl rfl rfl hg1 ?_
       refine g_no rfl rfl rfl rfl rfl hg1 ?_
       refine p_f rfl rfl (bf2 hg1) rfl ?_
       refine hl_nil ?_
       exact cut_n _ () trivial ⟨rfl, rfl, rfl, rfl, rfl, rfl, rfl, rfl, rfl, rfl, congrArg (fun b => some (Value.bool b)) (ks_n hg1), trivial⟩ (List.Sublist.refl _) ⟨(by repeat constructor), (by repeat constructor), (by repeat constructor), trivial⟩
     ·refine fun _ _ => ?_
      first | refine c_dec rfl (fun hb6 => ?_) (fun hb6 => ?_) | refine hc_cond rfl (fun hb6 => ?_) (fun hb6 => ?_)
      ·have hb6' := hb6; try simp at hb6'
       refine hc_region ?_
       refine r_move rfl rfl ?_
       first | refine r_loadA rfl T.row_trade_ref T.sz_trade_ref rfl (by repeat constructor) (by rfl) ?_ | refine r_loadB rfl T.row_trade_ref T.sz_trade_ref rfl (by repeat constructor) (by rfl) ?_ | refine r_loadS rfl T.row_trade_ref T.sz_trade_ref rfl rfl (cells_row (by repeat constructor) (rows_all (by omega))) ?_
       refine r_buildSlice _ rfl rfl (fun _ => T.bs_L_trade_ref_1 ..) fun gS => ?_
       refine hl_letgo (rows [(((k : Int), (j : Int)) : Rf)]) (List.prefix_refl _) ?_
       refine r_append ((frK (trOf cs hs) k ++ frI (trOf cs hs) k j).length + 1) (rows ((frK (trOf cs hs) k ++ frI (trOf cs hs) k j) ++ [(((k : Int), (j : Int)) : Rf)])) T.el_L_trade_ref rfl rfl rfl hG (pmB _ _ _) (Src.row (news := rows [(((k : Int), (j : Int)) : Rf)]) (m := 1) m0 rfl (rows_one _) (by decide)) rfl (rows_append _ _).symm (by rw [List.length_append]; unfold maxLen; omega) (by rw [List.length_append]; omega) fun A' c' og' hG' => ?_
       refine r_assign rfl rfl ?_
       refine hl_nil ?_
       refine inb_n ?_
       refine then_n ?_
       refine hc_region ?_
       refine r_add _ rfl rfl rfl rfl (by unfold I64; omega) ?_
       refine r_move rfl rfl ?_
       refine hl_nil ?_
       have hst : (frK (trOf cs hs) k ++ frI (trOf cs hs) k (j + 1)) = (frK (trOf cs hs) k ++ frI (trOf cs hs) k j) ++ [(((k : Int), (j : Int)) : Rf)] := by rw [hfs, if_pos hb6, List.append_assoc]
       exact again _ (j + 1, (A', c'), og') ⟨by show j + 1 ≤ hs.length; omega, by show Grow _ _ _ (frK (trOf cs hs) k ++ frI (trOf cs hs) k (j + 1)).length _ (rows (frK (trOf cs hs) k ++ frI (trOf cs hs) k (j + 1))) _; rw [hst]; rw [List.length_append (bs := [_])]; exact hG'⟩ (by show hs.length - (j + 1) < hs.length - j; omega) ⟨rfl, rfl, rfl, rfl, rfl, (by show some (Value.slice A' ((frK (trOf cs hs) k ++ frI (trOf cs hs) k j).length + 1) c') = some (Value.slice A' (frK (trOf cs hs) k ++ frI (trOf cs hs) k (j + 1)).length c'); rw [hst, List.length_append (bs := [_])]; rfl), rfl, rfl, rfl, trivial⟩ (List.Sublist.append_left (List.sublist_cons_self _ _) _) ⟨(by repeat constructor), (by repeat constructor), (by repeat constructor), trivial⟩
      ·have hb6' := hb6; try simp at hb6'
       refine hc_skip ?_
       refine inb_n ?_
       refine then_n ?_
       refine hc_region ?_
       refine r_add _ rfl rfl rfl rfl (by unfold I64; omega) ?_
       refine r_move rfl rfl ?_
       refine hl_nil ?_
       have hst : (frK (trOf cs hs) k ++ frI (trOf cs hs) k (j + 1)) = (frK (trOf cs hs) k ++ frI (trOf cs hs) k j) := by rw [hfs, if_neg (by rw [hb6]; decide)]
       exact again _ (j + 1, (na, nc), og) ⟨by show j + 1 ≤ hs.length; omega, by show Grow _ _ _ (frK (trOf cs hs) k ++ frI (trOf cs hs) k (j + 1)).length _ (rows (frK (trOf cs hs) k ++ frI (trOf cs hs) k (j + 1))) _; rw [hst]; exact hG⟩ (by show hs.length - (j + 1) < hs.length - j; omega) ⟨rfl, rfl, rfl, rfl, rfl, (by show some (Value.slice na (frK (trOf cs hs) k ++ frI (trOf cs hs) k j).length nc) = some (Value.slice na (frK (trOf cs hs) k ++ frI (trOf cs hs) k (j + 1)).length nc); rw [hst]), rfl, rfl, rfl, trivial⟩ (List.sublist_cons_self _ _) ⟨(by repeat constructor), (by repeat constructor), (by repeat constructor), trivial⟩
    ·have hb5' := hb5; try simp at hb5'
     have hj2 : j = hs.length := by omega
     subst hj2
     rw [← hfk] at hG
     refine hc_exit ?_
     refine then_exit ?_
     refine then_exit ?_
     refine inb_hit ?_
     refine inb_n ?_
     refine then_n ?_
     refine hc_region ?_
     refine r_add _ rfl rfl rfl rfl (by unfold I64; omega) ?_
     refine r_move rfl rfl ?_
     refine hl_nil ?_
     exact again _ (k + 1, (na, nc), og) ⟨by show k + 1 ≤ hs.length; omega, hG⟩ (by show hs.length - (k + 1) < hs.length - k; omega) ⟨rfl, rfl, rfl, rfl, rfl, (by show some (Value.slice na (frK (trOf cs hs) k ++ frI (trOf cs hs) k hs.length).length nc) = some (Value.slice na (frK (trOf cs hs) (k + 1)).length nc); rw [hfk]), trivial⟩ (List.Sublist.refl _) ⟨(by repeat constructor), (by repeat constructor), (by repeat constructor), trivial⟩
  ·have hb3' := hb3; try simp at hb3'
   have hk2 : k = hs.length := by omega
   subst hk2
   refine hc_exit ?_
   refine then_exit ?_
   refine then_exit ?_
   refine inb_hit ?_
   refine then_n ?_
   refine hc_seq ?_
   refine hc_region ?_
   refine r_move rfl rfl ?_
   refine r_assign rfl rfl ?_
   refine hl_nil ?_
   refine then_n ?_
   refine hc_ret ?_
   have hle := hG.le
   refine hq_grown hG ?_
   have hfr : frK (trOf cs hs) hs.length = freeT (trOf cs hs) := by rw [free_frK, hln]
   rw [hfr] at hle ⊢
   exact ret1 (na, nc) rfl rfl rfl hle (List.nil_sublist _) ⟨m0, trivial⟩

end Go.Proofs.Ytlpgheniajdkfaa
