/- The references as sets; what is found in so many steps. -/
import Derived.Test.YtlpgheniajdkfaaPav
namespace Go.Proofs.Ytlpgheniajdkfaa
open Go Go.W
set_option linter.unusedVariables false
set_option linter.unusedSimpArgs false
set_option maxRecDepth 20000
attribute [local irreducible] HL HC HQ HB Row Rows2 Blk Facts

theorem asc_ge {l : List Int} (h : ∀ k, k < l.length → 0 ≤ l.getD k default ∧ (0 < k → l.getD (k - 1) default < l.getD k default)) : ∀ k : Nat, k < l.length → (k : Int) ≤ l.getD k default
  | 0, hk => (h 0 hk).1
  | k + 1, hk => by
    have h1 := asc_ge h k (by omega)
    have h2 := (h (k + 1) hk).2 (by omega)
    rw [Nat.add_sub_cancel] at h2
    omega
theorem next_len {cs : List Cl} {hs : List Hd} (hok : TrOK (trOf cs hs)) {i : Nat} (hi : i < hs.length) : (nextL (hs.getD i default)).length ≤ 6 := by
  have h6h := hok.h6
  rw [hs_len] at h6h
  have hh := hok.h i (by rw [hs_len]; exact hi)
  have e : (trOf cs hs).hs.getD i default = (hs.getD i default).p := hd_get hi
  have ha := hh.a
  rw [e, hs_len] at ha
  unfold nextL
  split
  · simp
  · generalize hl : (hs.getD i default).2.2.2.l = l
    have ha2 : ∀ k, k < l.length → alsoErr hs.length i l k = 0 := by rw [← hl]; exact ha
    have hg := asc_ge (l := l) fun k hk => ⟨(also_ok (ha2 k hk)).1, (also_ok (ha2 k hk)).2.2.2⟩
    by_cases h0 : l.length = 0
    · omega
    · have h1 := hg (l.length - 1) (by omega)
      have h2 := (also_ok (ha2 (l.length - 1) (by omega))).2.1
      omega
theorem six {ns : List Nat} (h : ns.length = 6) : ∃ a b c d e f, ns = [a, b, c, d, e, f] := by
  match ns, h with
  | [a, b, c, d, e, f], _ => exact ⟨a, b, c, d, e, f, rfl⟩
abbrev arr8 (g : Nat) (l : List Nat) : Nat × Obj := (g, .cells (rows l).toArray T.trade_nets (0, 0))
theorem arr8_set {g k v : Nat} {l : List Nat} : ((g, Obj.cells ((rows l).toArray.setIfInBounds k (u8 v)) T.trade_nets (0, 0)) : Nat × Obj) = arr8 g (l.set k v) := by
  unfold arr8
  rw [rows_arr (α := Nat) rfl l k (u8 v) v rfl]
theorem at8 {l : List Nat} {k : Nat} (hk : k < l.length) : (rows l).toArray[k]? = some (u8 (l.getD k default)) := rows_at rfl hk rfl
theorem get_set8 {l : List Nat} {k j v : Nat} (hk : k < l.length) : (l.set k v).getD j default = if k = j then v else l.getD j default := by
  rw [List.getD_eq_getElem?_getD, List.getD_eq_getElem?_getD, List.getElem?_set]
  split
  · rfl
  · rfl
/-- The references from the first headings, as sets. -/
structure NetK (t : Tr) (k : Nat) (ns : List Nat) : Prop where
  len : ns.length = 6
  is : ∀ i, SetIs (ns.getD i default) (fun x => decide (i < k) && nextB t i x)
structure NetJ (t : Tr) (k : Nat) (l : List Int) (ns : List Nat) : Prop where
  len : ns.length = 6
  is : ∀ i, SetIs (ns.getD i default) (fun x => if i = k then decide ((x : Int) ∈ l) else decide (i < k) && nextB t i x)
theorem NetK.zero (t : Tr) : NetK t 0 (List.replicate 6 0) := ⟨rfl, fun i => by
  have e : (List.replicate 6 0).getD i (default : Nat) = 0 := by
    rw [List.getD_eq_getElem?_getD, List.getElem?_replicate]
    split <;> rfl
  rw [e]
  exact ⟨by decide, fun j => by simp⟩⟩
theorem NetK.start {t : Tr} {k : Nat} {ns : List Nat} (h : NetK t k ns) : NetJ t k [] ns := ⟨h.len, fun i => (h.is i).same fun j => by
  by_cases hi : i = k
  · rw [if_pos hi]; subst hi; simp
  · rw [if_neg hi]⟩
theorem NetJ.add {t : Tr} {k e : Nat} {l : List Int} {ns : List Nat} (h : NetJ t k l ns) (hk : k < 6) (he : e < 8) : NetJ t k (l ++ [(e : Int)]) (ns.set k (ns.getD k default ||| 2 ^ e)) := ⟨by rw [List.length_set]; exact h.len, fun i => by
  rw [get_set8 (by rw [h.len]; exact hk)]
  by_cases hi : k = i
  · subst hi
    rw [if_pos rfl]
    refine (h.is k).add he fun j => ?_
    rw [if_pos rfl, if_pos rfl, ← Bool.decide_or]
    refine decide_eq_decide.2 ?_
    rw [List.mem_append, List.mem_singleton]
    exact or_congr_right ⟨fun e => by omega, fun e => by omega⟩
  · rw [if_neg hi]
    exact (h.is i).same fun j => by rw [if_neg (fun e => hi e.symm), if_neg (fun e => hi e.symm)]⟩
theorem NetJ.done {cs : List Cl} {hs : List Hd} {k : Nat} {ns : List Nat} (hok : TrOK (trOf cs hs)) (hk : k < hs.length) (h : NetJ (trOf cs hs) k (nextL (hs.getD k default)) ns) : NetK (trOf cs hs) (k + 1) ns := ⟨h.len, fun i => (h.is i).same fun j => by
  by_cases hi : i = k
  · subst hi
    rw [if_pos rfl, nextB_of hok hk]
    simp
  · rw [if_neg hi]
    have e : decide (i < k + 1) = decide (i < k) := decide_eq_decide.2 (by omega)
    rw [e]⟩

set_option maxHeartbeats 1000000 in
theorem trade_list_nets_meets {A B oa ka : Option Addr} {ca cb oc kc gl : Nat} (cs : List Cl) (hs : List Hd) (hok : TrOK (trOf cs hs)) : Meets Try.prog F.trade_list_nets [.pointer (some ⟨gl, 0, none⟩)] { LI := [Row (some ⟨gl, 0, none⟩) [.slice A cs.length ca, .slice B hs.length cb, .slice oa cs.length oc, .slice ka hs.length kc], Row ka (rows (kindsN hs hs.length)), RowsF B hs Hd.row], inv := fun ns : List Nat => NetK (trOf cs hs) hs.length ns, val := fun ns => .agg (rows ns).toArray } := by
 refine meets_intro F.trade_list_nets_f rfl (Nat.le_of_ble_eq_true rfl) fun w0 => ?_
 refine hc_seq ?_
 refine hc_region ?_
 have h6h := hok.h6
 rw [hs_len] at h6h
 refine r_alloc rfl (fun _ => T.al_trade_nets _) fun g2 => ?_
 refine hl_nil ?_
 refine then_n ?_
 refine hc_seq ?_
 refine hc_region ?_
 refine r_alloc rfl (fun _ => T.al_trade_nets _) fun g3 => ?_
 refine hl_nil ?_
 refine then_n ?_
 refine hc_seq ?_
 refine hc_seq ?_
 refine hc_region ?_
 refine r_move rfl rfl ?_
 refine r_nilCheck rfl rfl ?_
 first | refine r_fieldAddr ⟨_, 3, none⟩ rfl rfl T.fa_trade_list_2 rfl ?_ | refine r_fieldAddr _ rfl rfl T.fa_trade_list_2 rfl ?_
 first | refine r_load rfl T.cell_L_trade_kind rfl (cell_own (by repeat constructor) rfl) ?_ | refine r_load rfl T.cell_L_trade_kind rfl (cell_blk (by repeat constructor) rfl) ?_ | refine r_load rfl T.cell_L_trade_kind rfl (cell_row (by repeat constructor) (rows_get0 (by omega) rfl)) ?_ | refine r_load rfl T.cell_L_trade_kind rfl (cell_row_f (by repeat constructor) (rows_get (by omega) rfl)) ?_ | refine r_load rfl T.cell_L_trade_kind rfl (cell_rowg (by repeat constructor) rfl) ?_
 refine r_len_sl rfl T.u_L_trade_kind rfl ?_
 refine r_move rfl rfl ?_
 refine hl_nil ?_
 refine then_n ?_
 refine hc_block ?_
 refine hc_loop (β := Nat × List Nat) ⟨fun x => x.1 ≤ hs.length ∧ NetK (trOf cs hs) x.1 x.2, fun x => [(0, .pointer (some ⟨gl, 0, none⟩)), (2, .pointer (some ⟨g2, 0, none⟩)), (3, .pointer (some ⟨g3, 0, none⟩)), (11, .slice ka hs.length kc), (12, int hs.length), (13, int x.1)], fun x => [arr8 g3 x.2, arr8 g2 (List.replicate 6 0)], fun _ => [Row (some ⟨gl, 0, none⟩) [.slice A cs.length ca, .slice B hs.length cb, .slice oa cs.length oc, .slice ka hs.length kc], Row ka (rows (kindsN hs hs.length)), RowsF B hs Hd.row]⟩ (fun x => hs.length - x.1) (0, List.replicate 6 0) ⟨Nat.zero_le _, .zero _⟩ ⟨rfl, rfl, rfl, rfl, rfl, rfl, trivial⟩ (List.Sublist.refl _) ⟨(by repeat constructor), (by repeat constructor), (by repeat constructor), trivial⟩ fun x hx => ?_
 obtain ⟨k, ns⟩ := x
 obtain ⟨hk, hN⟩ := hx
 simp only at hk hN
 refine hc_seq ?_
 refine hc_region ?_
 refine r_lss rfl rfl rfl ?_
 refine hl_nil ?_
 refine then_n ?_
 refine hc_seq ?_
 first | refine c_dec rfl (fun hb1 => ?_) (fun hb1 => ?_) | refine hc_cond rfl (fun hb1 => ?_) (fun hb1 => ?_)
 ·have hb1' := hb1; try simp at hb1'
  have hk2 : k < hs.length := by omega
  have hin := next_in hok hk2
  have hnle := next_len hok hk2
  generalize hnl : nextL (hs.getD k default) = nl at hin hnle
  refine hc_skip ?_
  refine then_n ?_
  refine hc_seq ?_
  refine hc_block ?_
  refine hc_seq ?_
  refine hc_region ?_
  refine r_move rfl rfl ?_
  refine r_elem (α := Kd) (kindsN hs hs.length) k rfl T.u_L_trade_kind T.sz_trade_kind rfl rfl rfl (by repeat constructor) (kinds_len (Nat.le_refl _)).symm (by rw [kinds_len (Nat.le_refl _)]; exact hk2) (by decide) ?_
  refine r_load (v := (kindOf (hs.getD k default)).v) rfl T.cell_trade_kind rfl (cell_row (by repeat constructor) (by rw [← kind_get hk2]; exact rows_get0 (by rw [kinds_len (Nat.le_refl _)]; exact hk2) rfl)) ?_
  refine r_assign rfl rfl ?_
  refine r_assign rfl rfl ?_
  refine hl_nil ?_
  refine then_n ?_
  refine hc_seq ?_
  refine hc_region ?_
  refine r_move rfl rfl ?_
  refine hl_innerF (p := (hs.getD k default)) (by repeat constructor) (getD_mem hk2) ?_
  refine r_next rfl rfl rfl m0 fun o => ?_
  rw [hnl]
  refine r_len_sl rfl T.u_ints rfl ?_
  refine r_move rfl rfl ?_
  refine hl_nil ?_
  refine then_n ?_
  refine hc_block ?_
  refine hc_loop (β := Nat × List Nat) ⟨fun x => x.1 ≤ nl.length ∧ NetJ (trOf cs hs) k (nl.take x.1) x.2, fun x => [(0, .pointer (some ⟨gl, 0, none⟩)), (2, .pointer (some ⟨g2, 0, none⟩)), (3, .pointer (some ⟨g3, 0, none⟩)), (11, .slice ka hs.length kc), (12, int hs.length), (13, int k), (4, int k), (19, .slice o.1 nl.length o.2), (20, int nl.length), (21, int x.1)], fun x => [arr8 g3 x.2, arr8 g2 (List.replicate 6 0)], fun _ => Row o.1 (rows nl) :: [Row (some ⟨gl, 0, none⟩) [.slice A cs.length ca, .slice B hs.length cb, .slice oa cs.length oc, .slice ka hs.length kc], Row ka (rows (kindsN hs hs.length)), RowsF B hs Hd.row]⟩ (fun x => nl.length - x.1) (0, ns) ⟨Nat.zero_le _, hN.start⟩ ⟨rfl, rfl, rfl, rfl, rfl, rfl, rfl, rfl, rfl, rfl, trivial⟩ (List.Sublist.refl _) ⟨(by repeat constructor), (by repeat constructor), (by repeat constructor), (by repeat constructor), trivial⟩ fun x hx => ?_
  clear hN
  obtain ⟨j, ns⟩ := x
  obtain ⟨hj, hN⟩ := hx
  simp only at hj hN
  have hkl : k < ns.length := by rw [hN.len]; omega
  refine hc_seq ?_
  refine hc_region ?_
  refine r_lss rfl rfl rfl ?_
  refine hl_nil ?_
  refine then_n ?_
  refine hc_seq ?_
  first | refine c_dec rfl (fun hb2 => ?_) (fun hb2 => ?_) | refine hc_cond rfl (fun hb2 => ?_) (fun hb2 => ?_)
  ·have hb2' := hb2; try simp at hb2'
   have hj2 : j < nl.length := by omega
   obtain ⟨e, he⟩ := Int.eq_ofNat_of_zero_le (hin _ (getD_mem hj2)).1
   have hel := (hin _ (getD_mem hj2)).2
   refine hc_skip ?_
   refine then_n ?_
   refine hc_seq ?_
   refine hc_block ?_
   refine hc_seq ?_
   refine hc_region ?_
   refine r_elem (α := Int) nl j rfl T.u_ints T.sz_int rfl rfl rfl (by repeat constructor) rfl hj2 (by decide) ?_
   refine r_load (v := int (nl.getD j default)) rfl T.cell_int rfl (cell_row (by repeat constructor) (rows_get0 hj2 rfl)) ?_
   refine r_assign rfl rfl ?_
   refine hl_nil ?_
   refine then_n ?_
   refine hc_region ?_
   refine r_move rfl rfl ?_
   refine r_move rfl rfl ?_
   refine r_indexArr k k rfl T.u_trade_nets T.sz_trade_heads rfl rfl rfl (by omega) (by omega) ?_
   refine r_load (v := u8 (ns.getD k default)) rfl T.cell_trade_heads rfl (cell_own (by repeat constructor) (at8 hkl)) ?_
   refine r_move (v := int (e : Int)) rfl (congrArg (fun z => some (int z)) he) ?_
   refine hl_call F.trade_heads_with_cb rfl rfl (trade_heads_with_meets (ns.getD k default) e (hN.is k).1 (by omega)) (List.Perm.refl _) trivial fun _ _ => ?_
   refine r_indexArr k k rfl T.u_trade_nets T.sz_trade_heads rfl rfl rfl (by omega) (by omega) ?_
   refine r_store rfl rfl (.refl _) T.sz_trade_heads (at8 hkl) (by rfl) ?_
   rw [arr8_set]
   refine hl_nil ?_
   refine inb_n ?_
   refine then_n ?_
   refine hc_region ?_
   refine r_add _ rfl rfl rfl rfl (by unfold I64; omega) ?_
   refine r_move rfl rfl ?_
   refine hl_nil ?_
   exact again _ (j + 1, ns.set k (ns.getD k default ||| 2 ^ e)) ⟨by show j + 1 ≤ nl.length; omega, by show NetJ _ _ (nl.take (j + 1)) _; rw [take_succ_getD nl j hj2, he]; exact hN.add (by omega) (by omega)⟩ (by show nl.length - (j + 1) < nl.length - j; omega) ⟨rfl, rfl, rfl, rfl, rfl, rfl, rfl, rfl, rfl, rfl, trivial⟩ (List.Sublist.refl _) ⟨(by repeat constructor), (by repeat constructor), (by repeat constructor), (by repeat constructor), trivial⟩
  ·have hb2' := hb2; try simp at hb2'
   have hj2 : j = nl.length := by omega
   subst hj2
   rw [List.take_length, ← hnl] at hN
   refine hc_exit ?_
   refine then_exit ?_
   refine then_exit ?_
   refine inb_hit ?_
   refine inb_n ?_
   refine then_n ?_
   refine hc_region ?_
   refine r_add _ rfl rfl rfl rfl (by unfold I64; omega) ?_
   refine r_move rfl rfl ?_
   refine hl_nil ?_
   exact again _ (k + 1, ns) ⟨by show k + 1 ≤ hs.length; omega, NetJ.done hok hk2 hN⟩ (by show hs.length - (k + 1) < hs.length - k; omega) ⟨rfl, rfl, rfl, rfl, rfl, rfl, trivial⟩ (List.Sublist.refl _) ⟨(by repeat constructor), (by repeat constructor), (by repeat constructor), trivial⟩
 ·have hb1' := hb1; try simp at hb1'
  have hk2 : k = hs.length := by omega
  subst hk2
  have hN2 := hN
  obtain ⟨a0, a1, a2, a3, a4, a5, rfl⟩ := six hN.len
  refine hc_exit ?_
  refine then_exit ?_
  refine then_exit ?_
  refine inb_hit ?_
  refine then_n ?_
  refine hc_seq ?_
  refine hc_region ?_
  first | refine r_loadA rfl T.row_trade_nets T.sz_trade_nets rfl (by repeat constructor) (by rfl) ?_ | refine r_loadB rfl T.row_trade_nets T.sz_trade_nets rfl (by repeat constructor) (by rfl) ?_ | refine r_loadS rfl T.row_trade_nets T.sz_trade_nets rfl rfl (cells_row (by repeat constructor) (rows_all (by omega))) ?_
  refine r_storeS rfl rfl (by first | exact .refl _ | exact perm2 _ _ _ | exact perm3 _ _ _ _ | exact perm4 _ _ _ _ _) T.sz_trade_nets (by rfl) (by rfl) ?_
  refine hl_nil ?_
  refine then_n ?_
  refine hc_ret ?_
  refine ret_row [a0, a1, a2, a3, a4, a5] rfl rfl T.row_trade_nets T.sz_trade_nets rfl m0 rfl rfl hN2 (List.nil_sublist _) trivial

set_option maxHeartbeats 1000000 in
theorem trade_nets_found_meets (ns : List Nat) (hn : ns.length = 6) (e : Edges) (he : ∀ i, SetIs (ns.getD i default) (e i)) (h s : Nat) (hh : h < 6) (hs : s ≤ 1000000) : Meets Try.prog F.trade_nets_found [.agg (rows ns).toArray, int h, int s] { inv := fun m : Nat => SetIs m (reachB 6 e h s), val := fun m => u8 m } := by
 refine meets_intro F.trade_nets_found_f rfl (Nat.le_of_ble_eq_true rfl) fun w0 => ?_
 refine hc_seq ?_
 refine hc_region ?_
 refine r_box rfl rfl fun gB => ?_
 refine r_assign rfl rfl ?_
 refine hl_nil ?_
 refine then_n ?_
 refine hc_seq ?_
 refine hc_region ?_
 refine r_move rfl rfl ?_
 refine hl_call F.trade_heads_with_cb rfl rfl (trade_heads_with_meets 0 h (by decide) (by omega)) (List.Perm.refl _) trivial fun _ _ => ?_
 refine r_assign rfl rfl ?_
 refine hl_nil ?_
 refine then_n ?_
 refine hc_seq ?_
 refine hc_seq ?_
 refine hc_region ?_
 refine r_move rfl rfl ?_
 refine r_move rfl rfl ?_
 refine hl_nil ?_
 refine then_n ?_
 refine hc_block ?_
 refine hc_loop (β := Nat × Nat) ⟨fun x => x.1 ≤ s ∧ SetIs x.2 (reachB 6 e h x.1), fun x => [(3, .pointer (some ⟨gB, 0, none⟩)), (7, u8 x.2), (13, int s), (14, int x.1)], fun _ => [arr8 gB ns], fun _ => []⟩ (fun x => s - x.1) (0, 0 ||| 2 ^ h) ⟨Nat.zero_le _, SetIs.add (p := fun _ => false) ⟨by decide, fun j => by simp⟩ (by omega) fun j => by rw [reachB, Bool.false_or]; exact decide_eq_decide.2 ⟨fun e => e.symm, fun e => e.symm⟩⟩ ⟨rfl, rfl, rfl, rfl, trivial⟩ (List.Sublist.refl _) trivial fun x hx => ?_
 obtain ⟨k, m⟩ := x
 obtain ⟨hk, hM⟩ := hx
 simp only at hk hM
 refine hc_seq ?_
 refine hc_region ?_
 refine r_lss rfl rfl rfl ?_
 refine hl_nil ?_
 refine then_n ?_
 refine hc_seq ?_
 first | refine c_dec rfl (fun hb1 => ?_) (fun hb1 => ?_) | refine hc_cond rfl (fun hb1 => ?_) (fun hb1 => ?_)
 ·have hb1' := hb1; try simp at hb1'
  have hk2 : k < s := by omega
  refine hc_skip ?_
  refine then_n ?_
  refine hc_seq ?_
  refine hc_block ?_
  refine hc_seq ?_
  refine hc_region ?_
  refine r_move rfl rfl ?_
  refine r_assign rfl rfl ?_
  refine hl_nil ?_
  refine then_n ?_
  refine hc_seq ?_
  refine hc_seq ?_
  refine hc_region ?_
  refine r_loadA (n := 6) rfl T.row_trade_nets T.sz_trade_nets rfl (by repeat constructor) (by rw [List.size_toArray, rows_len]; show ns.length * 1 = 6; omega) ?_
  refine r_move rfl rfl ?_
  refine hl_nil ?_
  refine then_n ?_
  refine hc_block ?_
  refine hc_loop (β := Nat × Nat) ⟨fun x => x.1 ≤ 6 ∧ SetIs x.2 (fun j => reachB 6 e h k j || (List.range x.1).any fun x => reachB 6 e h k x && e x j), fun x => [(3, .pointer (some ⟨gB, 0, none⟩)), (7, u8 m), (13, int s), (14, int k), (8, u8 x.2), (17, .agg (rows ns).toArray), (18, int x.1)], fun _ => [arr8 gB ns], fun _ => []⟩ (fun x => 6 - x.1) (0, m) ⟨Nat.zero_le _, hM.same fun j => by simp⟩ ⟨rfl, rfl, rfl, rfl, rfl, rfl, rfl, trivial⟩ (List.Sublist.refl _) trivial fun x hx => ?_
  obtain ⟨i, q⟩ := x
  obtain ⟨hi, hQ⟩ := hx
  simp only at hi hQ
  refine hc_seq ?_
  refine hc_region ?_
  refine r_lss rfl rfl rfl ?_
  refine hl_nil ?_
  refine then_n ?_
  refine hc_seq ?_
  first | refine c_dec rfl (fun hb2 => ?_) (fun hb2 => ?_) | refine hc_cond rfl (fun hb2 => ?_) (fun hb2 => ?_)
  ·have hb2' := hb2; try simp at hb2'
   have hi2 : i < 6 := by omega
   refine hc_skip ?_
   refine then_n ?_
   refine hc_seq ?_
   refine hc_block ?_
   refine hc_seq ?_
   refine hc_region ?_
   refine r_move rfl rfl ?_
   refine r_indexVal i rfl T.u_trade_nets T.sz_trade_heads T.u_trade_heads rfl rfl rfl hi2 (at8 (by omega)) ?_
   refine r_assign rfl rfl ?_
   refine r_assign rfl rfl ?_
   refine hl_nil ?_
   refine then_n ?_
   refine hc_seq ?_
   refine hc_region ?_
   refine r_move rfl rfl ?_
   refine r_move rfl rfl ?_
   refine hl_call F.trade_heads_has_cb rfl rfl (trade_heads_has_meets m i hM.1 (by omega)) (List.Perm.refl _) trivial fun _ _ => ?_
   refine hl_nil ?_
   refine then_n ?_
   first | refine c_dec rfl (fun hb3 => ?_) (fun hb3 => ?_) | refine hc_cond rfl (fun hb3 => ?_) (fun hb3 => ?_)
   ·have hb3' := hb3; try simp at hb3'
    rw [hM.2 i] at hb3
    refine hc_region ?_
    refine r_move rfl rfl ?_
    refine r_move rfl rfl ?_
    refine r_or8 rfl rfl rfl hQ.1 (he i).1 ?_
    refine r_assign rfl rfl ?_
    refine hl_nil ?_
    refine inb_n ?_
    refine then_n ?_
    refine hc_region ?_
    refine r_add _ rfl rfl rfl rfl (by unfold I64; omega) ?_
    refine r_move rfl rfl ?_
    refine hl_nil ?_
    exact again _ (i + 1, q ||| ns.getD i default) ⟨by show i + 1 ≤ 6; omega, (hQ.or (he i)).same fun j => by rw [any_succ, hb3, Bool.true_and, Bool.or_assoc]⟩ (by show 6 - (i + 1) < 6 - i; omega) ⟨rfl, rfl, rfl, rfl, rfl, rfl, rfl, trivial⟩ (List.Sublist.refl _) trivial
   ·have hb3' := hb3; try simp at hb3'
    rw [hM.2 i] at hb3
    refine hc_skip ?_
    refine inb_n ?_
    refine then_n ?_
    refine hc_region ?_
    refine r_add _ rfl rfl rfl rfl (by unfold I64; omega) ?_
    refine r_move rfl rfl ?_
    refine hl_nil ?_
    exact again _ (i + 1, q) ⟨by show i + 1 ≤ 6; omega, hQ.same fun j => by rw [any_succ, hb3, Bool.false_and, Bool.or_false]⟩ (by show 6 - (i + 1) < 6 - i; omega) ⟨rfl, rfl, rfl, rfl, rfl, rfl, rfl, trivial⟩ (List.Sublist.refl _) trivial
  ·have hb2' := hb2; try simp at hb2'
   have hi2 : i = 6 := by omega
   subst hi2
   refine hc_exit ?_
   refine then_exit ?_
   refine then_exit ?_
   refine inb_hit ?_
   refine then_n ?_
   refine hc_region ?_
   refine r_move rfl rfl ?_
   refine r_assign rfl rfl ?_
   refine hl_nil ?_
   refine inb_n ?_
   refine then_n ?_
   refine hc_region ?_
   refine r_add _ rfl rfl rfl rfl (by unfold I64; omega) ?_
   refine r_move rfl rfl ?_
   refine hl_nil ?_
   exact again _ (k + 1, q) ⟨by show k + 1 ≤ s; omega, hQ.same fun j => by rw [reachB]⟩ (by show s - (k + 1) < s - k; omega) ⟨rfl, rfl, rfl, rfl, trivial⟩ (List.Sublist.refl _) trivial
 ·have hb1' := hb1; try simp at hb1'
  have hk2 : k = s := by omega
  subst hk2
  refine hc_exit ?_
  refine then_exit ?_
  refine then_exit ?_
  refine inb_hit ?_
  refine then_n ?_
  refine hc_seq ?_
  refine hc_region ?_
  refine r_move rfl rfl ?_
  refine r_assign rfl rfl ?_
  refine hl_nil ?_
  refine then_n ?_
  refine hc_ret ?_
  exact ret1 m rfl rfl rfl hM (List.nil_sublist _) trivial

end Go.Proofs.Ytlpgheniajdkfaa
