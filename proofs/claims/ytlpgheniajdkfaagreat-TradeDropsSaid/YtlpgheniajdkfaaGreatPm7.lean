/- A heading dropped. -/
import Derived.Test.YtlpgheniajdkfaaGreatPm5
namespace Go.Proofs.YtlpgheniajdkfaaGreat
open Go Go.W
set_option linter.unusedVariables false
set_option linter.unusedSimpArgs false
set_option maxRecDepth 20000
attribute [local irreducible] HL HC HQ HB Row Rows2 Blk Facts

theorem T.zi_ints : (Tryz.prog.info? T.int).map (fun i => (i.zero, i.size, i.bytes)) = some (some (.int .i64 0), 1, 8) := by kernel_rfl
theorem T.zi_L_bool : (Tryz.prog.info? T.bool).map (fun i => (i.zero, i.size, i.bytes)) = some (some (.bool false), 1, 1) := by kernel_rfl



theorem arr_set (l : List Int) (k : Nat) (v : Int) : (rows l).toArray.setIfInBounds (0 + k * 1) (int v) = (rows (l.set k v)).toArray := by
  rw [← rows_set1 rfl (int v) v rfl]
  simp
theorem arr_take (l : List Int) : (rows l).toArray.toList.take (l.length * 1) = rows l := by
  have h1 : (rows l).length = l.length := by rw [rows_len]; exact Nat.mul_one _
  rw [List.take_of_length_le (by simp [h1])]


def fallsB (hs : List PH) (g : Nat → Bool) (i : Nat) : Bool :=
  if ¬ (hs.getD i default).2.2.1 = -1 then g (hs.getD i default).2.2.1.toNat
  else if ¬ (hs.getD i default).2.1 = -1 then false
  else (hs.getD i default).2.2.2.all fun a => g a.toNat
def goneS (hs : List PH) (g : Nat → Bool) (k : Nat) : Nat → Bool := fun j => g j || (decide (k = j) && fallsB hs g k)
def goneK (hs : List PH) (g : Nat → Bool) : Nat → Nat → Bool
  | 0 => g
  | k + 1 => goneS hs (goneK hs g k) k
def goneR (hs : List PH) (g : Nat → Bool) : Nat → Nat → Bool
  | 0 => g
  | r + 1 => goneK hs (goneR hs g r) hs.length
/-- What is gone in the end. -/
def goneB (hs : List PH) (i : Nat) : Nat → Bool := goneR hs (fun j => decide (i = j)) hs.length
theorem goneS_up {hs : List PH} {g : Nat → Bool} {k j : Nat} (h : g j = true) : goneS hs g k j = true := by unfold goneS; rw [h]; rfl
/-- Nothing more falls. -/
def Shut (hs : List PH) (g : Nat → Bool) : Prop := ∀ k, k < hs.length → fallsB hs g k = true → g k = true
def cntB (n : Nat) (g : Nat → Bool) : Nat := ((List.range n).filter g).length
/-! ### What is kept -/
def keepK (g : Nat → Bool) (n : Nat) : List Nat := (List.range n).filter fun k => !g k
def numN (g : Nat → Bool) (k : Nat) : Nat := (keepK g k).length
theorem keep_succ (g : Nat → Bool) (k : Nat) : keepK g (k + 1) = if g k = true then keepK g k else keepK g k ++ [k] := by
  unfold keepK
  rw [List.range_succ, List.filter_append, List.filter_cons, List.filter_nil]
  cases h : g k <;> simp
theorem num_succ (g : Nat → Bool) (k : Nat) : numN g (k + 1) = if g k = true then numN g k else numN g k + 1 := by
  unfold numN
  rw [keep_succ]
  split
  · rfl
  · rw [List.length_append]; rfl
theorem num_le (g : Nat → Bool) (k : Nat) : numN g k ≤ k := by
  unfold numN keepK
  exact Nat.le_trans (List.length_filter_le _ _) (by simp)
/-! ### The trades that remain -/
def dropA (g : Nat → Bool) (l : List Int) : List Int := (l.filter fun a => !g a.toNat).map fun a => (numN g a.toNat : Int)
def dropP (g : Nat → Bool) (h : PH) : PH := (h.1, h.2.1, (if 0 ≤ h.2.2.1 then (numN g h.2.2.1.toNat : Int) else h.2.2.1), dropA g h.2.2.2)
def dropHs (hs : List PH) (g : Nat → Bool) (n : Nat) : List PH := (keepK g n).map fun k => dropP g (hs.getD k default)
abbrev dropT (t : Tr) (i : Nat) : Tr := ⟨t.cs, dropHs t.hs (goneB t.hs i) t.hs.length⟩
theorem dropHs_len (hs : List PH) (g : Nat → Bool) (n : Nat) : (dropHs hs g n).length = numN g n := List.length_map ..
theorem dropHs_succ (hs : List PH) (g : Nat → Bool) (k : Nat) : dropHs hs g (k + 1) = if g k = true then dropHs hs g k else dropHs hs g k ++ [dropP g (hs.getD k default)] := by
  unfold dropHs
  rw [keep_succ]
  split
  · rfl
  · rw [List.map_append]; rfl
theorem also_in {t : Tr} {k : Nat} (hh : HeadOK t k) : ∀ a ∈ (t.hs.getD k default).2.2.2, 0 ≤ a ∧ a < (t.hs.length : Int) ∧ ¬ a = (k : Int) := by
  intro a ha
  obtain ⟨q, hq, rfl⟩ := List.getElem_of_mem ha
  have h := also_ok (hh.a q hq)
  rw [getD_at hq] at h
  exact ⟨h.1, h.2.1, h.2.2.1⟩

theorem zv_idx (w : World) : (zeroValue T.trade_index).run Tryz.prog w = .ok (.agg #[.slice none 0 0]) w := by kernel_rfl
def Kd.isI : Kd → Bool | .idx _ => true | _ => false
def Kd.ixs : Kd → Sl Int | .idx a => a | _ => ⟨none, 0, []⟩
section
variable {c : Cx} {Q : Exit → Act → World → Prop} {fr : Fr} {hp : Hp} {L : List Fact} {ops : Array Oper} {rest : List Oper} {d : Tmp} {ty : TypeId} {pos : String} {af : Array Edge}
theorem r_asI {xt : TypeId} {x : Operand} {kd : Kd} (hd : Nat.blt d c.n = true) (hP : c.P = Tryz.prog) (hx : ev fr x = some kd.v) (k : HL c ops Q rest ((d, .tuple #[.agg #[.slice kd.ixs.a kd.ixs.l.length kd.ixs.c], .bool kd.isI]) :: fr) hp L) : HL c ops Q (⟨some d, .typeAssert x xt T.trade_index true, ty, pos, af, none⟩ :: rest) fr hp L := by
  have ht : NoI c.P T.trade_index := by rw [hP]; exact ⟨_, Tryz.underlying159, rfl⟩
  have hz : ∀ w, (zeroValue T.trade_index).run c.P w = .ok (.agg #[.slice none 0 0]) w := by rw [hP]; exact zv_idx
  cases kd with
  | idx b => exact r_assertY hd ht hx k
  | art a b => exact r_assertN hd ht hx rfl hz k
  | ptr s => exact r_assertN hd ht hx rfl hz k
end
theorem falls_at {hs : List Hd} {g : Nat → Bool} {k : Nat} (hk : k < hs.length) : fallsB (hs.map Hd.p) g k = if ¬ (hs.getD k default).2.2.1 = -1 then g (hs.getD k default).2.2.1.toNat else if ¬ (hs.getD k default).2.1 = -1 then false else (hs.getD k default).2.2.2.l.all fun a => g a.toNat := by
  unfold fallsB
  rw [hd_get hk]
  rfl
theorem falls_ptr {hs : List Hd} {g : Nat → Bool} {k : Nat} (hk : k < hs.length) (h : (kindOf (hs.getD k default)).isP = true) : fallsB (hs.map Hd.p) g k = g (kindOf (hs.getD k default)).see.toNat := by
  rw [isP_of, decide_eq_true_eq] at h
  rw [falls_at hk, if_pos h, see_of h]
theorem idx_of {h : Hd} (hI : (kindOf h).isI = true) : h.2.2.1 = -1 ∧ h.2.1 = -1 ∧ (kindOf h).ixs = h.2.2.2 := by
  unfold kindOf at *
  split at hI
  · cases hI
  · rename_i h1
    split at hI
    · cases hI
    · rename_i h2
      rw [if_neg h1, if_neg h2]
      exact ⟨Classical.not_not.1 h1, Classical.not_not.1 h2, rfl⟩
theorem falls_idx {hs : List Hd} {g : Nat → Bool} {k : Nat} (hk : k < hs.length) (h : (kindOf (hs.getD k default)).isI = true) : fallsB (hs.map Hd.p) g k = (hs.getD k default).2.2.2.l.all fun a => g a.toNat := by
  obtain ⟨h1, h2, _⟩ := idx_of h
  rw [falls_at hk, if_neg (not_not_intro h1), if_neg (not_not_intro h2)]
theorem falls_art {hs : List Hd} {g : Nat → Bool} {k : Nat} (hk : k < hs.length) (h : (kindOf (hs.getD k default)).isP = false) (h2 : (kindOf (hs.getD k default)).isI = false) : fallsB (hs.map Hd.p) g k = false := by
  rw [isP_of, decide_eq_false_iff_not] at h
  rw [falls_at hk, if_neg h]
  split
  · rfl
  · rename_i h3
    unfold kindOf at h2
    rw [if_neg h, if_neg h3] at h2
    cases h2
theorem gone_t {H : List PH} {g : Nat → Bool} {k : Nat} (h : fallsB H (goneK H g k) k = true) (j : Nat) : goneK H g (k + 1) j = (goneK H g k j || decide (k = j)) := by
  show (_ || (_ && _)) = _
  rw [h, Bool.and_true]
theorem gone_f {H : List PH} {g : Nat → Bool} {k : Nat} (h : fallsB H (goneK H g k) k = false) (j : Nat) : goneK H g (k + 1) j = goneK H g k j := by
  show (_ || (_ && _)) = _
  rw [h, Bool.and_false, Bool.or_false]
theorem all_gone {m : Nat} {p : Nat → Bool} (h : SetIs m p) (l : List Int) : (l.all fun a => m.testBit a.toNat) = l.all fun a => p a.toNat := by
  congr 1
  funext a
  exact h.2 _
theorem all_dec {z : Int} {b : Bool} (hz : 0 ≤ z ↔ b = false) : decide (0 ≤ z) = !b := by
  cases b with
  | true => exact decide_eq_false (fun h => by have := hz.1 h; cases this)
  | false => exact decide_eq_true (hz.2 rfl)
def numL (g : Nat → Bool) (k n : Nat) : List Int := (List.range n).map fun j => if j < k then (numN g j : Int) else 0
theorem numL_len (g : Nat → Bool) (k n : Nat) : (numL g k n).length = n := by unfold numL; rw [List.length_map, List.length_range]
theorem numL_get {g : Nat → Bool} {k n i : Nat} (h : i < (numL g k n).length) : (numL g k n)[i] = if i < k then (numN g i : Int) else 0 := by
  have e : (numL g k n)[i]? = some (if i < k then (numN g i : Int) else 0) := by
    unfold numL
    rw [List.getElem?_map, List.getElem?_range (by rw [numL_len] at h; exact h)]
    rfl
  rw [List.getElem?_eq_getElem h] at e
  exact Option.some.inj e
theorem numL_zero (g : Nat → Bool) (n : Nat) : numL g 0 n = List.replicate n 0 := by
  refine List.ext_getElem (by rw [numL_len, List.length_replicate]) fun i h1 h2 => ?_
  rw [numL_get, List.getElem_replicate, if_neg (by omega)]
theorem numL_set {g : Nat → Bool} {k n : Nat} (hk : k < n) : (numL g k n).set k (numN g k : Int) = numL g (k + 1) n := by
  refine List.ext_getElem (by rw [List.length_set, numL_len, numL_len]) fun i h1 h2 => ?_
  rw [List.getElem_set, numL_get, numL_get]
  by_cases e : k = i
  · subst e; rw [if_pos rfl, if_pos (by omega)]
  · rw [if_neg e]
    by_cases e2 : i < k
    · rw [if_pos e2, if_pos (by omega)]
    · rw [if_neg e2, if_neg (by omega)]
theorem numL_at {g : Nat → Bool} {j n : Nat} (hj : j < n) : (numL g n n).getD j default = (numN g j : Int) := by
  rw [getD_at (by rw [numL_len]; exact hj), numL_get, if_pos hj]
theorem dropA_succ (g : Nat → Bool) (l : List Int) {j : Nat} (hj : j < l.length) : dropA g (l.take (j + 1)) = if g (l.getD j default).toNat = true then dropA g (l.take j) else dropA g (l.take j) ++ [(numN g (l.getD j default).toNat : Int)] := by
  unfold dropA
  rw [take_succ_getD l j hj, List.filter_append, List.map_append]
  generalize l.getD j default = a
  by_cases h : g a.toNat = true
  · rw [if_pos h]; simp [h]
  · rw [if_neg h]; simp [h]
theorem dropA_len (g : Nat → Bool) (l : List Int) : (dropA g l).length ≤ l.length := by
  unfold dropA
  rw [List.length_map]
  exact List.length_filter_le _ _
theorem drop_ha {hs ys : List Hd} {g : Nat → Bool} {n : Nat} (ha : ∀ h ∈ hs, h.2.2.2.l.length ≤ 1000000) (hn : n ≤ hs.length) (hy : ys.map Hd.p = dropHs (hs.map Hd.p) g n) : ∀ h ∈ ys, h.2.2.2.l.length ≤ 1000000 := by
  intro h hh
  have h1 : h.p ∈ dropHs (hs.map Hd.p) g n := by rw [← hy]; exact List.mem_map_of_mem hh
  unfold dropHs at h1
  obtain ⟨k, hk, e⟩ := List.mem_map.1 h1
  unfold keepK at hk
  rw [List.mem_filter, List.mem_range] at hk
  rw [hd_get (by omega)] at e
  have h2 : dropA g (hs.getD k default).2.2.2.l = h.2.2.2.l := congrArg (fun q : PH => q.2.2.2) e
  rw [← h2]
  have := dropA_len g (hs.getD k default).2.2.2.l
  have := ha _ (getD_mem (show k < hs.length by omega))
  omega
abbrev OutR := List Hd × OutC × OutC
/-- What is given back: the trades t, in rows of one's own. -/
structure TrIs (t : Tr) (x : OutR) : Prop where
  p : x.1.map Hd.p = t.hs
  a : t.cs.length ≤ x.2.1.2
  b : x.1.length ≤ x.2.2.2
def dropE (t : Tr) (h : Int) : Tr × Int := if ¬ askE t [h] = 0 then (⟨[], []⟩, askE t [h]) else (dropT t h.toNat, 0)

theorem trade_list_drop_1_meets {g : Nat} (m a : Nat) (hm : m < 256) (ha : a < 8) : Meets Tryz.prog F.trade_list_drop_1 [int a, .pointer (some ⟨g, 0, none⟩)] { hpI := [(g, Obj.cells #[u8 m] T.trade_heads (0, 0))], val := fun _ : Unit => .bool (!m.testBit a), hpO := fun _ => [(g, Obj.cells #[u8 m] T.trade_heads (0, 0))] } := by
 refine meets_intro F.trade_list_drop_1_f rfl (Nat.le_of_ble_eq_true rfl) fun w0 => ?_
 refine hc_seq (hc_region (r_assign rfl rfl (hl_nil (then_n (hc_seq (hc_region ?_))))))
 refine r_load rfl T.cell_trade_heads rfl (cell_own (by repeat constructor) rfl) ?_
 refine r_move rfl rfl ?_
 refine hl_call F.trade_heads_has_cb rfl rfl (trade_heads_has_meets m a hm ha) (List.Perm.refl _) trivial fun _ _ => ?_
 refine r_not rfl rfl (r_assign rfl rfl (hl_nil (then_n (hc_ret ?_))))
 exact ret1 () rfl rfl rfl trivial (List.Sublist.refl _) trivial

theorem slices_IndexFunc_ints_meets {A : Option Addr} {cp g : Nat} (l : List Int) (m : Nat) (hm : m < 256) (hl : l.length ≤ 1000000) (hr : ∀ a ∈ l, 0 ≤ a ∧ a < 8) : Meets Tryz.prog F.slices_IndexFunc_ints [.slice A l.length cp, .func (.func F.trade_list_drop_1) #[] #[.pointer (some ⟨g, 0, none⟩)]] { hpI := [(g, Obj.cells #[u8 m] T.trade_heads (0, 0))], LI := [Row A (rows l)], inv := fun z : Int => (0 ≤ z ↔ (l.all fun a => m.testBit a.toNat) = false), val := fun z => int z, hpO := fun _ => [(g, Obj.cells #[u8 m] T.trade_heads (0, 0))] } := by
 refine meets_intro F.slices_IndexFunc_ints_f rfl (Nat.le_of_ble_eq_true rfl) fun w0 => ?_
 refine hc_seq (hc_region (r_assign rfl rfl (hl_nil (then_n (hc_seq (hc_seq (hc_region (r_move rfl rfl ?_))))))))
 refine r_len_sl rfl T.u_ints rfl ?_
 refine r_move rfl rfl (hl_nil (then_n (hc_block ?_)))
 refine hc_loop (β := Nat) ⟨fun k => k ≤ l.length ∧ ((l.take k).all fun a => m.testBit a.toNat) = true, fun k => [(0, .slice A l.length cp), (1, .func (.func F.trade_list_drop_1) #[] #[.pointer (some ⟨g, 0, none⟩)]), (7, int l.length), (8, int k)], fun _ => [(g, Obj.cells #[u8 m] T.trade_heads (0, 0))], fun _ => [Row A (rows l)]⟩ (fun k => l.length - k) 0 ⟨Nat.zero_le _, rfl⟩ ⟨rfl, rfl, rfl, rfl, trivial⟩ (List.Sublist.refl _) ⟨(by repeat constructor), trivial⟩ fun k hk => ?_
 obtain ⟨hk, ht⟩ := hk
 refine hc_seq (hc_region (r_lss rfl rfl rfl (hl_nil (then_n (hc_seq ?_)))))
 refine c_dec rfl (fun hb1 => ?_) (fun hb1 => ?_)
 ·have hb1' := hb1; try simp at hb1'
  have hk2 : k < l.length := by omega
  have hak := hr _ (getD_mem hk2)
  obtain ⟨a, ha⟩ := Int.eq_ofNat_of_zero_le hak.1
  refine hc_skip (then_n (hc_seq (hc_block (hc_seq (hc_region (r_move rfl rfl (r_assign rfl rfl (hl_nil (then_n (hc_seq (hc_region ?_)))))))))))
  refine r_move rfl rfl (r_move rfl rfl (r_move rfl rfl ?_))
  refine r_elem (α := Int) l k rfl T.u_ints T.sz_int rfl rfl rfl (by repeat constructor) rfl hk2 (by decide) ?_
  refine r_load (v := int (a : Int)) rfl T.cell_int rfl (cell_row (by repeat constructor) (rows_get0 hk2 (by rw [← ha]; rfl))) ?_
  refine hl_callv (vs := [int (a : Int)]) (cap := [.pointer (some ⟨g, 0, none⟩)]) F.trade_list_drop_1_cb rfl rfl rfl (trade_list_drop_1_meets m a hm (by omega)) (List.Perm.refl _) trivial fun _ _ => ?_
  refine hl_nil (then_n ?_)
  refine hc_cond rfl (fun hb2 => ?_) (fun hb2 => ?_)
  ·have hb2' := hb2; try simp at hb2'
   have hx : m.testBit a = false := by simpa using hb2
   refine hc_seq (hc_region (r_move rfl rfl (r_assign rfl rfl (hl_nil (then_n (hc_ret (inb_ret (then_ret (then_ret (inb_ret (then_ret ?_)))))))))))
   exact ret1 (k : Int) rfl rfl rfl ⟨fun _ => List.all_eq_false.2 ⟨_, getD_mem hk2, by rw [ha, Int.toNat_natCast, hx]; decide⟩, fun _ => by omega⟩ (List.Sublist.refl _) trivial
  ·have hb2' := hb2; try simp at hb2'
   have hx : m.testBit a = true := by simpa using hb2
   refine hc_skip (inb_n (then_n (hc_region ?_)))
   refine r_add _ rfl rfl rfl rfl (by unfold I64; omega) ?_
   refine r_move rfl rfl (hl_nil ?_)
   exact again _ (k + 1) ⟨by omega, by rw [take_succ_getD l k hk2, List.all_append, ht, Bool.true_and, List.all_cons, ha, Int.toNat_natCast, hx]; rfl⟩ (by show l.length - (k + 1) < l.length - k; omega) ⟨rfl, rfl, rfl, rfl, trivial⟩ (List.Sublist.refl _) ⟨(by repeat constructor), trivial⟩
 ·have hb1' := hb1; try simp at hb1'
  have hk2 : k = l.length := by omega
  subst hk2
  rw [List.take_length] at ht
  refine hc_exit (then_exit (then_exit (inb_hit (then_n (hc_seq (hc_region (r_assign rfl rfl (hl_nil (then_n (hc_ret ?_))))))))))
  exact ret1 (-1) rfl rfl rfl ⟨fun h => by omega, fun h => by rw [ht] at h; cases h⟩ (List.Sublist.refl _) trivial

theorem slices_ContainsFunc_ints_meets {A : Option Addr} {cp g : Nat} (l : List Int) (m : Nat) (hm : m < 256) (hl : l.length ≤ 1000000) (hr : ∀ a ∈ l, 0 ≤ a ∧ a < 8) : Meets Tryz.prog F.slices_ContainsFunc_ints [.slice A l.length cp, .func (.func F.trade_list_drop_1) #[] #[.pointer (some ⟨g, 0, none⟩)]] { hpI := [(g, Obj.cells #[u8 m] T.trade_heads (0, 0))], LI := [Row A (rows l)], val := fun _ : Unit => .bool (!(l.all fun a => m.testBit a.toNat)), hpO := fun _ => [(g, Obj.cells #[u8 m] T.trade_heads (0, 0))] } := by
 refine meets_intro F.slices_ContainsFunc_ints_f rfl (Nat.le_of_ble_eq_true rfl) fun w0 => ?_
 refine hc_seq (hc_region (r_assign rfl rfl (hl_nil (then_n (hc_seq (hc_region (r_move rfl rfl (r_move rfl rfl ?_))))))))
 refine hl_call F.slices_IndexFunc_ints_cb rfl rfl (slices_IndexFunc_ints_meets l m hm hl hr) (List.Perm.refl _) ⟨(by repeat constructor), trivial⟩ fun z hz => ?_
 refine r_geq rfl rfl rfl (r_assign rfl rfl (hl_nil (then_n (hc_ret ?_))))
 exact ret1 () rfl (congrArg (fun b => some (Value.bool b)) (all_dec hz)) rfl trivial (List.Sublist.refl _) trivial

theorem slices_Clonex_meets {A : Option Addr} {c : Nat} (l : List Cl) (hl : l.length ≤ 1000000) : Meets Tryz.prog F.slices_Clonex [.slice A l.length c] { LI := [Row A (rows l)], inv := fun x : OutC × Hp => Grow T.api_Class 2 x.1.1 l.length x.1.2 (rows l) x.2, val := fun x => .slice x.1.1 l.length x.1.2, hpO := fun x => x.2 } := by
 refine meets_intro F.slices_Clonex_f rfl (Nat.le_of_ble_eq_true rfl) fun w0 => ?_
 refine hc_seq (hc_region (r_assign rfl rfl (hl_nil (then_n (hc_seq (hc_seq (hc_region (r_move rfl rfl (r_eqlnil rfl T.u_L_api_Class rfl rfl (hl_nil (then_n ?_)))))))))))
 refine hc_cond rfl (fun hb1 => ?_) (fun hb1 => ?_)
 ·have hb1' := hb1; try simp at hb1'
  have hA : A = none := by cases A with | none => rfl | some a => cases hb1
  subst hA
  refine hc_pure (φ := l = []) (fun w hw => row_none (by decide) (hw.fs (Row none (rows l)) m0)) fun hl0 => ?_
  subst hl0
  refine hc_seq (hc_region (r_assign rfl rfl (hl_nil (then_n (hc_ret (then_ret ?_))))))
  exact ret1 ((none, 0), []) rfl rfl rfl (Grow.nil _ _) (.refl _) trivial
 ·have hb1' := hb1; try simp at hb1'
  refine hc_skip (then_n (hc_seq (hc_region ?_)))
  refine r_buildSlice _ rfl rfl (fun _ => T.bs_L_api_Class_0 ..) fun gS => ?_
  refine r_move rfl rfl ?_
  refine r_append l.length (rows l) T.el_L_api_Class rfl rfl rfl (Grow.new (cs := #[]) (n := 0) rfl (Nat.zero_le _)) (.refl _) (Src.row m0 (rows_len l) (rows_one l) (by decide)) (by omega) rfl (by unfold maxLen; omega) (by omega) fun A' c' og' hG => ?_
  refine r_assign rfl rfl (hl_nil (then_n (hc_ret ?_)))
  exact ret1 ((A', c'), og') rfl rfl rfl hG (List.sublist_append_left _ _) trivial

set_option maxHeartbeats 2000000 in
theorem trade_list_drop_meets {A B oa ka : Option Addr} {ca cb oc kc gl : Nat} (cs : List Cl) (hs : List Hd) (i : Nat) (hok : TrOK (trOf cs hs)) (hi : i < hs.length) (hca : cs.length ≤ ca) (ha : ∀ h ∈ hs, h.2.2.2.l.length ≤ 1000000) : Meets Tryz.prog F.trade_list_drop [.pointer (some ⟨gl, 0, none⟩), int i] { LI := [Row (some ⟨gl, 0, none⟩) [.slice A cs.length ca, .slice B hs.length cb, .slice oa cs.length oc, .slice ka hs.length kc], Row ka (rows (kindsN hs hs.length)), Row A (rows cs), RowsF B hs Hd.row], inv := fun x : OutR => TrIs (dropT (trOf cs hs) i) x, val := fun x => .agg #[.slice x.2.1.1 cs.length x.2.1.2, .slice x.2.2.1 x.1.length x.2.2.2], LO := fun x => [Row x.2.1.1 (rows cs), RowsF x.2.2.1 x.1 Hd.row] } := by
 refine meets_intro F.trade_list_drop_f rfl (Nat.le_of_ble_eq_true rfl) fun w0 => ?_
 refine hc_seq (hc_region ?_)
 refine r_alloc rfl (fun _ => T.al_api_Trades _) fun gR => ?_
 refine hl_nil (then_n (hc_seq ?_))
 have h6h := hok.h6
 have h6 : cs.length ≤ 6 := hok.c6
 have hln := hs_len cs hs
 rw [hln] at h6h
 have hS := sees_ok hok
 have hH : (hs.map Hd.p).length = hs.length := List.length_map ..
 refine hc_region (r_move rfl rfl ?_)
 refine hl_call F.trade_heads_with_cb rfl rfl (trade_heads_with_meets 0 i (by decide) (by omega)) (List.Perm.refl _) trivial fun _ _ => ?_
 refine r_alloc rfl (fun _ => T.al_trade_heads _) fun g5 => ?_
 refine r_store rfl rfl (.refl _) T.sz_trade_heads (by rfl) (by rfl) ?_
 refine hl_nil (then_n (hc_seq (hc_seq (hc_region (r_move rfl rfl (r_nilCheck rfl rfl ?_))))))
 refine r_fieldAddr ⟨_, 0, none⟩ rfl rfl T.fa_trade_list_0 rfl ?_
 refine r_fieldAddr ⟨_, 1, none⟩ rfl rfl T.fa_api_Trades_1 rfl ?_
 refine r_load rfl T.cell_L_api_Head rfl (cell_rowg (by repeat constructor) rfl) ?_
 refine r_len_sl rfl T.u_L_api_Head rfl ?_
 refine r_move rfl rfl (hl_nil (then_n (hc_block ?_)))
 refine hc_loop (β := Nat × Nat) ⟨fun x => x.1 ≤ hs.length ∧ SetIs x.2 (goneR (hs.map Hd.p) (fun j => decide (i = j)) x.1), fun x => [(0, .pointer (some ⟨gl, 0, none⟩)), (4, .pointer (some ⟨gR, 0, none⟩)), (5, .pointer (some ⟨g5, 0, none⟩)), (26, int hs.length), (27, int x.1)], fun x => [(g5, Obj.cells #[u8 x.2] T.trade_heads (0, 0)), (gR, Obj.cells #[.slice none 0 0, .slice none 0 0] T.api_Trades (0, 0))], fun _ => [Row (some ⟨gl, 0, none⟩) [.slice A cs.length ca, .slice B hs.length cb, .slice oa cs.length oc, .slice ka hs.length kc], Row ka (rows (kindsN hs hs.length)), Row A (rows cs), RowsF B hs Hd.row]⟩ (fun x => hs.length - x.1) (0, 0 ||| 2 ^ i) ⟨Nat.zero_le _, SetIs.add (p := fun _ => false) ⟨by decide, fun j => by simp⟩ (by omega) fun j => rfl⟩ ⟨rfl, rfl, rfl, rfl, rfl, trivial⟩ (List.Sublist.refl _) ⟨(by repeat constructor), (by repeat constructor), (by repeat constructor), (by repeat constructor), trivial⟩ fun x hx => ?_
 obtain ⟨r, m⟩ := x
 obtain ⟨hr, hM⟩ := hx
 simp only at hr hM
 refine hc_seq (hc_region (r_lss rfl rfl rfl (hl_nil (then_n (hc_seq ?_)))))
 refine c_dec rfl (fun hb1 => ?_) (fun hb1 => ?_)
 ·have hb1' := hb1; try simp at hb1'
  have hr2 : r < hs.length := by omega
  refine hc_skip (then_n (hc_seq (hc_block (hc_seq (hc_region (r_move rfl rfl (r_nilCheck rfl rfl ?_)))))))
  refine r_fieldAddr ⟨_, 3, none⟩ rfl rfl T.fa_trade_list_2 rfl ?_
  refine r_load rfl T.cell_L_trade_kind rfl (cell_rowg (by repeat constructor) rfl) ?_
  refine r_len_sl rfl T.u_L_trade_kind rfl ?_
  refine r_move rfl rfl (hl_nil (then_n (hc_block ?_)))
  refine hc_loop (β := Nat × Nat) ⟨fun x => x.1 ≤ hs.length ∧ SetIs x.2 (goneK (hs.map Hd.p) (goneR (hs.map Hd.p) (fun j => decide (i = j)) r) x.1), fun x => [(0, .pointer (some ⟨gl, 0, none⟩)), (4, .pointer (some ⟨gR, 0, none⟩)), (5, .pointer (some ⟨g5, 0, none⟩)), (26, int hs.length), (27, int r), (32, .slice ka hs.length kc), (33, int hs.length), (34, int x.1)], fun x => [(g5, Obj.cells #[u8 x.2] T.trade_heads (0, 0)), (gR, Obj.cells #[.slice none 0 0, .slice none 0 0] T.api_Trades (0, 0))], fun _ => [Row (some ⟨gl, 0, none⟩) [.slice A cs.length ca, .slice B hs.length cb, .slice oa cs.length oc, .slice ka hs.length kc], Row ka (rows (kindsN hs hs.length)), Row A (rows cs), RowsF B hs Hd.row]⟩ (fun x => hs.length - x.1) (0, m) ⟨Nat.zero_le _, hM⟩ ⟨rfl, rfl, rfl, rfl, rfl, rfl, rfl, rfl, trivial⟩ (List.Sublist.refl _) ⟨(by repeat constructor), (by repeat constructor), (by repeat constructor), (by repeat constructor), trivial⟩ fun x hx => ?_
  clear hM
  obtain ⟨k, m⟩ := x
  obtain ⟨hk, hM⟩ := hx
  simp only at hk hM
  refine hc_seq (hc_region (r_lss rfl rfl rfl (hl_nil (then_n (hc_seq ?_)))))
  refine c_dec rfl (fun hb2 => ?_) (fun hb2 => ?_)
  ·have hb2' := hb2; try simp at hb2'
   have hk2 : k < hs.length := by omega
   have hSk := hS k hk2
   have hai : ∀ a ∈ (hs.getD k default).2.2.2.l, 0 ≤ a ∧ a < 8 := fun a hm => by
     have h1 := also_in (hok.h k (by rw [hln]; exact hk2)) a (by rw [show (trOf cs hs).hs.getD k default = (hs.getD k default).p from hd_get hk2]; exact hm)
     rw [hln] at h1
     omega
   have hall := all_gone hM (hs.getD k default).2.2.2.l
   have hal := ha _ (getD_mem hk2)
   refine hc_skip (then_n (hc_seq (hc_block (hc_seq (hc_region (r_move rfl rfl ?_))))))
   refine r_elem (α := Kd) (kindsN hs hs.length) k rfl T.u_L_trade_kind T.sz_trade_kind rfl rfl rfl (by repeat constructor) (kinds_len (Nat.le_refl _)).symm (by rw [kinds_len (Nat.le_refl _)]; exact hk2) (by decide) ?_
   refine r_load (v := (kindOf (hs.getD k default)).v) rfl T.cell_trade_kind rfl (cell_row (by repeat constructor) (rows_get0 (by rw [kinds_len (Nat.le_refl _)]; exact hk2) (by rw [kind_get hk2]; rfl))) ?_
   refine r_assign rfl rfl (r_assign rfl rfl (hl_nil (then_n (hc_seq (hc_region (r_move rfl rfl (hl_nil (then_n (hc_block (hc_seq (hc_region ?_)))))))))))
   refine r_asP (kd := (kindOf (hs.getD k default))) rfl rfl rfl ?_
   refine r_extract rfl rfl rfl (r_extract rfl rfl rfl (hl_nil (then_n ?_)))
   refine hc_cond rfl (fun hb3 => ?_) (fun hb3 => ?_)
   ·have hb3' := hb3; try simp at hb3'
    have hfp := fun g => falls_ptr (g := g) hk2 hb3
    have hse0 : 0 ≤ (kindOf (hs.getD k default)).see ∧ (kindOf (hs.getD k default)).see < (hs.length : Int) := by
      have h1 := hb3
      rw [isP_of, decide_eq_true_eq] at h1
      rw [see_of h1]
      omega
    refine hc_seq (hc_region ?_)
    refine r_alloc rfl (fun _ => T.al_trade_pointer _) fun g8 => ?_
    refine r_storeS (cs := #[int (kindOf (hs.getD k default)).see]) rfl rfl (.refl _) T.sz_trade_pointer (by rfl) (by rfl) ?_
    refine hl_nil (then_n (hc_seq (hc_letgoB (hc_region ?_))))
    refine r_load rfl T.cell_trade_heads rfl (cell_own (by repeat constructor) rfl) ?_
    refine r_fieldAddr ⟨_, 0, none⟩ rfl rfl T.fa_trade_pointer_0 rfl ?_
    refine r_load rfl T.cell_int rfl (cell_blk (by repeat constructor) rfl) ?_
    refine hl_call (vs := [u8 m, int ((kindOf (hs.getD k default)).see.toNat : Int)]) F.trade_heads_has_cb rfl (by rw [Int.toNat_of_nonneg hse0.1]; rfl) (trade_heads_has_meets m (kindOf (hs.getD k default)).see.toNat hM.1 (by omega)) (List.Perm.refl _) trivial fun _ _ => ?_
    refine hl_nil (then_n ?_)
    refine hc_cond rfl (fun hb4 => ?_) (fun hb4 => ?_)
    ·have hb4' := hb4; try simp at hb4'
     have hf : fallsB (hs.map Hd.p) (goneK (hs.map Hd.p) (goneR (hs.map Hd.p) (fun j => decide (i = j)) r) k) k = true := by rw [hfp, ← hM.2]; exact hb4
     refine hc_region ?_
     refine r_load rfl T.cell_trade_heads rfl (cell_own (by repeat constructor) rfl) ?_
     refine r_move rfl rfl ?_
     refine hl_call F.trade_heads_with_cb rfl rfl (trade_heads_with_meets m k hM.1 (by omega)) (List.Perm.refl _) trivial fun _ _ => ?_
     refine r_store rfl rfl (.refl _) T.sz_trade_heads (by rfl) (by rfl) ?_
     refine hl_nil (inb_n (inb_n (then_n (hc_region ?_))))
     refine r_add _ rfl rfl rfl rfl (by unfold I64; omega) ?_
     refine r_move rfl rfl (hl_nil ?_)
     exact again _ (k + 1, m ||| 2 ^ k) ⟨by show k + 1 ≤ hs.length; omega, hM.add (by omega) (gone_t hf)⟩ (by show hs.length - (k + 1) < hs.length - k; omega) ⟨rfl, rfl, rfl, rfl, rfl, rfl, rfl, rfl, trivial⟩ (List.Sublist.refl _) ⟨(by repeat constructor), (by repeat constructor), (by repeat constructor), (by repeat constructor), trivial⟩
    ·have hb4' := hb4; try simp at hb4'
     have hf : fallsB (hs.map Hd.p) (goneK (hs.map Hd.p) (goneR (hs.map Hd.p) (fun j => decide (i = j)) r) k) k = false := by rw [hfp, ← hM.2]; exact hb4
     refine hc_skip (inb_n (inb_n (then_n (hc_region ?_))))
     refine r_add _ rfl rfl rfl rfl (by unfold I64; omega) ?_
     refine r_move rfl rfl (hl_nil ?_)
     exact again _ (k + 1, m) ⟨by show k + 1 ≤ hs.length; omega, hM.same (gone_f hf)⟩ (by show hs.length - (k + 1) < hs.length - k; omega) ⟨rfl, rfl, rfl, rfl, rfl, rfl, rfl, rfl, trivial⟩ (List.Sublist.refl _) ⟨(by repeat constructor), (by repeat constructor), (by repeat constructor), (by repeat constructor), trivial⟩
   ·have hb3' := hb3; try simp at hb3'
    refine hc_seq (hc_region ?_)
    refine r_asI (kd := (kindOf (hs.getD k default))) rfl rfl rfl ?_
    refine r_extract rfl rfl rfl (r_extract rfl rfl rfl (hl_nil (then_n ?_)))
    refine hc_cond rfl (fun hb5 => ?_) (fun hb5 => ?_)
    ·have hb5' := hb5; try simp at hb5'
     have hix := (idx_of hb5).2.2
     refine hc_seq (hc_region ?_)
     refine r_alloc rfl (fun _ => T.al_trade_index _) fun g9 => ?_
     refine r_storeS (cs := #[.slice (hs.getD k default).2.2.2.a (hs.getD k default).2.2.2.l.length (hs.getD k default).2.2.2.c]) rfl (congrArg (fun s : Sl Int => some (Value.agg #[.slice s.a s.l.length s.c])) hix) (.refl _) T.sz_trade_index (by rfl) (by rfl) ?_
     refine hl_nil (then_n (hc_seq (hc_letgoB ?_)))
     refine hc_innerF (p := (hs.getD k default)) (f := Hd.row) (ps := hs) (by repeat constructor) (getD_mem hk2) ?_
     refine hc_region ?_
     refine r_fieldAddr ⟨_, 0, none⟩ rfl rfl T.fa_trade_index_0 rfl ?_
     refine r_load rfl T.cell_ints rfl (cell_blk (by repeat constructor) rfl) ?_
     refine r_makeFunc rfl rfl rfl ?_
     refine hl_call F.slices_ContainsFunc_ints_cb rfl rfl (slices_ContainsFunc_ints_meets (hs.getD k default).2.2.2.l m hM.1 hal hai) (List.Perm.refl _) ⟨(by repeat constructor), trivial⟩ fun _ _ => ?_
     refine r_not rfl rfl (hl_nil (then_n ?_))
     refine hc_cond rfl (fun hb6 => ?_) (fun hb6 => ?_)
     ·have hb6' := hb6; try simp at hb6'
      have hf : fallsB (hs.map Hd.p) (goneK (hs.map Hd.p) (goneR (hs.map Hd.p) (fun j => decide (i = j)) r) k) k = true := by rw [falls_idx hk2 hb5, ← hall]; simpa using hb6
      refine hc_region ?_
      refine r_load rfl T.cell_trade_heads rfl (cell_own (by repeat constructor) rfl) ?_
      refine r_move rfl rfl ?_
      refine hl_call F.trade_heads_with_cb rfl rfl (trade_heads_with_meets m k hM.1 (by omega)) (List.Perm.refl _) trivial fun _ _ => ?_
      refine r_store rfl rfl (.refl _) T.sz_trade_heads (by rfl) (by rfl) ?_
      refine hl_nil (inb_n (inb_n (then_n (hc_region ?_))))
      refine r_add _ rfl rfl rfl rfl (by unfold I64; omega) ?_
      refine r_move rfl rfl (hl_nil ?_)
      exact again _ (k + 1, m ||| 2 ^ k) ⟨by show k + 1 ≤ hs.length; omega, hM.add (by omega) (gone_t hf)⟩ (by show hs.length - (k + 1) < hs.length - k; omega) ⟨rfl, rfl, rfl, rfl, rfl, rfl, rfl, rfl, trivial⟩ (List.Sublist.refl _) ⟨(by repeat constructor), (by repeat constructor), (by repeat constructor), (by repeat constructor), trivial⟩
     ·have hb6' := hb6; try simp at hb6'
      have hf : fallsB (hs.map Hd.p) (goneK (hs.map Hd.p) (goneR (hs.map Hd.p) (fun j => decide (i = j)) r) k) k = false := by rw [falls_idx hk2 hb5, ← hall]; simpa using hb6
      refine hc_skip (inb_n (inb_n (then_n (hc_region ?_))))
      refine r_add _ rfl rfl rfl rfl (by unfold I64; omega) ?_
      refine r_move rfl rfl (hl_nil ?_)
      exact again _ (k + 1, m) ⟨by show k + 1 ≤ hs.length; omega, hM.same (gone_f hf)⟩ (by show hs.length - (k + 1) < hs.length - k; omega) ⟨rfl, rfl, rfl, rfl, rfl, rfl, rfl, rfl, trivial⟩ (List.Sublist.refl _) ⟨(by repeat constructor), (by repeat constructor), (by repeat constructor), (by repeat constructor), trivial⟩
    ·have hb5' := hb5; try simp at hb5'
     refine hc_skip (inb_n (inb_n (then_n (hc_region ?_))))
     refine r_add _ rfl rfl rfl rfl (by unfold I64; omega) ?_
     refine r_move rfl rfl (hl_nil ?_)
     exact again _ (k + 1, m) ⟨by show k + 1 ≤ hs.length; omega, hM.same (gone_f (falls_art hk2 hb3 hb5))⟩ (by show hs.length - (k + 1) < hs.length - k; omega) ⟨rfl, rfl, rfl, rfl, rfl, rfl, rfl, rfl, trivial⟩ (List.Sublist.refl _) ⟨(by repeat constructor), (by repeat constructor), (by repeat constructor), (by repeat constructor), trivial⟩
  ·have hb2' := hb2; try simp at hb2'
   obtain rfl : k = hs.length := by omega
   refine hc_exit (then_exit (then_exit (inb_hit (inb_n (then_n (hc_region ?_))))))
   refine r_add _ rfl rfl rfl rfl (by unfold I64; omega) ?_
   refine r_move rfl rfl (hl_nil ?_)
   exact again _ (r + 1, m) ⟨by show r + 1 ≤ hs.length; omega, by show SetIs m (goneK (hs.map Hd.p) (goneR (hs.map Hd.p) (fun j => decide (i = j)) r) (hs.map Hd.p).length); rw [hH]; exact hM⟩ (by show hs.length - (r + 1) < hs.length - r; omega) ⟨rfl, rfl, rfl, rfl, rfl, trivial⟩ (List.Sublist.refl _) ⟨(by repeat constructor), (by repeat constructor), (by repeat constructor), (by repeat constructor), trivial⟩
 ·have hb1' := hb1; try simp at hb1'
  obtain rfl : r = hs.length := by omega
  have hM2 : SetIs m (goneB (hs.map Hd.p) i) := by unfold goneB; rw [hH]; exact hM
  refine hc_exit (then_exit (then_exit (inb_hit (then_n (hc_seq ?_)))))
  clear hM
  refine hc_letgoB (hc_region (r_move rfl rfl (r_nilCheck rfl rfl ?_)))
  refine r_fieldAddr ⟨_, 0, none⟩ rfl rfl T.fa_trade_list_0 rfl ?_
  refine r_fieldAddr ⟨_, 1, none⟩ rfl rfl T.fa_api_Trades_1 rfl ?_
  refine r_load rfl T.cell_L_api_Head rfl (cell_rowg (by repeat constructor) rfl) ?_
  refine r_len_sl rfl T.u_L_api_Head rfl ?_
  refine r_make1 (n := hs.length) rfl T.u_ints T.zi_ints rfl rfl rfl rfl (by omega) (by omega) fun g10 => ?_
  rw [← rows_replicate (α := Int) _ 0 _ rfl]
  refine r_assign rfl rfl (hl_nil (then_n (hc_seq (hc_region (r_assign rfl rfl (hl_nil (then_n (hc_seq (hc_seq (hc_region (r_move rfl rfl ?_)))))))))))
  refine r_nilCheck rfl rfl ?_
  refine r_fieldAddr ⟨_, 0, none⟩ rfl rfl T.fa_trade_list_0 rfl ?_
  refine r_fieldAddr ⟨_, 1, none⟩ rfl rfl T.fa_api_Trades_1 rfl ?_
  refine r_load rfl T.cell_L_api_Head rfl (cell_rowg (by repeat constructor) rfl) ?_
  refine r_len_sl rfl T.u_L_api_Head rfl ?_
  refine r_move rfl rfl (hl_nil (then_n (hc_block ?_)))
  refine hc_loop (β := Nat) ⟨fun k => k ≤ hs.length, fun k => [(0, .pointer (some ⟨gl, 0, none⟩)), (4, .pointer (some ⟨gR, 0, none⟩)), (5, .pointer (some ⟨g5, 0, none⟩)), (10, .slice (some ⟨g10, 0, none⟩) hs.length hs.length), (11, int (numN (goneB (hs.map Hd.p) i) k)), (75, int hs.length), (76, int k)], fun k => [(g10, Obj.cells (rows (numL (goneB (hs.map Hd.p) i) k hs.length)).toArray T.int (0, 0)), (gR, Obj.cells #[.slice none 0 0, .slice none 0 0] T.api_Trades (0, 0))], fun _ => Blk g5 (.cells #[u8 m] T.trade_heads (0, 0)) :: [Row (some ⟨gl, 0, none⟩) [.slice A cs.length ca, .slice B hs.length cb, .slice oa cs.length oc, .slice ka hs.length kc], Row ka (rows (kindsN hs hs.length)), Row A (rows cs), RowsF B hs Hd.row]⟩ (fun k => hs.length - k) 0 (Nat.zero_le _) ⟨rfl, rfl, rfl, rfl, rfl, rfl, rfl, trivial⟩ (by show List.Sublist [(g10, Obj.cells (rows (numL (goneB (hs.map Hd.p) i) 0 hs.length)).toArray T.int (0, 0)), (gR, Obj.cells #[.slice none 0 0, .slice none 0 0] T.api_Trades (0, 0))] _; rw [numL_zero]; exact List.Sublist.refl _) ⟨(by repeat constructor), (by repeat constructor), (by repeat constructor), (by repeat constructor), (by repeat constructor), trivial⟩ fun k hk => ?_
  refine hc_seq (hc_region (r_lss rfl rfl rfl (hl_nil (then_n (hc_seq ?_)))))
  refine c_dec rfl (fun hb7 => ?_) (fun hb7 => ?_)
  ·have hb7' := hb7; try simp at hb7'
   have hk2 : k < hs.length := by omega
   have hnl := num_le (goneB (hs.map Hd.p) i) k
   have hns := num_succ (goneB (hs.map Hd.p) i) k
   refine hc_skip (then_n (hc_seq (hc_block (hc_seq (hc_region (r_move rfl rfl (r_assign rfl rfl (hl_nil (then_n (hc_seq (hc_region ?_)))))))))))
   refine r_move rfl rfl (r_move rfl rfl (r_move rfl rfl ?_))
   refine r_indexAddr_own k (0 + k * 1) rfl T.u_ints T.sz_int rfl rfl rfl hk2 rfl ?_
   refine r_store rfl rfl (.refl _) T.sz_int (own_el rfl (arr_take (numL (goneB (hs.map Hd.p) i) k hs.length)) (by rw [numL_len]; exact hk2) (by omega) rfl) (by rfl) ?_
   rw [arr_set, numL_set hk2]
   refine hl_nil (then_n (hc_seq (hc_region ?_)))
   refine r_load rfl T.cell_trade_heads rfl (cell_blk (by repeat constructor) rfl) ?_
   refine r_move rfl rfl ?_
   refine hl_call F.trade_heads_has_cb rfl rfl (trade_heads_has_meets m k hM2.1 (by omega)) (List.Perm.refl _) trivial fun _ _ => ?_
   refine r_not rfl rfl (hl_nil (then_n ?_))
   refine hc_cond rfl (fun hb8 => ?_) (fun hb8 => ?_)
   ·have hb8' := hb8; try simp at hb8'
    have hg : (goneB (hs.map Hd.p) i) k = false := by rw [← hM2.2]; simpa using hb8
    rw [if_neg (by rw [hg]; decide)] at hns
    refine hc_region (r_move rfl rfl ?_)
    refine r_add _ rfl rfl rfl rfl (by unfold I64; omega) ?_
    refine r_assign rfl rfl (hl_nil (inb_n (then_n (hc_region ?_))))
    refine r_add _ rfl rfl rfl rfl (by unfold I64; omega) ?_
    refine r_move rfl rfl (hl_nil ?_)
    exact again _ (k + 1) (by show k + 1 ≤ hs.length; omega) (by show hs.length - (k + 1) < hs.length - k; omega) ⟨rfl, rfl, rfl, rfl, congrArg (fun z : Int => some (int z)) (by show ((numN (goneB (hs.map Hd.p) i) k) : Int) + 1 = ((numN (goneB (hs.map Hd.p) i) (k + 1)) : Int); omega), rfl, rfl, trivial⟩ (List.Sublist.refl _) ⟨(by repeat constructor), (by repeat constructor), (by repeat constructor), (by repeat constructor), (by repeat constructor), trivial⟩
   ·have hb8' := hb8; try simp at hb8'
    have hg : (goneB (hs.map Hd.p) i) k = true := by rw [← hM2.2]; simpa using hb8
    rw [if_pos hg] at hns
    refine hc_skip (inb_n (then_n (hc_region ?_)))
    refine r_add _ rfl rfl rfl rfl (by unfold I64; omega) ?_
    refine r_move rfl rfl (hl_nil ?_)
    exact again _ (k + 1) (by show k + 1 ≤ hs.length; omega) (by show hs.length - (k + 1) < hs.length - k; omega) ⟨rfl, rfl, rfl, rfl, congrArg (fun z : Int => some (int z)) (by show ((numN (goneB (hs.map Hd.p) i) k) : Int) = ((numN (goneB (hs.map Hd.p) i) (k + 1)) : Int); omega), rfl, rfl, trivial⟩ (List.Sublist.refl _) ⟨(by repeat constructor), (by repeat constructor), (by repeat constructor), (by repeat constructor), (by repeat constructor), trivial⟩
  ·have hb7' := hb7; try simp at hb7'
   obtain rfl : k = hs.length := by omega
   refine hc_exit (then_exit (then_exit (inb_hit (then_n (hc_seq ?_)))))
   refine hc_letgo (rows (numL (goneB (hs.map Hd.p) i) hs.length hs.length)) ⟨[], List.append_nil _⟩ ?_
   refine hc_region (r_move rfl rfl (r_nilCheck rfl rfl ?_))
   refine r_fieldAddr ⟨_, 0, none⟩ rfl rfl T.fa_trade_list_0 rfl ?_
   refine r_fieldAddr ⟨_, 0, none⟩ rfl rfl T.fa_api_Trades_0 rfl ?_
   refine r_load rfl T.cell_L_api_Class rfl (cell_rowg (by repeat constructor) rfl) ?_
   refine hl_call F.slices_Clonex_cb rfl rfl (slices_Clonex_meets cs (by omega)) (List.Perm.refl _) ⟨(by repeat constructor), trivial⟩ fun y hy => ?_
   obtain ⟨⟨xa, xc⟩, xo⟩ := y
   have hGc : Grow T.api_Class 2 xa cs.length xc (rows cs) xo := hy
   have hxc := hGc.le
   refine hl_grown hGc ?_
   clear hy hGc
   refine r_build _ rfl rfl (fun _ => T.bd_api_Trades_0 ..) ?_
   refine r_alloc rfl (fun _ => T.al_api_Trades _) fun g13 => ?_
   refine r_storeS (cs := #[.slice xa cs.length xc, .slice none 0 0]) rfl rfl (.refl _) T.sz_api_Trades (by rfl) (by rfl) ?_
   refine hl_nil (then_n (hc_seq (hc_seq (hc_region (r_move rfl rfl (r_nilCheck rfl rfl ?_))))))
   refine r_fieldAddr ⟨_, 0, none⟩ rfl rfl T.fa_trade_list_0 rfl ?_
   refine r_fieldAddr ⟨_, 1, none⟩ rfl rfl T.fa_api_Trades_1 rfl ?_
   refine r_load rfl T.cell_L_api_Head rfl (cell_rowg (by repeat constructor) rfl) ?_
   refine r_len_sl rfl T.u_L_api_Head rfl ?_
   refine r_move rfl rfl (hl_nil (then_n (hc_block ?_)))
   refine hc_outerF (ps := hs) (A := B) (f := Hd.row) (by repeat constructor) ?_
   refine hc_facts (Fs := ([] : List Hd).map Hd.row) (by intro F hF; simp at hF) ?_
   refine hc_loop (β := Nat × List Hd × OutC × Hp) ⟨fun x => x.1 ≤ hs.length ∧ x.2.1.map Hd.p = dropHs (hs.map Hd.p) (goneB (hs.map Hd.p) i) x.1 ∧ Grow T.api_Head 4 x.2.2.1.1 x.2.1.length x.2.2.1.2 (rows x.2.1) x.2.2.2, fun x => [(4, .pointer (some ⟨gR, 0, none⟩)), (5, .pointer (some ⟨g5, 0, none⟩)), (10, .slice (some ⟨g10, 0, none⟩) hs.length hs.length), (13, .pointer (some ⟨g13, 0, none⟩)), (101, .slice B hs.length cb), (102, int hs.length), (103, int x.1)], fun x => (g13, Obj.cells #[.slice xa cs.length xc, .slice x.2.2.1.1 x.2.1.length x.2.2.1.2] T.api_Trades (0, 0)) :: (gR, Obj.cells #[.slice none 0 0, .slice none 0 0] T.api_Trades (0, 0)) :: x.2.2.2, fun x => [Blk g5 (.cells #[u8 m] T.trade_heads (0, 0)), Row (some ⟨g10, 0, none⟩) (rows (numL (goneB (hs.map Hd.p) i) hs.length hs.length)), Row xa (rows cs), Row B (rows hs), RowsF B hs Hd.row, innersF x.2.1 Hd.row]⟩ (fun x => hs.length - x.1) (0, [], (none, 0), []) ⟨Nat.zero_le _, rfl, Grow.nil _ _⟩ ⟨rfl, rfl, rfl, rfl, rfl, rfl, rfl, trivial⟩ (List.Sublist.refl _) ⟨(by repeat constructor), (by repeat constructor), (by repeat constructor), (by repeat constructor), (by repeat constructor), (by repeat constructor), trivial⟩ fun x hx => ?_
   obtain ⟨k, ys, ⟨yA, yC⟩, og⟩ := x
   obtain ⟨hk, hy, hG⟩ := hx
   simp only at hk hy hG
   have hyl : ys.length = (numN (goneB (hs.map Hd.p) i) k) := by have h1 := congrArg List.length hy; rw [List.length_map, dropHs_len] at h1; exact h1
   have hnl := num_le (goneB (hs.map Hd.p) i) k
   refine hc_seq (hc_region (r_lss rfl rfl rfl (hl_nil (then_n (hc_seq ?_)))))
   refine c_dec rfl (fun hb9 => ?_) (fun hb9 => ?_)
   ·have hb9' := hb9; try simp at hb9'
    have hk2 : k < hs.length := by omega
    have hSk := hS k hk2
    have hds := dropHs_succ (hs.map Hd.p) (goneB (hs.map Hd.p) i) k
    rw [hd_get hk2] at hds
    have hai : ∀ a ∈ (hs.getD k default).2.2.2.l, 0 ≤ a ∧ a < (hs.length : Int) := fun a hm => by
      have h1 := also_in (hok.h k (by rw [hln]; exact hk2)) a (by rw [show (trOf cs hs).hs.getD k default = (hs.getD k default).p from hd_get hk2]; exact hm)
      rw [hln] at h1
      exact ⟨h1.1, h1.2.1⟩
    have hal := ha _ (getD_mem hk2)
    refine hc_skip (then_n (hc_seq (hc_block (hc_seq (hc_region (r_move rfl rfl ?_))))))
    refine r_elem (α := Hd) hs k rfl T.u_L_api_Head T.sz_api_Head rfl rfl rfl (by repeat constructor) rfl hk2 (by decide) ?_
    refine r_loadS rfl T.row_api_Head T.sz_api_Head rfl rfl (cells_row (by repeat constructor) (rows_all (by omega))) ?_
    refine r_alloc rfl (fun _ => T.al_api_Head _) fun gA => ?_
    refine r_assign rfl rfl ?_
    refine r_storeS rfl rfl (by first | exact .refl _ | exact perm2 _ _ _ | exact perm3 _ _ _ _ | exact perm4 _ _ _ _ _) T.sz_api_Head (by rfl) (by rfl) ?_
    refine hl_nil (then_n (hc_seq (hc_seq ?_)))
    refine hc_letgo (rows [(hs.getD k default)]) ⟨[], List.append_nil _⟩ ?_
    refine hc_region ?_
    refine r_load rfl T.cell_trade_heads rfl (cell_blk (by repeat constructor) rfl) ?_
    refine r_move rfl rfl ?_
    refine hl_call F.trade_heads_has_cb rfl rfl (trade_heads_has_meets m k hM2.1 (by omega)) (List.Perm.refl _) trivial fun _ _ => ?_
    refine hl_nil (then_n ?_)
    refine hc_cond rfl (fun hb10 => ?_) (fun hb10 => ?_)
    ·have hb10' := hb10; try simp at hb10'
     have hg : (goneB (hs.map Hd.p) i) k = true := by rw [← hM2.2]; exact hb10
     rw [if_pos hg] at hds
     refine hc_exit (then_exit (inb_hit (then_n (hc_region ?_))))
     refine r_add _ rfl rfl rfl rfl (by unfold I64; omega) ?_
     refine r_move rfl rfl (hl_nil ?_)
     exact again _ (k + 1, ys, (yA, yC), og) ⟨by show k + 1 ≤ hs.length; omega, by show ys.map Hd.p = _; rw [hds]; exact hy, hG⟩ (by show hs.length - (k + 1) < hs.length - k; omega) ⟨rfl, rfl, rfl, rfl, rfl, rfl, rfl, trivial⟩ (List.Sublist.refl _) ⟨(by repeat constructor), (by repeat constructor), (by repeat constructor), (by repeat constructor), (by repeat constructor), (by repeat constructor), trivial⟩
    ·have hb10' := hb10; try simp at hb10'
     have hg : (goneB (hs.map Hd.p) i) k = false := by rw [← hM2.2]; exact hb10
     rw [if_neg (by rw [hg]; decide)] at hds
     refine hc_skip (then_n (hc_seq (hc_region ?_)))
     refine r_fieldAddr ⟨_, 0, none⟩ rfl rfl T.fa_api_Head_0 rfl ?_
     refine r_load rfl T.cell_string rfl (cell_rowg (by repeat constructor) rfl) ?_
     refine r_fieldAddr ⟨_, 1, none⟩ rfl rfl T.fa_api_Head_1 rfl ?_
     refine r_load rfl T.cell_int rfl (cell_rowg (by repeat constructor) rfl) ?_
     refine r_fieldAddr ⟨_, 2, none⟩ rfl rfl T.fa_api_Head_2 rfl ?_
     refine r_load rfl T.cell_int rfl (cell_rowg (by repeat constructor) rfl) ?_
     refine r_build _ rfl rfl (fun _ => T.bd_api_Head_0_1_2 ..) ?_
     refine r_alloc rfl (fun _ => T.al_api_Head _) fun g16 => ?_
     refine r_storeS (cs := #[str (hs.getD k default).1, int (hs.getD k default).2.1, int (hs.getD k default).2.2.1, .slice none 0 0]) rfl rfl (.refl _) T.sz_api_Head (by rfl) (by rfl) ?_
     refine hl_nil (then_n ?_)
     refine hc_cut ⟨fun z : Int => z = (if 0 ≤ (hs.getD k default).2.2.1 then ((numN (goneB (hs.map Hd.p) i) (hs.getD k default).2.2.1.toNat) : Int) else (hs.getD k default).2.2.1), fun _ => [(4, .pointer (some ⟨gR, 0, none⟩)), (5, .pointer (some ⟨g5, 0, none⟩)), (10, .slice (some ⟨g10, 0, none⟩) hs.length hs.length), (13, .pointer (some ⟨g13, 0, none⟩)), (101, .slice B hs.length cb), (102, int hs.length), (103, int k), (15, .pointer (some ⟨gA, 0, none⟩)), (16, .pointer (some ⟨g16, 0, none⟩))], fun z => (g16, Obj.cells #[str (hs.getD k default).1, int (hs.getD k default).2.1, int z, .slice none 0 0] T.api_Head (0, 0)) :: (g13, Obj.cells #[.slice xa cs.length xc, .slice yA ys.length yC] T.api_Trades (0, 0)) :: (gR, Obj.cells #[.slice none 0 0, .slice none 0 0] T.api_Trades (0, 0)) :: og, fun _ => [Row (some ⟨gA, 0, none⟩) (rows [(hs.getD k default)]), Blk g5 (.cells #[u8 m] T.trade_heads (0, 0)), Row (some ⟨g10, 0, none⟩) (rows (numL (goneB (hs.map Hd.p) i) hs.length hs.length)), Row xa (rows cs), Row B (rows hs), RowsF B hs Hd.row, innersF ys Hd.row]⟩ ?_ ?_
     ·skip
      refine hc_seq (hc_region ?_)
      refine r_fieldAddr ⟨_, 2, none⟩ rfl rfl T.fa_api_Head_2 rfl ?_
      refine r_load rfl T.cell_int rfl (cell_own (by repeat constructor) rfl) ?_
      refine r_geq rfl rfl rfl (hl_nil (then_n ?_))
      refine c_dec rfl (fun hb11 => ?_) (fun hb11 => ?_)
      ·have hb11' := hb11; try simp at hb11'
       refine hc_region (r_move rfl rfl ?_)
       refine r_fieldAddr ⟨_, 2, none⟩ rfl rfl T.fa_api_Head_2 rfl ?_
       refine r_load rfl T.cell_int rfl (cell_own (by repeat constructor) rfl) ?_
       refine r_elem (α := Int) (numL (goneB (hs.map Hd.p) i) hs.length hs.length) (hs.getD k default).2.2.1.toNat rfl T.u_ints T.sz_int rfl rfl (Int.toNat_of_nonneg hb11).symm (by repeat constructor) (numL_len _ _ _).symm (by rw [numL_len]; omega) (by decide) ?_
       refine r_load (v := int ((numN (goneB (hs.map Hd.p) i) (hs.getD k default).2.2.1.toNat) : Int)) rfl T.cell_int rfl (cell_row (by repeat constructor) (rows_get0 (by rw [numL_len]; omega) (by rw [numL_at (by omega)]; rfl))) ?_
       refine r_fieldAddr ⟨_, 2, none⟩ rfl rfl T.fa_api_Head_2 rfl ?_
       refine r_store rfl rfl (.refl _) T.sz_int (by rfl) (by rfl) ?_
       refine hl_nil ?_
       exact cut_n _ ((numN (goneB (hs.map Hd.p) i) (hs.getD k default).2.2.1.toNat) : Int) (by show _ = _; rw [if_pos hb11]) ⟨rfl, rfl, rfl, rfl, rfl, rfl, rfl, rfl, rfl, trivial⟩ (List.Sublist.refl _) ⟨(by repeat constructor), (by repeat constructor), (by repeat constructor), (by repeat constructor), (by repeat constructor), (by repeat constructor), (by repeat constructor), trivial⟩
      ·have hb11' := hb11; try simp at hb11'
       refine hc_skip ?_
       exact cut_n _ (hs.getD k default).2.2.1 (by show _ = _; rw [if_neg hb11]) ⟨rfl, rfl, rfl, rfl, rfl, rfl, rfl, rfl, rfl, trivial⟩ (List.Sublist.refl _) ⟨(by repeat constructor), (by repeat constructor), (by repeat constructor), (by repeat constructor), (by repeat constructor), (by repeat constructor), (by repeat constructor), trivial⟩
     ·intro z hz
      have hz : z = _ := hz
      refine hc_seq (hc_seq (hc_region ?_))
      refine r_fieldAddr ⟨_, 3, none⟩ rfl rfl T.fa_api_Head_3 rfl ?_
      refine r_load rfl T.cell_ints rfl (cell_rowg (by repeat constructor) rfl) ?_
      refine r_len_sl rfl T.u_ints rfl ?_
      refine r_move rfl rfl (hl_nil (then_n (hc_block ?_)))
      refine hc_innerF (p := (hs.getD k default)) (f := Hd.row) (ps := hs) (by repeat constructor) (getD_mem hk2) ?_
      refine hc_loop (β := Nat × OutC × Hp) ⟨fun x => x.1 ≤ (hs.getD k default).2.2.2.l.length ∧ Grow T.int 1 x.2.1.1 (dropA (goneB (hs.map Hd.p) i) ((hs.getD k default).2.2.2.l.take x.1)).length x.2.1.2 (rows (dropA (goneB (hs.map Hd.p) i) ((hs.getD k default).2.2.2.l.take x.1))) x.2.2, fun x => [(4, .pointer (some ⟨gR, 0, none⟩)), (5, .pointer (some ⟨g5, 0, none⟩)), (10, .slice (some ⟨g10, 0, none⟩) hs.length hs.length), (13, .pointer (some ⟨g13, 0, none⟩)), (101, .slice B hs.length cb), (102, int hs.length), (103, int k), (16, .pointer (some ⟨g16, 0, none⟩)), (128, .slice (hs.getD k default).2.2.2.a (hs.getD k default).2.2.2.l.length (hs.getD k default).2.2.2.c), (129, int (hs.getD k default).2.2.2.l.length), (130, int x.1)], fun x => (g16, Obj.cells #[str (hs.getD k default).1, int (hs.getD k default).2.1, int z, .slice x.2.1.1 (dropA (goneB (hs.map Hd.p) i) ((hs.getD k default).2.2.2.l.take x.1)).length x.2.1.2] T.api_Head (0, 0)) :: (g13, Obj.cells #[.slice xa cs.length xc, .slice yA ys.length yC] T.api_Trades (0, 0)) :: (gR, Obj.cells #[.slice none 0 0, .slice none 0 0] T.api_Trades (0, 0)) :: (x.2.2 ++ og), fun _ => [Hd.row (hs.getD k default), Blk g5 (.cells #[u8 m] T.trade_heads (0, 0)), Row (some ⟨g10, 0, none⟩) (rows (numL (goneB (hs.map Hd.p) i) hs.length hs.length)), Row xa (rows cs), Row B (rows hs), RowsF B hs Hd.row, innersF ys Hd.row]⟩ (fun x => (hs.getD k default).2.2.2.l.length - x.1) (0, (none, 0), []) ⟨Nat.zero_le _, Grow.nil _ _⟩ ⟨rfl, rfl, rfl, rfl, rfl, rfl, rfl, rfl, rfl, rfl, rfl, trivial⟩ (List.Sublist.refl _) ⟨(by repeat constructor), (by repeat constructor), (by repeat constructor), (by repeat constructor), (by repeat constructor), (by repeat constructor), (by repeat constructor), trivial⟩ fun x hx => ?_
      obtain ⟨j, ⟨dA, dC⟩, og2⟩ := x
      obtain ⟨hj, hG5⟩ := hx
      simp only at hj hG5
      have hdl := dropA_len (goneB (hs.map Hd.p) i) ((hs.getD k default).2.2.2.l.take j)
      rw [List.length_take] at hdl
      refine hc_seq (hc_region (r_lss rfl rfl rfl (hl_nil (then_n (hc_seq ?_)))))
      refine c_dec rfl (fun hb12 => ?_) (fun hb12 => ?_)
      ·have hb12' := hb12; try simp at hb12'
       have hj2 : j < (hs.getD k default).2.2.2.l.length := by omega
       have haj := hai _ (getD_mem hj2)
       have hda := dropA_succ (goneB (hs.map Hd.p) i) (hs.getD k default).2.2.2.l hj2
       obtain ⟨e, he⟩ := Int.eq_ofNat_of_zero_le haj.1
       rw [he, Int.toNat_natCast] at hda
       refine hc_skip (then_n (hc_seq (hc_block (hc_seq (hc_region ?_)))))
       refine r_elem (α := Int) (hs.getD k default).2.2.2.l j rfl T.u_ints T.sz_int rfl rfl rfl (by repeat constructor) rfl hj2 (by decide) ?_
       refine r_load (v := int (e : Int)) rfl T.cell_int rfl (cell_row (by repeat constructor) (rows_get0 hj2 (by rw [← he]; rfl))) ?_
       refine r_assign rfl rfl (hl_nil (then_n (hc_seq (hc_region ?_))))
       refine r_load rfl T.cell_trade_heads rfl (cell_blk (by repeat constructor) rfl) ?_
       refine r_move rfl rfl ?_
       refine hl_call F.trade_heads_has_cb rfl rfl (trade_heads_has_meets m e hM2.1 (by omega)) (List.Perm.refl _) trivial fun _ _ => ?_
       refine r_not rfl rfl (hl_nil (then_n ?_))
       refine hc_cond rfl (fun hb13 => ?_) (fun hb13 => ?_)
       ·have hb13' := hb13; try simp at hb13'
        have hge : (goneB (hs.map Hd.p) i) e = false := by rw [← hM2.2]; simpa using hb13
        rw [if_neg (by rw [hge]; decide)] at hda
        refine hc_draw 7 mixed (by decide) (by decide) rfl rfl ?_
        apply hb_ex _ rfl rfl rfl
        ·intro w1
         refine r_fieldAddr ⟨_, 3, none⟩ rfl rfl T.fa_api_Head_3 rfl ?_
         refine hl_nil ?_
         exact qe_done rfl
        apply hb_ex _ rfl rfl rfl
        ·intro w1
         refine r_load rfl T.cell_ints rfl (cell_blk (by repeat constructor) rfl) ?_
         refine hl_nil ?_
         exact qe_done rfl
        apply hb_ex _ rfl rfl rfl
        ·intro w1
         refine r_move rfl rfl (hl_nil ?_)
         exact qe_done rfl
        apply hb_ex _ rfl rfl rfl
        ·intro w1
         refine r_move rfl rfl (hl_nil ?_)
         exact qe_done rfl
        apply hb_ex _ rfl rfl rfl
        ·intro w1
         refine r_elem (α := Int) (numL (goneB (hs.map Hd.p) i) hs.length hs.length) e rfl T.u_ints T.sz_int rfl rfl rfl (List.mem_append_right _ (by repeat constructor)) (numL_len _ _ _).symm (by rw [numL_len]; omega) (by decide) ?_
         refine hl_nil ?_
         exact qe_done rfl
        apply hb_ex _ rfl rfl rfl
        ·intro w1
         refine r_load (v := int ((numN (goneB (hs.map Hd.p) i) e : Nat) : Int)) rfl T.cell_int rfl (cell_row (List.mem_append_right _ (by repeat constructor)) (rows_get0 (by rw [numL_len]; omega) (by rw [numL_at (by omega)]; rfl))) ?_
         refine hl_nil ?_
         exact qe_done rfl
        refine hb_vs ⟨Nat, fun _ => True, fun g => .slice (some ⟨g, 0, none⟩) 1 1, fun g => [Row (some ⟨g, 0, none⟩) (rows [((numN (goneB (hs.map Hd.p) i) e : Nat) : Int)])]⟩ rfl rfl rfl ?_ ?_
        ·intro w1
         refine r_buildSlice _ rfl rfl (fun _ => T.bs_ints_1 ..) fun gS => ?_
         refine hl_nil ?_
         refine hq_letgo (rows [((numN (goneB (hs.map Hd.p) i) e : Nat) : Int)]) (List.prefix_refl _) ?_
         exact qv_done gS trivial rfl ⟨m0, trivial⟩
        refine hb_nil ⟨rfl, ?_⟩
        intro g9 _
        refine r_append ((dropA (goneB (hs.map Hd.p) i) ((hs.getD k default).2.2.2.l.take j)).length + 1) (rows ((dropA (goneB (hs.map Hd.p) i) ((hs.getD k default).2.2.2.l.take j)) ++ [((numN (goneB (hs.map Hd.p) i) e : Nat) : Int)])) T.el_ints rfl rfl rfl hG5 (hp' := (g16, Obj.cells #[str (hs.getD k default).1, int (hs.getD k default).2.1, int z, .slice dA (dropA (goneB (hs.map Hd.p) i) ((hs.getD k default).2.2.2.l.take j)).length dC] T.api_Head (0, 0)) :: (g13, Obj.cells #[.slice xa cs.length xc, .slice yA ys.length yC] T.api_Trades (0, 0)) :: (gR, Obj.cells #[.slice none 0 0, .slice none 0 0] T.api_Trades (0, 0)) :: og) (show List.Perm ((g16, Obj.cells #[str (hs.getD k default).1, int (hs.getD k default).2.1, int z, .slice dA (dropA (goneB (hs.map Hd.p) i) ((hs.getD k default).2.2.2.l.take j)).length dC] T.api_Head (0, 0)) :: (g13, Obj.cells #[.slice xa cs.length xc, .slice yA ys.length yC] T.api_Trades (0, 0)) :: (gR, Obj.cells #[.slice none 0 0, .slice none 0 0] T.api_Trades (0, 0)) :: (og2 ++ og)) (og2 ++ ((g16, Obj.cells #[str (hs.getD k default).1, int (hs.getD k default).2.1, int z, .slice dA (dropA (goneB (hs.map Hd.p) i) ((hs.getD k default).2.2.2.l.take j)).length dC] T.api_Head (0, 0)) :: (g13, Obj.cells #[.slice xa cs.length xc, .slice yA ys.length yC] T.api_Trades (0, 0)) :: (gR, Obj.cells #[.slice none 0 0, .slice none 0 0] T.api_Trades (0, 0)) :: og)) from (perm_of fun p => by simp only [List.countP_append, List.countP_cons, List.countP_nil]; omega)) (Src.row (news := rows [((numN (goneB (hs.map Hd.p) i) e : Nat) : Int)]) (m := 1) m0 rfl (rows_one _) (by decide)) rfl (rows_append _ _).symm (by unfold maxLen; omega) (by omega) fun A' c' og' hG' => ?_
        refine r_fieldAddr ⟨_, 3, none⟩ rfl rfl T.fa_api_Head_3 rfl ?_
        refine r_store rfl rfl (show List.Perm (og' ++ ((g16, Obj.cells #[str (hs.getD k default).1, int (hs.getD k default).2.1, int z, .slice dA (dropA (goneB (hs.map Hd.p) i) ((hs.getD k default).2.2.2.l.take j)).length dC] T.api_Head (0, 0)) :: (g13, Obj.cells #[.slice xa cs.length xc, .slice yA ys.length yC] T.api_Trades (0, 0)) :: (gR, Obj.cells #[.slice none 0 0, .slice none 0 0] T.api_Trades (0, 0)) :: og)) ((g16, Obj.cells #[str (hs.getD k default).1, int (hs.getD k default).2.1, int z, .slice dA (dropA (goneB (hs.map Hd.p) i) ((hs.getD k default).2.2.2.l.take j)).length dC] T.api_Head (0, 0)) :: (og' ++ ((g13, Obj.cells #[.slice xa cs.length xc, .slice yA ys.length yC] T.api_Trades (0, 0)) :: (gR, Obj.cells #[.slice none 0 0, .slice none 0 0] T.api_Trades (0, 0)) :: og))) from (perm_of fun p => by simp only [List.countP_append, List.countP_cons, List.countP_nil]; omega)) T.sz_ints (by rfl) (by rfl) ?_
        refine hl_nil (inb_n (then_n (hc_region ?_)))
        refine r_add _ rfl rfl rfl rfl (by unfold I64; omega) ?_
        refine r_move rfl rfl (hl_nil ?_)
        have hl1 : (dropA (goneB (hs.map Hd.p) i) ((hs.getD k default).2.2.2.l.take (j + 1))).length = (dropA (goneB (hs.map Hd.p) i) ((hs.getD k default).2.2.2.l.take j)).length + 1 := by rw [hda, List.length_append]; rfl
        refine hq_perm (show List.Perm ((g16, Obj.cells #[str (hs.getD k default).1, int (hs.getD k default).2.1, int z, .slice A' ((dropA (goneB (hs.map Hd.p) i) ((hs.getD k default).2.2.2.l.take j)).length + 1) c'] T.api_Head (0, 0)) :: (og' ++ ((g13, Obj.cells #[.slice xa cs.length xc, .slice yA ys.length yC] T.api_Trades (0, 0)) :: (gR, Obj.cells #[.slice none 0 0, .slice none 0 0] T.api_Trades (0, 0)) :: og))) ((g16, Obj.cells #[str (hs.getD k default).1, int (hs.getD k default).2.1, int z, .slice A' ((dropA (goneB (hs.map Hd.p) i) ((hs.getD k default).2.2.2.l.take j)).length + 1) c'] T.api_Head (0, 0)) :: (g13, Obj.cells #[.slice xa cs.length xc, .slice yA ys.length yC] T.api_Trades (0, 0)) :: (gR, Obj.cells #[.slice none 0 0, .slice none 0 0] T.api_Trades (0, 0)) :: (og' ++ og)) from (perm_of fun p => by simp only [List.countP_append, List.countP_cons, List.countP_nil]; omega)) ?_
        exact again _ (j + 1, (A', c'), og') ⟨by show j + 1 ≤ (hs.getD k default).2.2.2.l.length; omega, by show Grow _ _ _ (dropA (goneB (hs.map Hd.p) i) ((hs.getD k default).2.2.2.l.take (j + 1))).length _ (rows (dropA (goneB (hs.map Hd.p) i) ((hs.getD k default).2.2.2.l.take (j + 1)))) _; rw [hda, List.length_append]; exact hG'⟩ (by show (hs.getD k default).2.2.2.l.length - (j + 1) < (hs.getD k default).2.2.2.l.length - j; omega) ⟨rfl, rfl, rfl, rfl, rfl, rfl, rfl, rfl, rfl, rfl, rfl, trivial⟩ (by show List.Sublist ((g16, Obj.cells #[str (hs.getD k default).1, int (hs.getD k default).2.1, int z, .slice A' (dropA (goneB (hs.map Hd.p) i) ((hs.getD k default).2.2.2.l.take (j + 1))).length c'] T.api_Head (0, 0)) :: (g13, Obj.cells #[.slice xa cs.length xc, .slice yA ys.length yC] T.api_Trades (0, 0)) :: (gR, Obj.cells #[.slice none 0 0, .slice none 0 0] T.api_Trades (0, 0)) :: (og' ++ og)) _; rw [hl1]; exact List.Sublist.refl _) ⟨(by repeat constructor), (by repeat constructor), (by repeat constructor), (by repeat constructor), (by repeat constructor), (by repeat constructor), (by repeat constructor), trivial⟩
       ·have hb13' := hb13; try simp at hb13'
        have hge : (goneB (hs.map Hd.p) i) e = true := by rw [← hM2.2]; simpa using hb13
        rw [if_pos hge] at hda
        refine hc_skip (inb_n (then_n (hc_region ?_)))
        refine r_add _ rfl rfl rfl rfl (by unfold I64; omega) ?_
        refine r_move rfl rfl (hl_nil ?_)
        exact again _ (j + 1, (dA, dC), og2) ⟨by show j + 1 ≤ (hs.getD k default).2.2.2.l.length; omega, by show Grow _ _ _ (dropA (goneB (hs.map Hd.p) i) ((hs.getD k default).2.2.2.l.take (j + 1))).length _ (rows (dropA (goneB (hs.map Hd.p) i) ((hs.getD k default).2.2.2.l.take (j + 1)))) _; rw [hda]; exact hG5⟩ (by show (hs.getD k default).2.2.2.l.length - (j + 1) < (hs.getD k default).2.2.2.l.length - j; omega) ⟨rfl, rfl, rfl, rfl, rfl, rfl, rfl, rfl, rfl, rfl, rfl, trivial⟩ (by show List.Sublist ((g16, Obj.cells #[str (hs.getD k default).1, int (hs.getD k default).2.1, int z, .slice dA (dropA (goneB (hs.map Hd.p) i) ((hs.getD k default).2.2.2.l.take (j + 1))).length dC] T.api_Head (0, 0)) :: (g13, Obj.cells #[.slice xa cs.length xc, .slice yA ys.length yC] T.api_Trades (0, 0)) :: (gR, Obj.cells #[.slice none 0 0, .slice none 0 0] T.api_Trades (0, 0)) :: (og2 ++ og)) _; rw [hda]; exact List.Sublist.refl _) ⟨(by repeat constructor), (by repeat constructor), (by repeat constructor), (by repeat constructor), (by repeat constructor), (by repeat constructor), (by repeat constructor), trivial⟩
      ·have hb12' := hb12; try simp at hb12'
       obtain rfl : j = (hs.getD k default).2.2.2.l.length := by omega
       rw [List.take_length] at hG5 hdl
       refine hc_exit (then_exit (then_exit (inb_hit (then_n ?_))))
       refine hc_perm (show List.Perm ((g16, Obj.cells #[str (hs.getD k default).1, int (hs.getD k default).2.1, int z, .slice dA (dropA (goneB (hs.map Hd.p) i) ((hs.getD k default).2.2.2.l.take (hs.getD k default).2.2.2.l.length)).length dC] T.api_Head (0, 0)) :: (g13, Obj.cells #[.slice xa cs.length xc, .slice yA ys.length yC] T.api_Trades (0, 0)) :: (gR, Obj.cells #[.slice none 0 0, .slice none 0 0] T.api_Trades (0, 0)) :: (og2 ++ og)) (og2 ++ ((g16, Obj.cells #[str (hs.getD k default).1, int (hs.getD k default).2.1, int z, .slice dA (dropA (goneB (hs.map Hd.p) i) ((hs.getD k default).2.2.2.l.take (hs.getD k default).2.2.2.l.length)).length dC] T.api_Head (0, 0)) :: (g13, Obj.cells #[.slice xa cs.length xc, .slice yA ys.length yC] T.api_Trades (0, 0)) :: (gR, Obj.cells #[.slice none 0 0, .slice none 0 0] T.api_Trades (0, 0)) :: og)) from (perm_of fun p => by simp only [List.countP_append, List.countP_cons, List.countP_nil]; omega)) ?_
       rw [List.take_length]
       refine hc_grown hG5 (hc_region ?_)
       refine r_fieldAddr ⟨_, 1, none⟩ rfl rfl T.fa_api_Trades_1 rfl ?_
       refine r_load rfl T.cell_L_api_Head rfl (cell_own (by repeat constructor) rfl) ?_
       refine r_loadA rfl T.row_api_Head T.sz_api_Head rfl (by repeat constructor) (by rfl) ?_
       refine r_buildSlice _ rfl rfl (fun _ => T.bs_L_api_Head_1 ..) fun gS => ?_
       refine hl_letgo (rows [(((hs.getD k default).1, (hs.getD k default).2.1, z, ⟨dA, dC, (dropA (goneB (hs.map Hd.p) i) (hs.getD k default).2.2.2.l)⟩) : Hd)]) (List.prefix_refl _) ?_
       refine r_append (hp' := [(g16, Obj.cells #[str (hs.getD k default).1, int (hs.getD k default).2.1, int z, .slice dA (dropA (goneB (hs.map Hd.p) i) (hs.getD k default).2.2.2.l).length dC] T.api_Head (0, 0)), (g13, Obj.cells #[.slice xa cs.length xc, .slice yA ys.length yC] T.api_Trades (0, 0)), (gR, Obj.cells #[.slice none 0 0, .slice none 0 0] T.api_Trades (0, 0))]) (ys.length + 1) (rows (ys ++ [(((hs.getD k default).1, (hs.getD k default).2.1, z, ⟨dA, dC, (dropA (goneB (hs.map Hd.p) i) (hs.getD k default).2.2.2.l)⟩) : Hd)])) T.el_L_api_Head rfl rfl rfl hG (show List.Perm ((g16, Obj.cells #[str (hs.getD k default).1, int (hs.getD k default).2.1, int z, .slice dA (dropA (goneB (hs.map Hd.p) i) (hs.getD k default).2.2.2.l).length dC] T.api_Head (0, 0)) :: (g13, Obj.cells #[.slice xa cs.length xc, .slice yA ys.length yC] T.api_Trades (0, 0)) :: (gR, Obj.cells #[.slice none 0 0, .slice none 0 0] T.api_Trades (0, 0)) :: og) (og ++ [(g16, Obj.cells #[str (hs.getD k default).1, int (hs.getD k default).2.1, int z, .slice dA (dropA (goneB (hs.map Hd.p) i) (hs.getD k default).2.2.2.l).length dC] T.api_Head (0, 0)), (g13, Obj.cells #[.slice xa cs.length xc, .slice yA ys.length yC] T.api_Trades (0, 0)), (gR, Obj.cells #[.slice none 0 0, .slice none 0 0] T.api_Trades (0, 0))]) from (perm_of fun p => by simp only [List.countP_append, List.countP_cons, List.countP_nil]; omega)) (Src.row (news := rows [(((hs.getD k default).1, (hs.getD k default).2.1, z, ⟨dA, dC, (dropA (goneB (hs.map Hd.p) i) (hs.getD k default).2.2.2.l)⟩) : Hd)]) (m := 1) m0 rfl (rows_one _) (by decide)) rfl (rows_append _ _).symm (by unfold maxLen; omega) (by omega) fun A' c' og' hG' => ?_
       refine r_fieldAddr ⟨_, 1, none⟩ rfl rfl T.fa_api_Trades_1 rfl ?_
       refine r_store (hp' := og' ++ [(g16, Obj.cells #[str (hs.getD k default).1, int (hs.getD k default).2.1, int z, .slice dA (dropA (goneB (hs.map Hd.p) i) (hs.getD k default).2.2.2.l).length dC] T.api_Head (0, 0)), (gR, Obj.cells #[.slice none 0 0, .slice none 0 0] T.api_Trades (0, 0))]) rfl rfl (show List.Perm (og' ++ [(g16, Obj.cells #[str (hs.getD k default).1, int (hs.getD k default).2.1, int z, .slice dA (dropA (goneB (hs.map Hd.p) i) (hs.getD k default).2.2.2.l).length dC] T.api_Head (0, 0)), (g13, Obj.cells #[.slice xa cs.length xc, .slice yA ys.length yC] T.api_Trades (0, 0)), (gR, Obj.cells #[.slice none 0 0, .slice none 0 0] T.api_Trades (0, 0))]) ((g13, Obj.cells #[.slice xa cs.length xc, .slice yA ys.length yC] T.api_Trades (0, 0)) :: (og' ++ [(g16, Obj.cells #[str (hs.getD k default).1, int (hs.getD k default).2.1, int z, .slice dA (dropA (goneB (hs.map Hd.p) i) (hs.getD k default).2.2.2.l).length dC] T.api_Head (0, 0)), (gR, Obj.cells #[.slice none 0 0, .slice none 0 0] T.api_Trades (0, 0))])) from (perm_of fun p => by simp only [List.countP_append, List.countP_cons, List.countP_nil]; omega)) T.sz_L_api_Head (by rfl) (by rfl) ?_
       refine hl_facts (innerF_snoc (ps := ys) (f := Hd.row) (p := (((hs.getD k default).1, (hs.getD k default).2.1, z, ⟨dA, dC, (dropA (goneB (hs.map Hd.p) i) (hs.getD k default).2.2.2.l)⟩) : Hd)) (by repeat constructor) (by repeat constructor)) ?_
       refine hl_nil (inb_n (then_n (hc_region ?_)))
       refine r_add _ rfl rfl rfl rfl (by unfold I64; omega) ?_
       refine r_move rfl rfl (hl_nil ?_)
       have hl1 : (ys ++ [(((hs.getD k default).1, (hs.getD k default).2.1, z, ⟨dA, dC, (dropA (goneB (hs.map Hd.p) i) (hs.getD k default).2.2.2.l)⟩) : Hd)]).length = ys.length + 1 := by simp
       refine hq_perm (show List.Perm ((g13, Obj.cells #[.slice xa cs.length xc, .slice A' (ys.length + 1) c'] T.api_Trades (0, 0)) :: (og' ++ [(g16, Obj.cells #[str (hs.getD k default).1, int (hs.getD k default).2.1, int z, .slice dA (dropA (goneB (hs.map Hd.p) i) (hs.getD k default).2.2.2.l).length dC] T.api_Head (0, 0)), (gR, Obj.cells #[.slice none 0 0, .slice none 0 0] T.api_Trades (0, 0))])) ((g16, Obj.cells #[str (hs.getD k default).1, int (hs.getD k default).2.1, int z, .slice dA (dropA (goneB (hs.map Hd.p) i) (hs.getD k default).2.2.2.l).length dC] T.api_Head (0, 0)) :: (g13, Obj.cells #[.slice xa cs.length xc, .slice A' (ys.length + 1) c'] T.api_Trades (0, 0)) :: (gR, Obj.cells #[.slice none 0 0, .slice none 0 0] T.api_Trades (0, 0)) :: og') from (perm_of fun p => by simp only [List.countP_append, List.countP_cons, List.countP_nil]; omega)) ?_
       exact again _ (k + 1, ys ++ [(((hs.getD k default).1, (hs.getD k default).2.1, z, ⟨dA, dC, (dropA (goneB (hs.map Hd.p) i) (hs.getD k default).2.2.2.l)⟩) : Hd)], (A', c'), og') ⟨by show k + 1 ≤ hs.length; omega, by show (ys ++ [_]).map Hd.p = _; rw [hds, List.map_append, hy]; congr 1; show [(_, _, z, _)] = [dropP _ _]; rw [hz]; rfl, by show Grow _ _ _ (ys ++ [_]).length _ _ _; rw [hl1]; exact hG'⟩ (by show hs.length - (k + 1) < hs.length - k; omega) ⟨rfl, rfl, rfl, rfl, rfl, rfl, rfl, trivial⟩ (by show List.Sublist ((g13, Obj.cells #[.slice xa cs.length xc, .slice A' (ys ++ [(((hs.getD k default).1, (hs.getD k default).2.1, z, ⟨dA, dC, (dropA (goneB (hs.map Hd.p) i) (hs.getD k default).2.2.2.l)⟩) : Hd)]).length c'] T.api_Trades (0, 0)) :: _) _; rw [hl1]; exact List.sublist_cons_self _ _) ⟨(by repeat constructor), (by repeat constructor), (by repeat constructor), (by repeat constructor), (by repeat constructor), (by repeat constructor), trivial⟩
   ·have hb9' := hb9; try simp at hb9'
    obtain rfl : k = hs.length := by omega
    refine hc_exit (then_exit (then_exit (inb_hit (then_n (hc_seq ?_)))))
    refine hc_perm (show List.Perm ((g13, Obj.cells #[.slice xa cs.length xc, .slice yA ys.length yC] T.api_Trades (0, 0)) :: (gR, Obj.cells #[.slice none 0 0, .slice none 0 0] T.api_Trades (0, 0)) :: og) (og ++ [(g13, Obj.cells #[.slice xa cs.length xc, .slice yA ys.length yC] T.api_Trades (0, 0)), (gR, Obj.cells #[.slice none 0 0, .slice none 0 0] T.api_Trades (0, 0))]) from (perm_of fun p => by simp only [List.countP_append, List.countP_cons, List.countP_nil]; omega)) ?_
    have hGle := hG.le
    refine hc_grown hG ?_
    refine hc_rowsF (A := yA) (ps := ys) (f := Hd.row) (by repeat constructor) (by repeat constructor) ?_
    refine hc_region ?_
    refine r_loadA rfl T.row_api_Trades T.sz_api_Trades rfl (by repeat constructor) (by rfl) ?_
    refine r_storeS (cs := #[.slice xa cs.length xc, .slice yA ys.length yC]) rfl rfl (.swap _ _ _) T.sz_api_Trades (by rfl) (by rfl) ?_
    refine hl_nil (then_n (hc_ret ?_))
    refine ret_row (ys, (xa, xc), (yA, yC)) rfl rfl T.row_api_Trades T.sz_api_Trades rfl m0 rfl rfl ⟨by show ys.map Hd.p = dropHs (hs.map Hd.p) (goneB (hs.map Hd.p) i) (hs.map Hd.p).length; rw [hH]; exact hy, hxc, hGle⟩ (List.nil_sublist _) ⟨(by repeat constructor), (by repeat constructor), trivial⟩

theorem trade_Drop_meets {A B : Option Addr} {ca cb : Nat} (cs : List Cl) (hs : List Hd) (h : Int) (hca : cs.length ≤ ca) (hcb : hs.length ≤ cb) (ha : ∀ h ∈ hs, h.2.2.2.l.length ≤ 1000000) : Meets Tryz.prog F.trade_Drop [.agg #[.slice A cs.length ca, .slice B hs.length cb], int h] { LI := [Row A (rows cs), RowsF B hs Hd.row], inv := fun x : OutR => TrIs (dropE (trOf cs hs) h).1 x, val := fun x => .tuple #[.agg #[.slice x.2.1.1 (dropE (trOf cs hs) h).1.cs.length x.2.1.2, .slice x.2.2.1 x.1.length x.2.2.2], int (dropE (trOf cs hs) h).2], LO := fun x => [Row x.2.1.1 (rows (dropE (trOf cs hs) h).1.cs), RowsF x.2.2.1 x.1 Hd.row] } := by
 refine meets_intro F.trade_Drop_f rfl (Nat.le_of_ble_eq_true rfl) fun w0 => ?_
 refine hc_seq (hc_region ?_)
 refine r_box rfl rfl fun gB => ?_
 refine r_alloc rfl (fun _ => T.al_api_Trades _) fun gR => ?_
 refine r_assign rfl rfl (hl_nil (then_n ?_))
 refine hc_cut ⟨fun _ : Nat × OutC × OutC => True, fun x => [(1, int h), (2, .pointer (some ⟨gB, 0, none⟩)), (4, .pointer (some ⟨gR, 0, none⟩)), (6, if askE (trOf cs hs) [h] = 0 then .pointer (some ⟨x.1, 0, none⟩) else .pointer none), (7, int (askE (trOf cs hs) [h]))], fun _ => [(gR, Obj.cells #[.slice none 0 0, .slice none 0 0] T.api_Trades (0, 0)), (gB, .cells #[.slice A cs.length ca, .slice B hs.length cb] T.api_Trades (0, 0))], fun x => (if askE (trOf cs hs) [h] = 0 then beginL cs hs A ca B cb x else []) ++ [Row A (rows cs), RowsF B hs Hd.row]⟩ ?_ ?_
 ·skip
  refine hc_region ?_
  refine r_loadA rfl T.row_api_Trades T.sz_api_Trades rfl (by repeat constructor) (by rfl) ?_
  refine r_move rfl rfl ?_
  refine r_buildSlice _ rfl rfl (fun _ => T.bs_ints_1 ..) fun gS => ?_
  refine hl_letgo (rows [h]) (List.prefix_refl _) ?_
  refine hl_call F.trade_ask_cb rfl rfl (trade_ask_meets cs hs [h] hca hcb ha (by simp)) (List.Perm.refl _) ⟨(by repeat constructor), (by repeat constructor), (by repeat constructor), trivial⟩ fun x _ => ?_
  refine r_move rfl rfl (r_extract rfl rfl rfl (r_extract rfl rfl rfl (r_assign rfl rfl (r_assign rfl rfl (hl_nil ?_)))))
  exact cut_n _ x trivial ⟨rfl, rfl, rfl, rfl, rfl, trivial⟩ (List.Sublist.refl _) (LSub.of_mem fun F hF => (List.mem_append.1 hF).elim (fun h1 => List.mem_append_left _ h1) (fun h2 => List.mem_append_right _ (List.mem_cons_of_mem _ h2)))
 ·refine fun x _ => ?_
  dsimp only
  refine hc_seq (hc_seq (hc_region (r_move rfl rfl (r_neq rfl rfl rfl (hl_nil (then_n ?_))))))
  refine c_dec rfl (fun hb1 => ?_) (fun hb1 => ?_)
  ·have hb1' := hb1; try simp at hb1'
   have hE : (dropE (trOf cs hs) h) = (⟨[], []⟩, askE (trOf cs hs) [h]) := by rw [dropE, if_pos hb1]
   refine hc_seq (hc_region ?_)
   refine r_build [] rfl rfl (fun _ => T.bd_api_Trades_ ..) ?_
   refine r_move rfl rfl ?_
   refine r_storeS (cs := #[.slice none 0 0, .slice none 0 0]) rfl rfl (.refl _) T.sz_api_Trades (by rfl) (by rfl) ?_
   refine r_assign rfl rfl (hl_nil (then_n (hc_ret (then_ret ?_))))
   refine hq_nilrow (α := Cl) ?_
   refine hq_nilrow (α := Hd) ?_
   refine hq_facts (Fs := ([] : List Hd).map Hd.row) (by intro F hF; simp at hF) ?_
   refine hq_rowsF (A := none) (ps := ([] : List Hd)) (f := Hd.row) (by repeat constructor) (by repeat constructor) ?_
   exact ret_row_tmp ([], (none, 0), (none, 0)) rfl rfl rfl T.row_api_Trades T.sz_api_Trades rfl m0 (by show Value.tuple #[.agg #[.slice none (dropE (trOf cs hs) h).1.cs.length 0, .slice none 0 0], int (dropE (trOf cs hs) h).2] = _; rw [hE]; rfl) rfl (by show TrIs (dropE (trOf cs hs) h).1 _; rw [hE]; exact ⟨rfl, Nat.le_refl _, Nat.le_refl _⟩) (List.nil_sublist _) (by show LSub _ [Row none (rows (dropE (trOf cs hs) h).1.cs), RowsF none [] Hd.row]; rw [hE]; exact ⟨(by repeat constructor), (by repeat constructor), trivial⟩)
  ·have hb1' := hb1; try simp at hb1'
   have h0 := Classical.not_not.1 hb1
   rw [if_pos h0, if_pos h0]
   have hch := ask_check h0
   have hin := ask_in h0 (List.mem_singleton.2 rfl)
   rw [hs_len] at hin
   obtain ⟨i, hi⟩ := Int.eq_ofNat_of_zero_le hin.1
   have hok := tr_ok hch
   have h6 : cs.length ≤ 6 := hok.c6
   have h6h := hok.h6
   rw [hs_len] at h6h
   have hcl : ∀ i, i < cs.length → ClsOK cs i := hok.c
   obtain ⟨gl, ⟨oa, oc⟩, ⟨ka, kc⟩⟩ := x
   have hln := hs_len cs hs
   have hE : (dropE (trOf cs hs) h) = (dropT (trOf cs hs) i, 0) := by rw [dropE, if_neg hb1, hi, Int.toNat_natCast]
   subst hi
   show HC _ _ _ _ _ [Row (some ⟨gl, 0, none⟩) [.slice A cs.length ca, .slice B hs.length cb, .slice oa cs.length oc, .slice ka hs.length kc], Row oa (rows (masksN cs cs.length)), Row ka (rows (kindsN hs hs.length)), Row A (rows cs), RowsF B hs Hd.row]
   refine hc_skip (then_n (hc_seq (hc_region (r_move rfl rfl (r_move rfl rfl ?_)))))
   refine hl_call F.trade_list_drop_cb rfl rfl (trade_list_drop_meets (A := A) (B := B) (oa := oa) (ka := ka) (ca := ca) (cb := cb) (oc := oc) (kc := kc) (gl := gl) cs hs i hok (by omega) hca ha) (List.Perm.refl _) ⟨(by repeat constructor), (by repeat constructor), (by repeat constructor), (by repeat constructor), trivial⟩ fun y hy => ?_
   refine r_storeS (cs := #[.slice y.2.1.1 cs.length y.2.1.2, .slice y.2.2.1 y.1.length y.2.2.2]) rfl rfl (.refl _) T.sz_api_Trades (by rfl) (by rfl) ?_
   refine r_assign rfl rfl (hl_nil (then_n (hc_ret ?_)))
   exact ret_row_tmp y rfl rfl rfl T.row_api_Trades T.sz_api_Trades rfl m0 (by show Value.tuple #[.agg #[.slice y.2.1.1 (dropE (trOf cs hs) (i : Int)).1.cs.length y.2.1.2, .slice y.2.2.1 y.1.length y.2.2.2], int (dropE (trOf cs hs) (i : Int)).2] = _; rw [hE]) rfl (by show TrIs (dropE (trOf cs hs) (i : Int)).1 y; rw [hE]; exact hy) (List.nil_sublist _) (by show LSub _ [Row y.2.1.1 (rows (dropE (trOf cs hs) (i : Int)).1.cs), RowsF y.2.2.1 y.1 Hd.row]; rw [hE]; exact ⟨(by repeat constructor), (by repeat constructor), trivial⟩)


end Go.Proofs.YtlpgheniajdkfaaGreat
