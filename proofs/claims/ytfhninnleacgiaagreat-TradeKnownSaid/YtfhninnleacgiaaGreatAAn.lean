/- Texts of this claim, one behind another. -/

import Derived.Test.YtfhninnleacgiaaGreatAAk
set_option linter.unusedVariables false
set_option linter.unusedSimpArgs false
section
namespace Go.Proofs.YtfhninnleacgiaaGreat
open Go Go.W
set_option maxRecDepth 20000
attribute [local irreducible] HL HC HQ HB Row Rows2 Blk Facts
theorem T.zi_ints : (Tryz.prog.info? T.int).map (fun i => (i.zero, i.size, i.bytes)) = some (some (.int .i64 0), 1, 8) := by kernel_rfl
theorem arr_set (l : List Int) (k : Nat) (v : Int) : (rows l).toArray.setIfInBounds (0 + k * 1) (int v) = (rows (l.set k v)).toArray := by
  rw [← aT rfl (int v) v rfl]
  simp
theorem arr_take (l : List Int) : (rows l).toArray.toList.take (l.length * 1) = rows l := by
  have h1 : (rows l).length = l.length := by rw [I2]; exact Nat.mul_one _
  rw [List.take_of_length_le (by simp [h1])]
def fallsB (hs : List PH) (g : Nat → Bool) (i : Nat) : Bool :=
  if ¬ (hs.getD i default).2.2.1 = -1 then g (hs.getD i default).2.2.1.toNat
  else if ¬ (hs.getD i default).2.1 = -1 then false
  else (hs.getD i default).2.2.2.all fun a => g a.toNat
def goneS (hs : List PH) (g : Nat → Bool) (k : Nat) : Nat → Bool := fun j => g j || (decide (k = j) && fallsB hs g k)
def goneK (hs : List PH) (g : Nat → Bool) : Nat → Nat → Bool
  | 0 => g
  | k + 1 => goneS hs (goneK hs g k) k
def goneR (hs : List PH) (g : Nat → Bool) : Nat → Nat → Bool
  | 0 => g
  | r + 1 => goneK hs (goneR hs g r) hs.length
def goneB (hs : List PH) (i : Nat) : Nat → Bool := goneR hs (fun j => decide (i = j)) hs.length
def Shut (hs : List PH) (g : Nat → Bool) : Prop := ∀ k, k < hs.length → fallsB hs g k = true → g k = true
def cntB (n : Nat) (g : Nat → Bool) : Nat := ((List.range n).filter g).length
/-! ### What is kept -/
def keepK (g : Nat → Bool) (n : Nat) : List Nat := (List.range n).filter fun k => !g k
def numN (g : Nat → Bool) (k : Nat) : Nat := (keepK g k).length
theorem xO (g : Nat → Bool) (k : Nat) : keepK g (k + 1) = if g k = true then keepK g k else keepK g k ++ [k] := by
  unfold keepK; rw [List.range_succ, List.filter_append, List.filter_cons, List.filter_nil]
  cases h : g k <;> simp
theorem hz8 (g : Nat → Bool) (k : Nat) : numN g (k + 1) = if g k = true then numN g k else numN g k + 1 := by
  unfold numN; rw [xO]
  split
  · rfl
  rw [List.length_append]; rfl
theorem hz9 (g : Nat → Bool) (k : Nat) : numN g k ≤ k := by
  unfold numN keepK; exact Nat.le_trans (List.length_filter_le _ _) (by simp)
/-! ### The trades that remain -/
def dropA (g : Nat → Bool) (l : List Int) : List Int := (l.filter fun a => !g a.toNat).map fun a => (numN g a.toNat : Int)
def dropP (g : Nat → Bool) (h : PH) : PH := (h.1, h.2.1, (if 0 ≤ h.2.2.1 then (numN g h.2.2.1.toNat : Int) else h.2.2.1), dropA g h.2.2.2)
def dropHs (hs : List PH) (g : Nat → Bool) (n : Nat) : List PH := (keepK g n).map fun k => dropP g (hs.getD k default)
abbrev dropT (t : Tr) (i : Nat) : Tr := ⟨t.cs, dropHs t.hs (goneB t.hs i) t.hs.length⟩
theorem bz9 (hs : List PH) (g : Nat → Bool) (n : Nat) : (dropHs hs g n).length = numN g n := List.length_map ..
theorem az0 (hs : List PH) (g : Nat → Bool) (k : Nat) : dropHs hs g (k + 1) = if g k = true then dropHs hs g k else dropHs hs g k ++ [dropP g (hs.getD k default)] := by
  unfold dropHs; rw [xO]
  split
  · rfl
  rw [List.map_append]; rfl
theorem dj2 {t : Tr} {k : Nat} (hh : HeadOK t k) : ∀ a ∈ (t.hs.getD k default).2.2.2, 0 ≤ a ∧ a < (t.hs.length : Int) ∧ ¬ a = (k : Int) := by
  intro a ha; obtain ⟨q, hq, rfl⟩ := List.getElem_of_mem ha; have h := rK (hh.a q hq); rw [u9 hq] at h; exact ⟨h.1, h.2.1, h.2.2.1⟩
theorem zv_idx (w : World) : (zeroValue T.L6).run Tryz.prog w = .ok (.agg #[.slice none 0 0]) w := by kernel_rfl
def Kd.isI : Kd → Bool | .idx _ => true | _ => false
def Kd.ixs : Kd → Sl Int | .idx a => a | _ => ⟨none, 0, []⟩
section
variable {c : Cx} {Q : Exit → Act → World → Prop} {fr : Fr} {hp : Hp} {L : List Fact} {ops : Array Oper} {rest : List Oper} {d : Tmp} {ty : TypeId} {pos : String} {af : Array Edge}
theorem r_asI {xt : TypeId} {x : Operand} {kd : Kd} (hd : Nat.blt d c.n = true) (hP : c.P = Tryz.prog) (hx : ev fr x = some kd.v) (k : HL c ops Q rest ((d, .tuple #[.agg #[.slice kd.ixs.a kd.ixs.l.length kd.ixs.c], .bool kd.isI]) :: fr) hp L) : HL c ops Q (⟨some d, .typeAssert x xt T.L6 true, ty, pos, af, none⟩ :: rest) fr hp L := by
  have ht : NoI c.P T.L6 := by rw [hP]; exact ⟨_, Tryz.underlying106, rfl⟩
  have hz : ∀ w, (zeroValue T.L6).run c.P w = .ok (.agg #[.slice none 0 0]) w := by rw [hP]; exact zv_idx
  cases kd with
  | idx b => exact rT hd ht hx k
  | art a b => exact aV hd ht hx rfl hz k
  | ptr s => exact aV hd ht hx rfl hz k
end
theorem vM {hs : List Hd} {g : Nat → Bool} {k : Nat} (hk : k < hs.length) : fallsB (hs.map Hd.p) g k = if ¬ (hs.getD k default).2.2.1 = -1 then g (hs.getD k default).2.2.1.toNat else if ¬ (hs.getD k default).2.1 = -1 then false else (hs.getD k default).2.2.2.l.all fun a => g a.toNat := by
  unfold fallsB; rw [G8 hk]
  rfl
theorem gq0 {hs : List Hd} {g : Nat → Bool} {k : Nat} (hk : k < hs.length) (h : (kindOf (hs.getD k default)).isP = true) : fallsB (hs.map Hd.p) g k = g (kindOf (hs.getD k default)).see.toNat := by
  rw [iM, decide_eq_true_eq] at h; rw [vM hk, if_pos h, yQ h]
theorem ix4 {h : Hd} (hI : (kindOf h).isI = true) : h.2.2.1 = -1 ∧ h.2.1 = -1 ∧ (kindOf h).ixs = h.2.2.2 := by
  unfold kindOf at *
  split at hI
  · cases hI
  rename_i h1
  split at hI
  · cases hI
  rename_i h2
  rw [if_neg h1, if_neg h2]; exact ⟨Classical.not_not.1 h1, Classical.not_not.1 h2, rfl⟩
theorem xV {hs : List Hd} {g : Nat → Bool} {k : Nat} (hk : k < hs.length) (h : (kindOf (hs.getD k default)).isI = true) : fallsB (hs.map Hd.p) g k = (hs.getD k default).2.2.2.l.all fun a => g a.toNat := by
  obtain ⟨h1, h2, _⟩ := ix4 h; rw [vM hk, if_neg (not_not_intro h1), if_neg (not_not_intro h2)]
theorem gq1 {hs : List Hd} {g : Nat → Bool} {k : Nat} (hk : k < hs.length) (h : (kindOf (hs.getD k default)).isP = false) (h2 : (kindOf (hs.getD k default)).isI = false) : fallsB (hs.map Hd.p) g k = false := by
  rw [iM, decide_eq_false_iff_not] at h; rw [vM hk, if_neg h]
  split
  · rfl
  rename_i h3
  unfold kindOf at h2; rw [if_neg h, if_neg h3] at h2
  cases h2
theorem iz2 {H : List PH} {g : Nat → Bool} {k : Nat} (h : fallsB H (goneK H g k) k = true) (j : Nat) : goneK H g (k + 1) j = (goneK H g k j || decide (k = j)) := by
  show (_ || (_ && _)) = _; rw [h, Bool.and_true]
theorem bx9 {H : List PH} {g : Nat → Bool} {k : Nat} (h : fallsB H (goneK H g k) k = false) (j : Nat) : goneK H g (k + 1) j = goneK H g k j := by
  show (_ || (_ && _)) = _; rw [h, Bool.and_false, Bool.or_false]
theorem jq6 {m : Nat} {p : Nat → Bool} (h : SetIs m p) (l : List Int) : (l.all fun a => m.testBit a.toNat) = l.all fun a => p a.toNat := by
  congr 1
  funext a
  exact h.2 _
theorem all_dec {z : Int} {b : Bool} (hz : 0 ≤ z ↔ b = false) : decide (0 ≤ z) = !b := by
  cases b with
  | true => exact decide_eq_false (fun h => by have := hz.1 h; cases this)
  | false => exact decide_eq_true (hz.2 rfl)
def numL (g : Nat → Bool) (k n : Nat) : List Int := (List.range n).map fun j => if j < k then (numN g j : Int) else 0
theorem K4 (g : Nat → Bool) (k n : Nat) : (numL g k n).length = n := by unfold numL; rw [List.length_map, List.length_range]
theorem qN {g : Nat → Bool} {k n i : Nat} (h : i < (numL g k n).length) : (numL g k n)[i] = if i < k then (numN g i : Int) else 0 := by
  have e : (numL g k n)[i]? = some (if i < k then (numN g i : Int) else 0) := by
    unfold numL; rw [List.getElem?_map, List.getElem?_range (by rw [K4] at h; exact h)]
    rfl
  rw [List.getElem?_eq_getElem h] at e; exact Option.some.inj e
theorem dx3 (g : Nat → Bool) (n : Nat) : numL g 0 n = List.replicate n 0 := by
  refine List.ext_getElem (by rw [K4, List.length_replicate]) fun i h1 h2 => ?_; rw [qN, List.getElem_replicate, if_neg (by omega)]
theorem ij0 {g : Nat → Bool} {k n : Nat} (hk : k < n) : (numL g k n).set k (numN g k : Int) = numL g (k + 1) n := by
  refine List.ext_getElem (by rw [List.length_set, K4, K4]) fun i h1 h2 => ?_; rw [List.getElem_set, qN, qN]
  by_cases e : k = i
  · subst e; rw [if_pos rfl, if_pos (by omega)]
  rw [if_neg e]
  by_cases e2 : i < k
  · rw [if_pos e2, if_pos (by omega)]
  rw [if_neg e2, if_neg (by omega)]
theorem cq9 {g : Nat → Bool} {j n : Nat} (hj : j < n) : (numL g n n).getD j default = (numN g j : Int) := by
  rw [u9 (by rw [K4]; exact hj), qN, if_pos hj]
theorem cj0 (g : Nat → Bool) (l : List Int) {j : Nat} (hj : j < l.length) : dropA g (l.take (j + 1)) = if g (l.getD j default).toNat = true then dropA g (l.take j) else dropA g (l.take j) ++ [(numN g (l.getD j default).toNat : Int)] := by
  unfold dropA; rw [s4 l j hj, List.filter_append, List.map_append]; generalize l.getD j default = a
  by_cases h : g a.toNat = true
  · rw [if_pos h]; simp [h]
  rw [if_neg h]; simp [h]
theorem gx4 (g : Nat → Bool) (l : List Int) : (dropA g l).length ≤ l.length := by
  unfold dropA; rw [List.length_map]; exact List.length_filter_le _ _
abbrev OutR := List Hd × OutC × OutC
structure TrIs (t : Tr) (x : OutR) : Prop where
  p : x.1.map Hd.p = t.hs
  a : t.cs.length ≤ x.2.1.2
  b : x.1.length ≤ x.2.2.2
def dropE (t : Tr) (h : Int) : Tr × Int := if ¬ askE t [h] = 0 then (⟨[], []⟩, askE t [h]) else (dropT t h.toNat, 0)
theorem dP {g : Nat} (m a : Nat) (hm : m < 256) (ha : a < 8) : Meets Tryz.prog F.E3 [int a, .pointer (b8 g)] { hpI := [(g, Obj.cells #[u8 m] T.y0 (0, 0))], val := fun _ : Unit => .bool (!m.testBit a), hpO := fun _ => [(g, Obj.cells #[u8 m] T.y0 (0, 0))] } := by
 refine i7 F.lW rfl p7 fun w0 => ?_; refine i4 (b7 rfl (j8 ?_))
 first | refine a6 rfl T.j6 rfl (h9 mB rfl) ?_ | refine a6 rfl T.j6 rfl (d8 mB rfl) ?_ | refine a6 rfl T.j6 rfl (d3 mB (b4 (by omega) rfl)) ?_ | refine a6 rfl T.j6 rfl (d1 mB (rows_get (by omega) rfl)) ?_ | refine a6 rfl T.j6 rfl (d7 mB rfl) ?_
 refine a8 rfl ?_; refine d5 F.C2 rfl rfl (A5 m a hm ha) j5 trivial fun _ _ => ?_; refine B3 rfl rfl (b7 rfl (d9 (k5 ?_))); exact ret1 () rfl rfl rfl trivial (List.Sublist.refl _) trivial
theorem aN {A : Option Addr} {cp g : Nat} (l : List Int) (m : Nat) (hm : m < 256) (hl : l.length ≤ 1000000) (hr : ∀ a ∈ l, 0 ≤ a ∧ a < 8) : Meets Tryz.prog F.K8 [.slice A l.length cp, .func (.func F.E3) #[] #[.pointer (b8 g)]] { hpI := [(g, Obj.cells #[u8 m] T.y0 (0, 0))], LI := [Row A (rows l)], inv := fun z : Int => (0 ≤ z ↔ (l.all fun a => m.testBit a.toNat) = false), val := fun z => int z, hpO := fun _ => [(g, Obj.cells #[u8 m] T.y0 (0, 0))] } := by
 refine i7 F.gE rfl p7 fun w0 => ?_; refine i4 (b7 rfl (d9 (i1 (i4 (a8 rfl ?_))))); refine k4 rfl T.s5 rfl ?_; refine a8 rfl (d9 (i9 ?_)); refine p6 (β := Nat) ⟨fun k => k ≤ l.length ∧ ((l.take k).all fun a => m.testBit a.toNat) = true, fun k => [(0, .slice A l.length cp), (1, .func (.func F.E3) #[] #[.pointer (b8 g)]), (7, int l.length), (8, int k)], fun _ => [(g, Obj.cells #[u8 m] T.y0 (0, 0))], fun _ => [Row A (rows l)]⟩ (fun k => l.length - k) 0 ⟨Nat.zero_le _, rfl⟩ mC (List.Sublist.refl _) mC fun k hk => ?_; obtain ⟨hk, ht⟩ := hk; refine i4 (t7 rfl rfl rfl (d9 (i1 ?_)))
 first | refine k8 rfl (fun hb1 => ?_) (fun hb1 => ?_) | refine i5 rfl (fun hb1 => ?_) (fun hb1 => ?_)
 ·have hb1' := hb1; try simp at hb1'
  have hk2 : k < l.length := by omega
  have hak := hr _ (s6 hk2); obtain ⟨a, ha⟩ := Int.eq_ofNat_of_zero_le hak.1; refine j3 (g6 (i1 (i9 (i4 (a8 rfl (b7 rfl (j8 ?_))))))); refine a8 rfl (a8 rfl (a8 rfl ?_)); refine r9 (α := Int) l k rfl T.s5 T.v6 rfl rfl rfl mB rfl hk2 (by decide) ?_; refine a6 (v := int (a : Int)) rfl T.b2 rfl (d3 mB (b4 hk2 (by rw [← ha]; rfl))) ?_; refine Y7 (vs := [int (a : Int)]) (cap := [.pointer (b8 g)]) F.jV rfl rfl rfl (dP m a hm (by omega)) j5 trivial fun _ _ => ?_; refine d9 ?_
  first | refine k8 rfl (fun hb2 => ?_) (fun hb2 => ?_) | refine i5 rfl (fun hb2 => ?_) (fun hb2 => ?_)
  ·have hb2' := hb2; try simp at hb2'
   have hx : m.testBit a = false := by simpa using hb2
   refine i4 (a8 rfl (b7 rfl (d9 (k5 (B7 (z8 (B7 ?_))))))); exact ret1 (k : Int) rfl rfl rfl ⟨fun _ => List.all_eq_false.2 ⟨_, s6 hk2, by rw [ha, Int.toNat_natCast, hx]; decide⟩, fun _ => by omega⟩ (List.Sublist.refl _) trivial
  have hb2' := hb2; try simp at hb2'
  have hx : m.testBit a = true := by simpa using hb2
  refine j3 (n9 (g6 (b9 ?_))); refine q9 _ rfl rfl rfl rfl n5 ?_; refine a8 rfl (b3 ?_); exact again _ (k + 1) ⟨by omega, by rw [s4 l k hk2, List.all_append, ht, Bool.true_and, List.all_cons, ha, Int.toNat_natCast, hx]; rfl⟩ (r6 (by omega)) mC (List.Sublist.refl _) mC
 have hb1' := hb1; try simp at hb1'
 have hk2 : k = l.length := by omega
 subst hk2; rw [List.take_length] at ht; refine n2 (t4 (n1 (g6 (i4 (b7 rfl (d9 (k5 ?_))))))); exact ret1 (-1) rfl rfl rfl ⟨fun h => by omega, fun h => by rw [ht] at h; cases h⟩ (List.Sublist.refl _) trivial
theorem W6 {A : Option Addr} {cp g : Nat} (l : List Int) (m : Nat) (hm : m < 256) (hl : l.length ≤ 1000000) (hr : ∀ a ∈ l, 0 ≤ a ∧ a < 8) : Meets Tryz.prog F.I8 [.slice A l.length cp, .func (.func F.E3) #[] #[.pointer (b8 g)]] { hpI := [(g, Obj.cells #[u8 m] T.y0 (0, 0))], LI := [Row A (rows l)], val := fun _ : Unit => .bool (!(l.all fun a => m.testBit a.toNat)), hpO := fun _ => [(g, Obj.cells #[u8 m] T.y0 (0, 0))] } := by
 refine i7 F.bK rfl p7 fun w0 => ?_; refine i4 (b7 rfl (j8 (a8 rfl (a8 rfl ?_)))); refine d5 F.cZ rfl rfl (aN l m hm hl hr) j5 mC fun z hz => ?_; refine bM rfl rfl rfl (b7 rfl (d9 (k5 ?_))); exact ret1 () rfl (congrArg (fun b => some (Value.bool b)) (all_dec hz)) rfl trivial (List.Sublist.refl _) trivial
theorem mK {A : Option Addr} {c : Nat} (l : List Cl) (hl : l.length ≤ 1000000) : Meets Tryz.prog F.dB [.slice A l.length c] { LI := [Row A (rows l)], inv := fun x : OutC × Hp => Grow T.r5 2 x.1.1 l.length x.1.2 (rows l) x.2, val := fun x => .slice x.1.1 l.length x.1.2, hpO := fun x => x.2 } := by
 refine i7 F.tA rfl p7 fun w0 => ?_; refine i4 (b7 rfl (d9 (i1 (i4 (a8 rfl (aj7 rfl T.p8 rfl rfl (d9 ?_))))))); refine i5 rfl (fun hb1 => ?_) (fun hb1 => ?_)
 ·have hb1' := hb1; try simp at hb1'
  have hA : A = none := by cases A with | none => rfl | some a => cases hb1
  subst hA; refine cx9 (φ := l = []) (fun w hw => zY (by decide) (hw.fs (Row none (rows l)) m0)) fun hl0 => ?_; subst hl0; refine i4 (b7 rfl (d9 (P8 ?_))); exact ret1 ((none, 0), []) rfl rfl rfl (Grow.nil _ _) (.refl _) trivial
 have hb1' := hb1; try simp at hb1'
 refine j3 (g6 (i4 ?_)); refine j4 _ rfl rfl (fun _ => T.sJ ..) fun gS => ?_; refine a8 rfl ?_; refine B6 l.length (rows l) T.vN rfl rfl rfl (Grow.new (cs := #[]) (n := 0) rfl (Nat.zero_le _)) (.refl _) (Src.row m0 (I2 l) (A9 l) (by decide)) (by omega) rfl (by unfold maxLen; omega) (by omega) fun A' c' og' hG => ?_; refine b7 rfl (d9 (k5 ?_)); exact ret1 ((A', c'), og') rfl rfl rfl hG (List.sublist_append_left _ _) trivial
set_option maxHeartbeats 2000000 in
theorem jD {A B oa ka : Option Addr} {ca cb oc kc gl : Nat} (cs : List Cl) (hs : List Hd) (i : Nat) (hok : TrOK (trOf cs hs)) (hi : i < hs.length) (hca : cs.length ≤ ca) (ha : ∀ h ∈ hs, h.2.2.2.l.length ≤ 1000000) : Meets Tryz.prog F.Z2 [.pointer (b8 gl), int i] { LI := [Row (b8 gl) [.slice A cs.length ca, .slice B hs.length cb, .slice oa cs.length oc, .slice ka hs.length kc], Row ka (rows (kindsN hs hs.length)), Row A (rows cs), RowsF B hs Hd.row], inv := fun x : OutR => TrIs (dropT (trOf cs hs) i) x, val := fun x => .agg #[.slice x.2.1.1 cs.length x.2.1.2, .slice x.2.2.1 x.1.length x.2.2.2], LO := fun x => [Row x.2.1.1 (rows cs), RowsF x.2.2.1 x.1 Hd.row] } := by
 refine i7 F.pV rfl p7 fun w0 => ?_; refine i4 ?_; refine r7 rfl (fun _ => T.v9 _) fun gR => ?_; refine d9 (i1 ?_); have h6h := hok.h6; have h6 : cs.length ≤ 6 := hok.c6; have hln := t0 cs hs; rw [hln] at h6h; have hS := qH hok; have hH : (hs.map Hd.p).length = hs.length := List.length_map ..; refine b9 (a8 rfl ?_); refine d5 F.w6 rfl rfl (t8 0 i (by decide) (by omega)) j5 trivial fun _ _ => ?_; refine r7 rfl (fun _ => T.lG _) fun g5 => ?_; refine z9 rfl rfl (.refl _) T.v5 (by rfl) (by rfl) ?_; refine d9 (i1 (i4 (a8 rfl (l9 rfl rfl ?_))))
 first | refine a7 ⟨_, 0, none⟩ rfl rfl T.l7 rfl ?_ | refine a7 _ rfl rfl T.l7 rfl ?_
 first | refine a7 ⟨_, 1, none⟩ rfl rfl T.j0 rfl ?_ | refine a7 _ rfl rfl T.j0 rfl ?_
 first | refine a6 rfl T.a9 rfl (h9 mB rfl) ?_ | refine a6 rfl T.a9 rfl (d8 mB rfl) ?_ | refine a6 rfl T.a9 rfl (d3 mB (b4 (by omega) rfl)) ?_ | refine a6 rfl T.a9 rfl (d1 mB (rows_get (by omega) rfl)) ?_ | refine a6 rfl T.a9 rfl (d7 mB rfl) ?_
 refine k4 rfl T.m9 rfl ?_; refine a8 rfl (d9 (i9 ?_)); refine p6 (β := Nat × Nat) ⟨fun x => x.1 ≤ hs.length ∧ SetIs x.2 (goneR (hs.map Hd.p) (fun j => decide (i = j)) x.1), fun x => [(0, .pointer (b8 gl)), (4, .pointer (b8 gR)), (5, .pointer (b8 g5)), (26, int hs.length), (27, int x.1)], fun x => [(g5, Obj.cells #[u8 x.2] T.y0 (0, 0)), (gR, Obj.cells #[.slice none 0 0, .slice none 0 0] T.i2 (0, 0))], fun _ => [Row (b8 gl) [.slice A cs.length ca, .slice B hs.length cb, .slice oa cs.length oc, .slice ka hs.length kc], Row ka (rows (kindsN hs hs.length)), Row A (rows cs), RowsF B hs Hd.row]⟩ (fun x => hs.length - x.1) (0, 0 ||| 2 ^ i) ⟨Nat.zero_le _, SetIs.add (p := fun _ => false) ⟨by decide, fun j => by simp⟩ (by omega) fun j => rfl⟩ mC (List.Sublist.refl _) mC fun x hx => ?_; obtain ⟨r, m⟩ := x; obtain ⟨hr, hM⟩ := hx; simp only at hr hM; refine i4 (t7 rfl rfl rfl (d9 (i1 ?_)))
 first | refine k8 rfl (fun hb1 => ?_) (fun hb1 => ?_) | refine i5 rfl (fun hb1 => ?_) (fun hb1 => ?_)
 ·have hb1' := hb1; try simp at hb1'
  have hr2 : r < hs.length := by omega
  refine j3 (g6 (i1 (i9 (i4 (a8 rfl (l9 rfl rfl ?_))))))
  first | refine a7 ⟨_, 3, none⟩ rfl rfl T.j9 rfl ?_ | refine a7 _ rfl rfl T.j9 rfl ?_
  first | refine a6 rfl T.b6 rfl (h9 mB rfl) ?_ | refine a6 rfl T.b6 rfl (d8 mB rfl) ?_ | refine a6 rfl T.b6 rfl (d3 mB (b4 (by omega) rfl)) ?_ | refine a6 rfl T.b6 rfl (d1 mB (rows_get (by omega) rfl)) ?_ | refine a6 rfl T.b6 rfl (d7 mB rfl) ?_
  refine k4 rfl T.r8 rfl ?_; refine a8 rfl (d9 (i9 ?_)); refine p6 (β := Nat × Nat) ⟨fun x => x.1 ≤ hs.length ∧ SetIs x.2 (goneK (hs.map Hd.p) (goneR (hs.map Hd.p) (fun j => decide (i = j)) r) x.1), fun x => [(0, .pointer (b8 gl)), (4, .pointer (b8 gR)), (5, .pointer (b8 g5)), (26, int hs.length), (27, int r), (32, .slice ka hs.length kc), (33, int hs.length), (34, int x.1)], fun x => [(g5, Obj.cells #[u8 x.2] T.y0 (0, 0)), (gR, Obj.cells #[.slice none 0 0, .slice none 0 0] T.i2 (0, 0))], fun _ => [Row (b8 gl) [.slice A cs.length ca, .slice B hs.length cb, .slice oa cs.length oc, .slice ka hs.length kc], Row ka (rows (kindsN hs hs.length)), Row A (rows cs), RowsF B hs Hd.row]⟩ (fun x => hs.length - x.1) (0, m) ⟨Nat.zero_le _, hM⟩ mC (List.Sublist.refl _) mC fun x hx => ?_; clear hM; obtain ⟨k, m⟩ := x; obtain ⟨hk, hM⟩ := hx; simp only at hk hM; refine i4 (t7 rfl rfl rfl (d9 (i1 ?_)))
  first | refine k8 rfl (fun hb2 => ?_) (fun hb2 => ?_) | refine i5 rfl (fun hb2 => ?_) (fun hb2 => ?_)
  ·have hb2' := hb2; try simp at hb2'
   have hk2 : k < hs.length := by omega
   have hSk := hS k hk2
   have hai : ∀ a ∈ (hs.getD k default).2.2.2.l, 0 ≤ a ∧ a < 8 := fun a hm => by
     have h1 := dj2 (hok.h k (by rw [hln]; exact hk2)) a (by rw [show (trOf cs hs).hs.getD k default = (hs.getD k default).p from G8 hk2]; exact hm); rw [hln] at h1
     omega
   have hall := jq6 hM (hs.getD k default).2.2.2.l; have hal := ha _ (s6 hk2); refine j3 (g6 (i1 (i9 (i4 (a8 rfl ?_))))); refine r9 (α := Kd) (kindsN hs hs.length) k rfl T.r8 T.E1 rfl rfl rfl mB (t6 (Nat.le_refl _)).symm (by rw [t6 (Nat.le_refl _)]; exact hk2) (by decide) ?_; refine a6 (v := (kindOf (hs.getD k default)).v) rfl T.C1 rfl (d3 mB (b4 (by rw [t6 (Nat.le_refl _)]; exact hk2) (by rw [U0 hk2]; rfl))) ?_; refine b7 rfl (b7 rfl (j8 (a8 rfl (d9 (i9 (i4 ?_)))))); refine cq5 (kd := (kindOf (hs.getD k default))) rfl rfl rfl ?_; refine i6 rfl rfl rfl (i6 rfl rfl rfl (d9 ?_))
   first | refine k8 rfl (fun hb3 => ?_) (fun hb3 => ?_) | refine i5 rfl (fun hb3 => ?_) (fun hb3 => ?_)
   ·have hb3' := hb3; try simp at hb3'
    have hfp := fun g => gq0 (g := g) hk2 hb3
    have hse0 : 0 ≤ (kindOf (hs.getD k default)).see ∧ (kindOf (hs.getD k default)).see < (hs.length : Int) := by
      have h1 := hb3; rw [iM, decide_eq_true_eq] at h1; rw [yQ h1]
      omega
    refine i4 ?_; refine r7 rfl (fun _ => T.N4 _) fun g8 => ?_; refine r4 (cs := #[int (kindOf (hs.getD k default)).see]) rfl rfl (.refl _) T.M8 (by rfl) (by rfl) ?_; refine d9 (i1 (D9 (b9 ?_)))
    first | refine a6 rfl T.j6 rfl (h9 mB rfl) ?_ | refine a6 rfl T.j6 rfl (d8 mB rfl) ?_ | refine a6 rfl T.j6 rfl (d3 mB (b4 (by omega) rfl)) ?_ | refine a6 rfl T.j6 rfl (d1 mB (rows_get (by omega) rfl)) ?_ | refine a6 rfl T.j6 rfl (d7 mB rfl) ?_
    first | refine a7 ⟨_, 0, none⟩ rfl rfl T.B0 rfl ?_ | refine a7 _ rfl rfl T.B0 rfl ?_
    first | refine a6 rfl T.b2 rfl (h9 mB rfl) ?_ | refine a6 rfl T.b2 rfl (d8 mB rfl) ?_ | refine a6 rfl T.b2 rfl (d3 mB (b4 (by omega) rfl)) ?_ | refine a6 rfl T.b2 rfl (d1 mB (rows_get (by omega) rfl)) ?_ | refine a6 rfl T.b2 rfl (d7 mB rfl) ?_
    refine d5 (vs := [u8 m, int ((kindOf (hs.getD k default)).see.toNat : Int)]) F.C2 rfl (by rw [Int.toNat_of_nonneg hse0.1]; rfl) (A5 m (kindOf (hs.getD k default)).see.toNat hM.1 (by omega)) j5 trivial fun _ _ => ?_; refine d9 ?_
    first | refine k8 rfl (fun hb4 => ?_) (fun hb4 => ?_) | refine i5 rfl (fun hb4 => ?_) (fun hb4 => ?_)
    ·have hb4' := hb4; try simp at hb4'
     have hf : fallsB (hs.map Hd.p) (goneK (hs.map Hd.p) (goneR (hs.map Hd.p) (fun j => decide (i = j)) r) k) k = true := by rw [hfp, ← hM.2]; exact hb4
     refine b9 ?_
     first | refine a6 rfl T.j6 rfl (h9 mB rfl) ?_ | refine a6 rfl T.j6 rfl (d8 mB rfl) ?_ | refine a6 rfl T.j6 rfl (d3 mB (b4 (by omega) rfl)) ?_ | refine a6 rfl T.j6 rfl (d1 mB (rows_get (by omega) rfl)) ?_ | refine a6 rfl T.j6 rfl (d7 mB rfl) ?_
     refine a8 rfl ?_; refine d5 F.w6 rfl rfl (t8 m k hM.1 (by omega)) j5 trivial fun _ _ => ?_; refine z9 rfl rfl (.refl _) T.v5 (by rfl) (by rfl) ?_; refine b3 (n9 (n9 (g6 (b9 ?_)))); refine q9 _ rfl rfl rfl rfl n5 ?_; refine a8 rfl (b3 ?_); exact again _ (k + 1, m ||| 2 ^ k) ⟨by show k + 1 ≤ hs.length; omega, hM.add (by omega) (iz2 hf)⟩ (r6 (by omega)) mC (List.Sublist.refl _) mC
    have hb4' := hb4; try simp at hb4'
    have hf : fallsB (hs.map Hd.p) (goneK (hs.map Hd.p) (goneR (hs.map Hd.p) (fun j => decide (i = j)) r) k) k = false := by rw [hfp, ← hM.2]; exact hb4
    refine j3 (n9 (n9 (g6 (b9 ?_)))); refine q9 _ rfl rfl rfl rfl n5 ?_; refine a8 rfl (b3 ?_); exact again _ (k + 1, m) ⟨by show k + 1 ≤ hs.length; omega, hM.same (bx9 hf)⟩ (r6 (by omega)) mC (List.Sublist.refl _) mC
   have hb3' := hb3; try simp at hb3'
   refine i4 ?_; refine r_asI (kd := (kindOf (hs.getD k default))) rfl rfl rfl ?_; refine i6 rfl rfl rfl (i6 rfl rfl rfl (d9 ?_))
   first | refine k8 rfl (fun hb5 => ?_) (fun hb5 => ?_) | refine i5 rfl (fun hb5 => ?_) (fun hb5 => ?_)
   ·have hb5' := hb5; try simp at hb5'
    have hix := (ix4 hb5).2.2; refine i4 ?_; refine r7 rfl (fun _ => T.vX _) fun g9 => ?_; refine r4 (cs := #[.slice (hs.getD k default).2.2.2.a (hs.getD k default).2.2.2.l.length (hs.getD k default).2.2.2.c]) rfl (congrArg (fun s : Sl Int => some (Value.agg #[.slice s.a s.l.length s.c])) hix) (.refl _) T.uN (by rfl) (by rfl) ?_; refine d9 (i1 (D9 ?_)); refine aZ (p := (hs.getD k default)) (f := Hd.row) (ps := hs) mB (s6 hk2) ?_; refine b9 ?_
    first | refine a7 ⟨_, 0, none⟩ rfl rfl T.N3 rfl ?_ | refine a7 _ rfl rfl T.N3 rfl ?_
    first | refine a6 rfl T.k6 rfl (h9 mB rfl) ?_ | refine a6 rfl T.k6 rfl (d8 mB rfl) ?_ | refine a6 rfl T.k6 rfl (d3 mB (b4 (by omega) rfl)) ?_ | refine a6 rfl T.k6 rfl (d1 mB (rows_get (by omega) rfl)) ?_ | refine a6 rfl T.k6 rfl (d7 mB rfl) ?_
    refine W8 rfl rfl rfl ?_; refine d5 F.aO rfl rfl (W6 (hs.getD k default).2.2.2.l m hM.1 hal hai) j5 mC fun _ _ => ?_; refine B3 rfl rfl (d9 ?_)
    first | refine k8 rfl (fun hb6 => ?_) (fun hb6 => ?_) | refine i5 rfl (fun hb6 => ?_) (fun hb6 => ?_)
    ·have hb6' := hb6; try simp at hb6'
     have hf : fallsB (hs.map Hd.p) (goneK (hs.map Hd.p) (goneR (hs.map Hd.p) (fun j => decide (i = j)) r) k) k = true := by rw [xV hk2 hb5, ← hall]; simpa using hb6
     refine b9 ?_
     first | refine a6 rfl T.j6 rfl (h9 mB rfl) ?_ | refine a6 rfl T.j6 rfl (d8 mB rfl) ?_ | refine a6 rfl T.j6 rfl (d3 mB (b4 (by omega) rfl)) ?_ | refine a6 rfl T.j6 rfl (d1 mB (rows_get (by omega) rfl)) ?_ | refine a6 rfl T.j6 rfl (d7 mB rfl) ?_
     refine a8 rfl ?_; refine d5 F.w6 rfl rfl (t8 m k hM.1 (by omega)) j5 trivial fun _ _ => ?_; refine z9 rfl rfl (.refl _) T.v5 (by rfl) (by rfl) ?_; refine b3 (n9 (n9 (g6 (b9 ?_)))); refine q9 _ rfl rfl rfl rfl n5 ?_; refine a8 rfl (b3 ?_); exact again _ (k + 1, m ||| 2 ^ k) ⟨by show k + 1 ≤ hs.length; omega, hM.add (by omega) (iz2 hf)⟩ (r6 (by omega)) mC (List.Sublist.refl _) mC
    have hb6' := hb6; try simp at hb6'
    have hf : fallsB (hs.map Hd.p) (goneK (hs.map Hd.p) (goneR (hs.map Hd.p) (fun j => decide (i = j)) r) k) k = false := by rw [xV hk2 hb5, ← hall]; simpa using hb6
    refine j3 (n9 (n9 (g6 (b9 ?_)))); refine q9 _ rfl rfl rfl rfl n5 ?_; refine a8 rfl (b3 ?_); exact again _ (k + 1, m) ⟨by show k + 1 ≤ hs.length; omega, hM.same (bx9 hf)⟩ (r6 (by omega)) mC (List.Sublist.refl _) mC
   have hb5' := hb5; try simp at hb5'
   refine j3 (n9 (n9 (g6 (b9 ?_)))); refine q9 _ rfl rfl rfl rfl n5 ?_; refine a8 rfl (b3 ?_); exact again _ (k + 1, m) ⟨by show k + 1 ≤ hs.length; omega, hM.same (bx9 (gq1 hk2 hb3 hb5))⟩ (r6 (by omega)) mC (List.Sublist.refl _) mC
  have hb2' := hb2; try simp at hb2'
  obtain rfl : k = hs.length := by omega
  refine n2 (t4 (n1 (n9 (g6 (b9 ?_))))); refine q9 _ rfl rfl rfl rfl n5 ?_; refine a8 rfl (b3 ?_); exact again _ (r + 1, m) ⟨by show r + 1 ≤ hs.length; omega, by show SetIs m (goneK (hs.map Hd.p) (goneR (hs.map Hd.p) (fun j => decide (i = j)) r) (hs.map Hd.p).length); rw [hH]; exact hM⟩ (r6 (by omega)) mC (List.Sublist.refl _) mC
 have hb1' := hb1; try simp at hb1'
 obtain rfl : r = hs.length := by omega
 have hM2 : SetIs m (goneB (hs.map Hd.p) i) := by unfold goneB; rw [hH]; exact hM
 refine n2 (t4 (n1 (g6 (i1 ?_)))); clear hM; refine D9 (b9 (a8 rfl (l9 rfl rfl ?_)))
 first | refine a7 ⟨_, 0, none⟩ rfl rfl T.l7 rfl ?_ | refine a7 _ rfl rfl T.l7 rfl ?_
 first | refine a7 ⟨_, 1, none⟩ rfl rfl T.j0 rfl ?_ | refine a7 _ rfl rfl T.j0 rfl ?_
 first | refine a6 rfl T.a9 rfl (h9 mB rfl) ?_ | refine a6 rfl T.a9 rfl (d8 mB rfl) ?_ | refine a6 rfl T.a9 rfl (d3 mB (b4 (by omega) rfl)) ?_ | refine a6 rfl T.a9 rfl (d1 mB (rows_get (by omega) rfl)) ?_ | refine a6 rfl T.a9 rfl (d7 mB rfl) ?_
 refine k4 rfl T.m9 rfl ?_; refine r_make1 (n := hs.length) rfl T.s5 T.zi_ints rfl rfl rfl rfl (by omega) (by omega) fun g10 => ?_; rw [← uP (α := Int) _ 0 _ rfl]; refine b7 rfl (j8 (b7 rfl (d9 (i1 (i4 (a8 rfl ?_)))))); refine l9 rfl rfl ?_
 first | refine a7 ⟨_, 0, none⟩ rfl rfl T.l7 rfl ?_ | refine a7 _ rfl rfl T.l7 rfl ?_
 first | refine a7 ⟨_, 1, none⟩ rfl rfl T.j0 rfl ?_ | refine a7 _ rfl rfl T.j0 rfl ?_
 first | refine a6 rfl T.a9 rfl (h9 mB rfl) ?_ | refine a6 rfl T.a9 rfl (d8 mB rfl) ?_ | refine a6 rfl T.a9 rfl (d3 mB (b4 (by omega) rfl)) ?_ | refine a6 rfl T.a9 rfl (d1 mB (rows_get (by omega) rfl)) ?_ | refine a6 rfl T.a9 rfl (d7 mB rfl) ?_
 refine k4 rfl T.m9 rfl ?_; refine a8 rfl (d9 (i9 ?_)); refine p6 (β := Nat) ⟨fun k => k ≤ hs.length, fun k => [(0, .pointer (b8 gl)), (4, .pointer (b8 gR)), (5, .pointer (b8 g5)), (10, .slice (b8 g10) hs.length hs.length), (11, int (numN (goneB (hs.map Hd.p) i) k)), (75, int hs.length), (76, int k)], fun k => [(g10, Obj.cells (rows (numL (goneB (hs.map Hd.p) i) k hs.length)).toArray T.int (0, 0)), (gR, Obj.cells #[.slice none 0 0, .slice none 0 0] T.i2 (0, 0))], fun _ => Blk g5 (.cells #[u8 m] T.y0 (0, 0)) :: [Row (b8 gl) [.slice A cs.length ca, .slice B hs.length cb, .slice oa cs.length oc, .slice ka hs.length kc], Row ka (rows (kindsN hs hs.length)), Row A (rows cs), RowsF B hs Hd.row]⟩ (fun k => hs.length - k) 0 (Nat.zero_le _) mC (by show List.Sublist [(g10, Obj.cells (rows (numL (goneB (hs.map Hd.p) i) 0 hs.length)).toArray T.int (0, 0)), (gR, Obj.cells #[.slice none 0 0, .slice none 0 0] T.i2 (0, 0))] _; rw [dx3]; exact List.Sublist.refl _) mC fun k hk => ?_; refine i4 (t7 rfl rfl rfl (d9 (i1 ?_)))
 first | refine k8 rfl (fun hb7 => ?_) (fun hb7 => ?_) | refine i5 rfl (fun hb7 => ?_) (fun hb7 => ?_)
 ·have hb7' := hb7; try simp at hb7'
  have hk2 : k < hs.length := by omega
  have hnl := hz9 (goneB (hs.map Hd.p) i) k; have hns := hz8 (goneB (hs.map Hd.p) i) k; refine j3 (g6 (i1 (i9 (i4 (a8 rfl (b7 rfl (j8 ?_))))))); refine a8 rfl (a8 rfl (a8 rfl ?_)); refine l6 k (0 + k * 1) rfl T.s5 T.v6 rfl rfl rfl hk2 rfl ?_; refine z9 rfl rfl (.refl _) T.v6 (E9 rfl (arr_take (numL (goneB (hs.map Hd.p) i) k hs.length)) (by rw [K4]; exact hk2) (by omega) rfl) (by rfl) ?_; rw [arr_set, ij0 hk2]; refine j8 ?_
  first | refine a6 rfl T.j6 rfl (h9 mB rfl) ?_ | refine a6 rfl T.j6 rfl (d8 mB rfl) ?_ | refine a6 rfl T.j6 rfl (d3 mB (b4 (by omega) rfl)) ?_ | refine a6 rfl T.j6 rfl (d1 mB (rows_get (by omega) rfl)) ?_ | refine a6 rfl T.j6 rfl (d7 mB rfl) ?_
  refine a8 rfl ?_; refine d5 F.C2 rfl rfl (A5 m k hM2.1 (by omega)) j5 trivial fun _ _ => ?_; refine B3 rfl rfl (d9 ?_)
  first | refine k8 rfl (fun hb8 => ?_) (fun hb8 => ?_) | refine i5 rfl (fun hb8 => ?_) (fun hb8 => ?_)
  ·have hb8' := hb8; try simp at hb8'
   have hg : (goneB (hs.map Hd.p) i) k = false := by rw [← hM2.2]; simpa using hb8
   rw [if_neg (by rw [hg]; decide)] at hns; refine b9 (a8 rfl ?_); refine q9 _ rfl rfl rfl rfl n5 ?_; refine b7 rfl (b3 (n9 (g6 (b9 ?_)))); refine q9 _ rfl rfl rfl rfl n5 ?_; refine a8 rfl (b3 ?_); exact again _ (k + 1) (by show k + 1 ≤ hs.length; omega) (r6 (by omega)) ⟨rfl, rfl, rfl, rfl, congrArg (fun z : Int => some (int z)) (by show ((numN (goneB (hs.map Hd.p) i) k) : Int) + 1 = ((numN (goneB (hs.map Hd.p) i) (k + 1)) : Int); omega), rfl, rfl, trivial⟩ (List.Sublist.refl _) mC
  have hb8' := hb8; try simp at hb8'
  have hg : (goneB (hs.map Hd.p) i) k = true := by rw [← hM2.2]; simpa using hb8
  rw [if_pos hg] at hns; refine j3 (n9 (g6 (b9 ?_))); refine q9 _ rfl rfl rfl rfl n5 ?_; refine a8 rfl (b3 ?_); exact again _ (k + 1) (by show k + 1 ≤ hs.length; omega) (r6 (by omega)) ⟨rfl, rfl, rfl, rfl, congrArg (fun z : Int => some (int z)) (by show ((numN (goneB (hs.map Hd.p) i) k) : Int) = ((numN (goneB (hs.map Hd.p) i) (k + 1)) : Int); omega), rfl, rfl, trivial⟩ (List.Sublist.refl _) mC
 have hb7' := hb7; try simp at hb7'
 obtain rfl : k = hs.length := by omega
 refine n2 (t4 (n1 (g6 (i1 ?_)))); refine C4 (rows (numL (goneB (hs.map Hd.p) i) hs.length hs.length)) ⟨[], List.append_nil _⟩ ?_; refine b9 (a8 rfl (l9 rfl rfl ?_))
 first | refine a7 ⟨_, 0, none⟩ rfl rfl T.l7 rfl ?_ | refine a7 _ rfl rfl T.l7 rfl ?_
 first | refine a7 ⟨_, 0, none⟩ rfl rfl T.k0 rfl ?_ | refine a7 _ rfl rfl T.k0 rfl ?_
 first | refine a6 rfl T.b5 rfl (h9 mB rfl) ?_ | refine a6 rfl T.b5 rfl (d8 mB rfl) ?_ | refine a6 rfl T.b5 rfl (d3 mB (b4 (by omega) rfl)) ?_ | refine a6 rfl T.b5 rfl (d1 mB (rows_get (by omega) rfl)) ?_ | refine a6 rfl T.b5 rfl (d7 mB rfl) ?_
 refine d5 F.rR rfl rfl (mK cs (by omega)) j5 mC fun y hy => ?_; obtain ⟨⟨xa, xc⟩, xo⟩ := y; have hGc : Grow T.r5 2 xa cs.length xc (rows cs) xo := hy; have hxc := hGc.le; refine rE hGc ?_; clear hy hGc; refine w7 _ rfl rfl (fun _ => T.tP ..) ?_; refine r7 rfl (fun _ => T.v9 _) fun g13 => ?_; refine r4 (cs := #[.slice xa cs.length xc, .slice none 0 0]) rfl rfl (.refl _) T.d4 (by rfl) (by rfl) ?_; refine d9 (i1 (i4 (a8 rfl (l9 rfl rfl ?_))))
 first | refine a7 ⟨_, 0, none⟩ rfl rfl T.l7 rfl ?_ | refine a7 _ rfl rfl T.l7 rfl ?_
 first | refine a7 ⟨_, 1, none⟩ rfl rfl T.j0 rfl ?_ | refine a7 _ rfl rfl T.j0 rfl ?_
 first | refine a6 rfl T.a9 rfl (h9 mB rfl) ?_ | refine a6 rfl T.a9 rfl (d8 mB rfl) ?_ | refine a6 rfl T.a9 rfl (d3 mB (b4 (by omega) rfl)) ?_ | refine a6 rfl T.a9 rfl (d1 mB (rows_get (by omega) rfl)) ?_ | refine a6 rfl T.a9 rfl (d7 mB rfl) ?_
 refine k4 rfl T.m9 rfl ?_; refine a8 rfl (d9 (i9 ?_)); refine J4 (ps := hs) (A := B) (f := Hd.row) mB ?_; refine bQ (Fs := ([] : List Hd).map Hd.row) (by intro F hF; simp at hF) ?_; refine p6 (β := Nat × List Hd × OutC × Hp) ⟨fun x => x.1 ≤ hs.length ∧ x.2.1.map Hd.p = dropHs (hs.map Hd.p) (goneB (hs.map Hd.p) i) x.1 ∧ Grow T.i8 4 x.2.2.1.1 x.2.1.length x.2.2.1.2 (rows x.2.1) x.2.2.2, fun x => [(4, .pointer (b8 gR)), (5, .pointer (b8 g5)), (10, .slice (b8 g10) hs.length hs.length), (13, .pointer (b8 g13)), (101, .slice B hs.length cb), (102, int hs.length), (103, int x.1)], fun x => (g13, Obj.cells #[.slice xa cs.length xc, .slice x.2.2.1.1 x.2.1.length x.2.2.1.2] T.i2 (0, 0)) :: (gR, Obj.cells #[.slice none 0 0, .slice none 0 0] T.i2 (0, 0)) :: x.2.2.2, fun x => [Blk g5 (.cells #[u8 m] T.y0 (0, 0)), Row (b8 g10) (rows (numL (goneB (hs.map Hd.p) i) hs.length hs.length)), Row xa (rows cs), Row B (rows hs), RowsF B hs Hd.row, innersF x.2.1 Hd.row]⟩ (fun x => hs.length - x.1) (0, [], (none, 0), []) ⟨Nat.zero_le _, rfl, Grow.nil _ _⟩ mC (List.Sublist.refl _) mC fun x hx => ?_; obtain ⟨k, ys, ⟨yA, yC⟩, og⟩ := x; obtain ⟨hk, hy, hG⟩ := hx; simp only at hk hy hG; have hyl : ys.length = (numN (goneB (hs.map Hd.p) i) k) := by have h1 := congrArg List.length hy; rw [List.length_map, bz9] at h1; exact h1
 have hnl := hz9 (goneB (hs.map Hd.p) i) k; refine i4 (t7 rfl rfl rfl (d9 (i1 ?_)))
 first | refine k8 rfl (fun hb9 => ?_) (fun hb9 => ?_) | refine i5 rfl (fun hb9 => ?_) (fun hb9 => ?_)
 ·have hb9' := hb9; try simp at hb9'
  have hk2 : k < hs.length := by omega
  have hSk := hS k hk2; have hds := az0 (hs.map Hd.p) (goneB (hs.map Hd.p) i) k; rw [G8 hk2] at hds
  have hai : ∀ a ∈ (hs.getD k default).2.2.2.l, 0 ≤ a ∧ a < (hs.length : Int) := fun a hm => by
    have h1 := dj2 (hok.h k (by rw [hln]; exact hk2)) a (by rw [show (trOf cs hs).hs.getD k default = (hs.getD k default).p from G8 hk2]; exact hm); rw [hln] at h1; exact ⟨h1.1, h1.2.1⟩
  have hal := ha _ (s6 hk2); refine j3 (g6 (i1 (i9 (i4 (a8 rfl ?_))))); refine r9 (α := Hd) hs k rfl T.m9 T.l8 rfl rfl rfl mB rfl hk2 (by decide) (q6 rfl T.z7 T.l8 rfl rfl (m7 mB (n7 (by omega))) ?_); refine r7 rfl (fun _ => T.D1 _) fun gA => ?_; refine b7 rfl ?_; refine r4 rfl rfl (by first | exact .refl _ | exact perm2 _ _ _ | exact perm3 _ _ _ _ | exact perm4 _ _ _ _ _) T.l8 (by rfl) (by rfl) ?_; refine d9 (bY ?_); refine C4 (rows [(hs.getD k default)]) ⟨[], List.append_nil _⟩ ?_; refine b9 ?_
  first | refine a6 rfl T.j6 rfl (h9 mB rfl) ?_ | refine a6 rfl T.j6 rfl (d8 mB rfl) ?_ | refine a6 rfl T.j6 rfl (d3 mB (b4 (by omega) rfl)) ?_ | refine a6 rfl T.j6 rfl (d1 mB (rows_get (by omega) rfl)) ?_ | refine a6 rfl T.j6 rfl (d7 mB rfl) ?_
  refine a8 rfl ?_; refine d5 F.C2 rfl rfl (A5 m k hM2.1 (by omega)) j5 trivial fun _ _ => ?_; refine d9 ?_
  first | refine k8 rfl (fun hb10 => ?_) (fun hb10 => ?_) | refine i5 rfl (fun hb10 => ?_) (fun hb10 => ?_)
  ·have hb10' := hb10; try simp at hb10'
   have hg : (goneB (hs.map Hd.p) i) k = true := by rw [← hM2.2]; exact hb10
   rw [if_pos hg] at hds; refine n2 (H5 (n1 (g6 (b9 ?_)))); refine q9 _ rfl rfl rfl rfl n5 ?_; refine a8 rfl (b3 ?_); exact again _ (k + 1, ys, (yA, yC), og) ⟨by show k + 1 ≤ hs.length; omega, by show ys.map Hd.p = _; rw [hds]; exact hy, hG⟩ (r6 (by omega)) mC (List.Sublist.refl _) mC
  have hb10' := hb10; try simp at hb10'
  have hg : (goneB (hs.map Hd.p) i) k = false := by rw [← hM2.2]; exact hb10
  rw [if_neg (by rw [hg]; decide)] at hds; refine j3 (g6 (i4 ?_))
  first | refine a7 ⟨_, 0, none⟩ rfl rfl T.n8 rfl ?_ | refine a7 _ rfl rfl T.n8 rfl ?_
  first | refine a6 rfl T.j2 rfl (h9 mB rfl) ?_ | refine a6 rfl T.j2 rfl (d8 mB rfl) ?_ | refine a6 rfl T.j2 rfl (d3 mB (b4 (by omega) rfl)) ?_ | refine a6 rfl T.j2 rfl (d1 mB (rows_get (by omega) rfl)) ?_ | refine a6 rfl T.j2 rfl (d7 mB rfl) ?_
  first | refine a7 ⟨_, 1, none⟩ rfl rfl T.p9 rfl ?_ | refine a7 _ rfl rfl T.p9 rfl ?_
  first | refine a6 rfl T.b2 rfl (h9 mB rfl) ?_ | refine a6 rfl T.b2 rfl (d8 mB rfl) ?_ | refine a6 rfl T.b2 rfl (d3 mB (b4 (by omega) rfl)) ?_ | refine a6 rfl T.b2 rfl (d1 mB (rows_get (by omega) rfl)) ?_ | refine a6 rfl T.b2 rfl (d7 mB rfl) ?_
  first | refine a7 ⟨_, 2, none⟩ rfl rfl T.n4 rfl ?_ | refine a7 _ rfl rfl T.n4 rfl ?_
  first | refine a6 rfl T.b2 rfl (h9 mB rfl) ?_ | refine a6 rfl T.b2 rfl (d8 mB rfl) ?_ | refine a6 rfl T.b2 rfl (d3 mB (b4 (by omega) rfl)) ?_ | refine a6 rfl T.b2 rfl (d1 mB (rows_get (by omega) rfl)) ?_ | refine a6 rfl T.b2 rfl (d7 mB rfl) ?_
  refine w7 _ rfl rfl (fun _ => T.cK ..) ?_; refine r7 rfl (fun _ => T.D1 _) fun g16 => ?_; refine r4 (cs := #[str (hs.getD k default).1, int (hs.getD k default).2.1, int (hs.getD k default).2.2.1, .slice none 0 0]) rfl rfl (.refl _) T.l8 (by rfl) (by rfl) ?_; refine d9 ?_; refine B8 ⟨fun z : Int => z = (if 0 ≤ (hs.getD k default).2.2.1 then ((numN (goneB (hs.map Hd.p) i) (hs.getD k default).2.2.1.toNat) : Int) else (hs.getD k default).2.2.1), fun _ => [(4, .pointer (b8 gR)), (5, .pointer (b8 g5)), (10, .slice (b8 g10) hs.length hs.length), (13, .pointer (b8 g13)), (101, .slice B hs.length cb), (102, int hs.length), (103, int k), (15, .pointer (b8 gA)), (16, .pointer (b8 g16))], fun z => (g16, Obj.cells #[str (hs.getD k default).1, int (hs.getD k default).2.1, int z, .slice none 0 0] T.i8 (0, 0)) :: (g13, Obj.cells #[.slice xa cs.length xc, .slice yA ys.length yC] T.i2 (0, 0)) :: (gR, Obj.cells #[.slice none 0 0, .slice none 0 0] T.i2 (0, 0)) :: og, fun _ => [Row (b8 gA) (rows [(hs.getD k default)]), Blk g5 (.cells #[u8 m] T.y0 (0, 0)), Row (b8 g10) (rows (numL (goneB (hs.map Hd.p) i) hs.length hs.length)), Row xa (rows cs), Row B (rows hs), RowsF B hs Hd.row, innersF ys Hd.row]⟩ ?_ ?_
  ·skip
   refine i4 ?_
   first | refine a7 ⟨_, 2, none⟩ rfl rfl T.n4 rfl ?_ | refine a7 _ rfl rfl T.n4 rfl ?_
   first | refine a6 rfl T.b2 rfl (h9 mB rfl) ?_ | refine a6 rfl T.b2 rfl (d8 mB rfl) ?_ | refine a6 rfl T.b2 rfl (d3 mB (b4 (by omega) rfl)) ?_ | refine a6 rfl T.b2 rfl (d1 mB (rows_get (by omega) rfl)) ?_ | refine a6 rfl T.b2 rfl (d7 mB rfl) ?_
   refine bM rfl rfl rfl (d9 ?_)
   first | refine k8 rfl (fun hb11 => ?_) (fun hb11 => ?_) | refine i5 rfl (fun hb11 => ?_) (fun hb11 => ?_)
   ·have hb11' := hb11; try simp at hb11'
    refine b9 (a8 rfl ?_)
    first | refine a7 ⟨_, 2, none⟩ rfl rfl T.n4 rfl ?_ | refine a7 _ rfl rfl T.n4 rfl ?_
    first | refine a6 rfl T.b2 rfl (h9 mB rfl) ?_ | refine a6 rfl T.b2 rfl (d8 mB rfl) ?_ | refine a6 rfl T.b2 rfl (d3 mB (b4 (by omega) rfl)) ?_ | refine a6 rfl T.b2 rfl (d1 mB (rows_get (by omega) rfl)) ?_ | refine a6 rfl T.b2 rfl (d7 mB rfl) ?_
    refine r9 (α := Int) (numL (goneB (hs.map Hd.p) i) hs.length hs.length) (hs.getD k default).2.2.1.toNat rfl T.s5 T.v6 rfl rfl (Int.toNat_of_nonneg hb11).symm mB (K4 _ _ _).symm (by rw [K4]; omega) (by decide) ?_; refine a6 (v := int ((numN (goneB (hs.map Hd.p) i) (hs.getD k default).2.2.1.toNat) : Int)) rfl T.b2 rfl (d3 mB (b4 (by rw [K4]; omega) (by rw [cq9 (by omega)]; rfl))) ?_
    first | refine a7 ⟨_, 2, none⟩ rfl rfl T.n4 rfl ?_ | refine a7 _ rfl rfl T.n4 rfl ?_
    refine z9 rfl rfl (.refl _) T.v6 (by rfl) (by rfl) ?_; refine b3 ?_; exact w4 _ ((numN (goneB (hs.map Hd.p) i) (hs.getD k default).2.2.1.toNat) : Int) (by show _ = _; rw [if_pos hb11]) mC (List.Sublist.refl _) mC
   have hb11' := hb11; try simp at hb11'
   refine j3 ?_; exact w4 _ (hs.getD k default).2.2.1 (by show _ = _; rw [if_neg hb11]) mC (List.Sublist.refl _) mC
  intro z hz; have hz : z = _ := hz; refine i1 (i4 ?_)
  first | refine a7 ⟨_, 3, none⟩ rfl rfl T.r0 rfl ?_ | refine a7 _ rfl rfl T.r0 rfl ?_
  first | refine a6 rfl T.k6 rfl (h9 mB rfl) ?_ | refine a6 rfl T.k6 rfl (d8 mB rfl) ?_ | refine a6 rfl T.k6 rfl (d3 mB (b4 (by omega) rfl)) ?_ | refine a6 rfl T.k6 rfl (d1 mB (rows_get (by omega) rfl)) ?_ | refine a6 rfl T.k6 rfl (d7 mB rfl) ?_
  refine k4 rfl T.s5 rfl ?_; refine a8 rfl (d9 (i9 ?_)); refine aZ (p := (hs.getD k default)) (f := Hd.row) (ps := hs) mB (s6 hk2) ?_; refine p6 (β := Nat × OutC × Hp) ⟨fun x => x.1 ≤ (hs.getD k default).2.2.2.l.length ∧ Grow T.int 1 x.2.1.1 (dropA (goneB (hs.map Hd.p) i) ((hs.getD k default).2.2.2.l.take x.1)).length x.2.1.2 (rows (dropA (goneB (hs.map Hd.p) i) ((hs.getD k default).2.2.2.l.take x.1))) x.2.2, fun x => [(4, .pointer (b8 gR)), (5, .pointer (b8 g5)), (10, .slice (b8 g10) hs.length hs.length), (13, .pointer (b8 g13)), (101, .slice B hs.length cb), (102, int hs.length), (103, int k), (16, .pointer (b8 g16)), (128, .slice (hs.getD k default).2.2.2.a (hs.getD k default).2.2.2.l.length (hs.getD k default).2.2.2.c), (129, int (hs.getD k default).2.2.2.l.length), (130, int x.1)], fun x => (g16, Obj.cells #[str (hs.getD k default).1, int (hs.getD k default).2.1, int z, .slice x.2.1.1 (dropA (goneB (hs.map Hd.p) i) ((hs.getD k default).2.2.2.l.take x.1)).length x.2.1.2] T.i8 (0, 0)) :: (g13, Obj.cells #[.slice xa cs.length xc, .slice yA ys.length yC] T.i2 (0, 0)) :: (gR, Obj.cells #[.slice none 0 0, .slice none 0 0] T.i2 (0, 0)) :: (x.2.2 ++ og), fun _ => [Hd.row (hs.getD k default), Blk g5 (.cells #[u8 m] T.y0 (0, 0)), Row (b8 g10) (rows (numL (goneB (hs.map Hd.p) i) hs.length hs.length)), Row xa (rows cs), Row B (rows hs), RowsF B hs Hd.row, innersF ys Hd.row]⟩ (fun x => (hs.getD k default).2.2.2.l.length - x.1) (0, (none, 0), []) ⟨Nat.zero_le _, Grow.nil _ _⟩ mC (List.Sublist.refl _) mC fun x hx => ?_; obtain ⟨j, ⟨dA, dC⟩, og2⟩ := x; obtain ⟨hj, hG5⟩ := hx; simp only at hj hG5; have hdl := gx4 (goneB (hs.map Hd.p) i) ((hs.getD k default).2.2.2.l.take j); rw [List.length_take] at hdl; refine i4 (t7 rfl rfl rfl (d9 (i1 ?_)))
  first | refine k8 rfl (fun hb12 => ?_) (fun hb12 => ?_) | refine i5 rfl (fun hb12 => ?_) (fun hb12 => ?_)
  ·have hb12' := hb12; try simp at hb12'
   have hj2 : j < (hs.getD k default).2.2.2.l.length := by omega
   have haj := hai _ (s6 hj2); have hda := cj0 (goneB (hs.map Hd.p) i) (hs.getD k default).2.2.2.l hj2; obtain ⟨e, he⟩ := Int.eq_ofNat_of_zero_le haj.1; rw [he, Int.toNat_natCast] at hda; refine j3 (g6 (i1 (i9 (i4 ?_)))); refine r9 (α := Int) (hs.getD k default).2.2.2.l j rfl T.s5 T.v6 rfl rfl rfl mB rfl hj2 (by decide) ?_; refine a6 (v := int (e : Int)) rfl T.b2 rfl (d3 mB (b4 hj2 (by rw [← he]; rfl))) ?_; refine b7 rfl (j8 ?_)
   first | refine a6 rfl T.j6 rfl (h9 mB rfl) ?_ | refine a6 rfl T.j6 rfl (d8 mB rfl) ?_ | refine a6 rfl T.j6 rfl (d3 mB (b4 (by omega) rfl)) ?_ | refine a6 rfl T.j6 rfl (d1 mB (rows_get (by omega) rfl)) ?_ | refine a6 rfl T.j6 rfl (d7 mB rfl) ?_
   refine a8 rfl ?_; refine d5 F.C2 rfl rfl (A5 m e hM2.1 (by omega)) j5 trivial fun _ _ => ?_; refine B3 rfl rfl (d9 ?_)
   first | refine k8 rfl (fun hb13 => ?_) (fun hb13 => ?_) | refine i5 rfl (fun hb13 => ?_) (fun hb13 => ?_)
   ·have hb13' := hb13; try simp at hb13'
    have hge : (goneB (hs.map Hd.p) i) e = false := by rw [← hM2.2]; simpa using hb13
    rw [if_neg (by rw [hge]; decide)] at hda; refine C8 7 mixed (by decide) (by decide) rfl rfl ?_
    apply n6 _ rfl rfl rfl
    ·intro w1
     first | refine a7 ⟨_, 3, none⟩ rfl rfl T.r0 rfl ?_ | refine a7 _ rfl rfl T.r0 rfl ?_
     refine b3 ?_; exact j7 rfl
    apply n6 _ rfl rfl rfl
    ·intro w1
     first | refine a6 rfl T.k6 rfl (d8 mB rfl) ?_ | refine a6 rfl T.k6 rfl (h9 mB rfl) ?_ | refine a6 rfl T.k6 rfl (d3 mB (b4 (by omega) rfl)) ?_ | refine a6 rfl T.k6 rfl (d1 mB (rows_get (by omega) rfl)) ?_ | refine a6 rfl T.k6 rfl (d7 mB rfl) ?_
     refine b3 ?_; exact j7 rfl
    refine l3 (fun w1 => a8 rfl (q_z rfl)) (l3 (fun w1 => a8 rfl (q_z rfl)) ?_); refine l3 (fun w1 => r9 (α := Int) (numL (goneB (hs.map Hd.p) i) hs.length hs.length) e rfl T.s5 T.v6 rfl rfl rfl (List.mem_append_right _ mB) (K4 _ _ _).symm (by rw [K4]; omega) (by decide) (q_z rfl)) ?_; refine l3 (fun w1 => a6 (v := int ((numN (goneB (hs.map Hd.p) i) e : Nat) : Int)) rfl T.b2 rfl (d3 (List.mem_append_right _ mB) (b4 (by rw [K4]; omega) (by rw [cq9 (by omega)]; rfl))) (q_z rfl)) ?_; refine V0 ⟨Nat, fun _ => True, fun g => .slice (b8 g) 1 1, fun g => [Row (b8 g) (rows [((numN (goneB (hs.map Hd.p) i) e : Nat) : Int)])]⟩ rfl rfl rfl ?_ ?_
    ·intro w1; refine j4 _ rfl rfl (fun _ => T.v0 ..) fun gS => ?_; refine b3 ?_; refine U3 (rows [((numN (goneB (hs.map Hd.p) i) e : Nat) : Int)]) (List.prefix_refl _) ?_; exact H2 gS trivial rfl ⟨m0, trivial⟩
    refine w5 ⟨rfl, ?_⟩; intro g9 _; refine B6 ((dropA (goneB (hs.map Hd.p) i) ((hs.getD k default).2.2.2.l.take j)).length + 1) (rows ((dropA (goneB (hs.map Hd.p) i) ((hs.getD k default).2.2.2.l.take j)) ++ [((numN (goneB (hs.map Hd.p) i) e : Nat) : Int)])) T.iO rfl rfl rfl hG5 (hp' := (g16, Obj.cells #[str (hs.getD k default).1, int (hs.getD k default).2.1, int z, .slice dA (dropA (goneB (hs.map Hd.p) i) ((hs.getD k default).2.2.2.l.take j)).length dC] T.i8 (0, 0)) :: (g13, Obj.cells #[.slice xa cs.length xc, .slice yA ys.length yC] T.i2 (0, 0)) :: (gR, Obj.cells #[.slice none 0 0, .slice none 0 0] T.i2 (0, 0)) :: og) (show List.Perm ((g16, Obj.cells #[str (hs.getD k default).1, int (hs.getD k default).2.1, int z, .slice dA (dropA (goneB (hs.map Hd.p) i) ((hs.getD k default).2.2.2.l.take j)).length dC] T.i8 (0, 0)) :: (g13, Obj.cells #[.slice xa cs.length xc, .slice yA ys.length yC] T.i2 (0, 0)) :: (gR, Obj.cells #[.slice none 0 0, .slice none 0 0] T.i2 (0, 0)) :: (og2 ++ og)) (og2 ++ ((g16, Obj.cells #[str (hs.getD k default).1, int (hs.getD k default).2.1, int z, .slice dA (dropA (goneB (hs.map Hd.p) i) ((hs.getD k default).2.2.2.l.take j)).length dC] T.i8 (0, 0)) :: (g13, Obj.cells #[.slice xa cs.length xc, .slice yA ys.length yC] T.i2 (0, 0)) :: (gR, Obj.cells #[.slice none 0 0, .slice none 0 0] T.i2 (0, 0)) :: og)) from (D4 fun p => by simp only [List.countP_append, List.countP_cons, List.countP_nil]; omega)) (Src.row (news := rows [((numN (goneB (hs.map Hd.p) i) e : Nat) : Int)]) (m := 1) m0 rfl (A9 _) (by decide)) rfl (s9 _ _).symm (by unfold maxLen; omega) (by omega) fun A' c' og' hG' => ?_
    first | refine a7 ⟨_, 3, none⟩ rfl rfl T.r0 rfl ?_ | refine a7 _ rfl rfl T.r0 rfl ?_
    refine z9 rfl rfl (show List.Perm (og' ++ ((g16, Obj.cells #[str (hs.getD k default).1, int (hs.getD k default).2.1, int z, .slice dA (dropA (goneB (hs.map Hd.p) i) ((hs.getD k default).2.2.2.l.take j)).length dC] T.i8 (0, 0)) :: (g13, Obj.cells #[.slice xa cs.length xc, .slice yA ys.length yC] T.i2 (0, 0)) :: (gR, Obj.cells #[.slice none 0 0, .slice none 0 0] T.i2 (0, 0)) :: og)) ((g16, Obj.cells #[str (hs.getD k default).1, int (hs.getD k default).2.1, int z, .slice dA (dropA (goneB (hs.map Hd.p) i) ((hs.getD k default).2.2.2.l.take j)).length dC] T.i8 (0, 0)) :: (og' ++ ((g13, Obj.cells #[.slice xa cs.length xc, .slice yA ys.length yC] T.i2 (0, 0)) :: (gR, Obj.cells #[.slice none 0 0, .slice none 0 0] T.i2 (0, 0)) :: og))) from (D4 fun p => by simp only [List.countP_append, List.countP_cons, List.countP_nil]; omega)) T.qC (by rfl) (by rfl) ?_; refine b3 (n9 (g6 (b9 ?_))); refine q9 _ rfl rfl rfl rfl n5 ?_; refine a8 rfl (b3 ?_); have hl1 : (dropA (goneB (hs.map Hd.p) i) ((hs.getD k default).2.2.2.l.take (j + 1))).length = (dropA (goneB (hs.map Hd.p) i) ((hs.getD k default).2.2.2.l.take j)).length + 1 := by rw [hda, List.length_append]; rfl
    refine rC (show List.Perm ((g16, Obj.cells #[str (hs.getD k default).1, int (hs.getD k default).2.1, int z, .slice A' ((dropA (goneB (hs.map Hd.p) i) ((hs.getD k default).2.2.2.l.take j)).length + 1) c'] T.i8 (0, 0)) :: (og' ++ ((g13, Obj.cells #[.slice xa cs.length xc, .slice yA ys.length yC] T.i2 (0, 0)) :: (gR, Obj.cells #[.slice none 0 0, .slice none 0 0] T.i2 (0, 0)) :: og))) ((g16, Obj.cells #[str (hs.getD k default).1, int (hs.getD k default).2.1, int z, .slice A' ((dropA (goneB (hs.map Hd.p) i) ((hs.getD k default).2.2.2.l.take j)).length + 1) c'] T.i8 (0, 0)) :: (g13, Obj.cells #[.slice xa cs.length xc, .slice yA ys.length yC] T.i2 (0, 0)) :: (gR, Obj.cells #[.slice none 0 0, .slice none 0 0] T.i2 (0, 0)) :: (og' ++ og)) from (D4 fun p => by simp only [List.countP_append, List.countP_cons, List.countP_nil]; omega)) ?_; exact again _ (j + 1, (A', c'), og') ⟨by show j + 1 ≤ (hs.getD k default).2.2.2.l.length; omega, by show Grow _ _ _ (dropA (goneB (hs.map Hd.p) i) ((hs.getD k default).2.2.2.l.take (j + 1))).length _ (rows (dropA (goneB (hs.map Hd.p) i) ((hs.getD k default).2.2.2.l.take (j + 1)))) _; rw [hda, List.length_append]; exact hG'⟩ (r6 (by omega)) mC (by show List.Sublist ((g16, Obj.cells #[str (hs.getD k default).1, int (hs.getD k default).2.1, int z, .slice A' (dropA (goneB (hs.map Hd.p) i) ((hs.getD k default).2.2.2.l.take (j + 1))).length c'] T.i8 (0, 0)) :: (g13, Obj.cells #[.slice xa cs.length xc, .slice yA ys.length yC] T.i2 (0, 0)) :: (gR, Obj.cells #[.slice none 0 0, .slice none 0 0] T.i2 (0, 0)) :: (og' ++ og)) _; rw [hl1]; exact List.Sublist.refl _) mC
   have hb13' := hb13; try simp at hb13'
   have hge : (goneB (hs.map Hd.p) i) e = true := by rw [← hM2.2]; simpa using hb13
   rw [if_pos hge] at hda; refine j3 (n9 (g6 (b9 ?_))); refine q9 _ rfl rfl rfl rfl n5 ?_; refine a8 rfl (b3 ?_); exact again _ (j + 1, (dA, dC), og2) ⟨by show j + 1 ≤ (hs.getD k default).2.2.2.l.length; omega, by show Grow _ _ _ (dropA (goneB (hs.map Hd.p) i) ((hs.getD k default).2.2.2.l.take (j + 1))).length _ (rows (dropA (goneB (hs.map Hd.p) i) ((hs.getD k default).2.2.2.l.take (j + 1)))) _; rw [hda]; exact hG5⟩ (r6 (by omega)) mC (by show List.Sublist ((g16, Obj.cells #[str (hs.getD k default).1, int (hs.getD k default).2.1, int z, .slice dA (dropA (goneB (hs.map Hd.p) i) ((hs.getD k default).2.2.2.l.take (j + 1))).length dC] T.i8 (0, 0)) :: (g13, Obj.cells #[.slice xa cs.length xc, .slice yA ys.length yC] T.i2 (0, 0)) :: (gR, Obj.cells #[.slice none 0 0, .slice none 0 0] T.i2 (0, 0)) :: (og2 ++ og)) _; rw [hda]; exact List.Sublist.refl _) mC
  have hb12' := hb12; try simp at hb12'
  obtain rfl : j = (hs.getD k default).2.2.2.l.length := by omega
  rw [List.take_length] at hG5 hdl; refine n2 (t4 (n1 (g6 ?_))); refine rF (show List.Perm ((g16, Obj.cells #[str (hs.getD k default).1, int (hs.getD k default).2.1, int z, .slice dA (dropA (goneB (hs.map Hd.p) i) ((hs.getD k default).2.2.2.l.take (hs.getD k default).2.2.2.l.length)).length dC] T.i8 (0, 0)) :: (g13, Obj.cells #[.slice xa cs.length xc, .slice yA ys.length yC] T.i2 (0, 0)) :: (gR, Obj.cells #[.slice none 0 0, .slice none 0 0] T.i2 (0, 0)) :: (og2 ++ og)) (og2 ++ ((g16, Obj.cells #[str (hs.getD k default).1, int (hs.getD k default).2.1, int z, .slice dA (dropA (goneB (hs.map Hd.p) i) ((hs.getD k default).2.2.2.l.take (hs.getD k default).2.2.2.l.length)).length dC] T.i8 (0, 0)) :: (g13, Obj.cells #[.slice xa cs.length xc, .slice yA ys.length yC] T.i2 (0, 0)) :: (gR, Obj.cells #[.slice none 0 0, .slice none 0 0] T.i2 (0, 0)) :: og)) from (D4 fun p => by simp only [List.countP_append, List.countP_cons, List.countP_nil]; omega)) ?_; rw [List.take_length]; refine vI hG5 (b9 ?_)
  first | refine a7 ⟨_, 1, none⟩ rfl rfl T.j0 rfl ?_ | refine a7 _ rfl rfl T.j0 rfl ?_
  first | refine a6 rfl T.a9 rfl (h9 mB rfl) ?_ | refine a6 rfl T.a9 rfl (d8 mB rfl) ?_ | refine a6 rfl T.a9 rfl (d3 mB (b4 (by omega) rfl)) ?_ | refine a6 rfl T.a9 rfl (d1 mB (rows_get (by omega) rfl)) ?_ | refine a6 rfl T.a9 rfl (d7 mB rfl) ?_
  first | refine u6 rfl T.z7 T.l8 rfl mB (by rfl) ?_ | refine t9 rfl T.z7 T.l8 rfl mB (by rfl) ?_ | refine q6 rfl T.z7 T.l8 rfl rfl (m7 mB (n7 (by omega))) ?_
  refine j4 _ rfl rfl (fun _ => T.tM ..) fun gS => ?_; refine n0 (rows [(((hs.getD k default).1, (hs.getD k default).2.1, z, ⟨dA, dC, (dropA (goneB (hs.map Hd.p) i) (hs.getD k default).2.2.2.l)⟩) : Hd)]) (List.prefix_refl _) ?_; refine B6 (hp' := [(g16, Obj.cells #[str (hs.getD k default).1, int (hs.getD k default).2.1, int z, .slice dA (dropA (goneB (hs.map Hd.p) i) (hs.getD k default).2.2.2.l).length dC] T.i8 (0, 0)), (g13, Obj.cells #[.slice xa cs.length xc, .slice yA ys.length yC] T.i2 (0, 0)), (gR, Obj.cells #[.slice none 0 0, .slice none 0 0] T.i2 (0, 0))]) (ys.length + 1) (rows (ys ++ [(((hs.getD k default).1, (hs.getD k default).2.1, z, ⟨dA, dC, (dropA (goneB (hs.map Hd.p) i) (hs.getD k default).2.2.2.l)⟩) : Hd)])) T.dJ rfl rfl rfl hG (show List.Perm ((g16, Obj.cells #[str (hs.getD k default).1, int (hs.getD k default).2.1, int z, .slice dA (dropA (goneB (hs.map Hd.p) i) (hs.getD k default).2.2.2.l).length dC] T.i8 (0, 0)) :: (g13, Obj.cells #[.slice xa cs.length xc, .slice yA ys.length yC] T.i2 (0, 0)) :: (gR, Obj.cells #[.slice none 0 0, .slice none 0 0] T.i2 (0, 0)) :: og) (og ++ [(g16, Obj.cells #[str (hs.getD k default).1, int (hs.getD k default).2.1, int z, .slice dA (dropA (goneB (hs.map Hd.p) i) (hs.getD k default).2.2.2.l).length dC] T.i8 (0, 0)), (g13, Obj.cells #[.slice xa cs.length xc, .slice yA ys.length yC] T.i2 (0, 0)), (gR, Obj.cells #[.slice none 0 0, .slice none 0 0] T.i2 (0, 0))]) from (D4 fun p => by simp only [List.countP_append, List.countP_cons, List.countP_nil]; omega)) (Src.row (news := rows [(((hs.getD k default).1, (hs.getD k default).2.1, z, ⟨dA, dC, (dropA (goneB (hs.map Hd.p) i) (hs.getD k default).2.2.2.l)⟩) : Hd)]) (m := 1) m0 rfl (A9 _) (by decide)) rfl (s9 _ _).symm (by unfold maxLen; omega) (by omega) fun A' c' og' hG' => ?_
  first | refine a7 ⟨_, 1, none⟩ rfl rfl T.j0 rfl ?_ | refine a7 _ rfl rfl T.j0 rfl ?_
  refine z9 (hp' := og' ++ [(g16, Obj.cells #[str (hs.getD k default).1, int (hs.getD k default).2.1, int z, .slice dA (dropA (goneB (hs.map Hd.p) i) (hs.getD k default).2.2.2.l).length dC] T.i8 (0, 0)), (gR, Obj.cells #[.slice none 0 0, .slice none 0 0] T.i2 (0, 0))]) rfl rfl (show List.Perm (og' ++ [(g16, Obj.cells #[str (hs.getD k default).1, int (hs.getD k default).2.1, int z, .slice dA (dropA (goneB (hs.map Hd.p) i) (hs.getD k default).2.2.2.l).length dC] T.i8 (0, 0)), (g13, Obj.cells #[.slice xa cs.length xc, .slice yA ys.length yC] T.i2 (0, 0)), (gR, Obj.cells #[.slice none 0 0, .slice none 0 0] T.i2 (0, 0))]) ((g13, Obj.cells #[.slice xa cs.length xc, .slice yA ys.length yC] T.i2 (0, 0)) :: (og' ++ [(g16, Obj.cells #[str (hs.getD k default).1, int (hs.getD k default).2.1, int z, .slice dA (dropA (goneB (hs.map Hd.p) i) (hs.getD k default).2.2.2.l).length dC] T.i8 (0, 0)), (gR, Obj.cells #[.slice none 0 0, .slice none 0 0] T.i2 (0, 0))])) from (D4 fun p => by simp only [List.countP_append, List.countP_cons, List.countP_nil]; omega)) T.cW (by rfl) (by rfl) ?_; refine kX (kU (ps := ys) (f := Hd.row) (p := (((hs.getD k default).1, (hs.getD k default).2.1, z, ⟨dA, dC, (dropA (goneB (hs.map Hd.p) i) (hs.getD k default).2.2.2.l)⟩) : Hd)) (by repeat constructor) (by repeat constructor)) ?_; refine b3 (n9 (g6 (b9 ?_))); refine q9 _ rfl rfl rfl rfl n5 ?_; refine a8 rfl (b3 ?_); have hl1 : (ys ++ [(((hs.getD k default).1, (hs.getD k default).2.1, z, ⟨dA, dC, (dropA (goneB (hs.map Hd.p) i) (hs.getD k default).2.2.2.l)⟩) : Hd)]).length = ys.length + 1 := by simp
  refine rC (show List.Perm ((g13, Obj.cells #[.slice xa cs.length xc, .slice A' (ys.length + 1) c'] T.i2 (0, 0)) :: (og' ++ [(g16, Obj.cells #[str (hs.getD k default).1, int (hs.getD k default).2.1, int z, .slice dA (dropA (goneB (hs.map Hd.p) i) (hs.getD k default).2.2.2.l).length dC] T.i8 (0, 0)), (gR, Obj.cells #[.slice none 0 0, .slice none 0 0] T.i2 (0, 0))])) ((g16, Obj.cells #[str (hs.getD k default).1, int (hs.getD k default).2.1, int z, .slice dA (dropA (goneB (hs.map Hd.p) i) (hs.getD k default).2.2.2.l).length dC] T.i8 (0, 0)) :: (g13, Obj.cells #[.slice xa cs.length xc, .slice A' (ys.length + 1) c'] T.i2 (0, 0)) :: (gR, Obj.cells #[.slice none 0 0, .slice none 0 0] T.i2 (0, 0)) :: og') from (D4 fun p => by simp only [List.countP_append, List.countP_cons, List.countP_nil]; omega)) ?_; exact again _ (k + 1, ys ++ [(((hs.getD k default).1, (hs.getD k default).2.1, z, ⟨dA, dC, (dropA (goneB (hs.map Hd.p) i) (hs.getD k default).2.2.2.l)⟩) : Hd)], (A', c'), og') ⟨by show k + 1 ≤ hs.length; omega, by show (ys ++ [_]).map Hd.p = _; rw [hds, List.map_append, hy]; congr 1; show [(_, _, z, _)] = [dropP _ _]; rw [hz]; rfl, by show Grow _ _ _ (ys ++ [_]).length _ _ _; rw [hl1]; exact hG'⟩ (r6 (by omega)) mC (by show List.Sublist ((g13, Obj.cells #[.slice xa cs.length xc, .slice A' (ys ++ [(((hs.getD k default).1, (hs.getD k default).2.1, z, ⟨dA, dC, (dropA (goneB (hs.map Hd.p) i) (hs.getD k default).2.2.2.l)⟩) : Hd)]).length c'] T.i2 (0, 0)) :: _) _; rw [hl1]; exact List.sublist_cons_self _ _) mC
 have hb9' := hb9; try simp at hb9'
 obtain rfl : k = hs.length := by omega
 refine n2 (t4 (n1 (g6 (i1 ?_)))); refine rF (show List.Perm ((g13, Obj.cells #[.slice xa cs.length xc, .slice yA ys.length yC] T.i2 (0, 0)) :: (gR, Obj.cells #[.slice none 0 0, .slice none 0 0] T.i2 (0, 0)) :: og) (og ++ [(g13, Obj.cells #[.slice xa cs.length xc, .slice yA ys.length yC] T.i2 (0, 0)), (gR, Obj.cells #[.slice none 0 0, .slice none 0 0] T.i2 (0, 0))]) from (D4 fun p => by simp only [List.countP_append, List.countP_cons, List.countP_nil]; omega)) ?_; have hGle := hG.le; refine vI hG (kY (A := yA) (ps := ys) (f := Hd.row) mB mB ?_); refine b9 ?_
 first | refine u6 rfl T.d6 T.d4 rfl mB (by rfl) ?_ | refine t9 rfl T.d6 T.d4 rfl mB (by rfl) ?_ | refine q6 rfl T.d6 T.d4 rfl rfl (m7 mB (n7 (by omega))) ?_
 refine r4 (cs := #[.slice xa cs.length xc, .slice yA ys.length yC]) rfl rfl (.swap _ _ _) T.d4 (by rfl) (by rfl) ?_; refine d9 (k5 ?_); refine cF (ys, (xa, xc), (yA, yC)) rfl rfl T.d6 T.d4 rfl m0 rfl rfl ⟨by show ys.map Hd.p = dropHs (hs.map Hd.p) (goneB (hs.map Hd.p) i) (hs.map Hd.p).length; rw [hH]; exact hy, hxc, hGle⟩ nil_sb mC
theorem rP {A B : Option Addr} {ca cb : Nat} (cs : List Cl) (hs : List Hd) (h : Int) (hca : cs.length ≤ ca) (hcb : hs.length ≤ cb) (ha : ∀ h ∈ hs, h.2.2.2.l.length ≤ 1000000) : Meets Tryz.prog F.hX [.agg #[.slice A cs.length ca, .slice B hs.length cb], int h] { LI := [Row A (rows cs), RowsF B hs Hd.row], inv := fun x : OutR => TrIs (dropE (trOf cs hs) h).1 x, val := fun x => .tuple #[.agg #[.slice x.2.1.1 (dropE (trOf cs hs) h).1.cs.length x.2.1.2, .slice x.2.2.1 x.1.length x.2.2.2], int (dropE (trOf cs hs) h).2], LO := fun x => [Row x.2.1.1 (rows (dropE (trOf cs hs) h).1.cs), RowsF x.2.2.1 x.1 Hd.row] } := by
 refine i7 F.yJ rfl p7 fun w0 => ?_; refine i4 ?_; refine E5 rfl rfl fun gB => ?_; refine r7 rfl (fun _ => T.v9 _) fun gR => ?_; refine b7 rfl (d9 ?_); refine B8 ⟨fun _ : Nat × OutC × OutC => True, fun x => [(1, int h), (2, .pointer (b8 gB)), (4, .pointer (b8 gR)), (6, if askE (trOf cs hs) [h] = 0 then .pointer (some ⟨x.1, 0, none⟩) else .pointer none), (7, int (askE (trOf cs hs) [h]))], fun _ => [(gR, Obj.cells #[.slice none 0 0, .slice none 0 0] T.i2 (0, 0)), (gB, .cells #[.slice A cs.length ca, .slice B hs.length cb] T.i2 (0, 0))], fun x => (if askE (trOf cs hs) [h] = 0 then beginL cs hs A ca B cb x else []) ++ [Row A (rows cs), RowsF B hs Hd.row]⟩ ?_ ?_
 ·skip
  refine b9 ?_
  first | refine u6 rfl T.d6 T.d4 rfl mB (by rfl) ?_ | refine t9 rfl T.d6 T.d4 rfl mB (by rfl) ?_ | refine q6 rfl T.d6 T.d4 rfl rfl (m7 mB (n7 (by omega))) ?_
  refine a8 rfl ?_; refine j4 _ rfl rfl (fun _ => T.v0 ..) fun gS => ?_; refine n0 (rows [h]) (List.prefix_refl _) ?_; refine d5 F.K0 rfl rfl (E7 cs hs [h] hca hcb ha (by simp)) j5 mC fun x _ => ?_; refine a8 rfl (i6 rfl rfl rfl (i6 rfl rfl rfl (b7 rfl (b7 rfl (b3 ?_))))); exact w4 _ x trivial mC (List.Sublist.refl _) (LSub.of_mem fun F hF => (List.mem_append.1 hF).elim (fun h1 => List.mem_append_left _ h1) (fun h2 => List.mem_append_right _ (List.mem_cons_of_mem _ h2)))
 refine fun x _ => ?_
 dsimp only
 refine i1 (i4 (a8 rfl (t3 rfl rfl rfl (d9 ?_))))
 first | refine k8 rfl (fun hb1 => ?_) (fun hb1 => ?_) | refine i5 rfl (fun hb1 => ?_) (fun hb1 => ?_)
 ·have hb1' := hb1; try simp at hb1'
  have hE : (dropE (trOf cs hs) h) = (⟨[], []⟩, askE (trOf cs hs) [h]) := by rw [dropE, if_pos hb1]
  refine i4 ?_; refine w7 [] rfl rfl (fun _ => T.vT ..) (a8 rfl (r4 (cs := #[.slice none 0 0, .slice none 0 0]) rfl rfl (.refl _) T.d4 (by rfl) (by rfl) ?_)); refine b7 rfl (d9 (P8 ?_)); refine A4 (α := Cl) (A4 (α := Hd) ?_); refine O3 (Fs := ([] : List Hd).map Hd.row) (by intro F hF; simp at hF) ?_; refine rB (A := none) (ps := ([] : List Hd)) (f := Hd.row) mB mB ?_; exact sP ([], (none, 0), (none, 0)) rfl rfl rfl T.d6 T.d4 rfl m0 (by show Value.tuple #[.agg #[.slice none (dropE (trOf cs hs) h).1.cs.length 0, .slice none 0 0], int (dropE (trOf cs hs) h).2] = _; rw [hE]; rfl) rfl (by show TrIs (dropE (trOf cs hs) h).1 _; rw [hE]; exact ⟨rfl, Nat.le_refl _, Nat.le_refl _⟩) nil_sb (by show LSub _ [Row none (rows (dropE (trOf cs hs) h).1.cs), RowsF none [] Hd.row]; rw [hE]; exact mC)
 have hb1' := hb1; try simp at hb1'
 have h0 := Classical.not_not.1 hb1; rw [if_pos h0, if_pos h0]; have hch := Q6 h0; have hin := pK h0 (List.mem_singleton.2 rfl); rw [t0] at hin; obtain ⟨i, hi⟩ := Int.eq_ofNat_of_zero_le hin.1; have hok := Y3 hch; have h6 : cs.length ≤ 6 := hok.c6; have h6h := hok.h6; rw [t0] at h6h; have hcl : ∀ i, i < cs.length → ClsOK cs i := hok.c; obtain ⟨gl, ⟨oa, oc⟩, ⟨ka, kc⟩⟩ := x; have hln := t0 cs hs; have hE : (dropE (trOf cs hs) h) = (dropT (trOf cs hs) i, 0) := by rw [dropE, if_neg hb1, hi, Int.toNat_natCast]
 subst hi; show HC _ _ _ _ _ [Row (b8 gl) [.slice A cs.length ca, .slice B hs.length cb, .slice oa cs.length oc, .slice ka hs.length kc], Row oa (rows (masksN cs cs.length)), Row ka (rows (kindsN hs hs.length)), Row A (rows cs), RowsF B hs Hd.row]; refine j3 (g6 (i4 (a8 rfl (a8 rfl ?_)))); refine d5 F.nB rfl rfl (jD (A := A) (B := B) (oa := oa) (ka := ka) (ca := ca) (cb := cb) (oc := oc) (kc := kc) (gl := gl) cs hs i hok (by omega) hca ha) j5 mC fun y hy => ?_; refine r4 (cs := #[.slice y.2.1.1 cs.length y.2.1.2, .slice y.2.2.1 y.1.length y.2.2.2]) rfl rfl (.refl _) T.d4 (by rfl) (by rfl) ?_; refine b7 rfl (d9 (k5 ?_)); exact sP y rfl rfl rfl T.d6 T.d4 rfl m0 (by show Value.tuple #[.agg #[.slice y.2.1.1 (dropE (trOf cs hs) (i : Int)).1.cs.length y.2.1.2, .slice y.2.2.1 y.1.length y.2.2.2], int (dropE (trOf cs hs) (i : Int)).2] = _; rw [hE]) rfl (by show TrIs (dropE (trOf cs hs) (i : Int)).1 y; rw [hE]; exact hy) nil_sb (by show LSub _ [Row y.2.1.1 (rows (dropE (trOf cs hs) (i : Int)).1.cs), RowsF y.2.2.1 y.1 Hd.row]; rw [hE]; exact mC)
theorem I0 {A B : Option Addr} {ca cb : Nat} (cs : List Cl) (hs : List Hd) (hca : cs.length ≤ ca) (hcb : hs.length ≤ cb) (ha : ∀ h ∈ hs, h.2.2.2.l.length ≤ 1000000) : Meets Tryz.prog F.J7 [.agg #[.slice A cs.length ca, .slice B hs.length cb]] { LI := [Row A (rows cs), RowsF B hs Hd.row], val := fun _ : Unit => int (checkT (trOf cs hs)) } := by
 refine i7 F.wL rfl p7 fun w0 => ?_; refine i4 ?_; refine E5 rfl rfl fun gB => ?_; refine b7 rfl (j8 ?_)
 first | refine u6 rfl T.d6 T.d4 rfl mB (by rfl) ?_ | refine t9 rfl T.d6 T.d4 rfl mB (by rfl) ?_ | refine q6 rfl T.d6 T.d4 rfl rfl (m7 mB (n7 (by omega))) ?_
 refine d5 F.jY rfl rfl (cA cs hs hca hcb ha) j5 mC fun _ _ => ?_; refine b7 rfl (d9 (k5 ?_)); exact ret1 () rfl rfl rfl trivial nil_sb trivial
end Go.Proofs.YtfhninnleacgiaaGreat
end
