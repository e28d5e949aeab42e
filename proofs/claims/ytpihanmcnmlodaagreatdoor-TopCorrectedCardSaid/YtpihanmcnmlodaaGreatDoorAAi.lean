/- Texts. -/

import Derived.Test.YtpihanmcnmlodaaGreatDoorAAh
import Derived.Test.YtpihanmcnmlodaaGreatDoorAAe
import Derived.Test.YtpihanmcnmlodaaGreatDoorAAg
set_option linter.unusedVariables false
set_option linter.unusedSimpArgs false
section
namespace Go.Proofs.YtpihanmcnmlodaaGreatDoor
open Go Go.W Tryz T F
set_option maxRecDepth 20000
attribute [local irreducible] HL HC HQ HB Row Rows2 Blk Facts
def stockN (ps : List (Sl Str)) (s : Str) : Nat := ps.foldl (fun n p => max n (countN p.l s)) 0
theorem vA {ps : List (Sl Str)} {s : Str} {k : Nat} (h : k < ps.length) : stockN (ps.take (k + 1)) s = max (stockN (ps.take k) s) (countN (ps.getD k default).l s) := by
  rw [s9 ps k h]; unfold stockN; rw [List.foldl_append]
  rfl
theorem jW {ps : List (Sl Str)} {s : Str} {n : Nat} : ∀ k, k ≤ n → n ≤ ps.length → originN (ps.take n) s k = originN ps s k
  | 0, _, _ => rfl
  | k + 1, h, h2 => by
    have : (ps.take n).getD k default = ps.getD k default := by
      rw [z8 (by rw [List.length_take]; omega), z8 (by omega), List.getElem_take]
    rw [originN, originN, this, jW k (by omega) h2]
theorem jV {A : Option Addr} {c : Nat} {ps : List (Sl Str)} (s : Str) {n : Nat} (hn : n ≤ ps.length) (hl : ps.length ≤ 1000000) (hp : ∀ p ∈ ps, p.l.length ≤ 1000000) : Meets prog N2 [.slice A n c, str s] { LI := [Rows2 A (ps.take n)], val := fun _ : Unit => int (originN ps s n) } := by
  have h := iA (A := A) (c := c) (ps.take n) s (by rw [List.length_take]; omega) (fun q hq => hp q (List.mem_of_mem_take hq)); rw [List.length_take, Nat.min_eq_left hn, jW _ (Nat.le_refl _) hn] at h; exact h
theorem zH (p : List Str) (l : List Mk) : (applyP p l).1.length ≤ 6 := by
  unfold applyP
  split
  · simp
  split
  · simp
  simp only; omega
def lastP (ps : List (Sl Str)) : Sl Str := ps.getD (ps.length - 1) default
def flawP (ps : List (Sl Str)) (r : List Str) (m : Mk) : Int × Int := (if m.1 = 3 then 1 else if ¬ m.2.2 ∈ r ∧ 0 ≤ originN ps m.2.2 (ps.length - 1) then 2 else 3, m.2.1)
def flawR (ps : List (Sl Str)) (r : List Str) (m : Mk) : Int × Int := (if m.1 = 3 then 1 else if countN r m.2.2 = 0 ∧ 0 < stockN (ps.take (ps.length - 1)) m.2.2 then 2 else 3, m.2.1)
def lookP (ps : List (Sl Str)) (l : List Mk) (p : List Str) : (Int × Int) × Int :=
  if ¬ yearsErr (years ps) = 0 then ((0, 0), yearsErr (years ps)) else if ps.length = 0 then ((0, 0), 7)
  else if ¬ (applyP (lastP ps).l l).2 = 0 then ((0, 0), (applyP (lastP ps).l l).2) else if ¬ pageErr p = 0 then ((0, 0), pageErr p)
  else if (diffP (applyP (lastP ps).l l).1 p 0 0).2.length = 0 then ((0, 0), 0)
  else (flawP ps (applyP (lastP ps).l l).1 ((diffP (applyP (lastP ps).l l).1 p 0 0).2.getD 0 default), 0)
def lookR (ps : List (Sl Str)) (l : List Mk) (p : List Str) : (Int × Int) × Int :=
  if ¬ yearsErr (years ps) = 0 then ((0, 0), yearsErr (years ps)) else if ps.length = 0 then ((0, 0), 7)
  else if ¬ (applyR (lastP ps).l l).2 = 0 then ((0, 0), (applyR (lastP ps).l l).2)
  else if ¬ (diffE (applyR (lastP ps).l l).1 p (diffR (applyR (lastP ps).l l).1 p 0 0)).2 = 0 then ((0, 0), (diffE (applyR (lastP ps).l l).1 p (diffR (applyR (lastP ps).l l).1 p 0 0)).2)
  else if (diffE (applyR (lastP ps).l l).1 p (diffR (applyR (lastP ps).l l).1 p 0 0)).1.length = 0 then ((0, 0), 0)
  else (flawR ps (applyR (lastP ps).l l).1 ((diffE (applyR (lastP ps).l l).1 p (diffR (applyR (lastP ps).l l).1 p 0 0)).1.getD 0 default), 0)
def lookV (r : (Int × Int) × Int) : Value := .tuple #[.agg #[int r.1.1, int r.1.2], int r.2]
theorem Q7 {A B C : Option Addr} {ca cb cc : Nat} (ps : List (Sl Str)) (l : List Mk) (p : List Str) (hca : ps.length ≤ ca) (hcap : ∀ q ∈ ps, q.l.length ≤ q.c) : Meets prog S9 [.slice A ps.length ca, .slice B l.length cb, .slice C p.length cc] { LI := [Rows2 A ps, Row B (rows l), Row C (rows p)], val := fun _ : Unit => lookV (lookP ps l p) } := by
 refine d5 pH rfl r4 fun w0 => c5 (A5 rfl (fun _ => O5 _) fun gA => ?_); refine b7 rfl (b5 (c6 (c5 (b3 rfl ?_)))); refine h8 P4 rfl rfl (O9 ps) p9 ⟨m0, tK⟩ fun _ _ => ?_; refine b7 rfl (l7 (b3 rfl (w7 rfl rfl rfl (b5 ?_))))
 first | refine i6 rfl (fun hb1 => ?_) (fun hb1 => ?_) | refine c8 rfl (fun hb1 => ?_) (fun hb1 => ?_)
 ·have hb1' := hb1; try simp at hb1'
  have e : lookP ps l p = ((0, 0), yearsErr (years ps)) := by rw [lookP, if_pos hb1]
  rw [e]; refine c5 (C9 _ rfl rfl (fun _ => H9 ..) (b3 rfl (u2 rfl rfl J0 l5 (by rfl) (by rfl) ?_))); refine b7 rfl (b5 (C6 ?_)); exact G0 () rfl rfl rfl w4 l5 rfl m0 rfl rfl tK nK tK
 have hb1' := hb1; try simp at hb1'
 obtain ⟨h3, h4⟩ := hB (Classical.not_not.1 hb1); refine c4 (c3 (c6 (c5 (b3 rfl ?_)))); refine i7 rfl E1 rfl ?_; refine D9 rfl rfl rfl (b5 ?_)
 first | refine i6 rfl (fun hb2 => ?_) (fun hb2 => ?_) | refine c8 rfl (fun hb2 => ?_) (fun hb2 => ?_)
 ·have hb2' := hb2; try simp at hb2'
  have e : lookP ps l p = ((0, 0), 7) := by rw [lookP, if_neg hb1, if_pos (by omega)]
  rw [e]; refine c5 (C9 _ rfl rfl (fun _ => H9 ..) (u2 rfl rfl J0 l5 (by rfl) (by rfl) ?_)); refine b7 rfl (b5 (C6 ?_)); exact G0 () rfl rfl rfl w4 l5 rfl m0 rfl rfl tK nK tK
 have hb2' := hb2; try simp at hb2'
 have hb2 : ¬ ps.length = 0 := by omega
 have hmem : lastP ps ∈ ps := r7 (by omega); refine c4 (c3 (c5 (b3 rfl ?_))); refine i7 rfl E1 rfl (J4 ((ps.length - 1 : Nat) : Int) rfl rfl rfl (by omega) q8 ?_); refine b7 rfl (b5 (c6 (kJ m0 (c7 (b3 rfl (b3 rfl ?_)))))); refine u6 (α := Sl Str) ps (ps.length - 1) rfl E1 J1 rfl rfl rfl m0 rfl (by omega) (by decide) (a7 rfl c9 rfl (b9 mB (b4 (by omega) rfl)) (b3 rfl (kI (p := lastP ps) m1 hmem (h8 kS rfl rfl (jU (lastP ps).l l (hcap _ hmem)) p9 ⟨m0, m3, tK⟩ fun x hx => ?_)))); have hx : (applyP (lastP ps).l l).1.length ≤ x.2 := hx; have hal := zH (lastP ps).l l; refine b3 rfl (l4 rfl rfl rfl (l4 rfl rfl rfl (b7 rfl (b7 rfl (b5 (c6 (c5 (b3 rfl (w7 rfl rfl rfl ?_))))))))); refine b5 ?_
 first | refine i6 rfl (fun hb3 => ?_) (fun hb3 => ?_) | refine c8 rfl (fun hb3 => ?_) (fun hb3 => ?_)
 ·have hb3' := hb3; try simp at hb3'
  have e : lookP ps l p = ((0, 0), (applyP (lastP ps).l l).2) := by rw [lookP, if_neg hb1, if_neg hb2, if_pos hb3]
  rw [e]; refine c5 (C9 _ rfl rfl (fun _ => H9 ..) (b3 rfl (u2 rfl rfl J0 l5 (by rfl) (by rfl) ?_))); refine b7 rfl (b5 (C6 ?_)); exact G0 () rfl rfl rfl w4 l5 rfl m0 rfl rfl tK nK tK
 have hb3' := hb3; try simp at hb3'
 refine c4 (c3 (c6 (c5 (b3 rfl ?_)))); refine h8 D2 rfl rfl (D0 p) p9 ⟨m5, tK⟩ fun _ _ => ?_; refine b7 rfl (l7 (b3 rfl (w7 rfl rfl rfl (b5 ?_))))
 first | refine i6 rfl (fun hb4 => ?_) (fun hb4 => ?_) | refine c8 rfl (fun hb4 => ?_) (fun hb4 => ?_)
 ·have hb4' := hb4; try simp at hb4'
  have e : lookP ps l p = ((0, 0), pageErr p) := by rw [lookP, if_neg hb1, if_neg hb2, if_neg hb3, if_pos hb4]
  rw [e]; refine c5 (C9 _ rfl rfl (fun _ => H9 ..) (b3 rfl (u2 rfl rfl J0 l5 (by rfl) (by rfl) ?_))); refine b7 rfl (b5 (C6 ?_)); exact G0 () rfl rfl rfl w4 l5 rfl m0 rfl rfl tK nK tK
 have hb4' := hb4; try simp at hb4'
 have hp6 := G1 (Classical.not_not.1 hb4); refine c4 (c3 (c5 (b3 rfl (b3 rfl ?_)))); refine h8 bS rfl rfl (bG (applyP (lastP ps).l l).1 p (by omega) (by omega)) p9 ⟨m0, m5, tK⟩ fun y _ => ?_; refine b7 rfl (b5 (c6 (c5 (b3 rfl ?_)))); refine i7 rfl j6 rfl ?_; refine D9 rfl rfl rfl (b5 ?_)
 first | refine i6 rfl (fun hb5 => ?_) (fun hb5 => ?_) | refine c8 rfl (fun hb5 => ?_) (fun hb5 => ?_)
 ·have hb5' := hb5; try simp at hb5'
  have e : lookP ps l p = ((0, 0), 0) := by rw [lookP, if_neg hb1, if_neg hb2, if_neg hb3, if_neg hb4, if_pos (by omega)]
  rw [e]; refine c5 (C9 _ rfl rfl (fun _ => H9 ..) (u2 rfl rfl J0 l5 (by rfl) (by rfl) ?_)); refine b7 rfl (b5 (C6 ?_)); exact G0 () rfl rfl rfl w4 l5 rfl m0 rfl rfl tK nK tK
 have hb5' := hb5; try simp at hb5'
 have hb5 : ¬ (diffP (applyP (lastP ps).l l).1 p 0 0).2.length = 0 := by omega
 have e : lookP ps l p = (flawP ps (applyP (lastP ps).l l).1 ((diffP (applyP (lastP ps).l l).1 p 0 0).2.getD 0 default), 0) := by rw [lookP, if_neg hb1, if_neg hb2, if_neg hb3, if_neg hb4, if_neg hb5]
 rw [e]; refine c4 (c3 (c5 (b3 rfl ?_))); refine u6 (α := Mk) (diffP (applyP (lastP ps).l l).1 p 0 0).2 0 rfl j6 g0 rfl rfl rfl m0 rfl (by omega) (by decide) (v8 rfl j5 g0 rfl rfl (q9 m0 (u1 (l := (diffP (applyP (lastP ps).l l).1 p 0 0).2) (i := 0) (by omega))) (A5 rfl (fun _ => C3 _) fun gA => u2 rfl rfl J0 g0 (by rfl) (by rfl) ?_)); refine l7 (b7 rfl (b5 (c6 (i5 (c6 ?_))))); generalize ((diffP (applyP (lastP ps).l l).1 p 0 0).2.getD 0 default) = m at *; generalize (applyP (lastP ps).l l) = r at *; obtain ⟨mk, ma, mt⟩ := m; refine c7 ?_
 first | refine a8 ⟨_, 0, none⟩ rfl rfl i9 rfl ?_ | refine a8 _ rfl rfl i9 rfl ?_
 first | refine a7 rfl a6 rfl (d9 mB rfl) ?_ | refine a7 rfl a6 rfl (d4 mB rfl) ?_ | refine a7 rfl a6 rfl (b9 mB (b4 (by omega) rfl)) ?_ | refine a7 rfl a6 rfl (b8 mB (rows_get (by omega) rfl)) ?_
 refine D9 rfl rfl rfl (b7 rfl (b5 ?_))
 first | refine i6 rfl (fun hb6 => ?_) (fun hb6 => ?_) | refine c8 rfl (fun hb6 => ?_) (fun hb6 => ?_)
 ·have hb6' := hb6; try simp at hb6'
  simp only at hb6; refine c7 (b7 rfl (b6 (u4 (c3 (c5 (b3 rfl ?_))))))
  first | refine a8 ⟨_, 1, none⟩ rfl rfl d7 rfl ?_ | refine a8 _ rfl rfl d7 rfl ?_
  first | refine a7 rfl a6 rfl (d9 mB rfl) ?_ | refine a7 rfl a6 rfl (d4 mB rfl) ?_ | refine a7 rfl a6 rfl (b9 mB (b4 (by omega) rfl)) ?_ | refine a7 rfl a6 rfl (b8 mB (rows_get (by omega) rfl)) ?_
  refine C9 _ rfl rfl (fun _ => E5 ..) (u2 rfl rfl J0 l5 (by rfl) (by rfl) ?_); refine b7 rfl (b5 (i8 ?_)); exact G0 () rfl rfl rfl w4 l5 rfl m0 (by rw [lookV, flawP, if_pos hb6]) rfl tK nK tK
 have hb6' := hb6; try simp at hb6'
 refine c6 (G4 11 mixed (by decide) (by decide) rfl rfl (p8 rfl ?_))
 apply k9 _ rfl rfl rfl
 ·intro w1
  first | refine a8 ⟨_, 2, none⟩ rfl rfl n5 rfl ?_ | refine a8 _ rfl rfl n5 rfl ?_
  refine b6 ?_; exact h9 rfl
 apply k9 _ rfl rfl rfl
 ·intro w1
  first | refine a7 rfl d6 rfl (d4 mB rfl) ?_ | refine a7 rfl d6 rfl (d9 mB rfl) ?_ | refine a7 rfl d6 rfl (b9 mB (b4 (by omega) rfl)) ?_ | refine a7 rfl d6 rfl (b8 mB (rows_get (by omega) rfl)) ?_
  refine b6 ?_; exact h9 rfl
 refine s7 (fun w1 => h8 K1 rfl rfl (J3 r.1 mt (by omega)) p9 ⟨m3, tK⟩ fun _ _ => (q_z rfl)) ?_; refine s7 (fun w1 => qP rfl rfl (q_z rfl)) (p8 rfl ?_); refine vQ (t := 68) (want := true) rfl ?_ ?_
 ·intro hg1; have hg1' := hg1; try simp at hg1'
  apply k9 _ rfl rfl rfl
  ·intro w1; refine j0 hg1 (b3 rfl (b6 ?_)); exact h9 rfl
  apply k9 _ rfl rfl rfl
  ·intro w1; refine j0 hg1 (b3 rfl (b6 ?_)); exact h9 rfl
  apply k9 _ rfl rfl rfl
  ·intro w1; refine j0 hg1 (xV (ps.length - 1) rfl E1 J1 rfl rfl rfl (by omega) (b6 ?_)); exact h9 rfl
  apply k9 _ rfl rfl rfl
  ·intro w1; refine j0 hg1 ?_
   first | refine a8 ⟨_, 2, none⟩ rfl rfl n5 rfl ?_ | refine a8 _ rfl rfl n5 rfl ?_
   refine b6 ?_; exact h9 rfl
  apply k9 _ rfl rfl rfl
  ·intro w1; refine j0 hg1 ?_
   first | refine a7 rfl d6 rfl (d4 mB rfl) ?_ | refine a7 rfl d6 rfl (d9 mB rfl) ?_ | refine a7 rfl d6 rfl (b9 mB (b4 (by omega) rfl)) ?_ | refine a7 rfl d6 rfl (b8 mB (rows_get (by omega) rfl)) ?_
   refine b6 ?_; exact h9 rfl
  refine A9 ⟨rfl, ?_⟩; refine j0 hg1 (dq0 (A := A) (ps := ps) (ps.length - 1) m4 ?_); refine h8 (vs := [.slice A (ps.length - 1) ca, str mt]) iM rfl rfl (jV mt (by omega) (by omega) (fun q hq => by have := h4 q hq; omega)) p9 ⟨m0, tK⟩ fun _ _ => ?_; refine j0 hg1 (cV rfl rfl rfl ?_); refine p_t rfl rfl (bt1 hg1) rfl ?_; refine b7 rfl (b5 ?_)
  first | refine i6 rfl (fun hb7 => ?_) (fun hb7 => ?_) | refine c8 rfl (fun hb7 => ?_) (fun hb7 => ?_)
  ·have hb7' := hb7; try simp at hb7'
   refine c7 (b7 rfl (b6 (u4 (c3 (c5 (b3 rfl ?_))))))
   first | refine a8 ⟨_, 1, none⟩ rfl rfl d7 rfl ?_ | refine a8 _ rfl rfl d7 rfl ?_
   first | refine a7 rfl a6 rfl (d9 mB rfl) ?_ | refine a7 rfl a6 rfl (d4 mB rfl) ?_ | refine a7 rfl a6 rfl (b9 mB (b4 (by omega) rfl)) ?_ | refine a7 rfl a6 rfl (b8 mB (rows_get (by omega) rfl)) ?_
   refine C9 _ rfl rfl (fun _ => E5 ..) (u2 rfl rfl J0 l5 (by rfl) (by rfl) ?_); refine b7 rfl (b5 (i8 ?_)); exact G0 () rfl rfl rfl w4 l5 rfl m0 (by rw [lookV, flawP, if_neg hb6, if_pos (by simpa using ⟨hg1', hb7⟩)]) rfl tK nK tK
  have hb7' := hb7; try simp at hb7'
  refine c4 (u4 (c3 (c5 (b3 rfl ?_))))
  first | refine a8 ⟨_, 1, none⟩ rfl rfl d7 rfl ?_ | refine a8 _ rfl rfl d7 rfl ?_
  first | refine a7 rfl a6 rfl (d9 mB rfl) ?_ | refine a7 rfl a6 rfl (d4 mB rfl) ?_ | refine a7 rfl a6 rfl (b9 mB (b4 (by omega) rfl)) ?_ | refine a7 rfl a6 rfl (b8 mB (rows_get (by omega) rfl)) ?_
  refine C9 _ rfl rfl (fun _ => E5 ..) (u2 rfl rfl J0 l5 (by rfl) (by rfl) ?_); refine b7 rfl (b5 (i8 ?_)); exact G0 () rfl rfl rfl w4 l5 rfl m0 (by rw [lookV, flawP, if_neg hb6, if_neg (by simp_all)]) rfl tK nK tK
 intro hg1; have hg1' := hg1; try simp at hg1'
 refine s7 (fun w1 => p6 hg1 (q_z rfl)) (s7 (fun w1 => p6 hg1 (q_z rfl)) (s7 (fun w1 => p6 hg1 (q_z rfl)) (s7 (fun w1 => p6 hg1 (q_z rfl)) (s7 (fun w1 => p6 hg1 (q_z rfl)) ?_)))); refine A9 ⟨rfl, ?_⟩; refine p6 hg1 (p6 hg1 ?_); refine p_f rfl rfl (bf2 hg1) rfl ?_; refine b7 rfl (b5 (c_f rfl rfl (c4 (u4 (c3 (c5 (b3 rfl ?_)))))))
 first | refine a8 ⟨_, 1, none⟩ rfl rfl d7 rfl ?_ | refine a8 _ rfl rfl d7 rfl ?_
 first | refine a7 rfl a6 rfl (d9 mB rfl) ?_ | refine a7 rfl a6 rfl (d4 mB rfl) ?_ | refine a7 rfl a6 rfl (b9 mB (b4 (by omega) rfl)) ?_ | refine a7 rfl a6 rfl (b8 mB (rows_get (by omega) rfl)) ?_
 refine C9 _ rfl rfl (fun _ => E5 ..) (u2 rfl rfl J0 l5 (by rfl) (by rfl) ?_); refine b7 rfl (b5 (i8 ?_)); exact G0 () rfl rfl rfl w4 l5 rfl m0 (by rw [lookV, flawP, if_neg hb6, if_neg (by simp_all)]) rfl tK nK tK
def growF (n : Nat) (p : List Int → Bool) : Nat → List Int → Option (List Int)
  | 0, l => if p l = true then some l else none
  | d + 1, l => (List.range n).findSome? fun i : Nat => if (i : Int) ∈ l then none else growF n p d (l ++ [(i : Int)])
def InR (n : Nat) (l : List Int) : Prop := ∀ i ∈ l, 0 ≤ i ∧ i < (n : Int)
theorem InR.snoc {n : Nat} {l : List Int} {i : Nat} (h : InR n l) (hi : i < n) : InR n (l ++ [(i : Int)]) := by
  intro x hx
  rcases List.mem_append.1 hx with hx | hx
  · exact h x hx
  simp at hx; omega
abbrev GrowI (o : OutC) (l : List Int) (og : Hp) : Prop := Grow E2 1 o.1 l.length o.2 (rows l) og
section
variable (lb : Nat) (rc : Option Code → Loop) (R0 : Hp) (R1 : List Int → OutC → Hp) (LI0 : List Fact) (p : List Int → Bool)
def yCon (o : List Int) (A : Option Addr) (c : Nat) : Con Unit :=
  { hpI := (lb, .loop (rc none)) :: R0, LI := Row A (rows o) :: LI0, val := fun _ => .bool (!(p o)), hpO := fun _ => if p o = true then (lb, .loop (rc (some .ret))) :: R1 o (A, c) else (lb, .loop (rc none)) :: R0 }
abbrev OrdO := Option (List Int × OutC)
def ordR (x : OrdO) : Hp := match x with | none => R0 | some y => R1 y.1 y.2
def ordL (x : OrdO) : List Fact := match x with | none => [] | some y => [Row y.2.1 (rows y.1)]
def ordJ (x : OrdO) : Option Code := match x with | none => none | some _ => some .ret
def ordCon (LI : List Fact) (q : Option (List Int)) (val : OrdO → Value) : Con OrdO :=
  { hpI := (lb, .loop (rc none)) :: R0, LI := LI ++ LI0, inv := fun x => q = x.map (·.1), val := val, hpO := fun x => (lb, .loop (rc (ordJ x))) :: ordR R0 R1 x, LO := ordL }
end
def boxN (g : Nat) (n : Int) : Fact := Blk g (.cells #[int n] E2 (0, 0))
def ptr (g : Nat) : Value := .pointer (n9 g)
def orderOK (l : List Mk) (most : Int) : Int → List Int → Bool
  | _, [] => true
  | n, i :: r => if most < n + growsM (l.getD i.toNat default) then false else orderOK l most (n + growsM (l.getD i.toNat default)) r
def stepsP (p : List Str) (l : List Mk) (most : Int) : List Int × Int :=
  if ¬ checkErr p l = 0 then ([], checkErr p l) else if 5 < l.length then ([], 6) else if most < 0 then ([], 1) else if most < p.length then ([], 12)
  else ((growF l.length (orderOK l most p.length) l.length []).getD [], if (growF l.length (orderOK l most p.length) l.length []).isSome then 0 else 11)
def cellI (g : Nat) (v : Value) : Nat × Obj := (g, .cells #[v] gF (0, 0))
def cellE (g : Nat) (e : Int) : Nat × Obj := (g, .cells #[int e] tE (0, 0))
def stepsF (l : List Mk) (most : Int) : Nat → List Int → Int → Option (List Int)
  | 0, done, _ => some done
  | d + 1, done, lines => (List.range l.length).findSome? fun i : Nat => if (i : Int) ∈ done ∨ most < lines + growsM (l.getD i default) then none else stepsF l most d (done ++ [(i : Int)]) (lines + growsM (l.getD i default))
def outB (r : Option (List Int)) : Con OutC := { val := fun x => .tuple #[.slice x.1 (r.getD []).length x.2, .bool r.isSome], LO := fun x => [Row x.1 (rows (r.getD []))] }
def stepsR (p : List Str) (l : List Mk) (most : Int) : List Int × Int :=
  if ¬ checkErr p l = 0 then ([], checkErr p l) else if 5 < l.length then ([], 6) else if most < 0 then ([], 1) else if most < p.length then ([], 12)
  else if (stepsF l most l.length [] p.length).isSome then ((stepsF l most l.length [] p.length).getD [], 0) else ([], 11)
structure NamesOK (l : List Str) : Prop where
  a : ∀ s ∈ l, Asc7 s
  e : ∀ s ∈ l, nameErr s = 0
theorem K7 {s : Str} (h : nameErr s = 0) : 0 < s.length ∧ s.length ≤ 6 ∧ okS s = true := by
  unfold nameErr at h
  split at h
  · omega
  split at h
  · omega
  split at h
  · rename_i h1 h2 h3; exact ⟨by omega, by omega, h3⟩
  omega
def idxL (n : Nat) : List Int := (List.range n).map fun i : Nat => (i : Int)
theorem U7 (n : Nat) : (idxL n).length = n := by simp [idxL]
theorem az6 (n : Nat) : idxL (n + 1) = idxL n ++ [(n : Int)] := by simp [idxL, List.range_succ]
theorem qU {n : Nat} {x : Int} : x ∈ idxL n ↔ ∃ i : Nat, i < n ∧ x = (i : Int) := by
  simp only [idxL, List.mem_map, List.mem_range]
  constructor
  · rintro ⟨i, h, e⟩; exact ⟨i, h, e.symm⟩
  rintro ⟨i, h, e⟩; exact ⟨i, h, e.symm⟩
def cmpAt (l : List Str) (x y : Int) : Int := cmpN (l.getD x.toNat default) (l.getD y.toNat default)
structure SortOK (l : List Str) (r : List Int × Int) : Prop where
  no : ¬ listErr l = 0 → r = ([], listErr l)
  ok : listErr l = 0 → r.2 = 0 ∧ Srtd (cmpAt l) (idxL l.length) r.1
theorem kB {l : List Str} (h : listErr l = 0) : l.length ≤ 6 ∧ ∀ s ∈ l, nameErr s = 0 := by
  unfold listErr at h
  split at h
  · omega
  exact ⟨by omega, fun s hs => I3 h s hs⟩
theorem jY {A : Option Addr} {c g1 : Nat} (l : List Str) (hk : ∀ s ∈ l, Asc7 s ∧ nameErr s = 0) (x y : Nat) (hx : x < l.length) (hy : y < l.length) : Meets prog K4 [int x, int y, .pointer (n9 g1)] { LI := [Blk g1 (.cells #[.slice A l.length c] H5 (0, 0)), Row A (rows l)], val := fun _ : Unit => int (cmpN (l.getD x default) (l.getD y default)) } := by
 refine d5 mS rfl r4 fun w0 => ?_; refine c5 (b7 rfl (b5 (c6 ?_))); have qx := hk _ (r7 hx); have qy := hk _ (r7 hy); have zx := K7 qx.2; have zy := K7 qy.2; refine G4 8 mixed (by decide) (by decide) rfl rfl (s7 (fun w1 => a7 (v := .slice A l.length c) rfl c9 rfl (d4 mB rfl) (q_z rfl)) (p8 rfl (s7 (fun w1 => u6 (α := Str) l x rfl j7 q7 rfl rfl rfl mB rfl hx (by decide) (q_z rfl)) (s7 (fun w1 => a7 (v := str (l.getD x default)) rfl d6 rfl (b9 mB (b4 hx rfl)) (q_z rfl)) (s7 (fun w1 => a7 (v := .slice A l.length c) rfl c9 rfl (d4 mB rfl) (q_z rfl)) (p8 rfl (s7 (fun w1 => u6 (α := Str) l y rfl j7 q7 rfl rfl rfl mB rfl hy (by decide) (q_z rfl)) (s7 (fun w1 => a7 (v := str (l.getD y default)) rfl d6 rfl (b9 mB (b4 hy rfl)) (q_z rfl)) ?_)))))))); refine A9 ⟨rfl, ?_⟩; refine h8 Y4 rfl rfl (X3 (l.getD x default) (l.getD y default) qx.1 qy.1 zx.1 zy.1 (by omega) (by omega)) p9 tK fun _ _ => ?_; refine b7 rfl (b5 (i8 ?_)); exact ret1 () rfl rfl rfl tK nK tK
theorem cX {A : Option Addr} {c : Nat} (l : List Str) (hl : l.length ≤ 1000000) (hs : ∀ s ∈ l, Asc7 s) : Meets prog cR [.slice A l.length c] { LI := [Row A (rows l)], inv := fun x : (List Int × Int) × OutC => SortOK l x.1, val := fun x => .tuple #[.slice x.2.1 x.1.1.length x.2.2, int x.1.2], LO := fun x => [Row x.2.1 (rows x.1.1)] } := by
 refine d5 rH rfl r4 fun w0 => c5 (Q0 rfl rfl fun g1 => ?_); refine b7 rfl (b7 rfl (b5 (cH (R3 (c7 ?_))))); refine a7 (v := .slice A l.length c) rfl c9 rfl (d4 mB rfl) (h8 aB rfl rfl (Z9 l hl hs) p9 mC fun _ _ => ?_); refine b7 rfl (l7 (b3 rfl (w7 rfl rfl rfl (b5 ?_))))
 first | refine i6 rfl (fun hb1 => ?_) (fun hb1 => ?_) | refine c8 rfl (fun hb1 => ?_) (fun hb1 => ?_)
 ·have hb1' := hb1; try simp at hb1'
  refine c5 (b3 rfl (b7 rfl (b7 rfl (b5 (C6 ?_))))); refine sI (α := Int) ?_; exact ret2 (([], listErr l), (none, 0)) rfl rfl rfl rfl rfl ⟨fun _ => rfl, fun h => absurd h hb1⟩ nK ⟨m0, tK⟩
 have hb1' := hb1; try simp at hb1'
 have h0 := Classical.not_not.1 hb1; obtain ⟨h6, hne⟩ := kB h0; refine c4 (c3 (c5 (b7 rfl (b5 (c6 (c5 ?_)))))); refine a7 (v := .slice A l.length c) rfl c9 rfl (d4 mB rfl) (i7 rfl j7 rfl ?_); refine b3 rfl (b5 (i5 ?_)); refine v6 (β := Nat × OutC × Hp) ⟨fun ⟨k, o, og⟩ => k ≤ l.length ∧ Grow E2 1 o.1 (idxL k).length o.2 (rows (idxL k)) og, fun ⟨k, o, og⟩ => [(1, .pointer (n9 g1)), (5, .slice o.1 (idxL k).length o.2), (13, int l.length), (14, int k)], fun ⟨k, o, og⟩ => og, fun _ => [Blk g1 (.cells #[.slice A l.length c] H5 (0, 0)), Row A (rows l)]⟩ (fun x => l.length - x.1) (0, (none, 0), []) ⟨Nat.zero_le _, Grow.nil _ _⟩ mC nK mC fun x hx => ?_; obtain ⟨k, o, og⟩ := x; obtain ⟨hk, hG⟩ := hx; have hil := U7 k
 try simp only at hk hG
 refine c5 (y5 rfl rfl rfl (b5 (c6 ?_)))
 first | refine i6 rfl (fun hb2 => ?_) (fun hb2 => ?_) | refine c8 rfl (fun hb2 => ?_) (fun hb2 => ?_)
 ·have hb2' := hb2; try simp at hb2'
  have hk2 : k < l.length := by omega
  refine c4 (c3 (c6 (i5 (c5 (b3 rfl (b7 rfl (b5 (c7 (b3 rfl ?_))))))))); refine b3 rfl (j8 _ rfl rfl (fun _ => jK ..) fun gS => ?_); refine E6 ((idxL k).length + 1) (rows (idxL (k + 1))) qH rfl rfl rfl hG (List.perm_append_comm (l₁ := [_])) (Src.own (cs := #[int (k : Int)]) (m := 1) (List.mem_append_right _ m0) rfl rfl) rfl (by rw [az6]; exact (y4 _ [(k : Int)]).symm) (by unfold maxLen; omega) (by omega) fun A' c' og' hG' => ?_; refine b7 rfl (b6 (u4 (c3 (c7 ?_)))); refine w5 _ rfl rfl rfl rfl q8 ?_; refine b3 rfl (b6 ?_); exact again _ (k + 1, (A', c'), og') ⟨by omega, by show Grow _ _ _ (idxL (k + 1)).length _ _ _; rw [U7]; rw [U7] at hG'; exact hG'⟩ (C5 (by omega)) ⟨rfl, by show some (Value.slice A' ((idxL k).length + 1) c') = some (Value.slice A' (idxL (k + 1)).length c'); rw [U7, U7], rfl, rfl, tK⟩ (List.sublist_append_left _ _) mC
 have hb2' := hb2; try simp at hb2'
 have hk2 : k = l.length := by omega
 subst hk2; refine r9 (B2 (r8 (c3 (c6 ?_)))); have hG : Grow E2 1 o.1 (idxL l.length).length o.2 (rows (idxL l.length)) og := hG
 have hcm : ∀ x ∈ idxL l.length, ∀ y ∈ idxL l.length, Meets prog K4 ([int x, int y] ++ [.pointer (n9 g1)]) ({ LI := [Blk g1 (.cells #[.slice A l.length c] H5 (0, 0)), Row A (rows l)], val := fun _ : Unit => int (cmpAt l x y) } : Con Unit) := by
   intro x hx y hy; obtain ⟨i, hi, rfl⟩ := qU.1 hx; obtain ⟨j, hj, rfl⟩ := qU.1 hy; exact jY l (fun s h => ⟨hs s h, hne s h⟩) i j hi hj
 have hsm := O6 (A := o.1) (cap := o.2) (g := K4) (cp := [.pointer (n9 g1)]) kX (idxL l.length) hcm og hG (by rw [U7]; omega); refine c7 (b3 rfl (hZ rfl rfl rfl ?_)); refine h8 P3 rfl rfl (hsm) (hpR := []) (by first | (rw [List.append_nil]; done) | (rw [List.append_nil]; exact List.Perm.refl _) | exact List.Perm.refl _) mC fun z hz => ?_; obtain ⟨z, ogz⟩ := z; obtain ⟨hz1, hz2⟩ := hz; simp only at hz1 hz2; have hzl : z.length = l.length := by rw [hz1.1.length_eq, U7]
 refine l7 (b3 rfl (b7 rfl (b7 rfl (b5 (i8 (vP hz2 ?_)))))); exact ret2 ((z, 0), o) rfl rfl rfl (by show Value.tuple #[.slice o.1 z.length o.2, int 0] = _; rw [show z.length = (idxL l.length).length from hz1.1.length_eq]) rfl ⟨fun h => absurd h0 h, fun _ => ⟨rfl, hz1⟩⟩ nK ⟨m0, tK⟩
def sortedN (l : List Str) : Prop := ∀ k, k + 1 < l.length → ¬ cmpN (l.getD (k + 1) default) (l.getD k default) < 0
abbrev VN (s : Str) : Prop := Asc7 s ∧ nameErr s = 0
theorem qY {A : Option Addr} {c : Nat} (l : List Str) (hl : l.length ≤ 1000) (hv : ∀ s ∈ l, VN s) : Meets prog D8 [.slice A l.length c, .func (.func I1) #[] #[]] { LI := [Row A (rows l)], inv := fun z : Bool => (z = true ↔ sortedN l), val := fun z => .bool z } := by
 refine d5 U9 rfl r4 fun w0 => ?_; refine c5 (b7 rfl (b5 (c6 (c5 (b3 rfl ?_))))); refine i7 rfl j7 rfl (J4 ((l.length : Int) - 1) rfl rfl rfl (by rfl) q8 ?_); refine b7 rfl (b5 (i5 ?_)); refine v6 (β := Nat) ⟨fun i => i ≤ l.length ∧ ∀ k, i ≤ k + 1 → k + 1 < l.length → ¬ cmpN (l.getD (k + 1) default) (l.getD (k) default) < 0, fun i => [(0, .slice A l.length c), (1, .func (.func I1) #[] #[]), (5, int ((i : Int) - 1))], fun _ => [], fun _ => [Row A (rows l)]⟩ (fun i => i) l.length ⟨Nat.le_refl _, fun k h1 h2 => by omega⟩ mC (.refl _) mC fun i hi => ?_; obtain ⟨hi, ht⟩ := hi; refine c6 (c5 (b3 rfl (G6 rfl rfl rfl (b5 ?_))))
 first | refine i6 rfl (fun hb1 => ?_) (fun hb1 => ?_) | refine c8 rfl (fun hb1 => ?_) (fun hb1 => ?_)
 ·have hb1' := hb1; try simp at hb1'
  obtain ⟨j, rfl⟩ : ∃ j, i = j + 2 := ⟨i - 2, by omega⟩; have v1 := hv _ (r7 (l := l) (k := j + 1) (by omega)); have v0 := hv _ (r7 (l := l) (k := j) (by omega)); have z1 := K7 v1.2; have z0 := K7 v0.2; refine c4 (c3 (c6 (i5 (c6 ?_)))); refine G4 10 mixed (by decide) (by decide) rfl rfl (p8 rfl (p8 rfl (p8 rfl (s7 (fun w1 => u6 (α := Str) l (j + 1) rfl j7 q7 rfl rfl (by omega) mB rfl (by omega) (by decide) (q_z rfl)) (s7 (fun w1 => a7 (v := str (l.getD (j + 1) default)) rfl d6 rfl (b9 mB (b4 (by omega) rfl)) (q_z rfl)) (p8 rfl (p8 rfl (s7 (fun w1 => J4 (j : Int) rfl rfl rfl (by omega) q8 (q_z rfl)) (s7 (fun w1 => u6 (α := Str) l j rfl j7 q7 rfl rfl rfl mB rfl (by omega) (by decide) (q_z rfl)) (s7 (fun w1 => a7 (v := str (l.getD (j) default)) rfl d6 rfl (b9 mB (b4 (by omega) rfl)) (q_z rfl)) ?_)))))))))); refine A9 ⟨rfl, ?_⟩; refine G3 (vs := [str (l.getD (j + 1) default), str (l.getD (j) default)]) (cap := []) Y4 rfl rfl rfl (X3 (l.getD (j + 1) default) (l.getD (j) default) v1.1 v0.1 z1.1 z0.1 (by omega) (by omega)) p9 tK fun _ _ => ?_; refine y5 rfl rfl rfl (b5 ?_)
  first | refine i6 rfl (fun hb2 => ?_) (fun hb2 => ?_) | refine c8 rfl (fun hb2 => ?_) (fun hb2 => ?_)
  ·have hb2' := hb2; try simp at hb2'
   refine c5 (b7 rfl (b5 (i8 (y8 (r6 (y8 ?_)))))); exact ret1 false rfl rfl rfl ⟨(fun h => by cases h), fun h => absurd hb2 (h j (by omega))⟩ nK tK
  have hb2' := hb2; try simp at hb2'
  refine c4 (u4 (c3 (c7 (b3 rfl ?_)))); refine J4 (((j + 1 : Nat) : Int) - 1) rfl rfl rfl (by omega) q8 ?_; refine b7 rfl (b6 ?_)
  exact again _ (j + 1) ⟨by omega, fun k h1 h2 => by
    by_cases e : k = j
    · subst e; exact hb2
    exact ht k (by omega) h2⟩ (by show j + 1 < j + 2; omega) mC nK mC
 have hb1' := hb1; try simp at hb1'
 refine r9 (B2 (r8 (c3 (c5 (b7 rfl (b5 (i8 ?_))))))); exact ret1 true rfl rfl rfl ⟨fun _ k h => ht k (by omega) h, fun _ => rfl⟩ nK tK
theorem lF {A : Option Addr} {c : Nat} (a : List Int) (ha : a.length ≤ 1000) : Meets prog H7 [.slice A a.length c, .slice none 0 0] { LI := [Row A (rows a)], inv := fun z : Int => ¬ z < 0, val := fun z => int z } := by
 refine d5 aM rfl r4 fun w0 => ?_; refine c5 (b7 rfl (b5 (c6 (c5 (b3 rfl ?_))))); refine i7 rfl r5 rfl ?_; refine b3 rfl (b5 (i5 ?_)); refine v6 (β := Unit) ⟨fun _ => True, fun _ => [(0, .slice A a.length c), (1, .slice none 0 0), (9, .slice A a.length c), (10, int a.length), (11, int (0 : Nat))], fun _ => [], fun _ => [Row A (rows a)]⟩ (fun _ => 0) () tK mC (.refl _) mC fun _ _ => ?_; refine c5 (y5 rfl rfl rfl (b5 (c6 ?_)))
 first | refine i6 rfl (fun hb1 => ?_) (fun hb1 => ?_) | refine c8 rfl (fun hb1 => ?_) (fun hb1 => ?_)
 ·have hb1' := hb1; try simp at hb1'
  have h0 : 0 < a.length := by omega
  refine c4 (c3 (c6 (i5 (c5 (b3 rfl ?_))))); refine u6 (α := Int) a 0 rfl r5 w6 rfl rfl rfl mB rfl h0 (by decide) (a7 (v := int (a.getD 0 default)) rfl a6 rfl (b9 mB (b4 h0 rfl)) ?_); refine b7 rfl (b7 rfl (b5 (c6 (c5 (b3 rfl (b3 rfl ?_)))))); refine i7 rfl r5 rfl ?_; refine cV rfl rfl rfl (b5 ?_)
  first | refine i6 rfl (fun hb2 => ?_) (fun hb2 => ?_) | refine c8 rfl (fun hb2 => ?_) (fun hb2 => ?_)
  ·have hb2' := hb2; try simp at hb2'
   refine c5 (b7 rfl (b5 (C6 (y8 (r6 (y8 ?_)))))); exact ret1 1 rfl rfl rfl (by omega) nK tK
  exact absurd (by omega) hb2
 have hb1' := hb1; try simp at hb1'
 have h0 : a.length = 0 := by omega
 refine r9 (B2 (r8 (c3 (c6 (c5 (b3 rfl ?_)))))); refine i7 rfl r5 rfl (b3 rfl (i7 rfl r5 rfl ?_)); refine y5 rfl rfl rfl (b5 ?_)
 first | refine i6 rfl (fun hb4 => ?_) (fun hb4 => ?_) | refine c8 rfl (fun hb4 => ?_) (fun hb4 => ?_)
 ·exact absurd hb4 (by omega)
 have hb4' := hb4; try simp at hb4'
 refine c4 (c3 (c5 (b7 rfl (b5 (i8 ?_))))); exact ret1 0 rfl rfl rfl (by omega) nK tK
theorem or_nneg {a b : Int} (ha : ¬ a < 0) (hb : ¬ b < 0) : ¬ orL [a, b] < 0 := by
  unfold orL
  split
  · exact ha
  unfold orL
  split
  · exact hb
  unfold orL; omega
theorem cmpI_nn (n : Nat) : ¬ cmpI (n : Int) 0 < 0 := by unfold cmpI; rw [if_neg (by omega)]; split <;> omega
theorem jN {A : Option Addr} {c : Nat} (a : List Int) (ha : a.length ≤ 1000) : Meets prog B3 [.slice A a.length c, .slice none 0 0] { LI := [Row A (rows a)], inv := fun z : Int => ¬ z < 0, val := fun z => int z } := by
 refine d5 kT rfl r4 fun w0 => ?_; refine c5 (b7 rfl (l7 (b3 rfl ?_))); refine i7 rfl r5 rfl (b3 rfl (i7 rfl r5 rfl (h8 y9 rfl rfl (z7 (a.length : Int) 0) p9 tK fun _ _ => ?_))); refine b3 rfl (b3 rfl ?_); refine h8 Z6 rfl rfl (lF a ha) p9 mC fun z hz => j8 _ rfl rfl (fun _ => jJ ..) fun gS => B5 (rows [cmpI (a.length : Int) 0, z]) (List.prefix_refl _) ?_; refine h8 K9 rfl rfl (L5 [cmpI (a.length : Int) 0, z] (by simp)) p9 mC fun _ _ => ?_; refine b7 rfl (b5 (i8 ?_)); exact ret1 (orL [cmpI (a.length : Int) 0, z]) rfl rfl rfl (or_nneg (cmpI_nn _) hz) nK tK
def yC (lb : Nat) (rc : Option Code → Loop) (R : Bool → Hp) (LI0 : List Fact) (o : List Int) (A : Option Addr) (sb : Bool) : Con Unit :=
  { hpI := (lb, .loop (rc none)) :: R sb, LI := Row A (rows o) :: LI0, val := fun _ => .bool true, hpO := fun _ => (lb, .loop (rc none)) :: R true }
theorem iE {A : Option Addr} {c g1 lb : Nat} {rc : Option Code → Loop} {R : Bool → Hp} {LI0 : List Fact} (l : List Str) (hl : l.length ≤ 6) (hv : ∀ s ∈ l, VN s) (hso : sortedN l)
    (hY : ∀ (sb : Bool) (o : List Int) (A : Option Addr) (c : Nat), (sb = false → o = [] ∧ A = none ∧ c = 0) → o.length ≤ 1000 → MeetsY prog lb [.slice A o.length c] (yC lb rc R LI0 o A sb)) :
    Meets prog N4 [yieldV lb, .pointer (n9 g1)] { hpI := (lb, .loop (rc none)) :: R false, LI := ([Blk g1 (.cells #[.slice A l.length c] H5 (0, 0)), Row A (rows l)] ++ LI0), val := fun _ : Unit => .tuple #[], hpO := fun _ => (lb, .loop (rc none)) :: R true } := by
 refine d5 kW rfl r4 fun w0 => c5 (a7 (v := .slice A l.length c) rfl c9 rfl (d4 mB rfl) (i7 rfl j7 rfl ?_)); obtain ⟨N, hN⟩ : ∃ N, N = 2 ^ l.length := ⟨_, rfl⟩; have hN2 : N ≤ 64 := by rw [hN]; exact Nat.pow_le_pow_right (n := 2) (by omega) hl
 have hN1 : 1 ≤ N := by rw [hN]; exact Nat.one_le_two_pow
 refine cq9 l.length N hN rfl rfl rfl rfl (by omega) ?_; refine b3 rfl (b5 (i5 ?_)); refine v6 (β := Nat) ⟨fun s => s ≤ N, fun s => [(0, yieldV lb), (1, .pointer (n9 g1)), (10, int (N : Nat)), (11, int (s : Nat))], fun s => (lb, .loop (rc none)) :: R (decide (0 < s)), fun _ => ([Blk g1 (.cells #[.slice A l.length c] H5 (0, 0)), Row A (rows l)] ++ LI0)⟩ (fun s => N - s) 0 (Nat.zero_le _) mC (.refl _) ⟨mB, mB, (LSub.of_mem fun F hF => by first | exact hF | exact List.mem_cons_of_mem _ hF | exact List.mem_append_right _ hF | (have hF : F ∈ LI0 := (by simpa using hF); simp only [List.mem_cons, List.mem_append]; simp [hF]))⟩ fun s hs => ?_; simp only at hs; refine c5 (y5 rfl rfl rfl (b5 (c6 ?_)))
 first | refine i6 rfl (fun hb1 => ?_) (fun hb1 => ?_) | refine c8 rfl (fun hb1 => ?_) (fun hb1 => ?_)
 ·have hb1' := hb1; try simp at hb1'
  have hs2 : s < N := by omega
  refine c4 (c3 (c6 (i5 (c5 (b3 rfl (b7 rfl (l7 ?_))))))); refine b7 rfl (l7 (b7 rfl (b5 (c6 (c5 ?_))))); refine a7 (v := .slice A l.length c) rfl c9 rfl (d4 mB rfl) (i7 rfl j7 rfl ?_); refine b3 rfl (b5 (i5 ?_)); refine v6 (β := Nat × List Int × OutC × Hp × List Str × OutC × Hp) ⟨fun ⟨i, out, o, og, rs, r, rg⟩ => i ≤ l.length ∧ (out.length ≤ i ∧ rs.length ≤ i ∧ ∀ w ∈ rs, w ∈ l) ∧ (s = 0 → out = [] ∧ o.1 = none ∧ o.2 = 0 ∧ rs = l.take i) ∧ Grow E2 1 o.1 out.length o.2 (rows out) og ∧ Grow y6 1 r.1 rs.length r.2 (rows rs) rg, fun ⟨i, out, o, og, rs, r, rg⟩ => [(0, yieldV lb), (1, .pointer (n9 g1)), (10, int (N : Nat)), (11, int (s : Nat)), (3, int (s : Nat)), (4, .slice o.1 out.length o.2), (5, .slice r.1 rs.length r.2), (14, .slice A l.length c), (15, int l.length), (16, int i)], fun ⟨i, out, o, og, rs, r, rg⟩ => og ++ (rg ++ ((lb, .loop (rc none)) :: R (decide (0 < s)))), fun _ => ([Blk g1 (.cells #[.slice A l.length c] H5 (0, 0)), Row A (rows l)] ++ LI0)⟩ (fun x => l.length - x.1) (0, [], (none, 0), [], [], (none, 0), []) ⟨Nat.zero_le _, ⟨Nat.le_refl _, Nat.le_refl _, fun w h => by cases h⟩, fun _ => ⟨rfl, rfl, rfl, rfl⟩, Grow.nil _ _, Grow.nil _ _⟩ mC (.refl _) ⟨mB, mB, (LSub.of_mem fun F hF => by first | exact hF | exact List.mem_cons_of_mem _ hF | exact List.mem_append_right _ hF | (have hF : F ∈ LI0 := (by simpa using hF); simp only [List.mem_cons, List.mem_append]; simp [hF]))⟩ fun x hx => ?_; obtain ⟨i, out, o, og, rs, r, rg⟩ := x; obtain ⟨hi, ⟨ho, hr, hrl⟩, h0, hG, hH⟩ := hx
  try simp only at hi ho hr hrl h0 hG hH
  refine c5 (y5 rfl rfl rfl (b5 (c6 ?_)))
  first | refine i6 rfl (fun hb2 => ?_) (fun hb2 => ?_) | refine c8 rfl (fun hb2 => ?_) (fun hb2 => ?_)
  ·have hb2' := hb2; try simp at hb2'
   have hi2 : i < l.length := by omega
   refine c4 (c3 (c6 (i5 (c5 (b3 rfl ?_))))); refine u6 (α := Str) l i rfl j7 q7 rfl rfl rfl mB rfl hi2 (by decide) (a7 (v := str (l.getD (i) default)) rfl d6 rfl (b9 mB (b4 hi2 rfl)) ?_); refine b7 rfl (b7 rfl (l7 (b3 rfl (b3 rfl (r_shrI i rfl rfl rfl rfl (cz1 rfl rfl rfl (D9 rfl rfl rfl (b6 ?_)))))))); refine c3 ?_
   first | refine i6 rfl (fun hb3 => ?_) (fun hb3 => ?_) | refine c8 rfl (fun hb3 => ?_) (fun hb3 => ?_)
   ·have hb3' := hb3; try simp at hb3'
    have hs0 : ¬ s = 0 := fun e => by subst e; exact wT i hb3
    refine c7 (b3 rfl (b3 rfl ?_)); refine j8 _ rfl rfl (fun _ => jK ..) fun gS => ?_; refine E6 (out.length + 1) (rows (out ++ [(i : Int)])) qH rfl rfl rfl hG (hp' := _ :: (rg ++ ((lb, .loop (rc none)) :: R (decide (0 < s))))) (List.perm_middle.symm) (Src.own (cs := #[int (i : Int)]) (m := 1) (List.mem_append_right _ m0) rfl rfl) rfl (y4 out [(i : Int)]).symm (by unfold maxLen; omega) (by omega) fun A' c' og' hG' => ?_; refine b7 rfl (b6 (u4 (c3 (c7 ?_)))); refine w5 _ rfl rfl rfl rfl q8 ?_; refine b3 rfl (b6 ?_); exact again _ (i + 1, out ++ [(i : Int)], (A', c'), og', rs, r, rg) ⟨by omega, ⟨by simp; omega, by omega, hrl⟩, fun e => absurd e hs0, by show Grow _ _ _ (out ++ [_]).length _ _ _; rw [List.length_append]; exact hG', hH⟩ (C5 (by omega)) ⟨rfl, rfl, rfl, rfl, rfl, by show some (Value.slice A' (out.length + 1) c') = some (Value.slice A' (out ++ [(i : Int)]).length c'); rw [List.length_append]; rfl, rfl, rfl, rfl, rfl, tK⟩ ((List.Sublist.refl og').append (.cons _ (.refl _))) ⟨mB, mB, (LSub.of_mem fun F hF => by first | exact hF | exact List.mem_cons_of_mem _ hF | exact List.mem_append_right _ hF | (have hF : F ∈ LI0 := (by simpa using hF); simp only [List.mem_cons, List.mem_append]; simp [hF]))⟩
   have hb3' := hb3; try simp at hb3'
   refine c7 (b3 rfl (b3 rfl ?_)); refine j8 _ rfl rfl (fun _ => E9 ..) fun gS => ?_; refine E6 (rs.length + 1) (rows (rs ++ [(l.getD (i) default)])) H6 rfl rfl rfl hH (hp' := (gS, Obj.cells #[str (l.getD (i) default)] y6 (0, 0)) :: (og ++ ((lb, .loop (rc none)) :: R (decide (0 < s))))) (show List.Perm ((gS, Obj.cells #[str (l.getD (i) default)] y6 (0, 0)) :: (og ++ (rg ++ ((lb, Obj.loop (rc none)) :: R (decide (0 < s)))))) (rg ++ ((gS, Obj.cells #[str (l.getD (i) default)] y6 (0, 0)) :: (og ++ ((lb, Obj.loop (rc none)) :: R (decide (0 < s)))))) from (E7 fun q => by simp only [List.countP_append, List.countP_cons, List.countP_nil]; omega)) (Src.own (cs := #[str (l.getD (i) default)]) (m := 1) (List.mem_append_right _ m0) rfl rfl) rfl (y4 rs [(l.getD (i) default)]).symm (by unfold maxLen; omega) (by omega) fun A' c' og' hG' => ?_; refine b7 rfl (b6 (u4 (c3 (c7 ?_)))); refine w5 _ rfl rfl rfl rfl q8 ?_; refine b3 rfl (b6 ?_); refine zW (hp' := og ++ (og' ++ ((lb, .loop (rc none)) :: R (decide (0 < s)))) ++ [(gS, Obj.cells #[str (l.getD (i) default)] y6 (0, 0))]) (E7 fun q => by simp only [List.countP_append, List.countP_cons, List.countP_nil]; omega) ?_; exact again _ (i + 1, out, o, og, rs ++ [(l.getD (i) default)], (A', c'), og') ⟨by omega, ⟨by omega, by simp; omega, fun w h => (List.mem_append.1 h).elim (hrl w) (fun h => by rw [List.mem_singleton.1 h]; exact r7 hi2)⟩, fun e => ⟨(h0 e).1, (h0 e).2.1, (h0 e).2.2.1, by rw [s9 l i hi2, (h0 e).2.2.2]⟩, hG, by show Grow _ _ _ (rs ++ [_]).length _ _ _; rw [List.length_append]; exact hG'⟩ (C5 (by omega)) ⟨rfl, rfl, rfl, rfl, rfl, rfl, by show some (Value.slice A' (rs.length + 1) c') = some (Value.slice A' (rs ++ [_]).length c'); rw [List.length_append]; rfl, rfl, rfl, rfl, tK⟩ (List.sublist_append_left _ _) ⟨mB, mB, (LSub.of_mem fun F hF => by first | exact hF | exact List.mem_cons_of_mem _ hF | exact List.mem_append_right _ hF | (have hF : F ∈ LI0 := (by simpa using hF); simp only [List.mem_cons, List.mem_append]; simp [hF]))⟩
  have hb2' := hb2; try simp at hb2'
  have hi2 : i = l.length := by omega
  subst hi2; refine r9 (B2 (r8 (c3 (c6 (rA hG (rA hH (c7 (b3 rfl ?_)))))))); refine h8 R5 rfl rfl (qY rs (by omega) (fun w h => hv w (hrl w h))) (hpR := _) (.refl _) mC fun z hz => ?_; refine b3 rfl ?_; refine l8 rfl rfl ?_ ?_
  ·intro hg1; have hg1' := hg1; try simp at hg1'
   refine j0 hg1 (b3 rfl (j0 hg1 (b3 rfl (j0 hg1 ?_)))); refine dj9 (k := yC lb rc R LI0 out o.1 (decide (0 < s))) rfl rfl rfl (hY (decide (0 < s)) out o.1 o.2 (fun e => ⟨(h0 (by simpa using e)).1, (h0 (by simpa using e)).2.1, (h0 (by simpa using e)).2.2.1⟩) (by omega)) (hpR := []) (by rw [List.append_nil]; exact .refl _) ⟨mB, (LSub.of_mem fun F hF => by first | exact hF | exact List.mem_cons_of_mem _ hF | exact List.mem_append_right _ hF | (have hF : F ∈ LI0 := (by simpa using hF); simp only [List.mem_cons, List.mem_append]; simp [hF]))⟩ fun _ _ => ?_; refine j0 hg1 (qP rfl rfl ?_); refine p_t rfl rfl (bt1 hg1) rfl (b5 ?_)
   first | refine i6 rfl (fun hb4 => ?_) (fun hb4 => ?_) | refine c8 rfl (fun hb4 => ?_) (fun hb4 => ?_)
   ·have hb4' := hb4; try simp at hb4'
   have hb4' := hb4; try simp at hb4'
   refine c4 (u4 (c3 (c7 ?_))); refine w5 _ rfl rfl rfl rfl q8 ?_; refine b3 rfl (b6 ?_); exact again _ (s + 1) (by show s + 1 ≤ N; omega) (C5 (by omega)) mC (by show List.Sublist ((lb, Obj.loop (rc none)) :: R (decide (0 < s + 1))) (((lb, Obj.loop (rc none)) :: R true) ++ []); rw [decide_eq_true (show 0 < s + 1 by omega)]; exact List.sublist_append_left _ _) ⟨mB, mB, (LSub.of_mem fun F hF => by first | exact hF | exact List.mem_cons_of_mem _ hF | exact List.mem_append_right _ hF | (have hF : F ∈ LI0 := (by simpa using hF); simp only [List.mem_cons, List.mem_append]; simp [hF]))⟩
  intro hg1; have hg1' := hg1; try simp at hg1'
  have hz0 : ¬ sortedN rs := fun h => by rw [hz.2 h] at hg1; cases hg1
  have hs0 : ¬ s = 0 := fun e => hz0 (by rw [(h0 e).2.2.2, List.take_length]; exact hso); refine p6 hg1 (p6 hg1 (p6 hg1 (p6 hg1 ?_))); refine p_f rfl rfl (bf2 hg1) rfl ?_; refine b5 (c_f rfl rfl (c4 (u4 (c3 (c7 ?_))))); refine w5 _ rfl rfl rfl rfl q8 ?_; refine b3 rfl (b6 ?_); exact again _ (s + 1) (by show s + 1 ≤ N; omega) (C5 (by omega)) mC (by show List.Sublist ((lb, Obj.loop (rc none)) :: R (decide (0 < s + 1))) _; rw [decide_eq_true (show 0 < s + 1 by omega), decide_eq_true (show 0 < s by omega)]; exact .refl _) ⟨mB, mB, (LSub.of_mem fun F hF => by first | exact hF | exact List.mem_cons_of_mem _ hF | exact List.mem_append_right _ hF | (have hF : F ∈ LI0 := (by simpa using hF); simp only [List.mem_cons, List.mem_append]; simp [hF]))⟩
 have hb1' := hb1; try simp at hb1'
 have hs2 : s = N := by omega
 subst hs2; refine r9 (B2 (r8 ?_)); exact ret0n () rfl rfl rfl tK (by show List.Sublist ((lb, Obj.loop (rc none)) :: R true) ((lb, Obj.loop (rc none)) :: R (decide (0 < s))); rw [decide_eq_true (show 0 < s by omega)]; exact .refl _) tK
abbrev cI6 (g : Nat) (v : Value) : Nat × Obj := (g, .cells #[v] gF (0, 0))
abbrev cB7 (g : Nat) (b : Bool) : Nat × Obj := (g, .cells #[.bool b] tD (0, 0))
theorem cF {A : Option Addr} {c g1 : Nat} (l : List Str) (hl : l.length ≤ 6) (hv : ∀ s ∈ l, VN s) (hso : sortedN l) : Meets prog P5 [.func (.func N4) #[] #[.pointer (n9 g1)], .func (.func B3) #[] #[]] { LI := [Blk g1 (.cells #[.slice A l.length c] H5 (0, 0)), Row A (rows l)], val := fun _ : Unit => .tuple #[.slice none 0 0, .bool true] } := by
 refine tT gX rfl r4 fun w0 => c5 (Q0 rfl rfl fun g3 => ?_); refine b7 rfl (b7 rfl (l7 ?_)); refine A5 rfl (fun _ => xK _) fun g6 => l7 (A5 rfl (fun _ => xL _) fun g7 => D4 rfl rfl (.refl _) qG (by rfl) (by rfl) ?_); refine b5 (cH ?_); refine P2 (hp' := [(g3, .cells #[.func (.func B3) #[] #[]] C8 (0, 0)), cI6 g6 (.slice none 0 0), cB7 g7 false]) (List.reverse_perm [_, _, _]) ?_; refine R3 (c7 (b3 rfl (b5 (i5 ?_)))); refine tW (β := Unit) (cap := [.pointer (n9 g1)]) (hpR := []) ((fun sb => [cI6 g6 (.slice none 0 0), cB7 g7 sb]) false) ([Blk g1 (.cells #[.slice A l.length c] H5 (0, 0)), Row A (rows l)] ++ [Blk g3 (.cells #[.func (.func B3) #[] #[]] C8 (0, 0))]) (fun _ => True) (fun _ => .tuple #[]) (fun _ => none) (fun _ => (fun sb => [cI6 g6 (.slice none 0 0), cB7 g7 sb]) true) (fun _ => []) rfl iV (.refl _) mC ?_ ?_ ?_
 ·intro lb d fn tmps hsz hfr; refine iE (lb := lb) (rc := recL fn tmps #[10] _ _ d) (R := (fun sb => [cI6 g6 (.slice none 0 0), cB7 g7 sb])) (LI0 := [Blk g3 (.cells #[.func (.func B3) #[] #[]] C8 (0, 0))]) l hl hv hso (fun sb o A2 c2 h0 ho => ?_); refine tS m0 hsz hfr rfl (by intro t ht; simp at ht; subst ht; exact Nat.lt_of_lt_of_le (show 10 < 23 by decide) (Nat.le_refl _)) fun w => ?_; refine cI rfl (b7 rfl (b6 ?_)); refine xO (.refl _) ?_; refine i5 (c6 (cI rfl ?_)); refine a7 (v := .bool sb) rfl O4 rfl (d9 mB rfl) ?_; refine qP rfl rfl (b3 rfl ?_); refine l8 rfl rfl ?_ ?_
  ·intro hg1; have hg1' := hg1; try simp at hg1'
   have hsb : sb = true := by simpa using hg1
   subst hsb; refine j0 hg1 (a7 (v := .func (.func B3) #[] #[]) rfl V1 rfl (d4 mB rfl) ?_); refine j0 hg1 (b3 rfl (j0 hg1 ?_)); refine a7 (v := .slice none 0 0) rfl y7 rfl (d9 mB rfl) (j0 hg1 (G3 (vs := [.slice A2 o.length c2, .slice none 0 0]) (cap := []) iS rfl rfl rfl (jN o ho) (hpR := _) (.refl _) mC fun z hz => ?_)); refine j0 hg1 (y5 rfl rfl rfl ?_); refine p_f rfl rfl (bf1 hg1) rfl (b5 ?_)
   first | refine i6 rfl (fun hb1 => ?_) (fun hb1 => ?_) | refine c8 rfl (fun hb1 => ?_) (fun hb1 => ?_)
   ·exact absurd hb1 hz
   have hb1' := hb1; try simp at hb1'
   refine c4 (u4 ?_); exact rp_n () (.refl _) rfl rfl tK (.refl _) tK
  intro hg1; have hg1' := hg1; try simp at hg1'
  have hsb : sb = false := by simpa using hg1
  subst hsb; obtain ⟨rfl, rfl, rfl⟩ := h0 rfl; refine p6 hg1 (p6 hg1 (p6 hg1 (p6 hg1 (p6 hg1 ?_)))); refine p_t rfl rfl (bt2 hg1) rfl ?_; refine b5 (c_t rfl rfl (cI rfl (b3 rfl ?_))); refine D4 (hp' := [_, _]) rfl rfl (.swap _ _ _) xG (by rfl) (by rfl) (D4 (hp' := [_, _]) rfl rfl (List.perm_append_comm (l₁ := [_, _]) (l₂ := [_])) qG (by rfl) (by rfl) ?_); refine b6 (u4 ?_); exact rp_n () (List.reverse_perm [_, _, _]).symm rfl rfl tK (.refl _) tK
 ·intro x d hx hp; refine u4 (c3 (c6 ?_)); refine G4 3 mixed (by decide) (by decide) rfl rfl ?_
  apply k9 _ rfl rfl rfl
  ·intro w1
   first | refine a7 rfl y7 rfl (d4 mB rfl) ?_ | refine a7 rfl y7 rfl (d9 mB rfl) ?_ | refine a7 rfl y7 rfl (b9 mB (b4 (by omega) rfl)) ?_ | refine a7 rfl y7 rfl (b8 mB (rows_get (by omega) rfl)) ?_
   refine b6 ?_; exact h9 rfl
  apply k9 _ rfl rfl rfl
  ·intro w1
   first | refine a7 rfl O4 rfl (d4 mB rfl) ?_ | refine a7 rfl O4 rfl (d9 mB rfl) ?_ | refine a7 rfl O4 rfl (b9 mB (b4 (by omega) rfl)) ?_ | refine a7 rfl O4 rfl (b8 mB (rows_get (by omega) rfl)) ?_
   refine b6 ?_; exact h9 rfl
  refine s7 (fun w1 => b7 rfl (q_z rfl)) ?_; refine A9 ⟨rfl, ?_⟩; refine b7 rfl (b5 (i8 ?_)); refine ax1 [d] () rfl (.refl _) (fun a w _ hat _ => by rw [results_tmp2 rfl, hat 4 _ rfl, hat 5 _ rfl]; rfl) rfl tK nK tK
 intro x d j hx hp
 cases hp
theorem lU {A : Option Addr} {c : Nat} (l : List Str) (hl : l.length ≤ 1000000) (hs : ∀ s ∈ l, Asc7 s) (hso : sortedN l) : Meets prog aV [.slice A l.length c] { LI := [Row A (rows l)], val := fun _ : Unit => .tuple #[.slice none 0 0, int (listErr l)] } := by
 refine d5 pL rfl r4 fun w0 => c5 (Q0 rfl rfl fun g1 => ?_); refine b7 rfl (b7 rfl (b5 (cH (R3 (c7 ?_))))); refine a7 (v := .slice A l.length c) rfl c9 rfl (d4 mB rfl) (h8 aB rfl rfl (Z9 l hl hs) p9 mC fun _ _ => ?_); refine b7 rfl (l7 (b3 rfl (w7 rfl rfl rfl (b5 ?_))))
 first | refine i6 rfl (fun hb1 => ?_) (fun hb1 => ?_) | refine c8 rfl (fun hb1 => ?_) (fun hb1 => ?_)
 ·have hb1' := hb1; try simp at hb1'
  refine c5 (b3 rfl (b7 rfl (b7 rfl (b5 (C6 ?_))))); exact ret2 () rfl rfl rfl rfl rfl tK nK tK
 have hb1' := hb1; try simp at hb1'
 have h0 := Classical.not_not.1 hb1; obtain ⟨h6, hne⟩ := kB h0; refine c4 (c3 (c5 (hZ rfl rfl rfl (b7 rfl (l7 (b3 rfl ?_)))))); refine h8 dU rfl rfl (cF l h6 (fun s h => ⟨hs s h, hne s h⟩) hso) p9 mC fun _ _ => ?_; refine b3 rfl (l4 rfl rfl rfl (l4 rfl rfl rfl (b7 rfl (b7 rfl (l7 (b3 rfl (b7 rfl (b7 rfl ?_)))))))); refine b5 (i8 ?_); exact ret2 () rfl rfl rfl (by rw [h0]; rfl) rfl tK nK tK
def OneK (κ : Int) (s : Str) : Prop := (κ = 1 ∨ κ = 2) ∧ ∀ b ∈ s, kindN b = κ
def NmOK (s : Str) : Prop := 1 ≤ s.length ∧ s.length ≤ 4 ∧ ∃ κ, OneK κ s
theorem dj4 {b : UInt8} (h : ¬ kindN b = 0) : b.toNat < 128 := by
  unfold kindN at h
  split at h
  · omega
  split at h
  · omega
  exact absurd rfl h
theorem NmOK.asc {s : Str} (h : NmOK s) : Asc7 s := by
  obtain ⟨_, _, κ, hk, hb⟩ := h; exact fun b hm => dj4 (by rw [hb b hm]; omega)
theorem NmOK.err {s : Str} (h : NmOK s) : nameErr s = 0 := by
  obtain ⟨h1, h2, κ, hk, hb⟩ := h; rw [nameErr, if_neg (by omega), if_neg (by omega), if_pos]; refine tQ fun j hj => ?_; rw [hb _ (r7 hj), hb _ (r7 h1)]; exact ⟨rfl, by omega⟩
def setsA : List Str := [[97, 101, 115], [115, 104, 101, 116, 97], [115, 109, 105, 116, 121, 104, 97], [99, 104, 106, 97], [97, 110, 110, 101]]
def setsB : List Str := [[65, 69, 83], [88, 69, 84, 65], [83, 77, 73, 84, 89, 65], [67, 74, 65, 88], [65, 78, 78, 69]]
def SetK (κ : Int) (t : Str) : Prop := (1 ≤ t.length ∧ t.length ≤ 7) ∧ OneK κ t
theorem cq7 : ∀ t ∈ setsA, SetK 1 t := by
  have h : ∀ t ∈ setsA, (1 ≤ t.length ∧ t.length ≤ 7) ∧ ∀ b ∈ t, kindN b = 1 := by decide +kernel
  exact fun t ht => ⟨(h t ht).1, .inl rfl, (h t ht).2⟩
theorem cq6 : ∀ t ∈ setsB, SetK 2 t := by
  have h : ∀ t ∈ setsB, (1 ≤ t.length ∧ t.length ≤ 7) ∧ ∀ b ∈ t, kindN b = 2 := by decide +kernel
  exact fun t ht => ⟨(h t ht).1, .inr rfl, (h t ht).2⟩
theorem OneK.snoc {κ : Int} {s t : Str} (h : OneK κ s) (h2 : OneK κ t) : OneK κ (s ++ t) := ⟨h.1, fun b hb => (List.mem_append.1 hb).elim (h.2 b) (h2.2 b)⟩
theorem OneK.part {κ : Int} {s t : Str} (h : OneK κ t) (hs : ∀ b ∈ s, b ∈ t) : OneK κ s := ⟨h.1, fun b hb => h.2 b (hs b hb)⟩
theorem mid_mem {t : Str} {a b : Nat} : ∀ x ∈ (t.drop a).take b, x ∈ t := fun x hx => List.drop_subset _ _ (List.take_subset _ _ hx)
theorem NmOK.less {s : Str} (h : NmOK s) (h2 : 1 < s.length) (k : Nat) (hk : k < s.length) : NmOK (s.take k ++ s.drop (k + 1)) := by
  obtain ⟨h1, h4, κ, hκ⟩ := h; refine ⟨by rw [List.length_append, List.length_take, List.length_drop]; omega, by rw [List.length_append, List.length_take, List.length_drop]; omega, κ, hκ.part fun b hb => ?_⟩
  rcases List.mem_append.1 hb with hb | hb
  · exact List.take_subset _ _ hb
  exact List.drop_subset _ _ hb
def FromInv2 (lo hi z : Int) : Prop := lo ≤ z ∧ (lo < hi → z ≤ hi) ∧ (hi ≤ lo → z = lo)
theorem pR {g : Nat} {A : Option Addr} {c : Nat} {nums : List Int} {s : Int × Int} (lo hi : Int) (hn : nums.length ≤ 9223372036854775807) (hs : DOK nums s) (hI : -1000 ≤ lo ∧ lo ≤ 1000 ∧ -1000 ≤ hi ∧ hi ≤ 1000) :
    Meets prog S3 [.pointer (n9 g), int lo, int hi] (diceCon g A c nums s (FromInv2 lo hi) (fun z => int z) (fun _ => [])) := by
 refine d5 iZ rfl r4 fun w0 => ?_; refine c5 (b7 rfl (l7 (b3 rfl (b3 rfl (b3 rfl (b3 rfl ?_)))))); refine J4 _ rfl rfl rfl rfl q8 (h8 B0 rfl rfl (A8 (hi - lo) hn hs (by omega)) (.refl _) ⟨m0, tK⟩ fun x hx => ?_); obtain ⟨s1, z⟩ := x; obtain ⟨hs1, hz⟩ := hx; simp only [ToInv] at hz
 have hz1 : 0 ≤ z ∧ z ≤ 2000 := by
   refine ⟨hz.1, ?_⟩
   by_cases h1 : 1 ≤ hi - lo
   · have := hz.2.1 h1; omega
   have := hz.2.2 (by omega); omega
 refine w5 (lo + z) rfl rfl rfl rfl q8 ?_; refine b7 rfl (b5 (i8 ?_)); exact ret1 (s1, lo + z) rfl rfl rfl ⟨hs1, by simp only; omega, fun h => by have := hz.2.1 (by omega); simp only; omega, fun h => by have := hz.2.2 (by omega); simp only; omega⟩ (.refl _) tK
theorem R2 {g : Nat} {A : Option Addr} {c : Nat} {nums : List Int} {s : Int × Int} (hn : nums.length ≤ 9223372036854775807) (hs : DOK nums s) : Meets prog aX [.pointer (n9 g), int 4] (diceCon g A c nums s (fun x : Str => NmOK x) (fun z => str z) (fun _ => [])) := by
 refine d5 pN rfl r4 fun w0 => ?_; refine c5 (b7 rfl (l7 (b3 rfl ?_))); refine j8 _ rfl rfl (fun _ => jH ..) fun gS => B5 (rows setsA) (List.prefix_refl _) (h8 W0 rfl rfl (V6 setsA hn hs (by decide) (by decide)) (.refl _) mC fun x hx => ?_); obtain ⟨s1, t1⟩ := x; obtain ⟨hs1, ht1⟩ := hx
 try simp only [ToInv, FromInv2] at ht1
 have ht1 := cq7 t1 ht1; refine b7 rfl (b5 ?_); refine X4 (⟨fun ⟨sd, t, κ⟩ => DOK nums sd ∧ SetK κ t, fun ⟨sd, t, κ⟩ => [(0, .pointer (n9 g)), (1, int 4), (5, str t)], fun ⟨sd, t, κ⟩ => [dice g A c nums sd], fun _ => [Row A (rows nums)]⟩ : Sta ((Int × Int) × Str × Int)) ?_ ?_
 ·skip
  refine c5 (b3 rfl ?_); refine h8 M2 rfl rfl (L6 3 hn hs1 (by omega)) (.refl _) mC fun x hx => ?_; obtain ⟨s2, z2⟩ := x; obtain ⟨hs2, hz2⟩ := hx
  try simp only [ToInv, FromInv2] at hz2
  refine b5 ?_
  first | refine i6 rfl (fun hb1 => ?_) (fun hb1 => ?_) | refine c8 rfl (fun hb1 => ?_) (fun hb1 => ?_)
  ·have hb1' := hb1; try simp at hb1'
   refine c7 (b3 rfl ?_); refine j8 _ rfl rfl (fun _ => jH ..) fun gS2 => B5 (rows setsB) (List.prefix_refl _) (h8 W0 rfl rfl (V6 setsB hn hs2 (by decide) (by decide)) (.refl _) mC fun x hx => ?_); obtain ⟨s3, t3⟩ := x; obtain ⟨hs3, ht3⟩ := hx
   try simp only [ToInv, FromInv2] at ht3
   have ht3 := cq6 t3 ht3; refine b7 rfl (b6 ?_); exact H4 _ (s3, t3, 2) ⟨hs3, ht3⟩ mC (.refl _) mC
  have hb1' := hb1; try simp at hb1'
  refine c4 ?_; exact H4 _ (s2, t1, 1) ⟨hs2, ht1⟩ mC (.refl _) mC
 intro x hx; obtain ⟨sd, t, κ⟩ := x; obtain ⟨hsd, ⟨ht0, ht7⟩, hκ⟩ := hx; refine c5 (b7 rfl (b5 (c6 (c5 (b3 rfl (b3 rfl ?_)))))); refine r_min 4 rfl rfl rfl (by rfl) (h8 gZ rfl rfl (pR 1 4 hn hsd (by omega)) (.refl _) mC fun x hx => ?_); obtain ⟨s4, z4⟩ := x; obtain ⟨hs4, hz4⟩ := hx
 try simp only [ToInv, FromInv2] at hz4
 obtain ⟨n4, rfl⟩ := Int.eq_ofNat_of_zero_le (show 0 ≤ z4 by omega); have hn4 : 1 ≤ n4 ∧ n4 ≤ 4 := by have := hz4.2.1 (by omega); omega
 refine b7 rfl (b5 (i5 ?_)); refine v6 (β := Nat × Str × (Int × Int)) ⟨fun ⟨n, a, sd⟩ => n + a.length = n4 ∧ OneK κ a ∧ DOK nums sd, fun ⟨n, a, sd⟩ => [(0, .pointer (n9 g)), (5, str t), (6, str a), (7, int n)], fun ⟨n, a, sd⟩ => [dice g A c nums sd], fun _ => [Row A (rows nums)]⟩ (fun x => x.1) (n4, [], s4) ⟨by simp, ⟨hκ.1, by intro b hb; cases hb⟩, hs4⟩ mC (.refl _) mC fun x hx => ?_; obtain ⟨n, a, sd2⟩ := x; obtain ⟨hna, ha, hsd2⟩ := hx
 try simp only at hna
 refine c6 (c5 (b3 rfl (G6 rfl rfl rfl (b5 ?_))))
 first | refine i6 rfl (fun hb2 => ?_) (fun hb2 => ?_) | refine c8 rfl (fun hb2 => ?_) (fun hb2 => ?_)
 ·have hb2' := hb2; try simp at hb2'
  obtain ⟨m, rfl⟩ : ∃ m, n = m + 1 := ⟨n - 1, by omega⟩; refine c4 (c3 (c6 (i5 (c5 (b3 rfl (b3 rfl ?_)))))); refine B9 rfl n8 rfl (J4 ((t.length - 1 : Nat) : Int) rfl rfl rfl (by omega) q8 (h8 B0 rfl rfl (A8 ((t.length - 1 : Nat) : Int) hn hsd2 (by omega)) (.refl _) mC fun x hx => ?_)); obtain ⟨s5, z5⟩ := x; obtain ⟨hs5, hz5⟩ := hx
  try simp only [ToInv, FromInv2] at hz5
  obtain ⟨k5, rfl⟩ := Int.eq_ofNat_of_zero_le hz5.1
  have hk5 : k5 < t.length := by
    by_cases h : 1 ≤ ((t.length - 1 : Nat) : Int)
    · have := hz5.2.1 h; omega
    have := hz5.2.2 (by omega); omega
  refine b7 rfl (b5 (c7 (b3 rfl (b3 rfl (b3 rfl (b3 rfl ?_)))))); refine w5 ((k5 + 1 : Nat) : Int) rfl rfl rfl (by simp) q8 ?_; refine tO k5 (k5 + 1) rfl n8 rfl rfl rfl rfl rfl (Nat.le_succ _) (by omega) ?_; refine qN rfl rfl rfl (by rw [List.length_take, List.length_drop]; omega) ?_; refine b7 rfl (b6 (u4 (c3 (c7 (b3 rfl ?_))))); refine J4 (m : Int) rfl rfl rfl (by omega) q8 ?_; refine b7 rfl (b6 ?_); exact again _ (m, a ++ (t.drop k5).take (k5 + 1 - k5), s5) ⟨by show m + (a ++ _).length = n4; rw [List.length_append, List.length_take, List.length_drop]; omega, ha.snoc (hκ.part mid_mem), hs5⟩ (by show m < m + 1; omega) mC (.refl _) mC
 have hb2' := hb2; try simp at hb2'
 have hn0 : n = 0 := by omega
 subst hn0; refine r9 (B2 (r8 (c3 (c5 (b3 rfl (b7 rfl (b5 (i8 ?_)))))))); exact ret1 (sd2, a) rfl rfl rfl ⟨hsd2, by simp only; omega, by simp only; omega, κ, ha⟩ (.refl _) tK
theorem kE {g : Nat} {A : Option Addr} {c : Nat} {nums : List Int} {s : Int × Int} (hn : nums.length ≤ 9223372036854775807) (hs : DOK nums s) : Meets prog Y6 [.pointer (n9 g), int 4, int 4] { hpI := [dice g A c nums s], LI := [Row A (rows nums)], inv := fun x : (Int × Int) × List Str × OutC × Hp => DOK nums x.1 ∧ x.2.1.length ≤ 4 ∧ (∀ w ∈ x.2.1, NmOK w) ∧ Grow y6 1 x.2.2.1.1 x.2.1.length x.2.2.1.2 (rows x.2.1) x.2.2.2, val := fun x => .slice x.2.2.1.1 x.2.1.length x.2.2.1.2, hpO := fun x => x.2.2.2 ++ [dice g A c nums x.1] } := by
 refine d5 mU rfl r4 fun w0 => ?_; refine c5 (b7 rfl (l7 (b7 rfl (b5 (cH ?_))))); refine c7 (b3 rfl (b3 rfl ?_)); refine h8 B0 rfl rfl (A8 4 hn hs (by omega)) (.refl _) mC fun x hx => ?_; obtain ⟨s1, z1⟩ := x; obtain ⟨hs1, hz1⟩ := hx
 try simp only [ToInv, FromInv2] at hz1
 obtain ⟨n1, rfl⟩ := Int.eq_ofNat_of_zero_le hz1.1; have hn1 : n1 ≤ 4 := by have := hz1.2.1 (by omega); omega
 refine b7 rfl (b5 (i5 ?_)); refine v6 (β := Nat × List Str × OutC × Hp × (Int × Int)) ⟨fun ⟨n, l, o, og, sd⟩ => (n + l.length ≤ 4 ∧ DOK nums sd) ∧ (∀ w ∈ l, NmOK w) ∧ Grow y6 1 o.1 l.length o.2 (rows l) og, fun ⟨n, l, o, og, sd⟩ => [(0, .pointer (n9 g)), (2, int 4), (7, .slice o.1 l.length o.2), (8, int n)], fun ⟨n, l, o, og, sd⟩ => og ++ [dice g A c nums sd], fun _ => [Row A (rows nums)]⟩ (fun x => x.1) (n1, [], (none, 0), [], s1) ⟨⟨by simpa using hn1, hs1⟩, (fun w hw => by cases hw), Grow.nil _ _⟩ mC (.refl _) mC fun x hx => ?_; obtain ⟨n, l, ⟨oA, oc⟩, og, sd⟩ := x; obtain ⟨⟨hnl, hsd⟩, hw, hG⟩ := hx
 try simp only at hnl hsd hw hG
 refine c6 (c5 (b3 rfl (G6 rfl rfl rfl (b5 ?_))))
 first | refine i6 rfl (fun hb1 => ?_) (fun hb1 => ?_) | refine c8 rfl (fun hb1 => ?_) (fun hb1 => ?_)
 ·have hb1' := hb1; try simp at hb1'
  obtain ⟨m, rfl⟩ : ∃ m, n = m + 1 := ⟨n - 1, by omega⟩; refine c4 (c3 (c6 (i5 (c5 (b3 rfl (b3 rfl ?_)))))); refine h8 R9 rfl rfl (R2 hn hsd) (List.perm_append_comm) mC fun x hx => ?_; obtain ⟨s2, t2⟩ := x; obtain ⟨hs2, ht2⟩ := hx
  try simp only [ToInv, FromInv2] at ht2
  refine gN (List.perm_append_comm (l₁ := [_])) ?_; refine b7 rfl (b5 ?_); refine X4 (⟨fun ⟨sd, t⟩ => DOK nums sd ∧ NmOK t, fun ⟨sd, t⟩ => [(0, .pointer (n9 g)), (2, int 4), (7, .slice oA l.length oc), (8, int (m + 1 : Nat)), (9, str t)], fun ⟨sd, t⟩ => og ++ [dice g A c nums sd], fun _ => [Row A (rows nums)]⟩ : Sta ((Int × Int) × Str)) ?_ ?_
  ·skip
   refine c5 (b3 rfl ?_); refine i7 rfl j7 rfl ?_; refine G6 rfl rfl rfl (b3 rfl ?_); refine l8 rfl rfl ?_ ?_
   ·intro hg1; have hg1' := hg1; try simp at hg1'
    have hl0 : 0 < l.length := by have := of_decide_eq_true (bt1 hg1); omega
    refine j0 hg1 (b3 rfl (j0 hg1 ?_)); refine h8 M2 rfl rfl (L6 3 hn hs2 (by omega)) (List.perm_append_comm) mC fun x hx => ?_; obtain ⟨s3, z3⟩ := x; obtain ⟨hs3, hz3⟩ := hx
    try simp only [ToInv, FromInv2] at hz3
    refine gN (List.perm_append_comm (l₁ := [_])) (p_t rfl rfl (bt1 hg1) rfl (b5 ?_))
    first | refine i6 rfl (fun hb2 => ?_) (fun hb2 => ?_) | refine c8 rfl (fun hb2 => ?_) (fun hb2 => ?_)
    ·have hb2' := hb2; try simp at hb2'
     refine c5 (b3 rfl (b3 rfl (b3 rfl ?_))); refine i7 rfl j7 rfl (J4 ((l.length - 1 : Nat) : Int) rfl rfl rfl (by omega) q8 (h8 B0 rfl rfl (A8 ((l.length - 1 : Nat) : Int) hn hs3 (by omega)) (List.perm_append_comm) mC fun x hx => ?_)); obtain ⟨s4, z4⟩ := x; obtain ⟨hs4, hz4⟩ := hx
     try simp only [ToInv, FromInv2] at hz4
     obtain ⟨k4, rfl⟩ := Int.eq_ofNat_of_zero_le hz4.1
     have hk4 : k4 < l.length := by
       by_cases h : 1 ≤ ((l.length - 1 : Nat) : Int)
       · have := hz4.2.1 h; omega
       have := hz4.2.2 (by omega); omega
     have hnm7 : NmOK (l.getD k4 default) := hw _ (r7 hk4); have hz7 := hnm7.1; refine gN (List.perm_append_comm (l₁ := [_])) ?_; obtain ⟨gd, cur, e1, e2, hnc, hcm, hcs, hct, _⟩ := hG.open_ hl0; subst e1; subst e2; refine D3 k4 k4 rfl j7 q7 rfl rfl rfl hk4 (by omega) (a7 (v := str (l.getD k4 default)) rfl d6 rfl (d9 (List.mem_append_left _ (List.mem_singleton.2 rfl)) (qS rfl hct hk4 rfl rfl)) ?_); refine b7 rfl (l7 (b3 rfl ?_)); refine nM 0 rfl n8 rfl rfl rfl (List.getElem?_eq_getElem hz7) ?_; refine cV rfl rfl rfl (b3 rfl ?_); refine l8 rfl rfl ?_ ?_
     ·intro hg2; have hg2' := hg2; try simp at hg2'
      refine j0 hg2 (b3 rfl (j0 hg2 ?_)); refine B9 rfl n8 rfl ?_; refine j0 hg2 (G6 rfl rfl rfl ?_); refine p_t rfl rfl (bt1 hg2) rfl (b3 rfl ?_); refine l8 rfl rfl ?_ ?_
      ·intro hg3; have hg3' := hg3; try simp at hg3'
       refine j0 hg3 (b3 rfl (j0 hg3 ?_)); refine h8 M2 rfl rfl (L6 2 hn hs4 (by omega)) (List.perm_append_comm) mC fun x hx => ?_; obtain ⟨s5, z5⟩ := x; obtain ⟨hs5, hz5⟩ := hx
       try simp only [ToInv, FromInv2] at hz5
       refine gN (List.perm_append_comm (l₁ := [_])) (p_t rfl rfl (bt1 hg3) rfl (b5 ?_))
       first | refine i6 rfl (fun hb3 => ?_) (fun hb3 => ?_) | refine c8 rfl (fun hb3 => ?_) (fun hb3 => ?_)
       ·have hb3' := hb3; try simp at hb3'
        refine c5 (b3 rfl (b3 rfl ?_)); refine B9 rfl n8 rfl ?_; have h4n := hnm7.2.1; have h71 : 1 < (l.getD k4 default).length := by first | assumption | (have := of_decide_eq_true (bt1 (by assumption)); omega)
        refine J4 (((l.getD k4 default).length - 1 : Nat) : Int) rfl rfl rfl (by omega) q8 ?_; refine h8 B0 rfl rfl (A8 (((l.getD k4 default).length - 1 : Nat) : Int) hn hs5 (by have := hnm7.2.1; omega)) (List.perm_append_comm) mC fun x hx => ?_; obtain ⟨s6, z6⟩ := x; obtain ⟨hs6, hz6⟩ := hx
        try simp only [ToInv, FromInv2] at hz6
        obtain ⟨k6, rfl⟩ := Int.eq_ofNat_of_zero_le hz6.1
        have hk6 : k6 < (l.getD k4 default).length := by
          by_cases h : 1 ≤ (((l.getD k4 default).length - 1 : Nat) : Int)
          · have := hz6.2.1 h; omega
          have := hz6.2.2 (by omega); omega
        refine gN (List.perm_append_comm (l₁ := [_])) ?_; refine b7 rfl (b5 ?_); refine G4 7 mixed (by decide) (by decide) rfl rfl (p8 rfl (p8 rfl (s7 (fun w1 => nL k6 rfl n8 rfl rfl rfl (by omega) (q_z rfl)) (p8 rfl (p8 rfl ?_))))); refine s7 (fun w1 => w5 ((k6 + 1 : Nat) : Int) rfl rfl rfl (by simp) q8 (q_z rfl)) ?_; refine s7 (fun w1 => nJ (k6 + 1) rfl n8 rfl rfl rfl (by omega) (q_z rfl)) ?_; refine A9 ⟨rfl, ?_⟩; refine qN rfl rfl rfl (by rw [List.length_take, List.length_drop]; omega) ?_; refine b7 rfl (b6 ?_); exact H4 _ (s6, _) ⟨hs6, hnm7.less h71 k6 hk6⟩ mC (.refl _) mC
       have hb3' := hb3; try simp at hb3'
       refine c4 ?_; exact H4 _ (s5, _) ⟨hs5, hnm7⟩ mC (.refl _) mC
      intro hg3; have hg3' := hg3; try simp at hg3'
      refine p6 hg3 (p6 hg3 ?_); refine p_f rfl rfl (bf2 hg3) rfl ?_; refine b5 (c_f rfl rfl (c4 ?_)); exact H4 _ (s4, _) ⟨hs4, hnm7⟩ mC (.refl _) mC
     intro hg2; have hg2' := hg2; try simp at hg2'
     refine p6 hg2 (p6 hg2 (p6 hg2 ?_)); refine p_f rfl rfl (bf2 hg2) rfl ?_; refine b3 rfl (rC rfl rfl rfl rfl rfl rfl (rC rfl rfl rfl rfl rfl rfl (p_f rfl rfl rfl rfl (b5 (c_f rfl rfl (c4 ?_)))))); exact H4 _ (s4, _) ⟨hs4, hnm7⟩ mC (.refl _) mC
    have hb2' := hb2; try simp at hb2'
    refine c4 ?_; exact H4 _ (s3, t2) ⟨hs3, ht2⟩ mC (.refl _) mC
   intro hg1; have hg1' := hg1; try simp at hg1'
   refine p6 hg1 (p6 hg1 ?_); refine p_f rfl rfl (bf2 hg1) rfl ?_; refine b5 (c_f rfl rfl (c4 ?_)); exact H4 _ (s2, t2) ⟨hs2, ht2⟩ mC (.refl _) mC
  intro x hx; obtain ⟨sd9, t9⟩ := x; obtain ⟨hsd9, ht9⟩ := hx; refine c7 (b3 rfl (b3 rfl ?_)); refine j8 _ rfl rfl (fun _ => E9 ..) fun gS => ?_; refine E6 (l.length + 1) (rows (l ++ [t9])) H6 rfl rfl rfl hG (hp' := [_, _]) (List.perm_append_comm (l₁ := [_]) (l₂ := og ++ [_]) |>.trans (by rw [List.append_assoc]; exact List.Perm.refl _)) (Src.own (cs := #[str t9]) (m := 1) (List.mem_append_right _ m1) rfl rfl) rfl (y4 l [t9]).symm (by unfold maxLen; omega) (by omega) fun A' c' og' hG' => ?_; refine b7 rfl (b6 (u4 (c3 (c7 (b3 rfl ?_))))); refine J4 (m : Int) rfl rfl rfl (by omega) q8 ?_; refine b7 rfl (b6 ?_); exact again _ (m, l ++ [t9], (A', c'), og', sd9) ⟨⟨by show m + (l ++ [t9]).length ≤ 4; rw [List.length_append, List.length_singleton]; omega, hsd9⟩, fun w h => (List.mem_append.1 h).elim (hw w) (fun h => by rw [List.mem_singleton.1 h]; exact ht9), by show Grow _ _ _ (l ++ [t9]).length _ _ _; rw [List.length_append]; exact hG'⟩ (by show m < m + 1; omega) ⟨rfl, rfl, by show some (Value.slice A' (l.length + 1) c') = some (Value.slice A' (l ++ [t9]).length c'); rw [List.length_append]; rfl, rfl, tK⟩ ((List.Sublist.refl og').append (.cons_cons _ (.cons _ (.refl _)))) mC
 have hb1' := hb1; try simp at hb1'
 have hn0 : n = 0 := by omega
 refine r9 (B2 (r8 (c3 (c5 (b3 rfl (b7 rfl (b5 (i8 ?_)))))))); exact ret1 (sd, l, (oA, oc), og) rfl rfl rfl ⟨hsd, by simp only; omega, hw, hG⟩ (.refl _) tK
abbrev sAnna : Str := [97, 110, 110, 97]
abbrev sBea : Str := [98, 101, 97]
abbrev sBen : Str := [98, 101, 110]
abbrev sCid : Str := [99, 105, 100]
abbrev sCyd : Str := [99, 121, 100]
abbrev sAbe : Str := [97, 98, 101]
abbrev sDan : Str := [100, 97, 110]
abbrev folkL : List Str := [sAnna, sBen, sCyd]
abbrev slipL : List Mk := [(1, 1, sBea), (2, 2, sCid)]
abbrev newL : List Str := [sAnna, sBea, sBen, sCid]
def diffN (old page : List Str) : Nat → Nat → Nat → Lst
  | 0, _, _ => (0, [])
  | d + 1, i, j => leastOf ((if i = old.length ∧ j = page.length then [(0, [])] else []) ++
    (if j < page.length then [behindP (diffN old page d i (j + 1)) (1, (i : Int), page.getD j default)] else []) ++
    (if i < old.length then [behindP (diffN old page d (i + 1) j) (3, (i : Int), [])] else []) ++
    (if i < old.length ∧ j < page.length then behindP (diffN old page d (i + 1) (j + 1)) (2, (i : Int), page.getD j default) :: (if old.getD i default = page.getD j default then [diffN old page d (i + 1) (j + 1)] else []) else []))
theorem wL (old page : List Str) : ∀ (d i j : Nat), (old.length - i) + (page.length - j) < d → diffN old page d i j = diffP old page i j := by
  intro d
  induction d with
  | zero => intro i j h; omega
  | succ d ih =>
    intro i j h; unfold diffN diffP
    congr 1
    congr 1
    · congr 1
      · congr 1
        by_cases hj : j < page.length
        · rw [if_pos hj, dif_pos hj, ih i (j + 1) (by omega)]
        rw [if_neg hj, dif_neg hj]
      by_cases hi : i < old.length
      · rw [if_pos hi, dif_pos hi, ih (i + 1) j (by omega)]
      rw [if_neg hi, dif_neg hi]
    by_cases hi : i < old.length ∧ j < page.length
    · rw [if_pos hi, dif_pos hi, ih (i + 1) (j + 1) (by omega)]
    rw [if_neg hi, dif_neg hi]
def agesP (x : OutC × Option Addr × Option Addr) : List (Sl Str) := [⟨x.2.1, 2, [sAnna, sBen]⟩, ⟨x.2.2, 2, [sAnna, sCyd]⟩]
abbrev orderM : List Mk := [(1, 0, sAbe), (3, 1, []), (3, 2, [])]
def okNext (b m : Mk) : Prop := b.2.1 < m.2.1 ∨ (b.2.1 = m.2.1 ∧ b.1 = 1)
def textOK (m : Mk) : Prop := (m.1 = 3 ∧ m.2.2 = []) ∨ (¬ m.1 = 3 ∧ m.2.2 ∈ lineWords)
structure MarksOK (n : Nat) (l : List Mk) : Prop where
  ch : ∀ k, k + 1 < l.length → okNext (l.getD k default) (l.getD (k + 1) default)
  v : MV n l
  t : ∀ m ∈ l, textOK m
theorem MarksOK.nil (n : Nat) : MarksOK n [] := ⟨fun k h => by simp at h, fun m h => by simp at h, fun m h => by simp at h⟩
def LastI (i : Nat) (l : List Mk) : Prop := ∀ b ∈ l, b.2.1 < (i : Int) ∨ (b.2.1 = (i : Int) ∧ b.1 = 1)
def LastB (i : Nat) (l : List Mk) : Prop := ∀ b ∈ l, b.2.1 < (i : Int)
theorem LastB.i {i : Nat} {l : List Mk} (h : LastB i l) : LastI i l := fun b hb => .inl (h b hb)
theorem LastI.b {i : Nat} {l : List Mk} (h : LastI i l) : LastB (i + 1) l := fun b hb => by rcases h b hb with h | h <;> omega
theorem LastI.snoc {i : Nat} {l : List Mk} (h : LastI i l) (t : Str) : LastI i (l ++ [(1, (i : Int), t)]) := fun b hb => by
  rcases List.mem_append.1 hb with hb | hb
  · exact h b hb
  simp at hb; subst hb; exact .inr ⟨rfl, rfl⟩
theorem LastI.any {i : Nat} {l : List Mk} (h : LastI i l) (k : Int) (t : Str) : LastB (i + 1) (l ++ [(k, (i : Int), t)]) := fun b hb => by
  rcases List.mem_append.1 hb with hb | hb
  · exact h.b b hb
  simp at hb; subst hb; simp only; omega
theorem MarksOK.snoc {n i : Nat} {l : List Mk} {k : Int} {t : Str} (h : MarksOK n l) (hl : LastI i l) (hk : 1 ≤ k ∧ k ≤ 3) (hi : i ≤ n) (hi2 : k = 1 ∨ i < n) (ht : textOK (k, (i : Int), t)) : MarksOK n (l ++ [(k, (i : Int), t)]) := by
  refine ⟨fun j hj => ?_, fun m hm => ?_, fun m hm => ?_⟩
  · rw [List.length_append, List.length_cons, List.length_nil] at hj
    by_cases hj2 : j + 1 < l.length
    · have := h.ch j hj2
      rw [z8 (by omega), z8 hj2] at this; rw [z8 (by simp; omega), z8 (by simp; omega), List.getElem_append_left (by omega), List.getElem_append_left hj2]; exact this
    have hje : j + 1 = l.length := by omega
    rw [z8 (by simp; omega), z8 (by simp; omega), List.getElem_append_left (by omega), List.getElem_append_right (by omega)]; have := hl l[j] (List.getElem_mem _); simp only [hje, Nat.sub_self, List.getElem_cons_zero]; exact this
  · rcases List.mem_append.1 hm with hm | hm
    · exact h.v m hm
    simp at hm; subst hm; simp only; omega
  rcases List.mem_append.1 hm with hm | hm
  · exact h.t m hm
  simp at hm; subst hm; exact ht
abbrev GrowM (o : OutC) (l : List Mk) (og : Hp) : Prop := Grow dJ 3 o.1 l.length o.2 (rows l) og
theorem kD {A : Option Addr} {c : Nat} (nums : List Int) : Meets prog Y5 [.slice A nums.length c] { LI := [Row A (rows nums)], val := fun g : Nat => .pointer (n9 g), hpO := fun g => [dice g A c nums (0, 11400714819323198485)] } := by
 refine d5 mT rfl r4 fun w0 => ?_; refine c5 (b7 rfl (l7 (b3 rfl ?_))); refine C9 _ rfl rfl (fun _ => W4 ..) (Q0 rfl rfl fun gB => ?_); refine b7 rfl (b5 (i8 ?_)); exact ret1 gB rfl rfl rfl tK (.refl _) tK
abbrev GrowS2 (o : OutC) (ps : List (Sl Str)) (og : Hp) : Prop := Grow H5 1 o.1 ps.length o.2 (rows ps) og
def inner (ps : List (Sl Str)) : Fact := Facts (ps.map fun p => Row p.a (rows p.l))
def PagesOK (ps : List (Sl Str)) : Prop := ∀ p ∈ ps, PageOK p.l ∧ p.l.length ≤ 6 ∧ p.l.length ≤ p.c
theorem PagesOK.snoc {ps : List (Sl Str)} {p : Sl Str} (h : PagesOK ps) (hp : PageOK p.l ∧ p.l.length ≤ 6 ∧ p.l.length ≤ p.c) : PagesOK (ps ++ [p]) := fun q hq => by
  rcases List.mem_append.1 hq with hq | hq
  · exact h q hq
  simp at hq; subst hq; exact hp
theorem PageOK.set {l : List Str} {k : Nat} {t : Str} (h : PageOK l) (ht : t ∈ lineWords) : PageOK (l.set k t) := fun s hs => by
  rcases List.mem_or_eq_of_mem_set hs with h1 | h1
  · exact h s h1
  exact h1 ▸ ht
theorem PageOK.drop {l : List Str} {k : Nat} (h : PageOK l) : PageOK (l.drop k) := fun s hs => h s (List.mem_of_mem_drop hs)
theorem PageOK.snoc {l : List Str} {t : Str} (h : PageOK l) (ht : t ∈ lineWords) : PageOK (l ++ [t]) := fun s hs => by
  rcases List.mem_append.1 hs with h1 | h1
  · exact h s h1
  simp at h1; subst h1; exact ht
end Go.Proofs.YtpihanmcnmlodaaGreatDoor
end
