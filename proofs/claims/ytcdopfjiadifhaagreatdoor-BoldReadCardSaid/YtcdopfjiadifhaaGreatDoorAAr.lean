/- Texts of this claim, one behind another. -/

import Derived.Test.YtcdopfjiadifhaaGreatDoorAAq
set_option linter.unusedVariables false
set_option linter.unusedSimpArgs false
section
namespace Go.Proofs.YtcdopfjiadifhaaGreatDoor
open Go Go.W
set_option maxRecDepth 20000
attribute [local irreducible] HL HC HQ HB Row Rows2 Blk Facts
def numsS : List Str → Option (List Int)
  | [] => some []
  | t :: r => match numS t with
    | none => none
    | some z => match numsS r with
      | none => none
      | some l => some (z :: l)
theorem sH : ∀ {l : List Str} {t : Str}, t ∈ l → numS t = none → numsS l = none
  | [], t, h, _ => by simp at h
  | a :: l, t, h, hn => by
    rw [numsS]
    rcases List.mem_cons.1 h with rfl | h
    · rw [hn]
    cases numS a with
    | none => rfl
    | some z => rw [sH h hn]
theorem iq8 : ∀ {l : List Str} {r : List Int} {t : Str} {z : Int}, numsS l = some r → numS t = some z → numsS (l ++ [t]) = some (r ++ [z])
  | [], r, t, z, h, hz => by
    cases h
    show numsS [t] = _; rw [numsS, hz]
    rfl
  | a :: l, r, t, z, h, hz => by
    rw [numsS] at h
    cases ha : numS a with
    | none => rw [ha] at h; cases h
    | some y =>
      rw [ha] at h
      cases hl : numsS l with
      | none => rw [hl] at h; cases h
      | some q =>
        rw [hl] at h
        cases h
        rw [List.cons_append, numsS, ha, iq8 hl hz]
        rfl
theorem zO : ∀ {l : List Str} {r : List Int}, numsS l = some r → r.length = l.length
  | [], r, h => by cases h; rfl
  | a :: l, r, h => by
    rw [numsS] at h
    cases ha : numS a with
    | none => rw [ha] at h; cases h
    | some y =>
      rw [ha] at h
      cases hl : numsS l with
      | none => rw [hl] at h; cases h
      | some q => rw [hl] at h; cases h; rw [List.length_cons, List.length_cons, zO hl]
def tariffS : Str := [116, 97, 114, 105, 102, 102]
def offS0 : Str := [111, 102, 102]
def fromS : Str := [102, 114, 111, 109]
def streetsS : Str := [115, 116, 114, 101, 101, 116, 115]
def plainS : Str := [112, 108, 97, 105, 110]
def boldS : Str := [98, 111, 108, 100]
def cardS : Str := [99, 97, 114, 100]
def soldS : Str := [115, 111, 108, 100]
def nm0 : List Str := [tariffS, [], [], [], [], offS0, [], fromS, []]
def nmP : List Str := [[], plainS]
def nmB : List Str := [[], boldS, []]
def at_ (w : List Str) (k : Nat) : Str := w.getD k default
def sixS (w : List Str) : List Str := [at_ w 1, at_ w 2, at_ w 3, at_ w 4, at_ w 6, at_ w 8]
def chS (w : List Str) : Option Ch := if formB w nm0 = false then none else match numsS (sixS w) with
  | some [a, b, c, d, e, f] => some (a, b, c, d, e, f)
  | _ => none
def stS (w : List Str) : Option (List Int) := if w.length < 2 ∨ ¬ at_ w 0 = streetsS then none else numsS (w.drop 1)
def twoS (w : List Str) (k : Int) : Option Ad := match numsS [at_ w 0, at_ w 2] with
  | some [a, b] => some (a, k, b)
  | _ => none
def advS (w : List Str) : Option Ad :=
  if w.length = 2 then (if formB w nmP = false then none else match numS (at_ w 0) with
    | some z => some (z, 1, 1)
    | none => none)
  else if w.length = 3 ∧ at_ w 1 = cardS then twoS w 3
  else if formB w nmB = false then none else twoS w 2
abbrev SaT := Ch × List Int × List Ad
def takeW (i : Nat) (w : List Str) (s : SaT) : Option SaT :=
  if i = 0 then match chS w with
    | some c => some (c, s.2.1, s.2.2)
    | none => none
  else if i = 1 then match stS w with
    | some l => some (s.1, s.2.1 ++ l, s.2.2)
    | none => none
  else match advS w with
    | some x => some (s.1, s.2.1, s.2.2 ++ [x])
    | none => none
theorem wS (b : UInt8) : ∀ (s : Str), ∀ w ∈ splitB b s, w.length ≤ s.length
  | [], w, h => by simp [splitB] at h; subst h; exact Nat.le_refl _
  | x :: r, w, h => by
    rw [splitB] at h
    by_cases hx : x = b
    · rw [if_pos hx] at h
      rcases List.mem_cons.1 h with rfl | h
      · exact Nat.zero_le _
      have := wS b r w h; rw [List.length_cons]; omega
    rw [if_neg hx] at h; have hl := dS b r
    cases hs : splitB b r with
    | nil => rw [hs] at hl; cases hl
    | cons a t =>
      rw [hs] at h
      rcases List.mem_cons.1 h with rfl | h
      · have := wS b r a (by rw [hs]; exact List.mem_cons_self); simp only [List.length_cons]; omega
      have := wS b r w (by rw [hs]; exact List.mem_cons_of_mem _ h); rw [List.length_cons]; omega
abbrev SlS := OutC × Nat
abbrev tkC (c : Ch) (o1 o2 : SlS) : Array Value := #[int c.1, int c.2.1, int c.2.2.1, int c.2.2.2.1, int c.2.2.2.2.1, int c.2.2.2.2.2, .slice o1.1.1 o1.2 o1.1.2, .slice o2.1.1 o2.2 o2.1.2]
abbrev tkO (g : Nat) (c : Ch) (o1 o2 : SlS) : Nat × Obj := (g, Obj.cells (tkC c o1 o2) T.A3 (0, 0))
structure Tk where
  s : SaT
  o1 : OutC
  h1 : Hp
  o2 : OutC
  h2 : Hp
structure Tk.ok (t : Tk) : Prop where
  g1 : Grow T.int 1 t.o1.1 t.s.2.1.length t.o1.2 (rows t.s.2.1) t.h1
  g2 : Grow T.G9 3 t.o2.1 t.s.2.2.length t.o2.2 (rows t.s.2.2) t.h2
abbrev Tk.hp (g : Nat) (t : Tk) : Hp := tkO g t.s.1 (t.o1, t.s.2.1.length) (t.o2, t.s.2.2.length) :: (t.h1 ++ t.h2)
abbrev Dead := Ch × SlS × SlS
theorem iz4 {w : List Str} {t : Str} (h : t ∈ sixS w) (hn : numS t = none) : chS w = none := by
  unfold chS
  split
  · rfl
  rw [sH h hn]
theorem yY {w : List Str} {t : Str} {k : Int} (h : t ∈ [at_ w 0, at_ w 2]) (hn : numS t = none) : twoS w k = none := by
  unfold twoS; rw [sH h hn]
theorem wJ {w : List Str} {k a b : Int} (h1 : numS (at_ w 0) = some a) (h2 : numS (at_ w 2) = some b) : twoS w k = some (a, k, b) := by
  unfold twoS numsS; rw [h1]; unfold numsS; rw [h2]
  rfl
theorem uq0 {w : List Str} {y : Ch} (hf : formB w nm0 = true) (h : numS (at_ w 1) = some y.1 ∧ numS (at_ w 2) = some y.2.1 ∧ numS (at_ w 3) = some y.2.2.1 ∧ numS (at_ w 4) = some y.2.2.2.1 ∧ numS (at_ w 6) = some y.2.2.2.2.1 ∧ numS (at_ w 8) = some y.2.2.2.2.2) : chS w = some y := by
  obtain ⟨h1, h2, h3, h4, h5, h6⟩ := h; unfold chS; rw [if_neg (by rw [hf]; decide)]; have : numsS (sixS w) = some [y.1, y.2.1, y.2.2.1, y.2.2.2.1, y.2.2.2.2.1, y.2.2.2.2.2] := by simp [sixS, numsS, h1, h2, h3, h4, h5, h6]
  rw [this]
theorem lenA {α : Type} {xs : List α} {x : α} : (xs ++ [x]).length = xs.length + 1 := by simp
theorem tk0 {i : Nat} {w : List Str} {s : SaT} (h0 : i = 0) (h : chS w = none) : takeW i w s = none := by rw [takeW, if_pos h0, h]
theorem tk1 {i : Nat} {w : List Str} {s : SaT} (h1 : i = 1) (h : stS w = none) : takeW i w s = none := by rw [takeW, if_neg (by omega), if_pos h1, h]
theorem tk2 {i : Nat} {w : List Str} {s : SaT} (h0 : ¬ i = 0) (h1 : ¬ i = 1) (h : advS w = none) : takeW i w s = none := by rw [takeW, if_neg h0, if_neg h1, h]
theorem tk2y {i : Nat} {w : List Str} {s : SaT} {x : Ad} (h0 : ¬ i = 0) (h1 : ¬ i = 1) (h : advS w = some x) : takeW i w s = some (s.1, s.2.1, s.2.2 ++ [x]) := by rw [takeW, if_neg h0, if_neg h1, h]
theorem bP {w : List Str} (k : Nat) (h : k < w.length) : at_ w k ∈ w := w7 h
set_option maxHeartbeats 4000000 in
theorem nR (gs : Nat) (t : Tk) (ht : t.ok) (hb1 : t.s.2.1.length ≤ 100000) (hb2 : t.s.2.2.length ≤ 100000) (i : Nat) (line : Str) (hl : line.length ≤ 1000) :
  MeetsE Tryz.prog F.aj2 [.pointer (c8 gs), int i, str line] { hpI := t.hp gs, inv := fun y : Tk => takeW i (splitB 32 line) t.s = some y.s ∧ y.ok, val := fun _ => .tuple #[], hpO := fun y => y.hp gs } { inv := fun _ : Dead => takeW i (splitB 32 line) t.s = none, val := fun _ => oddV, hpO := fun y => [tkO gs y.1 y.2.1 y.2.2] } := by
 obtain ⟨w, hw⟩ : ∃ w, splitB 32 line = w := ⟨_, rfl⟩; have hS := sZ line 32 (by omega); have hwl := wS 32 line; have hwn := dS 32 line; have hcl : line.count 32 ≤ line.length := List.count_le_length; rw [hw] at hS hwl hwn; rw [hw]; obtain ⟨⟨c, ss, xs⟩, o1, h1, o2, h2⟩ := t; obtain ⟨g1, g2⟩ := ht; simp only at g1 g2 hb1 hb2; refine mJ F.mx0 rfl r6 fun w0 => ?_; refine i8 (c7 rfl ?_); refine k5 F.zD rfl rfl (hS) (hpR := tkO gs c (o1, ss.length) (o2, xs.length) :: (h1 ++ h2)) (.refl _) trivial fun gw _ => ?_; refine d5 rfl (d8 (k9 (i8 (c7 rfl (H0 rfl rfl rfl (d5 rfl (d8 ?_)))))))
 first | refine m3 rfl (fun hb1 => ?_) (fun hb1 => ?_) | refine j7 rfl (fun hb1 => ?_) (fun hb1 => ?_)
 ·have hb1' := hb1; try simp at hb1'
  have hi0 : i = 0 := by omega
  refine i8 (c7 rfl ?_); refine q7 _ rfl rfl (fun _ => T.rz5 ..) fun gn => ?_; refine C6 (rows nm0) (List.prefix_refl _) ?_; refine H8 F.dN rfl rfl (Y4 w nm0 (by omega) (by decide)) (hpR := tkO gs c (o1, ss.length) (o2, xs.length) :: (h1 ++ h2)) (.refl _) mC (fun _ hy => by (repeat (first | refine E7 ?_ | refine I4 ?_)); exact K9 ((c, (o1, ss.length), (o2, xs.length)) : Dead) rfl rfl (tk0 hi0 (by rw [chS, if_pos hy])) (.cons_cons _ nil_sb) trivial) ?_; refine fun _ hf => ?_; have h9 : w.length = 9 := rG hf; refine d8 ?_; refine lD ([]) (tkO gs c (o1, ss.length) (o2, xs.length) :: (h1 ++ h2)) (.refl _) 26 [] [4, 8, 12, 16, 20, 24] (fun ch => ch = [{ v := oddV, recovered := false }] ∧ takeW i w (c, ss, xs) = none) mixed (by decide) (by decide) (by decide) (by decide) rfl rfl (fun ch hch => by obtain ⟨rfl, hno⟩ := hch; (repeat (first | refine E7 ?_ | refine I4 ?_)); exact K9 ((c, (o1, ss.length), (o2, xs.length)) : Dead) rfl rfl hno (by first | exact .cons_cons _ nil_sb | exact List.Sublist.trans (.cons_cons _ nil_sb) (List.sublist_append_right _ _)) trivial) ?_; refine l9 (fun w1 => c7 rfl (q_z rfl)) (l9 (fun w1 => c7 rfl (q_z rfl)) (l9 (fun w1 => v6 (α := Str) w 1 rfl T.H9 T.D0 rfl rfl rfl (List.mem_append_right _ m1) rfl (by omega) (by decide) (q_z rfl)) (l9 (fun w1 => b8 (v := str (at_ w 1)) rfl T.m5 rfl (d6 (List.mem_append_right _ m1) (c9 (by omega) rfl)) (q_z rfl)) ?_))); refine aQ ⟨Int, fun z => numS (at_ w 1) = some z, fun z => int z, fun _ => []⟩ rfl rfl rfl ?_ ?_
  ·intro w1; refine H8 F.C8 rfl rfl (z8 (at_ w 1) (by have := hwl (at_ w 1) (bP _ (by omega)); omega)) (hpR := []) (.refl _) trivial (fun _ hy => by refine V2 ?_; exact ⟨by simp, rfl, tk0 hi0 (iz4 (by simp [sixS]) hy)⟩) ?_; refine fun z hz => ?_; refine d4 ?_; exact O9 z hz rfl trivial
  refine l9 (fun w1 => c7 rfl (q_z rfl)) (l9 (fun w1 => v6 (α := Str) w 2 rfl T.H9 T.D0 rfl rfl rfl (List.mem_append_right _ m1) rfl (by omega) (by decide) (q_z rfl)) (l9 (fun w1 => b8 (v := str (at_ w 2)) rfl T.m5 rfl (d6 (List.mem_append_right _ m1) (c9 (by omega) rfl)) (q_z rfl)) ?_)); refine aQ ⟨Int, fun z => numS (at_ w 2) = some z, fun z => int z, fun _ => []⟩ rfl rfl rfl ?_ ?_
  ·intro w1; refine H8 F.C8 rfl rfl (z8 (at_ w 2) (by have := hwl (at_ w 2) (bP _ (by omega)); omega)) (hpR := []) (.refl _) trivial (fun _ hy => by refine V2 ?_; exact ⟨by simp, rfl, tk0 hi0 (iz4 (by simp [sixS]) hy)⟩) ?_; refine fun z hz => ?_; refine d4 ?_; exact O9 z hz rfl trivial
  refine l9 (fun w1 => c7 rfl (q_z rfl)) (l9 (fun w1 => v6 (α := Str) w 3 rfl T.H9 T.D0 rfl rfl rfl (List.mem_append_right _ m1) rfl (by omega) (by decide) (q_z rfl)) (l9 (fun w1 => b8 (v := str (at_ w 3)) rfl T.m5 rfl (d6 (List.mem_append_right _ m1) (c9 (by omega) rfl)) (q_z rfl)) ?_)); refine aQ ⟨Int, fun z => numS (at_ w 3) = some z, fun z => int z, fun _ => []⟩ rfl rfl rfl ?_ ?_
  ·intro w1; refine H8 F.C8 rfl rfl (z8 (at_ w 3) (by have := hwl (at_ w 3) (bP _ (by omega)); omega)) (hpR := []) (.refl _) trivial (fun _ hy => by refine V2 ?_; exact ⟨by simp, rfl, tk0 hi0 (iz4 (by simp [sixS]) hy)⟩) ?_; refine fun z hz => ?_; refine d4 ?_; exact O9 z hz rfl trivial
  refine l9 (fun w1 => c7 rfl (q_z rfl)) (l9 (fun w1 => v6 (α := Str) w 4 rfl T.H9 T.D0 rfl rfl rfl (List.mem_append_right _ m1) rfl (by omega) (by decide) (q_z rfl)) (l9 (fun w1 => b8 (v := str (at_ w 4)) rfl T.m5 rfl (d6 (List.mem_append_right _ m1) (c9 (by omega) rfl)) (q_z rfl)) ?_)); refine aQ ⟨Int, fun z => numS (at_ w 4) = some z, fun z => int z, fun _ => []⟩ rfl rfl rfl ?_ ?_
  ·intro w1; refine H8 F.C8 rfl rfl (z8 (at_ w 4) (by have := hwl (at_ w 4) (bP _ (by omega)); omega)) (hpR := []) (.refl _) trivial (fun _ hy => by refine V2 ?_; exact ⟨by simp, rfl, tk0 hi0 (iz4 (by simp [sixS]) hy)⟩) ?_; refine fun z hz => ?_; refine d4 ?_; exact O9 z hz rfl trivial
  refine l9 (fun w1 => c7 rfl (q_z rfl)) (l9 (fun w1 => v6 (α := Str) w 6 rfl T.H9 T.D0 rfl rfl rfl (List.mem_append_right _ m1) rfl (by omega) (by decide) (q_z rfl)) (l9 (fun w1 => b8 (v := str (at_ w 6)) rfl T.m5 rfl (d6 (List.mem_append_right _ m1) (c9 (by omega) rfl)) (q_z rfl)) ?_)); refine aQ ⟨Int, fun z => numS (at_ w 6) = some z, fun z => int z, fun _ => []⟩ rfl rfl rfl ?_ ?_
  ·intro w1; refine H8 F.C8 rfl rfl (z8 (at_ w 6) (by have := hwl (at_ w 6) (bP _ (by omega)); omega)) (hpR := []) (.refl _) trivial (fun _ hy => by refine V2 ?_; exact ⟨by simp, rfl, tk0 hi0 (iz4 (by simp [sixS]) hy)⟩) ?_; refine fun z hz => ?_; refine d4 ?_; exact O9 z hz rfl trivial
  refine l9 (fun w1 => c7 rfl (q_z rfl)) (l9 (fun w1 => v6 (α := Str) w 8 rfl T.H9 T.D0 rfl rfl rfl (List.mem_append_right _ m1) rfl (by omega) (by decide) (q_z rfl)) (l9 (fun w1 => b8 (v := str (at_ w 8)) rfl T.m5 rfl (d6 (List.mem_append_right _ m1) (c9 (by omega) rfl)) (q_z rfl)) ?_)); refine aQ ⟨Int, fun z => numS (at_ w 8) = some z, fun z => int z, fun _ => []⟩ rfl rfl rfl ?_ ?_
  ·intro w1; refine H8 F.C8 rfl rfl (z8 (at_ w 8) (by have := hwl (at_ w 8) (bP _ (by omega)); omega)) (hpR := []) (.refl _) trivial (fun _ hy => by refine V2 ?_; exact ⟨by simp, rfl, tk0 hi0 (iz4 (by simp [sixS]) hy)⟩) ?_; refine fun z hz => ?_; refine d4 ?_; exact O9 z hz rfl trivial
  refine X9 ⟨Ch, fun y => numS (at_ w 1) = some y.1 ∧ numS (at_ w 2) = some y.2.1 ∧ numS (at_ w 3) = some y.2.2.1 ∧ numS (at_ w 4) = some y.2.2.2.1 ∧ numS (at_ w 6) = some y.2.2.2.2.1 ∧ numS (at_ w 8) = some y.2.2.2.2.2, fun y => chV y, fun _ => []⟩ rfl rfl rfl ?_ ?_
  ·intro z1 q1 z2 q2 z3 q3 z4 q4 z5 q5 z6 q6; intro w1; refine u4 _ rfl rfl (fun _ => T.N3 ..) ?_; refine d4 ?_; exact J4 (z1, z2, z3, z4, z5, z6) ⟨q1, q2, q3, q4, q5, q6⟩ rfl trivial
  refine D1 ⟨⟨rfl, rfl⟩, ?_⟩; intro _ _ _ _ _ _ _ _ _ _ _ _ y hy; refine p9 rfl rfl ?_
  first | refine a9 ⟨_, 0, none⟩ rfl rfl T.B9 rfl ?_ | refine a9 _ rfl rfl T.B9 rfl ?_
  refine cx5 (cs := #[int y.1, int y.2.1, int y.2.2.1, int y.2.2.2.1, int y.2.2.2.2.1, int y.2.2.2.2.2]) rfl rfl (.refl _) T.E2 (by show 0 + 6 ≤ 8; decide) (by rfl) ?_; refine d4 (y6 (dq3 ?_)); exact ret0n (⟨(y, ss, xs), o1, h1, o2, h2⟩ : Tk) rfl rfl rfl ⟨by rw [takeW, if_pos hi0, uq0 hf hy], ⟨g1, g2⟩⟩ (.refl _) trivial
 have hb1' := hb1; try simp at hb1'
 have hi0 : ¬ i = 0 := by omega
 refine i8 (c7 rfl (H0 rfl rfl rfl (d5 rfl (d8 ?_))))
 first | refine m3 rfl (fun hb2 => ?_) (fun hb2 => ?_) | refine j7 rfl (fun hb2 => ?_) (fun hb2 => ?_)
 ·have hb2' := hb2; try simp at hb2'
  have hi1 : i = 1 := by omega
  refine mT ⟨fun _ : Unit => ¬ (w.length < 2 ∨ ¬ at_ w 0 = streetsS), fun _ => [(0, .pointer (c8 gs)), (6, .slice (c8 gw) w.length w.length)], fun _ => tkO gs c (o1, ss.length) (o2, xs.length) :: (h1 ++ h2), fun _ => [Row (c8 gw) (rows w)]⟩ ?_ ?_
  ·skip
   refine i8 (c7 rfl ?_); refine l7 rfl T.H9 rfl ?_; refine B6 rfl rfl rfl (c7 rfl ?_); refine u6 rfl rfl ?_ ?_
   ·intro hg1; have hg1' := hg1; try simp at hg1'
    refine l3 rfl rfl hg1 (c7 rfl (l3 rfl rfl hg1 ?_)); refine v6 (α := Str) w 0 rfl T.H9 T.D0 rfl rfl rfl mB rfl (by omega) (by decide) (l3 rfl rfl hg1 (b8 (v := str (at_ w 0)) rfl T.m5 rfl (d6 mB (c9 (by omega) rfl)) ?_)); refine l3 rfl rfl hg1 (cx6 rfl rfl rfl ?_); refine p_f rfl rfl (bf1 hg1) rfl ?_; refine d8 ?_
    first | refine m3 rfl (fun hb3 => ?_) (fun hb3 => ?_) | refine j7 rfl (fun hb3 => ?_) (fun hb3 => ?_)
    ·have hb3' := hb3; try simp at hb3'
     refine j8 ?_; refine u4 _ rfl rfl (fun _ => T.I6 ..) (cH rfl ⟨_, Tryz.underlying130, rfl⟩ rfl (aL rfl (fun _ => rfl) ?_))
     (repeat (first | refine E7 ?_ | refine I4 ?_))
     exact K9 ((c, (o1, ss.length), (o2, xs.length)) : Dead) rfl rfl (tk1 hi1 (by rw [stS, if_pos (by first | exact .inl (by omega) | (exact .inr (by assumption)) | (refine .inr ?_; simp_all))])) (.cons_cons _ nil_sb) trivial
    have hb3' := hb3; try simp at hb3'
    refine k6 ?_; exact Y0 _ () (by first | (intro h9; rcases h9 with h9 | h9 <;> first | omega | exact h9 (by first | assumption | exact Classical.not_not.1 (by assumption)))) mC (.refl _) mC
   intro hg1; have hg1' := hg1; try simp at hg1'
   refine t4 rfl rfl rfl rfl rfl hg1 (t4 rfl rfl rfl rfl rfl hg1 (t4 rfl rfl rfl rfl rfl hg1 (t4 rfl rfl rfl rfl rfl hg1 ?_))); refine p_t rfl rfl (bt2 hg1) rfl ?_; refine d8 (c_t rfl rfl (j8 ?_)); refine u4 _ rfl rfl (fun _ => T.I6 ..) (cH rfl ⟨_, Tryz.underlying130, rfl⟩ rfl (aL rfl (fun _ => rfl) ?_))
   (repeat (first | refine E7 ?_ | refine I4 ?_))
   exact K9 ((c, (o1, ss.length), (o2, xs.length)) : Dead) rfl rfl (tk1 hi1 (by rw [stS, if_pos (by first | exact .inl (by omega) | (exact .inr (by assumption)) | (refine .inr ?_; simp_all))])) (.cons_cons _ nil_sb) trivial
  intro _ hst; simp only at hst; have hw2 : 2 ≤ w.length := by omega
  refine i8 (c7 rfl ?_); refine hl_cut (α := Str) (A := some ⟨gw, 0, none⟩) (p := w) (ca := w.length) 1 w.length mB (Nat.le_refl _) ?_; rw [List.take_length]; refine cx7 1 rfl T.H9 T.D0 rfl rfl rfl (by omega) ?_; have hdl : w.length - 1 = (w.drop 1).length := by rw [List.length_drop]
  rw [hdl]; have hwd : ∀ u ∈ w.drop 1, u.length ≤ 1000 := fun u hu => by have := hwl u (List.mem_of_mem_drop hu); omega
  refine l7 rfl T.H9 rfl ?_; refine c7 rfl (d8 (k9 ?_)); refine w3 (β := Nat × List Int × OutC × Hp) ⟨fun z => z.1 ≤ (w.drop 1).length ∧ numsS ((w.drop 1).take z.1) = some z.2.1 ∧ Grow T.int 1 z.2.2.1.1 (ss ++ z.2.1).length z.2.2.1.2 (rows (ss ++ z.2.1)) z.2.2.2, fun z => [(0, .pointer (c8 gs)), (81, .slice (cutA (c8 gw) w.length 1 1) (w.drop 1).length (w.drop 1).length), (82, int (w.drop 1).length), (83, int z.1)], fun z => tkO gs c (z.2.2.1, (ss ++ z.2.1).length) (o2, xs.length) :: (z.2.2.2 ++ h2), fun _ => [Row (cutA (c8 gw) w.length 1 1) (rows (w.drop 1))]⟩ (fun z => (w.drop 1).length - z.1) (0, [], o1, h1) ⟨Nat.zero_le _, rfl, by rw [List.append_nil]; exact g1⟩ mC (by show List.Sublist (tkO gs c (o1, (ss ++ []).length) (o2, xs.length) :: (h1 ++ h2)) _; rw [List.append_nil]; exact .refl _) mC fun z hz => ?_; obtain ⟨k, r, p1, q1⟩ := z; obtain ⟨hk0, hr, gr⟩ := hz; simp only at hk0 hr gr; have hrl := zO hr; rw [List.length_take] at hrl; have hsr : (ss ++ r).length = ss.length + r.length := List.length_append; refine i8 (B6 rfl rfl rfl (d8 (j4 ?_)))
  first | refine m3 rfl (fun hb4 => ?_) (fun hb4 => ?_) | refine j7 rfl (fun hb4 => ?_) (fun hb4 => ?_)
  ·have hb4' := hb4; try simp at hb4'
   have hk1 : k < (w.drop 1).length := by simp at hb4; simp; omega
   have hwk := hwd _ (w7 (l := w.drop 1) hk1); have hmk : (w.drop 1).getD k default ∈ w.drop 1 := w7 hk1; refine k6 (j6 (j4 (k9 (i8 ?_)))); refine v6 (α := Str) (w.drop 1) k rfl T.H9 T.D0 rfl rfl rfl mB rfl hk1 (by decide) (b8 (v := str ((w.drop 1).getD k default)) rfl T.m5 rfl (d6 mB (c9 hk1 rfl)) ?_); refine d5 rfl (d8 ?_); refine lD (q1) (tkO gs c (p1, (ss ++ r).length) (o2, xs.length) :: h2) (List.perm_append_comm (l₁ := _ :: q1) (l₂ := h2) |>.trans (List.perm_append_comm (l₁ := h2) (l₂ := _ :: q1)) |>.trans List.perm_middle.symm) 9 [8] [6] (fun ch => ch = [{ v := oddV, recovered := false }] ∧ takeW i w (c, ss, xs) = none) mixed (by decide) (by decide) (by decide) (by decide) rfl rfl (fun ch hch => by obtain ⟨rfl, hno⟩ := hch; (repeat (first | refine E7 ?_ | refine I4 ?_)); exact K9 ((c, (p1, (ss ++ r).length), (o2, xs.length)) : Dead) rfl rfl hno (by first | exact .cons_cons _ nil_sb | exact List.Sublist.trans (.cons_cons _ nil_sb) (List.sublist_append_right _ _)) trivial) ?_; refine l9 (fun w1 => c7 rfl (q_z rfl)) (l9 (fun w1 => c7 rfl (q_z rfl)) (l9 (fun w1 => p9 rfl rfl (q_z rfl)) ?_))
   apply m8 _ rfl rfl rfl
   ·intro w1
    first | refine a9 ⟨_, 6, none⟩ rfl rfl T.q9 rfl ?_ | refine a9 _ rfl rfl T.q9 rfl ?_
    refine d4 ?_; exact k4 rfl
   refine l9 (fun w1 => b8 (v := .slice p1.1 (ss ++ r).length p1.2) rfl T.i7 rfl (j3 m0 rfl) (q_z rfl)) (l9 (fun w1 => c7 rfl (q_z rfl)) ?_); refine aQ ⟨Int, fun z => numS ((w.drop 1).getD k default) = some z, fun z => int z, fun _ => []⟩ rfl rfl rfl ?_ ?_
   ·intro w1; refine H8 F.C8 rfl rfl (z8 ((w.drop 1).getD k default) (by omega)) (hpR := []) (.refl _) trivial (fun _ hy => by refine V2 ?_; exact ⟨by simp, rfl, tk1 hi1 (by rw [stS, if_neg hst]; exact sH hmk hy)⟩) ?_; refine fun z hz => ?_; refine d4 ?_; exact O9 z hz rfl trivial
   refine X9 ⟨Int × Nat, fun p => numS ((w.drop 1).getD k default) = some p.1, fun p => .slice (some ⟨p.2, 0, none⟩) 1 1, fun p => [Row (some ⟨p.2, 0, none⟩) (rows [p.1])]⟩ rfl rfl rfl ?_ ?_
   ·intro z hz; intro w1; refine q7 _ rfl rfl (fun _ => T.Z7 ..) fun gS => ?_; refine d4 ?_; refine E5 (rows [z]) (List.prefix_refl _) ?_; exact J4 (z, gS) hz rfl ⟨m0, trivial⟩
   refine iZ ⟨Int × OutC × Hp, fun y => numS ((w.drop 1).getD k default) = some y.1 ∧ Grow T.int 1 y.2.1.1 ((ss ++ r).length + 1) y.2.1.2 (rows ((ss ++ r) ++ [y.1])) y.2.2, fun y => .slice y.2.1.1 ((ss ++ r).length + 1) y.2.1.2, fun _ => [], fun y => y.2.2⟩ rfl rfl rfl ?_ ?_
   ·intro p hp1; obtain ⟨z, g9⟩ := p; simp only at hp1; intro w1; refine O7 ((ss ++ r).length + 1) (rows ((ss ++ r) ++ [z])) T.cj3 rfl rfl rfl gr (hp' := []) (by rw [List.append_nil]) (Src.row (news := rows [z]) (m := 1) m0 rfl (K5 _) (by decide)) rfl (D2 (ss ++ r) [z]).symm (by unfold maxLen; omega) (by omega) fun A' c' og' hG' => ?_; refine d4 ?_; exact O8 (z, (A', c'), og') ⟨hp1, hG'⟩ (fun _ => rfl) (List.sublist_append_left _ _) trivial
   refine D1 ⟨⟨rfl, rfl⟩, ?_⟩; intro _ _ _ _ y hy; obtain ⟨z, ⟨pA, pc⟩, og9⟩ := y; obtain ⟨hz, hG9⟩ := hy; simp only at hz hG9; refine p9 rfl rfl ?_
   first | refine a9 ⟨_, 6, none⟩ rfl rfl T.q9 rfl ?_ | refine a9 _ rfl rfl T.q9 rfl ?_
   refine z9 rfl rfl List.perm_middle T.jq3 (by rfl) (by rfl) ?_; refine d4 (y6 (j6 (j8 ?_))); refine v4 _ rfl rfl rfl rfl r5 ?_; refine c7 rfl (d4 ?_); have hr2 : numsS ((w.drop 1).take (k + 1)) = some (r ++ [z]) := by rw [M5 _ k hk1]; exact iq8 hr hz
   exact again _ (k + 1, r ++ [z], (pA, pc), og9) ⟨hk1, hr2, by show Grow _ _ _ (ss ++ (r ++ [z])).length _ (rows (ss ++ (r ++ [z]))) _; rw [← List.append_assoc, lenA]; exact hG9⟩ (D5 (by omega)) mC (by show List.Sublist (tkO gs c ((pA, pc), (ss ++ (r ++ [z])).length) (o2, xs.length) :: (og9 ++ h2)) _; rw [← List.append_assoc, lenA]; exact .refl _) mC
  have hb4' := hb4; try simp at hb4'
  have hk1 : k = (w.drop 1).length := by simp at hb4; simp at hk0; simp; omega
  rw [hk1, List.take_length] at hr; refine u9 (D6 (u5 (y6 (dq3 ?_)))); exact ret0n (⟨(c, ss ++ r, xs), p1, q1, o2, h2⟩ : Tk) rfl rfl rfl ⟨by rw [takeW, if_neg hi0, if_pos hi1, stS, if_neg hst, hr], ⟨gr, g2⟩⟩ (.refl _) trivial
 have hb2' := hb2; try simp at hb2'
 have hi1 : ¬ i = 1 := by omega
 refine i8 (c7 rfl ?_); refine l7 rfl T.H9 rfl ?_; refine H0 rfl rfl rfl (d5 rfl (d8 ?_))
 first | refine m3 rfl (fun hb5 => ?_) (fun hb5 => ?_) | refine j7 rfl (fun hb5 => ?_) (fun hb5 => ?_)
 ·have hb5' := hb5; try simp at hb5'
  have hw2 : w.length = 2 := by omega
  refine i8 (c7 rfl ?_); refine q7 _ rfl rfl (fun _ => T.rz6 ..) fun gn => ?_; refine C6 (rows nmP) (List.prefix_refl _) ?_; refine H8 F.dN rfl rfl (Y4 w nmP (by omega) (by decide)) (hpR := tkO gs c (o1, ss.length) (o2, xs.length) :: (h1 ++ h2)) (.refl _) mC (fun _ hy => by (repeat (first | refine E7 ?_ | refine I4 ?_)); exact K9 ((c, (o1, ss.length), (o2, xs.length)) : Dead) rfl rfl (tk2 hi0 hi1 (by rw [advS, if_pos hw2, if_pos hy])) (.cons_cons _ nil_sb) trivial) ?_; refine fun _ hf => ?_; refine d8 ?_; refine lD (h2) (tkO gs c (o1, ss.length) (o2, xs.length) :: h1) (List.perm_append_comm (l₁ := _ :: h1) (l₂ := h2)) 12 [11] [8] (fun ch => ch = [{ v := oddV, recovered := false }] ∧ takeW i w (c, ss, xs) = none) mixed (by decide) (by decide) (by decide) (by decide) rfl rfl (fun ch hch => by obtain ⟨rfl, hno⟩ := hch; (repeat (first | refine E7 ?_ | refine I4 ?_)); exact K9 ((c, (o1, ss.length), (o2, xs.length)) : Dead) rfl rfl hno (by first | exact .cons_cons _ nil_sb | exact List.Sublist.trans (.cons_cons _ nil_sb) (List.sublist_append_right _ _)) trivial) ?_; refine l9 (fun w1 => c7 rfl (q_z rfl)) (l9 (fun w1 => c7 rfl (q_z rfl)) (l9 (fun w1 => p9 rfl rfl (q_z rfl)) ?_))
  apply m8 _ rfl rfl rfl
  ·intro w1
   first | refine a9 ⟨_, 7, none⟩ rfl rfl T.l4 rfl ?_ | refine a9 _ rfl rfl T.l4 rfl ?_
   refine d4 ?_; exact k4 rfl
  refine l9 (fun w1 => b8 (v := .slice o2.1 xs.length o2.2) rfl T.d9 rfl (j3 m0 rfl) (q_z rfl)) (l9 (fun w1 => c7 rfl (q_z rfl)) (l9 (fun w1 => v6 (α := Str) w 0 rfl T.H9 T.D0 rfl rfl rfl (List.mem_append_right _ m1) rfl (by omega) (by decide) (q_z rfl)) (l9 (fun w1 => b8 (v := str (at_ w 0)) rfl T.m5 rfl (d6 (List.mem_append_right _ m1) (c9 (by omega) rfl)) (q_z rfl)) ?_))); refine aQ ⟨Int, fun z => numS (at_ w 0) = some z, fun z => int z, fun _ => []⟩ rfl rfl rfl ?_ ?_
  ·intro w1; refine H8 F.C8 rfl rfl (z8 (at_ w 0) (by have := hwl (at_ w 0) (bP _ (by omega)); omega)) (hpR := []) (.refl _) trivial (fun _ hy => by refine V2 ?_; exact ⟨by simp, rfl, tk2 hi0 hi1 (by rw [advS, if_pos hw2, if_neg (by rw [hf]; decide), hy])⟩) ?_; refine fun z hz => ?_; refine d4 ?_; exact O9 z hz rfl trivial
  refine X9 ⟨Int × Int, fun y => numS (at_ w 0) = some y.1 ∧ y.2 = 1, fun y => .agg #[int y.1, int 1, int y.2], fun _ => []⟩ rfl rfl rfl ?_ ?_
  ·intro z1 q1; intro w1; refine u4 _ rfl rfl (fun _ => T.D3 ..) ?_; refine d4 ?_; exact J4 (z1, 1) ⟨q1, rfl⟩ rfl trivial
  refine X9 ⟨(Int × Int) × Nat, fun q => (fun y : Int × Int => numS (at_ w 0) = some y.1 ∧ y.2 = 1) q.1, fun q => .slice (some ⟨q.2, 0, none⟩) 1 1, fun q => [Row (some ⟨q.2, 0, none⟩) (rows [((q.1.1, 1, q.1.2) : Ad)])]⟩ rfl rfl rfl ?_ ?_
  ·intro y hy; intro w1; refine q7 _ rfl rfl (fun _ => T.K1 ..) fun gS => ?_; refine d4 ?_; refine E5 (rows [((y.1, 1, y.2) : Ad)]) (List.prefix_refl _) ?_; exact J4 (y, gS) hy rfl ⟨m0, trivial⟩
  refine iZ ⟨(Int × Int) × OutC × Hp, fun q => (fun y : Int × Int => numS (at_ w 0) = some y.1 ∧ y.2 = 1) q.1 ∧ Grow T.G9 3 q.2.1.1 (xs.length + 1) q.2.1.2 (rows (xs ++ [((q.1.1, 1, q.1.2) : Ad)])) q.2.2, fun q => .slice q.2.1.1 (xs.length + 1) q.2.1.2, fun _ => [], fun q => q.2.2⟩ rfl rfl rfl ?_ ?_
  ·intro q hq1; obtain ⟨y, g9⟩ := q; simp only at hq1; intro w1; refine O7 (xs.length + 1) (rows (xs ++ [((y.1, 1, y.2) : Ad)])) T.O4 rfl rfl rfl g2 (hp' := []) (by rw [List.append_nil]) (Src.row (news := rows [((y.1, 1, y.2) : Ad)]) (m := 1) m0 rfl (K5 _) (by decide)) rfl (D2 xs [((y.1, 1, y.2) : Ad)]).symm (by unfold maxLen; omega) (by omega) fun A' c' og' hG' => ?_; refine d4 ?_; exact O8 (y, (A', c'), og') ⟨hq1, hG'⟩ (fun _ => rfl) (List.sublist_append_left _ _) trivial
  refine D1 ⟨⟨rfl, rfl⟩, ?_⟩; intro _ _ _ _ _ _ q hq; obtain ⟨⟨z1, z2⟩, ⟨pA, pc⟩, og9⟩ := q; obtain ⟨⟨hz1, hz2⟩, hG9⟩ := hq; simp only at hz1 hz2 hG9; subst hz2; refine p9 rfl rfl ?_
  first | refine a9 ⟨_, 7, none⟩ rfl rfl T.l4 rfl ?_ | refine a9 _ rfl rfl T.l4 rfl ?_
  refine z9 rfl rfl List.perm_middle T.K2 (by rfl) (by rfl) ?_; refine d4 (y6 ?_); refine R8 (List.Perm.cons _ (List.perm_append_comm (l₁ := og9))) ?_; refine dq3 ?_; exact ret0n (⟨(c, ss, xs ++ [(z1, 1, 1)]), o1, h1, (pA, pc), og9⟩ : Tk) rfl rfl rfl ⟨tk2y hi0 hi1 (by rw [advS, if_pos hw2, if_neg (by rw [hf]; decide), hz1]), ⟨g1, by show Grow _ _ _ (xs ++ [_]).length _ _ _; rw [lenA]; exact hG9⟩⟩ (by show List.Sublist (tkO gs c (o1, ss.length) ((pA, pc), (xs ++ [_]).length) :: (h1 ++ og9)) _; rw [lenA]; exact .refl _) trivial
 have hb5' := hb5; try simp at hb5'
 have hw2 : ¬ w.length = 2 := by omega
 refine i8 (c7 rfl ?_); refine l7 rfl T.H9 rfl ?_; refine H0 rfl rfl rfl (c7 rfl ?_); refine u6 rfl rfl ?_ ?_
 ·intro hg2; have hg2' := hg2; try simp at hg2'
  have hw3 : w.length = 3 := by simp at hg2; omega
  refine l3 rfl rfl hg2 (c7 rfl (l3 rfl rfl hg2 ?_)); refine v6 (α := Str) w 1 rfl T.H9 T.D0 rfl rfl rfl mB rfl (by omega) (by decide) (l3 rfl rfl hg2 (b8 (v := str (at_ w 1)) rfl T.m5 rfl (d6 mB (c9 (by omega) rfl)) ?_)); refine l3 rfl rfl hg2 (hU rfl rfl rfl ?_); refine p_t rfl rfl (bt1 hg2) rfl ?_; refine d5 rfl (d8 ?_)
  first | refine m3 rfl (fun hb6 => ?_) (fun hb6 => ?_) | refine j7 rfl (fun hb6 => ?_) (fun hb6 => ?_)
  ·have hb6' := hb6; try simp at hb6'
   have hcd : w.length = 3 ∧ at_ w 1 = cardS := ⟨hw3, by assumption⟩; refine lD (h2) (tkO gs c (o1, ss.length) (o2, xs.length) :: h1) (List.perm_append_comm (l₁ := _ :: h1) (l₂ := h2)) 16 [15] [8, 12] (fun ch => ch = [{ v := oddV, recovered := false }] ∧ takeW i w (c, ss, xs) = none) mixed (by decide) (by decide) (by decide) (by decide) rfl rfl (fun ch hch => by obtain ⟨rfl, hno⟩ := hch; (repeat (first | refine E7 ?_ | refine I4 ?_)); exact K9 ((c, (o1, ss.length), (o2, xs.length)) : Dead) rfl rfl hno (by first | exact .cons_cons _ nil_sb | exact List.Sublist.trans (.cons_cons _ nil_sb) (List.sublist_append_right _ _)) trivial) ?_; refine l9 (fun w1 => c7 rfl (q_z rfl)) (l9 (fun w1 => c7 rfl (q_z rfl)) (l9 (fun w1 => p9 rfl rfl (q_z rfl)) ?_))
   apply m8 _ rfl rfl rfl
   ·intro w1
    first | refine a9 ⟨_, 7, none⟩ rfl rfl T.l4 rfl ?_ | refine a9 _ rfl rfl T.l4 rfl ?_
    refine d4 ?_; exact k4 rfl
   refine l9 (fun w1 => b8 (v := .slice o2.1 xs.length o2.2) rfl T.d9 rfl (j3 m0 rfl) (q_z rfl)) (l9 (fun w1 => c7 rfl (q_z rfl)) (l9 (fun w1 => v6 (α := Str) w 0 rfl T.H9 T.D0 rfl rfl rfl (List.mem_append_right _ m0) rfl (by omega) (by decide) (q_z rfl)) (l9 (fun w1 => b8 (v := str (at_ w 0)) rfl T.m5 rfl (d6 (List.mem_append_right _ m0) (c9 (by omega) rfl)) (q_z rfl)) ?_))); refine aQ ⟨Int, fun z => numS (at_ w 0) = some z, fun z => int z, fun _ => []⟩ rfl rfl rfl ?_ ?_
   ·intro w1; refine H8 F.C8 rfl rfl (z8 (at_ w 0) (by have := hwl (at_ w 0) (bP _ (by omega)); omega)) (hpR := []) (.refl _) trivial (fun _ hy => by refine V2 ?_; exact ⟨by simp, rfl, tk2 hi0 hi1 (by rw [advS, if_neg hw2, if_pos hcd]; exact yY (by simp) hy)⟩) ?_; refine fun z hz => ?_; refine d4 ?_; exact O9 z hz rfl trivial
   refine l9 (fun w1 => c7 rfl (q_z rfl)) (l9 (fun w1 => v6 (α := Str) w 2 rfl T.H9 T.D0 rfl rfl rfl (List.mem_append_right _ m0) rfl (by omega) (by decide) (q_z rfl)) (l9 (fun w1 => b8 (v := str (at_ w 2)) rfl T.m5 rfl (d6 (List.mem_append_right _ m0) (c9 (by omega) rfl)) (q_z rfl)) ?_)); refine aQ ⟨Int, fun z => numS (at_ w 2) = some z, fun z => int z, fun _ => []⟩ rfl rfl rfl ?_ ?_
   ·intro w1; refine H8 F.C8 rfl rfl (z8 (at_ w 2) (by have := hwl (at_ w 2) (bP _ (by omega)); omega)) (hpR := []) (.refl _) trivial (fun _ hy => by refine V2 ?_; exact ⟨by simp, rfl, tk2 hi0 hi1 (by rw [advS, if_neg hw2, if_pos hcd]; exact yY (by simp) hy)⟩) ?_; refine fun z hz => ?_; refine d4 ?_; exact O9 z hz rfl trivial
   refine X9 ⟨Int × Int, fun y => numS (at_ w 0) = some y.1 ∧ numS (at_ w 2) = some y.2, fun y => .agg #[int y.1, int 3, int y.2], fun _ => []⟩ rfl rfl rfl ?_ ?_
   ·intro z1 q1 z2 q2; intro w1; refine u4 _ rfl rfl (fun _ => T.D3 ..) ?_; refine d4 ?_; exact J4 (z1, z2) ⟨q1, q2⟩ rfl trivial
   refine X9 ⟨(Int × Int) × Nat, fun q => (fun y : Int × Int => numS (at_ w 0) = some y.1 ∧ numS (at_ w 2) = some y.2) q.1, fun q => .slice (some ⟨q.2, 0, none⟩) 1 1, fun q => [Row (some ⟨q.2, 0, none⟩) (rows [((q.1.1, 3, q.1.2) : Ad)])]⟩ rfl rfl rfl ?_ ?_
   ·intro y hy; intro w1; refine q7 _ rfl rfl (fun _ => T.K1 ..) fun gS => ?_; refine d4 ?_; refine E5 (rows [((y.1, 3, y.2) : Ad)]) (List.prefix_refl _) ?_; exact J4 (y, gS) hy rfl ⟨m0, trivial⟩
   refine iZ ⟨(Int × Int) × OutC × Hp, fun q => (fun y : Int × Int => numS (at_ w 0) = some y.1 ∧ numS (at_ w 2) = some y.2) q.1 ∧ Grow T.G9 3 q.2.1.1 (xs.length + 1) q.2.1.2 (rows (xs ++ [((q.1.1, 3, q.1.2) : Ad)])) q.2.2, fun q => .slice q.2.1.1 (xs.length + 1) q.2.1.2, fun _ => [], fun q => q.2.2⟩ rfl rfl rfl ?_ ?_
   ·intro q hq1; obtain ⟨y, g9⟩ := q; simp only at hq1; intro w1; refine O7 (xs.length + 1) (rows (xs ++ [((y.1, 3, y.2) : Ad)])) T.O4 rfl rfl rfl g2 (hp' := []) (by rw [List.append_nil]) (Src.row (news := rows [((y.1, 3, y.2) : Ad)]) (m := 1) m0 rfl (K5 _) (by decide)) rfl (D2 xs [((y.1, 3, y.2) : Ad)]).symm (by unfold maxLen; omega) (by omega) fun A' c' og' hG' => ?_; refine d4 ?_; exact O8 (y, (A', c'), og') ⟨hq1, hG'⟩ (fun _ => rfl) (List.sublist_append_left _ _) trivial
   refine D1 ⟨⟨rfl, rfl⟩, ?_⟩; intro _ _ _ _ _ _ _ _ q hq; obtain ⟨⟨z1, z2⟩, ⟨pA, pc⟩, og9⟩ := q; obtain ⟨⟨hz1, hz2⟩, hG9⟩ := hq; simp only at hz1 hz2 hG9; refine p9 rfl rfl ?_
   first | refine a9 ⟨_, 7, none⟩ rfl rfl T.l4 rfl ?_ | refine a9 _ rfl rfl T.l4 rfl ?_
   refine z9 rfl rfl List.perm_middle T.K2 (by rfl) (by rfl) ?_; refine d4 (y6 ?_); refine R8 (List.Perm.cons _ (List.perm_append_comm (l₁ := og9))) ?_; refine dq3 ?_; exact ret0n (⟨(c, ss, xs ++ [(z1, 3, z2)]), o1, h1, (pA, pc), og9⟩ : Tk) rfl rfl rfl ⟨tk2y hi0 hi1 (by rw [advS, if_neg hw2, if_pos hcd]; exact wJ hz1 hz2), ⟨g1, by show Grow _ _ _ (xs ++ [_]).length _ _ _; rw [lenA]; exact hG9⟩⟩ (by show List.Sublist (tkO gs c (o1, ss.length) ((pA, pc), (xs ++ [_]).length) :: (h1 ++ og9)) _; rw [lenA]; exact .refl _) trivial
  have hb6' := hb6; try simp at hb6'
  have hcd : ¬ (w.length = 3 ∧ at_ w 1 = cardS) := fun h9 => absurd h9.2 (by assumption); refine i8 (c7 rfl ?_); refine q7 _ rfl rfl (fun _ => T.iz6 ..) fun gn => ?_; refine C6 (rows nmB) (List.prefix_refl _) ?_; refine H8 F.dN rfl rfl (Y4 w nmB (by omega) (by decide)) (hpR := tkO gs c (o1, ss.length) (o2, xs.length) :: (h1 ++ h2)) (.refl _) mC (fun _ hy => by (repeat (first | refine E7 ?_ | refine I4 ?_)); exact K9 ((c, (o1, ss.length), (o2, xs.length)) : Dead) rfl rfl (tk2 hi0 hi1 (by rw [advS, if_neg hw2, if_neg hcd, if_pos hy])) (.cons_cons _ nil_sb) trivial) ?_; refine fun _ hf => ?_; have h3 : w.length = 3 := rG hf; refine d8 ?_; refine lD (h2) (tkO gs c (o1, ss.length) (o2, xs.length) :: h1) (List.perm_append_comm (l₁ := _ :: h1) (l₂ := h2)) 16 [15] [8, 12] (fun ch => ch = [{ v := oddV, recovered := false }] ∧ takeW i w (c, ss, xs) = none) mixed (by decide) (by decide) (by decide) (by decide) rfl rfl (fun ch hch => by obtain ⟨rfl, hno⟩ := hch; (repeat (first | refine E7 ?_ | refine I4 ?_)); exact K9 ((c, (o1, ss.length), (o2, xs.length)) : Dead) rfl rfl hno (by first | exact .cons_cons _ nil_sb | exact List.Sublist.trans (.cons_cons _ nil_sb) (List.sublist_append_right _ _)) trivial) ?_; refine l9 (fun w1 => c7 rfl (q_z rfl)) (l9 (fun w1 => c7 rfl (q_z rfl)) (l9 (fun w1 => p9 rfl rfl (q_z rfl)) ?_))
  apply m8 _ rfl rfl rfl
  ·intro w1
   first | refine a9 ⟨_, 7, none⟩ rfl rfl T.l4 rfl ?_ | refine a9 _ rfl rfl T.l4 rfl ?_
   refine d4 ?_; exact k4 rfl
  refine l9 (fun w1 => b8 (v := .slice o2.1 xs.length o2.2) rfl T.d9 rfl (j3 m0 rfl) (q_z rfl)) (l9 (fun w1 => c7 rfl (q_z rfl)) (l9 (fun w1 => v6 (α := Str) w 0 rfl T.H9 T.D0 rfl rfl rfl (List.mem_append_right _ m1) rfl (by omega) (by decide) (q_z rfl)) (l9 (fun w1 => b8 (v := str (at_ w 0)) rfl T.m5 rfl (d6 (List.mem_append_right _ m1) (c9 (by omega) rfl)) (q_z rfl)) ?_))); refine aQ ⟨Int, fun z => numS (at_ w 0) = some z, fun z => int z, fun _ => []⟩ rfl rfl rfl ?_ ?_
  ·intro w1; refine H8 F.C8 rfl rfl (z8 (at_ w 0) (by have := hwl (at_ w 0) (bP _ (by omega)); omega)) (hpR := []) (.refl _) trivial (fun _ hy => by refine V2 ?_; exact ⟨by simp, rfl, tk2 hi0 hi1 (by rw [advS, if_neg hw2, if_neg hcd, if_neg (by rw [hf]; decide)]; exact yY (by simp) hy)⟩) ?_; refine fun z hz => ?_; refine d4 ?_; exact O9 z hz rfl trivial
  refine l9 (fun w1 => c7 rfl (q_z rfl)) (l9 (fun w1 => v6 (α := Str) w 2 rfl T.H9 T.D0 rfl rfl rfl (List.mem_append_right _ m1) rfl (by omega) (by decide) (q_z rfl)) (l9 (fun w1 => b8 (v := str (at_ w 2)) rfl T.m5 rfl (d6 (List.mem_append_right _ m1) (c9 (by omega) rfl)) (q_z rfl)) ?_)); refine aQ ⟨Int, fun z => numS (at_ w 2) = some z, fun z => int z, fun _ => []⟩ rfl rfl rfl ?_ ?_
  ·intro w1; refine H8 F.C8 rfl rfl (z8 (at_ w 2) (by have := hwl (at_ w 2) (bP _ (by omega)); omega)) (hpR := []) (.refl _) trivial (fun _ hy => by refine V2 ?_; exact ⟨by simp, rfl, tk2 hi0 hi1 (by rw [advS, if_neg hw2, if_neg hcd, if_neg (by rw [hf]; decide)]; exact yY (by simp) hy)⟩) ?_; refine fun z hz => ?_; refine d4 ?_; exact O9 z hz rfl trivial
  refine X9 ⟨Int × Int, fun y => numS (at_ w 0) = some y.1 ∧ numS (at_ w 2) = some y.2, fun y => .agg #[int y.1, int 2, int y.2], fun _ => []⟩ rfl rfl rfl ?_ ?_
  ·intro z1 q1 z2 q2; intro w1; refine u4 _ rfl rfl (fun _ => T.D3 ..) ?_; refine d4 ?_; exact J4 (z1, z2) ⟨q1, q2⟩ rfl trivial
  refine X9 ⟨(Int × Int) × Nat, fun q => (fun y : Int × Int => numS (at_ w 0) = some y.1 ∧ numS (at_ w 2) = some y.2) q.1, fun q => .slice (some ⟨q.2, 0, none⟩) 1 1, fun q => [Row (some ⟨q.2, 0, none⟩) (rows [((q.1.1, 2, q.1.2) : Ad)])]⟩ rfl rfl rfl ?_ ?_
  ·intro y hy; intro w1; refine q7 _ rfl rfl (fun _ => T.K1 ..) fun gS => ?_; refine d4 ?_; refine E5 (rows [((y.1, 2, y.2) : Ad)]) (List.prefix_refl _) ?_; exact J4 (y, gS) hy rfl ⟨m0, trivial⟩
  refine iZ ⟨(Int × Int) × OutC × Hp, fun q => (fun y : Int × Int => numS (at_ w 0) = some y.1 ∧ numS (at_ w 2) = some y.2) q.1 ∧ Grow T.G9 3 q.2.1.1 (xs.length + 1) q.2.1.2 (rows (xs ++ [((q.1.1, 2, q.1.2) : Ad)])) q.2.2, fun q => .slice q.2.1.1 (xs.length + 1) q.2.1.2, fun _ => [], fun q => q.2.2⟩ rfl rfl rfl ?_ ?_
  ·intro q hq1; obtain ⟨y, g9⟩ := q; simp only at hq1; intro w1; refine O7 (xs.length + 1) (rows (xs ++ [((y.1, 2, y.2) : Ad)])) T.O4 rfl rfl rfl g2 (hp' := []) (by rw [List.append_nil]) (Src.row (news := rows [((y.1, 2, y.2) : Ad)]) (m := 1) m0 rfl (K5 _) (by decide)) rfl (D2 xs [((y.1, 2, y.2) : Ad)]).symm (by unfold maxLen; omega) (by omega) fun A' c' og' hG' => ?_; refine d4 ?_; exact O8 (y, (A', c'), og') ⟨hq1, hG'⟩ (fun _ => rfl) (List.sublist_append_left _ _) trivial
  refine D1 ⟨⟨rfl, rfl⟩, ?_⟩; intro _ _ _ _ _ _ _ _ q hq; obtain ⟨⟨z1, z2⟩, ⟨pA, pc⟩, og9⟩ := q; obtain ⟨⟨hz1, hz2⟩, hG9⟩ := hq; simp only at hz1 hz2 hG9; refine p9 rfl rfl ?_
  first | refine a9 ⟨_, 7, none⟩ rfl rfl T.l4 rfl ?_ | refine a9 _ rfl rfl T.l4 rfl ?_
  refine z9 rfl rfl List.perm_middle T.K2 (by rfl) (by rfl) ?_; refine d4 (y6 ?_); refine R8 (List.Perm.cons _ (List.perm_append_comm (l₁ := og9))) ?_; refine dq3 ?_; exact ret0n (⟨(c, ss, xs ++ [(z1, 2, z2)]), o1, h1, (pA, pc), og9⟩ : Tk) rfl rfl rfl ⟨tk2y hi0 hi1 (by rw [advS, if_neg hw2, if_neg hcd, if_neg (by rw [hf]; decide)]; exact wJ hz1 hz2), ⟨g1, by show Grow _ _ _ (xs ++ [_]).length _ _ _; rw [lenA]; exact hG9⟩⟩ (by show List.Sublist (tkO gs c (o1, ss.length) ((pA, pc), (xs ++ [_]).length) :: (h1 ++ og9)) _; rw [lenA]; exact .refl _) trivial
 intro hg2; have hg2' := hg2; try simp at hg2'
 have hw3 : ¬ w.length = 3 := by simp at hg2; omega
 refine t4 rfl rfl rfl rfl rfl hg2 (t4 rfl rfl rfl rfl rfl hg2 (t4 rfl rfl rfl rfl rfl hg2 (t4 rfl rfl rfl rfl rfl hg2 ?_))); refine p_f rfl rfl (bf2 hg2) rfl ?_; refine d5 rfl (d8 (c_f rfl rfl ?_)); have hcd : ¬ (w.length = 3 ∧ at_ w 1 = cardS) := fun h9 => absurd h9.1 hw3; refine i8 (c7 rfl ?_); refine q7 _ rfl rfl (fun _ => T.iz6 ..) fun gn => ?_; refine C6 (rows nmB) (List.prefix_refl _) ?_; refine H8 F.dN rfl rfl (Y4 w nmB (by omega) (by decide)) (hpR := tkO gs c (o1, ss.length) (o2, xs.length) :: (h1 ++ h2)) (.refl _) mC (fun _ hy => by (repeat (first | refine E7 ?_ | refine I4 ?_)); exact K9 ((c, (o1, ss.length), (o2, xs.length)) : Dead) rfl rfl (tk2 hi0 hi1 (by rw [advS, if_neg hw2, if_neg hcd, if_pos hy])) (.cons_cons _ nil_sb) trivial) ?_; refine fun _ hf => ?_; have h3 : w.length = 3 := rG hf; refine d8 ?_; refine lD (h2) (tkO gs c (o1, ss.length) (o2, xs.length) :: h1) (List.perm_append_comm (l₁ := _ :: h1) (l₂ := h2)) 16 [15] [8, 12] (fun ch => ch = [{ v := oddV, recovered := false }] ∧ takeW i w (c, ss, xs) = none) mixed (by decide) (by decide) (by decide) (by decide) rfl rfl (fun ch hch => by obtain ⟨rfl, hno⟩ := hch; (repeat (first | refine E7 ?_ | refine I4 ?_)); exact K9 ((c, (o1, ss.length), (o2, xs.length)) : Dead) rfl rfl hno (by first | exact .cons_cons _ nil_sb | exact List.Sublist.trans (.cons_cons _ nil_sb) (List.sublist_append_right _ _)) trivial) ?_; refine l9 (fun w1 => c7 rfl (q_z rfl)) (l9 (fun w1 => c7 rfl (q_z rfl)) (l9 (fun w1 => p9 rfl rfl (q_z rfl)) ?_))
 apply m8 _ rfl rfl rfl
 ·intro w1
  first | refine a9 ⟨_, 7, none⟩ rfl rfl T.l4 rfl ?_ | refine a9 _ rfl rfl T.l4 rfl ?_
  refine d4 ?_; exact k4 rfl
 refine l9 (fun w1 => b8 (v := .slice o2.1 xs.length o2.2) rfl T.d9 rfl (j3 m0 rfl) (q_z rfl)) (l9 (fun w1 => c7 rfl (q_z rfl)) (l9 (fun w1 => v6 (α := Str) w 0 rfl T.H9 T.D0 rfl rfl rfl (List.mem_append_right _ m1) rfl (by omega) (by decide) (q_z rfl)) (l9 (fun w1 => b8 (v := str (at_ w 0)) rfl T.m5 rfl (d6 (List.mem_append_right _ m1) (c9 (by omega) rfl)) (q_z rfl)) ?_))); refine aQ ⟨Int, fun z => numS (at_ w 0) = some z, fun z => int z, fun _ => []⟩ rfl rfl rfl ?_ ?_
 ·intro w1; refine H8 F.C8 rfl rfl (z8 (at_ w 0) (by have := hwl (at_ w 0) (bP _ (by omega)); omega)) (hpR := []) (.refl _) trivial (fun _ hy => by refine V2 ?_; exact ⟨by simp, rfl, tk2 hi0 hi1 (by rw [advS, if_neg hw2, if_neg hcd, if_neg (by rw [hf]; decide)]; exact yY (by simp) hy)⟩) ?_; refine fun z hz => ?_; refine d4 ?_; exact O9 z hz rfl trivial
 refine l9 (fun w1 => c7 rfl (q_z rfl)) (l9 (fun w1 => v6 (α := Str) w 2 rfl T.H9 T.D0 rfl rfl rfl (List.mem_append_right _ m1) rfl (by omega) (by decide) (q_z rfl)) (l9 (fun w1 => b8 (v := str (at_ w 2)) rfl T.m5 rfl (d6 (List.mem_append_right _ m1) (c9 (by omega) rfl)) (q_z rfl)) ?_)); refine aQ ⟨Int, fun z => numS (at_ w 2) = some z, fun z => int z, fun _ => []⟩ rfl rfl rfl ?_ ?_
 ·intro w1; refine H8 F.C8 rfl rfl (z8 (at_ w 2) (by have := hwl (at_ w 2) (bP _ (by omega)); omega)) (hpR := []) (.refl _) trivial (fun _ hy => by refine V2 ?_; exact ⟨by simp, rfl, tk2 hi0 hi1 (by rw [advS, if_neg hw2, if_neg hcd, if_neg (by rw [hf]; decide)]; exact yY (by simp) hy)⟩) ?_; refine fun z hz => ?_; refine d4 ?_; exact O9 z hz rfl trivial
 refine X9 ⟨Int × Int, fun y => numS (at_ w 0) = some y.1 ∧ numS (at_ w 2) = some y.2, fun y => .agg #[int y.1, int 2, int y.2], fun _ => []⟩ rfl rfl rfl ?_ ?_
 ·intro z1 q1 z2 q2; intro w1; refine u4 _ rfl rfl (fun _ => T.D3 ..) ?_; refine d4 ?_; exact J4 (z1, z2) ⟨q1, q2⟩ rfl trivial
 refine X9 ⟨(Int × Int) × Nat, fun q => (fun y : Int × Int => numS (at_ w 0) = some y.1 ∧ numS (at_ w 2) = some y.2) q.1, fun q => .slice (some ⟨q.2, 0, none⟩) 1 1, fun q => [Row (some ⟨q.2, 0, none⟩) (rows [((q.1.1, 2, q.1.2) : Ad)])]⟩ rfl rfl rfl ?_ ?_
 ·intro y hy; intro w1; refine q7 _ rfl rfl (fun _ => T.K1 ..) fun gS => ?_; refine d4 ?_; refine E5 (rows [((y.1, 2, y.2) : Ad)]) (List.prefix_refl _) ?_; exact J4 (y, gS) hy rfl ⟨m0, trivial⟩
 refine iZ ⟨(Int × Int) × OutC × Hp, fun q => (fun y : Int × Int => numS (at_ w 0) = some y.1 ∧ numS (at_ w 2) = some y.2) q.1 ∧ Grow T.G9 3 q.2.1.1 (xs.length + 1) q.2.1.2 (rows (xs ++ [((q.1.1, 2, q.1.2) : Ad)])) q.2.2, fun q => .slice q.2.1.1 (xs.length + 1) q.2.1.2, fun _ => [], fun q => q.2.2⟩ rfl rfl rfl ?_ ?_
 ·intro q hq1; obtain ⟨y, g9⟩ := q; simp only at hq1; intro w1; refine O7 (xs.length + 1) (rows (xs ++ [((y.1, 2, y.2) : Ad)])) T.O4 rfl rfl rfl g2 (hp' := []) (by rw [List.append_nil]) (Src.row (news := rows [((y.1, 2, y.2) : Ad)]) (m := 1) m0 rfl (K5 _) (by decide)) rfl (D2 xs [((y.1, 2, y.2) : Ad)]).symm (by unfold maxLen; omega) (by omega) fun A' c' og' hG' => ?_; refine d4 ?_; exact O8 (y, (A', c'), og') ⟨hq1, hG'⟩ (fun _ => rfl) (List.sublist_append_left _ _) trivial
 refine D1 ⟨⟨rfl, rfl⟩, ?_⟩; intro _ _ _ _ _ _ _ _ q hq; obtain ⟨⟨z1, z2⟩, ⟨pA, pc⟩, og9⟩ := q; obtain ⟨⟨hz1, hz2⟩, hG9⟩ := hq; simp only at hz1 hz2 hG9; refine p9 rfl rfl ?_
 first | refine a9 ⟨_, 7, none⟩ rfl rfl T.l4 rfl ?_ | refine a9 _ rfl rfl T.l4 rfl ?_
 refine z9 rfl rfl List.perm_middle T.K2 (by rfl) (by rfl) ?_; refine d4 (y6 ?_); refine R8 (List.Perm.cons _ (List.perm_append_comm (l₁ := og9))) ?_; refine dq3 ?_; exact ret0n (⟨(c, ss, xs ++ [(z1, 2, z2)]), o1, h1, (pA, pc), og9⟩ : Tk) rfl rfl rfl ⟨tk2y hi0 hi1 (by rw [advS, if_neg hw2, if_neg hcd, if_neg (by rw [hf]; decide)]; exact wJ hz1 hz2), ⟨g1, by show Grow _ _ _ (xs ++ [_]).length _ _ _; rw [lenA]; exact hG9⟩⟩ (by show List.Sublist (tkO gs c (o1, ss.length) ((pA, pc), (xs ++ [_]).length) :: (h1 ++ og9)) _; rw [lenA]; exact .refl _) trivial
end Go.Proofs.YtcdopfjiadifhaaGreatDoor
end
section
namespace Go.Proofs.YtcdopfjiadifhaaGreatDoor
open Go Go.W
set_option maxRecDepth 20000
attribute [local irreducible] HL HC HQ HB Row Rows2 Blk Facts
def parseF : Nat → Nat → Str → Nat → SaT → Option SaT × Nat
  | 0, i, s, p, st => (none, p)
  | n + 1, i, s, p, st => if (cutB 10 s).2.2 = false then (none, p) else
    if 1 < i ∧ (cutB 10 s).1 = soldS then (if (cutB 10 s).2.1 = [] then (some st, p) else (none, p + ((cutB 10 s).1.length + 1))) else
    match takeW i (splitB 32 (cutB 10 s).1) st with
    | none => (none, p)
    | some st' => parseF n (i + 1) (cutB 10 s).2.1 (p + ((cutB 10 s).1.length + 1)) st'
def zeroSa : SaT := ((0, 0, 0, 0, 0, 0), [], [])
def parseR (x : Str) : Option SaT × Nat := parseF (x.length + 1) 0 x 0 zeroSa
def pSa (r : Option SaT × Nat) : SaT := r.1.getD zeroSa
def pAt (r : Option SaT × Nat) : Int := match r.1 with
  | some _ => -1
  | none => r.2
theorem cq6 {i : Nat} {line : Str} {s s' : SaT} (h : takeW i (splitB 32 line) s = some s') : s'.2.1.length ≤ s.2.1.length + (line.length + 1) ∧ s'.2.2.length ≤ s.2.2.length + (line.length + 1) := by
  have hw := dS 32 line; have hc : line.count 32 ≤ line.length := List.count_le_length; unfold takeW at h
  split at h
  · split at h
    · cases h; exact ⟨by simp only; omega, by simp only; omega⟩
    cases h
  split at h
  · split at h
    · rename_i l hl
      cases h
      unfold stS at hl
      split at hl
      · cases hl
      have := zO hl; rw [List.length_drop] at this; exact ⟨by simp only [List.length_append]; omega, by simp only; omega⟩
    cases h
  split at h
  · cases h; exact ⟨by simp only; omega, by simp only [List.length_append, List.length_cons, List.length_nil]; omega⟩
  cases h
theorem qz6 {α : Type} (a b g : α) (l : List α) : ((a :: l) ++ [b, g]).Perm ([b, a, g] ++ l) := by
  have h1 : ((a :: l) ++ [b, g]).Perm ([b, g] ++ (a :: l)) := List.perm_append_comm; refine h1.trans ?_; show (b :: g :: a :: l).Perm (b :: a :: g :: l); exact (List.Perm.swap _ _ _).cons _
theorem tj4 {α : Type} (a b g : α) (l1 l2 : List α) : (a :: b :: g :: (l1 ++ l2)).Perm (l1 ++ (l2 ++ [a, b, g])) := by
  have h1 : ([a, b, g] ++ (l1 ++ l2)).Perm ((l1 ++ l2) ++ [a, b, g]) := List.perm_append_comm
  simpa using h1
section
variable {c : Cx} {fr : Fr} {hp : Hp} {L : List Fact}
theorem aK {fn : Func} {t u : Tmp} {ty tz e : TypeId} {g n : Nat} {cs : Array Value} {fz : Nat × Nat} {q : Addr} {v2 : Value} (hres : fn.results = #[.cell t ty, .cell u tz]) (hv : lk fr t = some (.pointer (c8 g))) (hv2 : lk fr u = some (.pointer (some q))) (ht : IsR c.P ty) (hz : Sz c.P ty n) (hn : cs.size = n)
    (hm : (g, Obj.cells cs e fz) ∈ hp) (hz2 : NoR c.P tz) (h2 : Cell c.b hp L q v2) (a : Act) (w : World) (hfr : ∀ t v, lk fr t = some v → a.tmps.getD t undef = v) (hw : WI c.b w hp L) : (results fn a.tmps).run c.P w = .ok (.tuple #[.agg cs, v2]) w := by
  obtain ⟨dd, ht, hr⟩ := ht; have h1 := hw.own _ hm; simp only at h1
  have hl : (loadVar ty ⟨g, 0, none⟩).run c.P w = .ok (.agg cs) w := by
    have hagg : (isAgg ty).run c.P w = .ok true w := by
      unfold isAgg; rw [Sem.run_bind, run_underlying ht w]
      cases dd <;> simp_all [TypeDesc.isRow]
    have hc := run_loadCells_list (P := c.P) w ⟨g, 0, none⟩ cs.toList (fun j u hu => by rw [X8, Nat.zero_add]; simp at hu; simp [World.cell?, h1, hu]); have hs := O6 hz w; simp only [loadVar, Sem.run_bind, hagg, Result.andThen_ok, if_true, hs, ← hn]; have e : cs.size = cs.toList.length := by simp
    rw [e, hc]
    simp
  have hload : (loadVar tz q).run c.P w = .ok v2 w := by
    obtain ⟨de, hte, hre⟩ := hz2
    have hagg : (isAgg tz).run c.P w = .ok false w := by
      unfold isAgg; rw [Sem.run_bind, run_underlying hte w]
      cases de <;> simp_all [TypeDesc.isRow]
    simp only [loadVar, Sem.run_bind, hagg, Result.andThen_ok, Bool.false_eq_true, if_false, run_load, h2 w hw]
  have h5 : a.tmps[t]?.getD undef = .pointer (c8 g) := by simpa using hfr _ _ hv
  have h6 : a.tmps[u]?.getD undef = .pointer (some q) := by simpa using hfr _ _ hv2
  unfold results; rw [hres]
  simp [h5, h6, asAddr, hl, hload]
end
theorem iX (gb gs ga : Nat) (b a : Int) (c : Ch) (o1 o2 : SlS) : MeetsR Tryz.prog F.dM [.pointer (c8 gb), .pointer (c8 gs), .pointer (c8 ga)] (.panicking [{ v := oddV, recovered := false }]) (.panicking [{ v := oddV, recovered := true }]) { hpI := [(gb, Obj.cells #[int b] T.int (0, 0)), tkO gs c o1 o2, (ga, Obj.cells #[int a] T.int (0, 0))], val := fun _ : Unit => .tuple #[], hpO := fun _ => [(gb, Obj.cells #[int b] T.int (0, 0)), tkO gs (0, 0, 0, 0, 0, 0) ((none, 0), 0) ((none, 0), 0), (ga, Obj.cells #[int b] T.int (0, 0))] } := by
 refine xF (qz3 _) F.rO rfl r6 rfl (fun _ _ => rfl) (fun _ _ => rfl) fun w0 => ?_; refine d5 rfl (d8 ?_); refine i8 (c7 rfl ?_); refine m7 (.bool true) rfl rfl rfl (fun _ => by kernel_rfl) (fun _ => by kernel_rfl) ?_; refine d8 ?_; refine c_t rfl (by first | rfl | assumption | exact bt1 (by assumption) | exact bt2 (by assumption)) ?_; refine j4 (i8 (c7 rfl ?_)); refine sB rfl ⟨_, Tryz.underlying130, rfl⟩ rfl ?_; refine c7 rfl (p8 rfl rfl rfl (p8 rfl rfl rfl ?_)); refine y9 rfl (fun _ => T.mx8 _) fun go => ?_; refine w4 (cs := #[]) rfl rfl (.refl _) T.lj6 (by rfl) (by rfl) ?_; refine d5 rfl (k8 (c7 rfl (M7 rfl rfl (d8 ?_)))); refine c_f rfl (by first | rfl | assumption | exact bf1 (by assumption) | exact bf2 (by assumption)) ?_; refine k6 (j6 (j8 ?_)); refine u4 _ rfl rfl (fun _ => T.cE ..) (b8 (v := int b) rfl T.b9 rfl (j0 m1 rfl) (w4 (cs := tkC (0, 0, 0, 0, 0, 0) ((none, 0), 0) ((none, 0), 0)) rfl rfl (List.perm_append_comm (l₁ := [_, _]) (l₂ := [_, _])) T.j9 (by rfl) (by rfl) (z9 rfl rfl (.swap _ _ _) T.w9 (by rfl) (by rfl) ?_))); refine d4 ?_; refine R8 (List.reverse_perm _).symm ?_; exact ret0n () rfl rfl rfl trivial (.cons_cons _ (.cons _ (.refl _))) trivial
theorem nx6 (gb gs ga : Nat) : MeetsR Tryz.prog F.dM [.pointer (c8 gb), .pointer (c8 gs), .pointer (c8 ga)] .returning .returning { val := fun _ : Unit => .tuple #[] } := by
 refine xF sz0 F.rO rfl r6 rfl (fun _ _ => rfl) (fun _ _ => rfl) fun w0 => ?_; refine d5 rfl (d8 ?_); refine i8 (c7 rfl ?_); refine m7 (.bool false) rfl rfl rfl (fun _ => by kernel_rfl) (fun _ => by kernel_rfl) ?_; refine d8 ?_; refine c_f rfl (by first | rfl | assumption | exact bf1 (by assumption) | exact bf2 (by assumption)) ?_; refine k6 ?_; exact ret0n () rfl rfl rfl trivial (.refl _) trivial
structure PaI (x : Str) (R : Option SaT × Nat) (n i p : Nat) (t : Tk) : Prop where
  fr : parseF n i (x.drop p) p t.s = R
  fn : (x.drop p).length < n
  fp : p ≤ x.length
  fk : t.ok
  fl1 : t.s.2.1.length ≤ p
  fl2 : t.s.2.2.length ≤ p
  fi : i ≤ p
theorem px8 {n i p : Nat} {s : Str} {st : SaT} {j : Nat} (hj : j < s.length) (hc : cutB 10 s = (s.take j, s.drop (j + 1), true)) : parseF (n + 1) i s p st = if 1 < i ∧ s.take j = soldS then (if s.drop (j + 1) = [] then (some st, p) else (none, p + (j + 1))) else
    match takeW i (splitB 32 (s.take j)) st with
    | none => (none, p)
    | some st' => parseF n (i + 1) (s.drop (j + 1)) (p + (j + 1)) st' := by
  have hl : (s.take j).length = j := by rw [List.length_take]; omega
  rw [parseF, hc, if_neg (by simp)]; simp only [hl]
set_option maxHeartbeats 4000000 in
theorem aj3 (x : Str) (hx : x.length ≤ 1000) : Meets Tryz.prog F.vL [str x] { val := fun y : OutC × OutC => .tuple #[.agg (tkC (pSa (parseR x)).1 (y.1, (pSa (parseR x)).2.1.length) (y.2, (pSa (parseR x)).2.2.length)), int (pAt (parseR x))], LO := fun y => [Row y.1.1 (rows (pSa (parseR x)).2.1), Row y.2.1 (rows (pSa (parseR x)).2.2)] } := by
 obtain ⟨R, hR⟩ : ∃ R, parseR x = R := ⟨_, rfl⟩; rw [hR]; refine jz4 F.W9 rfl r6 fun w0 => ?_; refine i8 ?_; refine y9 rfl (fun _ => T.H5 _) fun gs => ?_; refine y9 rfl (fun _ => T.kx6 _) fun ga => ?_; refine k8 ?_; refine y9 rfl (fun _ => T.kx6 _) fun gb => ?_; refine z9 rfl rfl (.refl _) T.w9 (by rfl) (by rfl) ?_; refine k8 (hY rfl rfl rfl ?_); refine r_defer (cap := [.pointer (c8 gb), .pointer (c8 gs), .pointer (c8 ga)]) rfl ?_; refine d8 (j4 (i8 (d5 rfl (d8 (k9 ?_))))); refine mS (hp' := [tkO gs (0, 0, 0, 0, 0, 0) ((none, 0), 0) ((none, 0), 0), (gb, Obj.cells #[int (0 : Nat)] T.int (0, 0)), (ga, Obj.cells #[int 0] T.int (0, 0))]) ((List.perm_append_comm (l₁ := [_, _]) (l₂ := [_])).trans p6) ?_; refine w3 (β := Nat × Nat × Nat × Tk) ⟨fun z => PaI x R z.1 z.2.1 z.2.2.1 z.2.2.2, fun z => [(0, str x), (2, .pointer (c8 gs)), (3, .pointer (c8 ga)), (4, .pointer (c8 gb)), (5, int z.2.1)], fun z => z.2.2.2.hp gs ++ [(gb, Obj.cells #[int z.2.2.1] T.int (0, 0)), (ga, Obj.cells #[int 0] T.int (0, 0))], fun _ => []⟩ (fun z => z.1) (x.length + 1, 0, 0, ⟨zeroSa, (none, 0), [], (none, 0), []⟩) ⟨hR, by show x.length < x.length + 1; omega, Nat.zero_le _, ⟨Grow.nil _ _, Grow.nil _ _⟩, Nat.le_refl _, Nat.le_refl _, Nat.le_refl _⟩ mC (.refl _) trivial fun z hz => ?_; obtain ⟨n, i, p, t⟩ := z; simp only at hz; obtain ⟨hr, hn, hp, hk, hl1, hl2, hip⟩ := hz; obtain ⟨n, rfl⟩ : ∃ n0, n = n0 + 1 := ⟨n - 1, by omega⟩; have hdl : (x.drop p).length = x.length - p := List.length_drop; have hcut := xQ 10 (x.drop p); refine j4 (k9 (i8 (c7 rfl ?_))); refine b8 (v := int p) rfl T.b9 rfl (j0 (List.mem_append_right (t.hp gs) m0) rfl) (qN (s := x) p rfl T.v8 rfl rfl rfl hp ?_); have hIx := kJ (x.drop p) 10; obtain ⟨q, hq⟩ : ∃ q, Lib.indexByte (x.drop p) 10 = q := ⟨_, rfl⟩; rw [hq] at hIx hcut; refine k5 F.qE rfl rfl (hIx) (hpR := t.hp gs ++ [(gb, Obj.cells #[int p] T.int (0, 0)), (ga, Obj.cells #[int 0] T.int (0, 0))]) (.refl _) trivial fun _ _ => ?_; refine d5 rfl (d8 (j4 (i8 (c7 rfl (B6 rfl rfl rfl (d8 ?_))))))
 first | refine m3 rfl (fun hb1 => ?_) (fun hb1 => ?_) | refine j7 rfl (fun hb1 => ?_) (fun hb1 => ?_)
 ·have hb1' := hb1; try simp at hb1'
  have hcf : (cutB 10 (x.drop p)).2.2 = false := by
    rcases hcut with ⟨_, h2, _⟩ | ⟨j, h1, _⟩
    · rw [h2]
    omega
  refine j8 ?_; refine u4 _ rfl rfl (fun _ => T.I6 ..) (cH rfl ⟨_, Tryz.underlying130, rfl⟩ rfl (aL rfl (fun _ => rfl) ?_))
  (repeat (first | refine E7 ?_ | refine I4 ?_))
  refine xS (iX gb gs ga p 0 t.s.1 (t.o1, t.s.2.1.length) (t.o2, t.s.2.2.length)) (.inr (.inr ⟨_, rfl, rfl⟩)) F.W9 F.S7 (.inr ⟨_, rfl⟩) rfl (hpR := t.h1 ++ t.h2) (qz6 _ _ _ _) trivial fun _ _ => ?_; obtain rfl : R = (none, p) := by rw [← hr, parseF, if_pos hcf]
  refine C3 (α := Int) (C3 (α := Ad) ?_); exact V1 ((none, 0), (none, 0)) (fun a w ha hw => aK (cs := tkC (0, 0, 0, 0, 0, 0) ((none, 0), 0) ((none, 0), 0)) (v2 := int (p : Nat)) rfl rfl rfl T.k7 T.j9 rfl m1 T.b9 (j0 m2 rfl) a w ha.at_ hw) rfl trivial nil_sb ⟨m1, m0, trivial⟩
 have hb1' := hb1; try simp at hb1'
 obtain ⟨j, hqj, hj, hc⟩ : ∃ j : Nat, q = j ∧ j < (x.drop p).length ∧ cutB 10 (x.drop p) = ((x.drop p).take j, (x.drop p).drop (j + 1), true) := by
   rcases hcut with ⟨h1, _⟩ | ⟨j, h1, h2, h3, _⟩
   · omega
   exact ⟨j, h1, h2, h3⟩
 subst hqj; rw [px8 hj hc] at hr; refine k6 (j6 (i8 (c7 rfl ?_))); refine b8 (v := int p) rfl T.b9 rfl (j0 (List.mem_append_right (t.hp gs) m0) rfl) (b8 (v := int p) rfl T.b9 rfl (j0 (List.mem_append_right (t.hp gs) m0) rfl) (c7 rfl (v4 ((p + j : Nat) : Int) rfl rfl rfl (by omega) r5 (qP (s := x) p (p + j) rfl T.v8 rfl rfl rfl rfl rfl (by omega) (by omega) ?_)))); rw [Nat.add_sub_cancel_left]; refine d5 rfl (d8 (j4 (i8 (c7 rfl (R0 rfl rfl rfl (c7 rfl ?_)))))); refine u6 rfl rfl ?_ ?_
 ·intro hg1; have hg1' := hg1; try simp at hg1'
  have hi1 : 1 < i := by simp at hg1; omega
  refine l3 rfl rfl hg1 (c7 rfl (l3 rfl rfl hg1 (hU rfl rfl rfl ?_))); refine p_t rfl rfl (bt1 hg1) rfl ?_; refine d8 ?_
  first | refine m3 rfl (fun hb2 => ?_) (fun hb2 => ?_) | refine j7 rfl (fun hb2 => ?_) (fun hb2 => ?_)
  ·have hb2' := hb2; try simp at hb2'
   have hsold : (x.drop p).take j = soldS := by assumption
   rw [if_pos ⟨hi1, hsold⟩] at hr; refine i8 ?_; refine b8 (v := int p) rfl T.b9 rfl (j0 (List.mem_append_right (t.hp gs) m0) rfl) (c7 rfl (v4 ((j + 1 : Nat) : Int) rfl rfl rfl (by omega) r5 (v4 ((p + (j + 1) : Nat) : Int) rfl rfl rfl (by omega) r5 (z9 rfl rfl (List.perm_middle (l₁ := t.hp gs) (l₂ := [_])) T.w9 (by rfl) (by rfl) ?_)))); refine d8 (u9 (U2 (iE rfl (D6 (u5 (j6 (j4 (i8 ?_)))))))); refine b8 (v := int (p + (j + 1) : Nat)) rfl T.b9 rfl (j0 m0 rfl) (c7 rfl (E6 rfl T.v8 rfl ?_)); refine B6 rfl rfl rfl (d8 ?_)
   first | refine m3 rfl (fun hb3 => ?_) (fun hb3 => ?_) | refine j7 rfl (fun hb3 => ?_) (fun hb3 => ?_)
   ·have hb3' := hb3; try simp at hb3'
    have hne : ¬ (x.drop p).drop (j + 1) = [] := fun h9 => by have := congrArg List.length h9; rw [List.length_drop, List.length_nil] at this; omega
    rw [if_neg hne] at hr; refine j8 ?_; refine u4 _ rfl rfl (fun _ => T.I6 ..) (cH rfl ⟨_, Tryz.underlying130, rfl⟩ rfl (aL rfl (fun _ => rfl) ?_))
    (repeat (first | refine E7 ?_ | refine I4 ?_))
    refine xS (iX gb gs ga (p + (j + 1) : Nat) 0 t.s.1 (t.o1, t.s.2.1.length) (t.o2, t.s.2.2.length)) (.inr (.inr ⟨_, rfl, rfl⟩)) F.W9 F.S7 (.inr ⟨_, rfl⟩) rfl (hpR := t.h1 ++ t.h2) ((List.perm_append_comm.cons _).cons _) trivial fun _ _ => ?_; obtain rfl : R = (none, (p + (j + 1))) := hr.symm; refine C3 (α := Int) (C3 (α := Ad) ?_); exact V1 ((none, 0), (none, 0)) (fun a w ha hw => aK (cs := tkC (0, 0, 0, 0, 0, 0) ((none, 0), 0) ((none, 0), 0)) (v2 := int ((p + (j + 1)) : Nat)) rfl rfl rfl T.k7 T.j9 rfl m1 T.b9 (j0 m2 rfl) a w ha.at_ hw) rfl trivial nil_sb ⟨m1, m0, trivial⟩
   have hb3' := hb3; try simp at hb3'
   have hnl : (x.drop p).drop (j + 1) = [] := List.drop_eq_nil_of_le (by omega); rw [if_pos hnl] at hr; refine k6 (j6 (i8 ?_)); refine B5 rfl T.k7 T.j9 rfl m1 (by rfl) (w4 (cs := tkC t.s.1 (t.o1, t.s.2.1.length) (t.o2, t.s.2.2.length)) rfl rfl (.swap _ _ _) T.j9 (by rfl) (by rfl) (z9 rfl rfl (List.perm_append_comm (l₁ := _ :: _ :: (t.h1 ++ t.h2)) (l₂ := [_])) T.w9 (by rfl) (by rfl) ?_)); refine d8 (l5 ?_); refine R8 (hp' := t.h1 ++ (t.h2 ++ [(ga, Obj.cells #[int (-1)] T.int (0, 0)), (gs, Obj.cells (tkC t.s.1 (t.o1, t.s.2.1.length) (t.o2, t.s.2.2.length)) T.A3 (0, 0)), (gb, Obj.cells #[int (p + (j + 1) : Nat)] T.int (0, 0))])) (tj4 _ _ _ _ _) ?_; refine xR hk.g1 (xR hk.g2 ?_); refine xS (nx6 gb gs ga) (.inl ⟨rfl, rfl⟩) F.W9 F.S7 (.inl rfl) rfl (hpR := [(ga, Obj.cells #[int (-1)] T.int (0, 0)), (gs, Obj.cells (tkC t.s.1 (t.o1, t.s.2.1.length) (t.o2, t.s.2.2.length)) T.A3 (0, 0)), (gb, Obj.cells #[int (p + (j + 1) : Nat)] T.int (0, 0))]) (.refl _) trivial fun _ _ => ?_; obtain rfl : R = (some t.s, p) := hr.symm; exact V1 (t.o1, t.o2) (fun a w ha hw => aK (cs := tkC t.s.1 (t.o1, t.s.2.1.length) (t.o2, t.s.2.2.length)) (v2 := int (-1)) rfl rfl rfl T.k7 T.j9 rfl m1 T.b9 (j0 m0 rfl) a w ha.at_ hw) rfl trivial nil_sb ⟨m1, m0, trivial⟩
  have hb2' := hb2; try simp at hb2'
  rw [if_neg (fun h9 => absurd h9.2 (by assumption))] at hr; refine k6 (j6 (i8 (c7 rfl (c7 rfl ?_))))
  refine H8 F.yD rfl rfl (nR gs t hk (by omega) (by omega) i ((x.drop p).take j) (by rw [List.length_take]; omega)) (hpR := [(gb, Obj.cells #[int p] T.int (0, 0)), (ga, Obj.cells #[int 0] T.int (0, 0))]) (.refl _) trivial (fun y hy => by
    (repeat (first | refine E7 ?_ | refine I4 ?_))
    refine xS (iX gb gs ga p 0 y.1 y.2.1 y.2.2) (.inr (.inr ⟨_, rfl, rfl⟩)) F.W9 F.S7 (.inr ⟨_, rfl⟩) rfl (hpR := []) (.swap _ _ _) trivial fun _ _ => ?_; obtain rfl : R = (none, p) := by rw [← hr, hy]
    refine C3 (α := Int) (C3 (α := Ad) ?_)
    exact V1 ((none, 0), (none, 0)) (fun a w ha hw => aK (cs := tkC (0, 0, 0, 0, 0, 0) ((none, 0), 0) ((none, 0), 0)) (v2 := int (p : Nat)) rfl rfl rfl T.k7 T.j9 rfl m1 T.b9 (j0 m2 rfl) a w ha.at_ hw) rfl trivial nil_sb ⟨m1, m0, trivial⟩) ?_
  refine fun t' ht' => ?_; obtain ⟨hy, hk'⟩ := ht'; obtain ⟨hn1, hn2⟩ := cq6 hy; rw [hy] at hr; simp only at hr; have hlj : ((x.drop p).take j).length = j := by rw [List.length_take]; omega
  refine d8 (j8 ?_); refine b8 (v := int p) rfl T.b9 rfl (j0 (List.mem_append_right (t'.hp gs) m0) rfl) (c7 rfl (v4 ((j + 1 : Nat) : Int) rfl rfl rfl (by omega) r5 (v4 ((p + (j + 1) : Nat) : Int) rfl rfl rfl (by omega) r5 (z9 rfl rfl (List.perm_middle (l₁ := t'.hp gs) (l₂ := [_])) T.w9 (by rfl) (by rfl) ?_)))); refine d4 (y6 (j6 (j8 (c7 rfl ?_)))); refine v4 ((i + 1 : Nat) : Int) rfl rfl rfl (by push_cast; rfl) r5 ?_; refine d5 rfl (d4 ?_); rw [List.drop_drop] at hr; refine R8 (List.perm_middle (l₁ := t'.hp gs) (l₂ := [_])).symm ?_; exact again _ (n, i + 1, p + (j + 1), t') ⟨hr, by show (x.drop (p + (j + 1))).length < n; rw [List.length_drop]; omega, by show p + (j + 1) ≤ x.length; omega, hk', by show t'.s.2.1.length ≤ p + (j + 1); omega, by show t'.s.2.2.length ≤ p + (j + 1); omega, by show i + 1 ≤ p + (j + 1); omega⟩ (by show n < n + 1; omega) mC (.refl _) trivial
 intro hg1; have hg1' := hg1; try simp at hg1'
 have hi1 : ¬ 1 < i := by simp at hg1; omega
 refine t4 rfl rfl rfl rfl rfl hg1 (t4 rfl rfl rfl rfl rfl hg1 ?_); refine p_f rfl rfl (bf2 hg1) rfl ?_; refine d8 (c_f rfl rfl ?_); rw [if_neg (fun h9 => hi1 h9.1)] at hr; refine k6 (j6 (i8 (c7 rfl (c7 rfl ?_))))
 refine H8 F.yD rfl rfl (nR gs t hk (by omega) (by omega) i ((x.drop p).take j) (by rw [List.length_take]; omega)) (hpR := [(gb, Obj.cells #[int p] T.int (0, 0)), (ga, Obj.cells #[int 0] T.int (0, 0))]) (.refl _) trivial (fun y hy => by
   (repeat (first | refine E7 ?_ | refine I4 ?_))
   refine xS (iX gb gs ga p 0 y.1 y.2.1 y.2.2) (.inr (.inr ⟨_, rfl, rfl⟩)) F.W9 F.S7 (.inr ⟨_, rfl⟩) rfl (hpR := []) (.swap _ _ _) trivial fun _ _ => ?_; obtain rfl : R = (none, p) := by rw [← hr, hy]
   refine C3 (α := Int) (C3 (α := Ad) ?_)
   exact V1 ((none, 0), (none, 0)) (fun a w ha hw => aK (cs := tkC (0, 0, 0, 0, 0, 0) ((none, 0), 0) ((none, 0), 0)) (v2 := int (p : Nat)) rfl rfl rfl T.k7 T.j9 rfl m1 T.b9 (j0 m2 rfl) a w ha.at_ hw) rfl trivial nil_sb ⟨m1, m0, trivial⟩) ?_
 refine fun t' ht' => ?_; obtain ⟨hy, hk'⟩ := ht'; obtain ⟨hn1, hn2⟩ := cq6 hy; rw [hy] at hr; simp only at hr; have hlj : ((x.drop p).take j).length = j := by rw [List.length_take]; omega
 refine d8 (j8 ?_); refine b8 (v := int p) rfl T.b9 rfl (j0 (List.mem_append_right (t'.hp gs) m0) rfl) (c7 rfl (v4 ((j + 1 : Nat) : Int) rfl rfl rfl (by omega) r5 (v4 ((p + (j + 1) : Nat) : Int) rfl rfl rfl (by omega) r5 (z9 rfl rfl (List.perm_middle (l₁ := t'.hp gs) (l₂ := [_])) T.w9 (by rfl) (by rfl) ?_)))); refine d4 (y6 (j6 (j8 (c7 rfl ?_)))); refine v4 ((i + 1 : Nat) : Int) rfl rfl rfl (by push_cast; rfl) r5 ?_; refine d5 rfl (d4 ?_); rw [List.drop_drop] at hr; refine R8 (List.perm_middle (l₁ := t'.hp gs) (l₂ := [_])).symm ?_; exact again _ (n, i + 1, p + (j + 1), t') ⟨hr, by show (x.drop (p + (j + 1))).length < n; rw [List.length_drop]; omega, by show p + (j + 1) ≤ x.length; omega, hk', by show t'.s.2.1.length ≤ p + (j + 1); omega, by show t'.s.2.2.length ≤ p + (j + 1); omega, by show i + 1 ≤ p + (j + 1); omega⟩ (by show n < n + 1; omega) mC (.refl _) trivial
end Go.Proofs.YtcdopfjiadifhaaGreatDoor
end
section
namespace Go.Proofs.YtcdopfjiadifhaaGreatDoor
open Go Go.W
set_option maxRecDepth 20000
attribute [local irreducible] HL HC HQ HB Row Rows2 Blk Facts
def chkT (s : SaT) : Int := chkS s.1 s.2.1 s.2.2
def readB (x : Str) : SaT × Nat × Int := if 250 < x.length then (zeroSa, 0, 10) else match parseR x with
  | (none, p) => (zeroSa, p, 2)
  | (some s, _) => if chkT s = 0 then (s, 0, 0) else (zeroSa, 0, chkT s)
theorem cz3 : ∀ (n i : Nat) (s : Str) (p : Nat) (st s' : SaT) (q : Nat), parseF n i s p st = (some s', q) → s'.2.1.length ≤ st.2.1.length + s.length ∧ s'.2.2.length ≤ st.2.2.length + s.length
  | 0, i, s, p, st, s', q, h => by rw [parseF] at h; cases h
  | n + 1, i, s, p, st, s', q, h => by
    rcases xQ 10 s with ⟨_, h1, _⟩ | ⟨j, _, hj, hc, _⟩
    · rw [parseF, h1, if_pos rfl] at h; cases h
    rw [px8 hj hc] at h
    split at h
    · split at h
      · cases h; exact ⟨Nat.le_add_right _ _, Nat.le_add_right _ _⟩
      cases h
    split at h
    · cases h
    rename_i st' ht
    obtain ⟨h1, h2⟩ := cq6 ht; obtain ⟨h3, h4⟩ := cz3 n _ _ _ _ _ _ h; rw [List.length_take] at h1 h2; rw [List.length_drop] at h3 h4
    omega
theorem iq6 {x : Str} {s : SaT} {p : Nat} (h : parseR x = (some s, p)) : s.2.1.length ≤ x.length ∧ s.2.2.length ≤ x.length := by
  have := cz3 _ _ _ _ _ _ _ h
  simpa [zeroSa] using this
section
variable {c : Cx} {fr : Fr} {hp : Hp} {L : List Fact}
theorem mE {fn : Func} {t u1 u2 : Tmp} {ty e : TypeId} {g n : Nat} {cs : Array Value} {fz : Nat × Nat} {v1 v2 : Value} (hres : fn.results = #[.cell t ty, .tmp u1, .tmp u2]) (hv : lk fr t = some (.pointer (c8 g))) (hv1 : lk fr u1 = some v1) (hv2 : lk fr u2 = some v2) (ht : IsR c.P ty) (hz : Sz c.P ty n) (hn : cs.size = n)
    (hm : (g, Obj.cells cs e fz) ∈ hp) (a : Act) (w : World) (hfr : ∀ t v, lk fr t = some v → a.tmps.getD t undef = v) (hw : WI c.b w hp L) : (results fn a.tmps).run c.P w = .ok (.tuple #[.agg cs, v1, v2]) w := by
  obtain ⟨dd, ht, hr⟩ := ht; have h1 := hw.own _ hm; simp only at h1
  have hl : (loadVar ty ⟨g, 0, none⟩).run c.P w = .ok (.agg cs) w := by
    have hagg : (isAgg ty).run c.P w = .ok true w := by
      unfold isAgg; rw [Sem.run_bind, run_underlying ht w]
      cases dd <;> simp_all [TypeDesc.isRow]
    have hc := run_loadCells_list (P := c.P) w ⟨g, 0, none⟩ cs.toList (fun j u hu => by rw [X8, Nat.zero_add]; simp at hu; simp [World.cell?, h1, hu]); have hs := O6 hz w; simp only [loadVar, Sem.run_bind, hagg, Result.andThen_ok, if_true, hs, ← hn]; have e : cs.size = cs.toList.length := by simp
    rw [e, hc]
    simp
  have h5 : a.tmps[t]?.getD undef = .pointer (c8 g) := by simpa using hfr _ _ hv
  have h6 : a.tmps[u1]?.getD undef = v1 := by simpa using hfr _ _ hv1
  have h7 : a.tmps[u2]?.getD undef = v2 := by simpa using hfr _ _ hv2
  unfold results; rw [hres]
  simp [h5, h6, h7, asAddr, hl]
end
theorem nW (x : Str) : Meets Tryz.prog F.aj9 [str x] { val := fun y : OutC × OutC => .tuple #[.agg (tkC (readB x).1.1 (y.1, (readB x).1.2.1.length) (y.2, (readB x).1.2.2.length)), int (readB x).2.1, int (readB x).2.2], LO := fun y => [Row y.1.1 (rows (readB x).1.2.1), Row y.2.1 (rows (readB x).1.2.2)] } := by
 refine i9 F.mx3 rfl r6 fun w0 => ?_; refine i8 ?_; refine y9 rfl (fun _ => T.H5 _) fun gR => ?_; refine d5 rfl (d5 rfl (d8 (j4 (i8 (c7 rfl ?_))))); refine E6 rfl T.v8 rfl ?_; refine R0 rfl rfl rfl (d8 ?_)
 first | refine m3 rfl (fun hb1 => ?_) (fun hb1 => ?_) | refine j7 rfl (fun hb1 => ?_) (fun hb1 => ?_)
 ·have hb1' := hb1; try simp at hb1'
  have hlong : 250 < x.length := by omega
  refine i8 ?_; refine u4 _ rfl rfl (fun _ => T.cE ..) (w4 (cs := tkC (0, 0, 0, 0, 0, 0) ((none, 0), 0) ((none, 0), 0)) rfl rfl (.refl _) T.j9 (by rfl) (by rfl) ?_); refine d5 rfl (d5 rfl (d8 (N4 ?_))); refine C3 (α := Int) (C3 (α := Ad) ?_); have hR : readB x = (zeroSa, 0, 10) := by rw [readB, if_pos hlong]
  rw [hR]; exact V1 ((none, 0), (none, 0)) (fun a w ha hw => mE (cs := tkC (0, 0, 0, 0, 0, 0) ((none, 0), 0) ((none, 0), 0)) (v1 := int (0 : Nat)) (v2 := int (10)) rfl rfl rfl rfl T.k7 T.j9 rfl m0 a w ha.at_ hw) rfl trivial nil_sb ⟨m1, m0, trivial⟩
 have hb1' := hb1; try simp at hb1'
 have hlong : ¬ 250 < x.length := by omega
 refine k6 (j6 (i8 (c7 rfl ?_))); obtain ⟨R, hR0⟩ : ∃ R, parseR x = R := ⟨_, rfl⟩; have hP := aj3 x (by omega); rw [hR0] at hP; refine k5 F.hj7 rfl rfl (hP) (hpR := [_]) (.refl _) trivial fun y _ => ?_; obtain ⟨o, p⟩ := R
 have hrb : readB x = match (o, p) with
     | (none, p) => (zeroSa, p, 2)
     | (some s, _) => if chkT s = 0 then (s, 0, 0) else (zeroSa, 0, chkT s) := by rw [readB, if_neg hlong, hR0]
 obtain ⟨s, hs⟩ : ∃ s, pSa (o, p) = s := ⟨_, rfl⟩; rw [hs]; obtain ⟨at1, hat⟩ : ∃ z, pAt (o, p) = z := ⟨_, rfl⟩; rw [hat]; refine c7 rfl (p8 rfl rfl rfl (p8 rfl rfl rfl ?_)); refine y9 rfl (fun _ => T.H5 _) fun gX => ?_; refine w4 (cs := tkC s.1 (y.1, s.2.1.length) (y.2, s.2.2.length)) rfl rfl (.refl _) T.j9 (by rfl) (by rfl) ?_; refine d5 rfl (d8 (j4 (i8 (c7 rfl (X2 rfl rfl rfl (d8 ?_))))))
 first | refine m3 rfl (fun hb2 => ?_) (fun hb2 => ?_) | refine j7 rfl (fun hb2 => ?_) (fun hb2 => ?_)
 ·have hb2' := hb2; try simp at hb2'
  obtain rfl : o = none := by
    rcases o with _ | s9
    · rfl
    exfalso; rw [← hat] at hb2; exact absurd hb2 (by show ¬ (0 : Int) ≤ -1; decide)
  obtain rfl : at1 = (p : Int) := hat.symm; refine i8 ?_; refine u4 _ rfl rfl (fun _ => T.cE ..) (c7 rfl (w4 (cs := tkC (0, 0, 0, 0, 0, 0) ((none, 0), 0) ((none, 0), 0)) rfl rfl (.swap _ _ _) T.j9 (by rfl) (by rfl) ?_)); refine d5 rfl (d5 rfl (d8 (N4 ?_))); refine C3 (α := Int) (C3 (α := Ad) ?_); have hR : readB x = (zeroSa, p, 2) := hrb; rw [hR]; exact V1 ((none, 0), (none, 0)) (fun a w ha hw => mE (cs := tkC (0, 0, 0, 0, 0, 0) ((none, 0), 0) ((none, 0), 0)) (v1 := int (p : Nat)) (v2 := int (2)) rfl rfl rfl rfl T.k7 T.j9 rfl m0 a w ha.at_ hw) rfl trivial nil_sb ⟨m1, m0, trivial⟩
 have hb2' := hb2; try simp at hb2'
 obtain ⟨s9, rfl⟩ : ∃ s9, o = some s9 := by
   rcases o with _ | s9
   · exfalso; rw [← hat] at hb2; exact hb2 (Int.natCast_nonneg p)
   exact ⟨s9, rfl⟩
 obtain rfl : s = s9 := hs.symm; refine k6 (j6 (j4 (i8 ?_))); refine B5 rfl T.k7 T.j9 rfl m0 (by rfl) ?_; have hln := iq6 (x := x) (s := s) (p := p) hR0; refine k5 F.cD rfl rfl (X0 s.1 ⟨y.1.1, y.1.2, s.2.1⟩ ⟨y.2.1, y.2.2, s.2.2⟩ (by show s.2.1.length ≤ 1000000; omega) (by show s.2.2.length ≤ 1000000; omega)) (hpR := [_, _]) (.refl _) mC fun _ _ => ?_; refine d5 rfl (k8 (c7 rfl (N5 rfl rfl rfl (d8 ?_))))
 first | refine m3 rfl (fun hb3 => ?_) (fun hb3 => ?_) | refine j7 rfl (fun hb3 => ?_) (fun hb3 => ?_)
 ·have hb3' := hb3; try simp at hb3'
  have hch : ¬ chkT s = 0 := hb3; refine i8 ?_; refine u4 _ rfl rfl (fun _ => T.cE ..) (c7 rfl (w4 (cs := tkC (0, 0, 0, 0, 0, 0) ((none, 0), 0) ((none, 0), 0)) rfl rfl (.swap _ _ _) T.j9 (by rfl) (by rfl) ?_)); refine d5 rfl (d5 rfl (d8 (N4 ?_))); refine C3 (α := Int) (C3 (α := Ad) ?_); have hR : readB x = (zeroSa, 0, chkT s) := by rw [hrb]; show (if chkT s = 0 then _ else _) = _; rw [if_neg hch]
  rw [hR]; exact V1 ((none, 0), (none, 0)) (fun a w ha hw => mE (cs := tkC (0, 0, 0, 0, 0, 0) ((none, 0), 0) ((none, 0), 0)) (v1 := int (0 : Nat)) (v2 := int (chkT s)) rfl rfl rfl rfl T.k7 T.j9 rfl m0 a w ha.at_ hw) rfl trivial nil_sb ⟨m1, m0, trivial⟩
 have hb3' := hb3; try simp at hb3'
 have hch : chkT s = 0 := Classical.not_not.1 hb3; refine k6 (j6 (i8 ?_)); refine B5 rfl T.k7 T.j9 rfl m0 (by rfl) (w4 (cs := tkC s.1 (y.1, s.2.1.length) (y.2, s.2.2.length)) rfl rfl (.swap _ _ _) T.j9 (by rfl) (by rfl) ?_); refine d5 rfl (d5 rfl (d8 (l5 ?_))); have hR : readB x = (s, 0, 0) := by rw [hrb]; show (if chkT s = 0 then _ else _) = _; rw [if_pos hch]
 rw [hR]; exact V1 y (fun a w ha hw => mE (cs := tkC s.1 (y.1, s.2.1.length) (y.2, s.2.2.length)) (v1 := int (0 : Nat)) (v2 := int 0) rfl rfl rfl rfl T.k7 T.j9 rfl m0 a w ha.at_ hw) rfl trivial nil_sb ⟨m0, m1, trivial⟩
end Go.Proofs.YtcdopfjiadifhaaGreatDoor
end
