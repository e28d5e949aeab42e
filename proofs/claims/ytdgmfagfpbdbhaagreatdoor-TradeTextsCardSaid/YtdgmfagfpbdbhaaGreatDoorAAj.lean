/- Texts. -/

import Derived.Test.YtdgmfagfpbdbhaaGreatDoorAAh
import Derived.Test.YtdgmfagfpbdbhaaGreatDoorAAi
set_option linter.unusedVariables false
set_option linter.unusedSimpArgs false
section
namespace Go.Proofs.YtdgmfagfpbdbhaaGreatDoor
open Go Go.W Tryz T F
set_option maxRecDepth 20000
attribute [local irreducible] HL HC HQ HB Row Rows2 Blk Facts
theorem jS {α : Type} [El α] (h1 : El.sz α = 1) {cur : Array Value} {l : List α} {i q : Nat} {v : Value} (h : cur.toList.take (l.length * 1) = rows l) (hi : i < l.length) (hq : q = i) (hv : El.cells (l.getD i default) = [v]) : cur[q]? = some v := by
  subst hq; have h2 := b4 hi (v := v) (by rw [hv]; rfl); rw [h1] at h2; rw [← h, List.getElem?_take, if_pos (by omega), Nat.mul_one] at h2; rw [← Array.getElem?_toList]; exact h2
theorem aq8 {α : Type} [El α] (h1 : El.sz α = 1) {cur : Array Value} {l : List α} {k : Nat} {v : Value} {a : α} (hv : El.cells a = [v]) (h : cur.toList.take (l.length * 1) = rows l) : (cur.setIfInBounds k v).toList.take ((l.set k a).length * 1) = rows (l.set k a) := by
  rw [Array.toList_setIfInBounds, List.length_set, List.take_set, h, uT h1 v a hv]
theorem dq2 {α : Type} [El α] (h1 : El.sz α = 1) {e : TypeId} {g cap : Nat} {cur : Array Value} {l : List α} (h3 : l.length ≤ cap) (h4 : cap ≤ maxLen) (h5 : cur.size = cap * 1) (h6 : cur.toList.take (l.length * 1) = rows l) : Grow e 1 (d9 g) l.length cap (rows l) [(g, Obj.cells cur e (0, 0))] :=
  ⟨by rw [R6, h1], .inr ⟨g, cur, rfl, rfl, h3, h4, h5, h6⟩⟩
abbrev wat (l : List Str) (i : Nat) : Str := l.getD i default
abbrev wle (a b : Str) : Prop := ¬ b < a
theorem lx6 {a b c : Str} (h1 : wle a b) (h2 : wle b c) : wle a c := fun h => by
  rcases Classical.em (b < a) with h3 | h3
  · exact h1 h3
  rcases Classical.em (a < b) with h4 | h4
  · exact h2 (List.lt_trans h h4)
  rw [hj6 h4 h3] at h; exact h2 h
theorem lx7 {a b : Str} (h : a < b) : wle a b := fun h2 => uS a (List.lt_trans h h2)
def srtTo (l : List Str) (m : Nat) : Prop := ∀ p q, p < q → q < m → wle (wat l p) (wat l q)
structure InsOK (l : List Str) (i j : Nat) : Prop where
  o : ∀ p q, p < q → q ≤ i → ¬ p = j → ¬ q = j → wle (wat l p) (wat l q)
  a : ∀ q, j < q → q ≤ i → wle (wat l j) (wat l q)
theorem gz0 {l : List Str} {i j : Nat} {v : Str} (hi : i < l.length) : wat (l.set i v) j = if i = j then v else wat l j := by
  unfold wat; rw [List.getD_eq_getElem?_getD, List.getD_eq_getElem?_getD, List.getElem?_set]
  split
  · rfl
  rfl
def swp (l : List Str) (j : Nat) : List Str := (l.set (j + 1) (wat l j)).set j (wat l (j + 1))
theorem mz9 {l : List Str} {j : Nat} (hj : j + 1 < l.length) : (swp l j).Perm l := by
  unfold swp wat; rw [B8 hj, B8 (show j < l.length by omega)]; exact List.set_set_perm hj (by omega)
theorem gz8 {l : List Str} {j k : Nat} (hj : j + 1 < l.length) : wat (swp l j) k = if k = j then wat l (j + 1) else if k = j + 1 then wat l j else wat l k := by
  unfold swp; rw [gz0 (by simp; omega), gz0 (by omega)]
  by_cases h1 : k = j
  · rw [if_pos h1.symm, if_pos h1]
  rw [if_neg (fun e => h1 e.symm), if_neg h1]
  by_cases h2 : k = j + 1
  · rw [if_pos h2.symm, if_pos h2]
  rw [if_neg (fun e => h2 e.symm), if_neg h2]
theorem InsOK.start {l : List Str} {i : Nat} (h : srtTo l i) : InsOK l i i := ⟨fun p q h1 h2 h3 h4 => h p q h1 (by omega), fun q h1 h2 => by omega⟩
theorem InsOK.swap {l : List Str} {i j : Nat} (h : InsOK l i (j + 1)) (hi : i < l.length) (hj : j + 1 ≤ i) (hlt : wat l (j + 1) < wat l j) : InsOK (swp l j) i j := by
  have hj2 : j + 1 < l.length := by omega
  refine ⟨fun p q h1 h2 h3 h4 => ?_, fun q h1 h2 => ?_⟩
  · rw [gz8 hj2, gz8 hj2, if_neg h3, if_neg h4]
    by_cases hp : p = j + 1
    · rw [if_pos hp, if_neg (by omega)]
      exact h.o j q (by omega) h2 (by omega) (by omega)
    rw [if_neg hp]
    by_cases hq : q = j + 1
    · rw [if_pos hq]
      exact h.o p j (by omega) (by omega) (by omega) (by omega)
    rw [if_neg hq]; exact h.o p q h1 h2 hp hq
  rw [gz8 hj2, gz8 hj2, if_pos rfl, if_neg (by omega)]
  by_cases hq : q = j + 1
  · rw [if_pos hq]; exact lx7 hlt
  rw [if_neg hq]; exact h.a q (by omega) h2
theorem InsOK.done {l : List Str} {i j : Nat} (h : InsOK l i j) (hj : j ≤ i) (he : ∀ k, j = k + 1 → ¬ wat l j < wat l k) : srtTo l (i + 1) := by
  intro p q h1 h2
  by_cases hp : p = j
  · subst hp; exact h.a q h1 (by omega)
  by_cases hq : q = j
  · subst hq
    obtain ⟨k, rfl⟩ : ∃ k, q = k + 1 := ⟨q - 1, by omega⟩; have h3 : wle (wat l k) (wat l (k + 1)) := he k rfl
    by_cases hpk : p = k
    · subst hpk; exact h3
    exact lx6 (h.o p k (by omega) (by omega) hp (by omega)) h3
  exact h.o p q h1 (by omega) hp hq
abbrev SrtW (ws l : List Str) : Prop := l.Perm ws ∧ srtTo l l.length
abbrev GrowS (A : Option Addr) (cap : Nat) (l : List Str) (og : Hp) : Prop := Grow H2 1 A l.length cap (rows l) og
abbrev cmpF : Value := .func (.func W7) #[] #[]
set_option maxHeartbeats 1000000 in
theorem X8 {A : Option Addr} {cap : Nat} (ws : List Str) (og : Hp) (hG : GrowS A cap ws og) (hn : ws.length ≤ 1000000) :
    Meets prog K3 [.slice A ws.length cap, int (0 : Nat), int ws.length, cmpF] { hpI := og, inv := fun x : List Str × Hp => SrtW ws x.1 ∧ GrowS A cap x.1 x.2, val := fun _ => .tuple #[], hpO := fun x => x.2 } := by
 refine j3 Y8 rfl v8 fun w0 => ?_; refine i4 (b6 rfl ?_); refine t5 ((1 : Nat) : Int) rfl rfl rfl (by rfl) q6 ?_; refine c5 rfl (c8 (j5 ?_)); refine u6 (β := Nat × List Str × Hp) ⟨fun x => 1 ≤ x.1 ∧ x.2.1.Perm ws ∧ srtTo x.2.1 x.1 ∧ GrowS A cap x.2.1 x.2.2, fun x => [(0, .slice A ws.length cap), (1, int (0 : Nat)), (2, int ws.length), (3, cmpF), (8, int x.1)], fun x => x.2.2, fun _ => []⟩ (fun x => ws.length - x.1) (1, ws, og) ⟨Nat.le_refl _, .refl _, fun p q h1 h2 => by omega, hG⟩ mC (by first | (rw [List.append_nil]; exact List.Sublist.refl _) | exact List.Sublist.refl _) tK fun x hx => ?_; clear hG; obtain ⟨i, l, og⟩ := x; obtain ⟨hi0, hP, hS, hG⟩ := hx; simp only at hi0 hP hS hG; have hll : l.length = ws.length := hP.length_eq; refine d6 (i4 (b6 rfl (b6 rfl (B5 rfl rfl rfl (c8 ?_)))))
 first | refine k9 rfl (fun hb1 => ?_) (fun hb1 => ?_) | refine j0 rfl (fun hb1 => ?_) (fun hb1 => ?_)
 ·have hb1' := hb1; try simp at hb1'
  have hi : i < ws.length := by omega
  obtain ⟨gd, cur, e1, e2, hnc, hcm, hcs, hct, _⟩ := hG.open_ (by omega); subst e1; subst e2; rw [hll] at hnc; refine i8 (i1 (d6 (j5 (i4 (b6 rfl (c5 rfl (c8 (j5 ?_)))))))); refine u6 (β := Nat × List Str × Array Value) ⟨fun x => x.1 ≤ i ∧ x.2.1.Perm ws ∧ InsOK x.2.1 i x.1 ∧ x.2.2.size = cap * 1 ∧ x.2.2.toList.take (x.2.1.length * 1) = rows x.2.1, fun x => [(0, .slice (d9 gd) ws.length cap), (1, int (0 : Nat)), (2, int ws.length), (3, cmpF), (8, int i), (9, int x.1)], fun x => [(gd, Obj.cells x.2.2 H2 (0, 0))], fun _ => []⟩ (fun x => x.1) (i, l, cur) ⟨Nat.le_refl _, hP, .start hS, hcs, hct⟩ mC (List.Sublist.refl _) tK fun x hx => ?_; clear hG hS hcs hct hP hll; obtain ⟨j, l, cur⟩ := x; obtain ⟨hj, hP, hS, hcs, hct⟩ := hx; simp only at hj hP hS hcs hct; have hll : l.length = ws.length := hP.length_eq; refine Y7 (C0 14 mixed (by decide) (by decide) rfl rfl (r7 rfl (r7 rfl (k8 (fun w1 => Q0 rfl rfl rfl (q_z rfl)) (r7 rfl ?_))))); refine L3 (t := 21) (want := true) rfl ?_ ?_
  ·intro hg1; have hg1' := hg1; try simp at hg1'
   obtain ⟨k, rfl⟩ : ∃ k, j = k + 1 := ⟨j - 1, by simp at hg1; omega⟩
   apply k7 _ rfl rfl rfl
   ·intro w1; refine k5 hg1 (b6 rfl (b5 ?_)); exact i5 rfl
   apply k7 _ rfl rfl rfl
   ·intro w1; refine k5 hg1 (b6 rfl (b5 ?_)); exact i5 rfl
   apply k7 _ rfl rfl rfl
   ·intro w1; refine k5 hg1 (b6 rfl (b5 ?_)); exact i5 rfl
   apply k7 _ rfl rfl rfl
   ·intro w1; refine k5 hg1 (B4 (k + 1) (k + 1) rfl j9 j6 rfl rfl rfl (by omega) (by omega) (b5 ?_)); exact i5 rfl
   apply k7 _ rfl rfl rfl
   ·intro w1; refine k5 hg1 (a7 (v := str (wat l (k + 1))) rfl a9 rfl (d8 mB (jS rfl hct (by omega) rfl rfl)) (b5 ?_)); exact i5 rfl
   apply k7 _ rfl rfl rfl
   ·intro w1; refine k5 hg1 (b6 rfl (b5 ?_)); exact i5 rfl
   apply k7 _ rfl rfl rfl
   ·intro w1; refine k5 hg1 (b6 rfl (b5 ?_)); exact i5 rfl
   apply k7 _ rfl rfl rfl
   ·intro w1; refine k5 hg1 (P9 (k : Int) rfl rfl rfl (by omega) q6 (b5 ?_)); exact i5 rfl
   apply k7 _ rfl rfl rfl
   ·intro w1; refine k5 hg1 (B4 (k) (k) rfl j9 j6 rfl rfl rfl (by omega) (by omega) (b5 ?_)); exact i5 rfl
   apply k7 _ rfl rfl rfl
   ·intro w1; refine k5 hg1 (a7 (v := str (wat l k)) rfl a9 rfl (d8 mB (jS rfl hct (by omega) rfl rfl)) (b5 ?_)); exact i5 rfl
   refine v7 ⟨rfl, ?_⟩; refine k5 hg1 (X3 (vs := [str (wat l (k + 1)), str (wat l k)]) (cap := []) tD rfl rfl rfl (sN (wat l (k + 1)) (wat l k)) t4 tK fun _ _ => ?_); refine k5 hg1 (B5 rfl rfl rfl ?_); refine p_t rfl rfl (bt1 hg1) rfl (c8 ?_)
   first | refine k9 rfl (fun hb2 => ?_) (fun hb2 => ?_) | refine j0 rfl (fun hb2 => ?_) (fun hb2 => ?_)
   ·have hb2' := hb2; try simp at hb2'
    refine i8 (i1 (d6 (j5 ?_))); refine H3 ([(gd, Obj.cells cur H2 (0, 0))]) ([]) t4 16 [15, 1000013, 1000009] mixed (by decide) (by decide) (by decide) rfl rfl rfl (r7 rfl (r7 rfl (r7 rfl (r7 rfl (k8 (fun w1 => P9 (k : Int) rfl rfl rfl (by omega) q6 (q_z rfl)) (r7 rfl (r7 rfl (k8 (fun w1 => P9 (k : Int) rfl rfl rfl (by omega) q6 (q_z rfl)) (k8 (fun w1 => B4 (k) (k) rfl j9 j6 rfl rfl rfl (by omega) (by omega) (q_z rfl)) ?_))))))))); refine hb_rd (str (wat l k)) rfl rfl rfl ?_ ?_
    ·intro w1; refine a7 (v := str (wat l k)) rfl a9 rfl (d8 mB (jS rfl hct (by omega) rfl rfl)) (b5 ?_); exact i5 rfl
    refine r7 rfl (r7 rfl (k8 (fun w1 => B4 (k + 1) (k + 1) rfl j9 j6 rfl rfl rfl (by omega) (by omega) (q_z rfl)) ?_)); refine hb_rd (str (wat l (k + 1))) rfl rfl rfl ?_ ?_
    ·intro w1; refine a7 (v := str (wat l (k + 1))) rfl a9 rfl (d8 mB (jS rfl hct (by omega) rfl rfl)) (b5 ?_); exact i5 rfl
    refine k8 (fun w1 => B4 (k + 1) (k + 1) rfl j9 j6 rfl rfl rfl (by omega) (by omega) (q_z rfl)) ?_; refine nF ⟨Unit, fun _ => True, fun _ => undef, fun _ => [], fun _ => [(gd, Obj.cells (cur.setIfInBounds (k + 1) (str (wat l k))) H2 (0, 0))]⟩ rfl rfl ?_ ?_
    ·intro _ _; intro w1; refine C8 rfl rfl (.refl _) j6 (jS rfl hct (show k + 1 < l.length by omega) rfl rfl) (by rfl) (b5 ?_); exact H4 () tK (fun h => by cases h) (.refl _) tK
    refine v7 ⟨rfl, ?_⟩; intro _ _ _ _ _ _; have hct1 := aq8 (α := Str) (k := k + 1) (a := wat l k) rfl rfl hct; refine B4 (k) (k) rfl j9 j6 rfl rfl rfl (by omega) (by omega) ?_; refine C8 rfl rfl (.refl _) j6 (jS rfl hct1 (show k < _ by simp; omega) rfl rfl) (by rfl) ?_; have hct2 := aq8 (α := Str) (k := k) (a := wat l (k + 1)) rfl rfl hct1; refine b5 (w6 (i1 (c9 (b6 rfl ?_)))); refine P9 (k : Int) rfl rfl rfl (by omega) q6 ?_; refine c5 rfl (b5 ?_); exact again _ (k, swp l k, (cur.setIfInBounds (k + 1) (str (wat l k))).setIfInBounds k (str (wat l (k + 1)))) ⟨by show k ≤ i; omega, (mz9 (by omega)).trans hP, hS.swap (by omega) hj ((lq8 _ _).1 (by simpa using hb2)), by show (Array.setIfInBounds _ _ _).size = _; rw [Array.size_setIfInBounds, Array.size_setIfInBounds]; exact hcs, hct2⟩ (by show k < k + 1; omega) mC (List.Sublist.refl _) tK
   have hb2' := hb2; try simp at hb2'
   refine t7 (C7 (t8 (w6 (i1 (c9 (b6 rfl ?_)))))); refine t5 _ rfl rfl rfl rfl q6 ?_; refine c5 rfl (b5 ?_); exact again _ (i + 1, l, [(gd, Obj.cells cur H2 (0, 0))]) ⟨by show 1 ≤ i + 1; omega, hP, hS.done hj (fun q hq hlt => by obtain rfl : k = q := (by omega); exact hb2 (by simpa using (lq8 _ _).2 hlt)), dq2 rfl (by show l.length ≤ cap; omega) hcm hcs hct⟩ (y8 (by omega)) mC (List.Sublist.refl _) tK
  intro hg1; have hg1' := hg1; try simp at hg1'
  have hj0 : j = 0 := by simp at hg1; omega
  subst hj0; refine k8 (fun w1 => l8 hg1 (q_z rfl)) (k8 (fun w1 => l8 hg1 (q_z rfl)) (k8 (fun w1 => l8 hg1 (q_z rfl)) (k8 (fun w1 => l8 hg1 (q_z rfl)) (k8 (fun w1 => l8 hg1 (q_z rfl)) (k8 (fun w1 => l8 hg1 (q_z rfl)) (k8 (fun w1 => l8 hg1 (q_z rfl)) (k8 (fun w1 => l8 hg1 (q_z rfl)) (k8 (fun w1 => l8 hg1 (q_z rfl)) (k8 (fun w1 => l8 hg1 (q_z rfl)) ?_))))))))); refine v7 ⟨rfl, ?_⟩; refine l8 hg1 (l8 hg1 ?_); refine p_f rfl rfl (bf2 hg1) rfl ?_; refine c8 (c_f rfl rfl (t7 (C7 (t8 (w6 (i1 (c9 (b6 rfl ?_)))))))); refine t5 _ rfl rfl rfl rfl q6 ?_; refine c5 rfl (b5 ?_); exact again _ (i + 1, l, [(gd, Obj.cells cur H2 (0, 0))]) ⟨by show 1 ≤ i + 1; omega, hP, hS.done hj (fun q hq => by omega), dq2 rfl (by show l.length ≤ cap; omega) hcm hcs hct⟩ (y8 (by omega)) mC (List.Sublist.refl _) tK
 have hb1' := hb1; try simp at hb1'
 refine t7 (C7 (t8 ?_)); exact ret0n (l, og) rfl rfl rfl ⟨⟨hP, fun p q h1 h2 => hS p q h1 (by have h3 : q < l.length := h2; omega)⟩, hG⟩ (List.Sublist.refl _) tK
theorem i64_u8 (u : UInt8) : IntKind.i64.wrap (u.toNat : Int) = u.toNat := IntWalk.i64_in _ (by have := u.toNat_lt; omega)
theorem i64_b (u : UInt8) : I64 ((0 : Int) + (u.toNat : Int)) := by have := u.toNat_lt; unfold I64; omega
theorem sP (n : Nat) (hn : n ≤ 12) : Meets prog cX [.int .u64 (n : Int)] { inv := fun _ : Int => True, val := fun z => int z } := by
 refine j3 uL rfl v8 fun w0 => ?_; refine i4 (c5 rfl (c8 (d6 (i4 (b6 rfl (Z4 rfl rfl rfl (c8 ?_)))))))
 first | refine k9 rfl (fun hb1 => ?_) (fun hb1 => ?_) | refine j0 rfl (fun hb1 => ?_) (fun hb1 => ?_)
 ·exact absurd hb1 (by omega)
 have hb1' := hb1; try simp at hb1'
 refine i8 (i1 (d6 (i4 (b6 rfl (Z4 rfl rfl rfl (c8 ?_))))))
 first | refine k9 rfl (fun hb2 => ?_) (fun hb2 => ?_) | refine j0 rfl (fun hb2 => ?_) (fun hb2 => ?_)
 ·exact absurd hb2 (by omega)
 have hb2' := hb2; try simp at hb2'
 refine i8 (i1 (d6 (i4 (b6 rfl (Z4 rfl rfl rfl (c8 ?_))))))
 first | refine k9 rfl (fun hb3 => ?_) (fun hb3 => ?_) | refine j0 rfl (fun hb3 => ?_) (fun hb3 => ?_)
 ·exact absurd hb3 (by omega)
 have hb3' := hb3; try simp at hb3'
 refine i8 (i1 (i4 (b6 rfl (b6 rfl ?_)))); refine ax3 (n : Int) rfl yM yL rfl (wrap8 (by omega)) ?_; refine dB n rfl q8 rfl rfl rfl (List.getElem?_eq_getElem (show n < 256 by omega)) ?_; refine ax3 _ rfl yL tL rfl (i64_u8 _) (t5 _ rfl rfl rfl rfl (i64_b _) ?_); refine c5 rfl (c8 (l4 ?_)); exact ret1 _ rfl rfl rfl tK nK tK
theorem vO (n : Nat) (hn : n ≤ 12) : Meets prog iY [.int .u64 (n : Int)] { inv := fun _ : Int => True, val := fun z => int z } := by
 refine j3 xL rfl v8 fun w0 => ?_; refine i4 (c5 rfl (c8 (d6 (c_f rfl rfl (i8 (i1 (i4 (b6 rfl ?_)))))))); refine j4 tH rfl rfl (sP n hn) (.refl _) tK fun z _ => ?_; refine c5 rfl (c8 (l4 ?_)); exact ret1 z rfl rfl rfl tK nK tK
theorem cO {A : Option Addr} {cap : Nat} (ws : List Str) (og : Hp) (z : Int) (hG : GrowS A cap ws og) (hn : ws.length ≤ 12) : Meets prog N0 [.slice A ws.length cap, int (0 : Nat), int ws.length, int z, cmpF] { hpI := og, inv := fun x : List Str × Hp => SrtW ws x.1 ∧ GrowS A cap x.1 x.2, val := fun _ => .tuple #[], hpO := fun x => x.2 } := by
 refine j3 dI rfl v8 fun w0 => ?_; refine i4 (c5 rfl (t6 (c5 rfl (c8 (j5 ?_))))); refine u6 (β := Unit) ⟨fun _ => True, fun _ => [(0, .slice A ws.length cap), (1, int (0 : Nat)), (2, int ws.length), (3, int z), (4, cmpF)], fun _ => og, fun _ => []⟩ (fun _ => 0) () tK mC (List.Sublist.refl _) tK fun _ _ => ?_; refine j5 (i4 (b6 rfl (b6 rfl ?_))); refine P9 _ rfl rfl rfl rfl q6 ?_; refine c5 rfl (c8 (d6 (i4 (b6 rfl (cz9 rfl rfl rfl (c8 ?_))))))
 first | refine k9 rfl (fun hb1 => ?_) (fun hb1 => ?_) | refine j0 rfl (fun hb1 => ?_) (fun hb1 => ?_)
 ·have hb1' := hb1; try simp at hb1'
  refine i4 (b6 rfl (b6 rfl (b6 rfl (b6 rfl ?_)))); refine j4 (hpR := []) Y1 rfl rfl (X8 ws og hG (by omega)) (by first | (rw [List.append_nil]; done) | (rw [List.append_nil]; exact List.Perm.refl _) | exact List.Perm.refl _) tK fun x hx => ?_; refine c8 (E9 (B7 (jE ?_))); exact ret0 x rfl rfl rfl hx (List.sublist_append_left _ _) tK
 exact absurd (by omega) hb1
theorem lH {A : Option Addr} {cap : Nat} (ws : List Str) (og : Hp) (hG : GrowS A cap ws og) (hn : ws.length ≤ 12) : Meets prog V6 [.slice A ws.length cap, cmpF] { hpI := og, inv := fun x : List Str × Hp => SrtW ws x.1 ∧ GrowS A cap x.1 x.2, val := fun _ => .tuple #[], hpO := fun x => x.2 } := by
 refine j3 mQ rfl v8 fun w0 => ?_; refine i4 (b6 rfl ?_); refine k6 rfl j9 rfl ?_; refine c5 rfl (c8 (c9 (b6 rfl (b6 rfl (b6 rfl ?_))))); refine ax3 (ws.length : Int) rfl tL lz0 rfl (IntWalk.u64_in _ (by omega)) (j4 vX rfl rfl (vO ws.length hn) (.refl _) tK fun z _ => b6 rfl ?_); refine j4 (hpR := []) cV rfl rfl (cO ws og z hG hn) (by first | (rw [List.append_nil]; done) | (rw [List.append_nil]; exact List.Perm.refl _) | exact List.Perm.refl _) tK fun x hx => ?_; refine b5 ?_; exact ret0n x rfl rfl rfl hx (List.sublist_append_left _ _) tK
def ascTo (l : List Str) (m : Nat) : Prop := ∀ p q, p < q → q < m → wat l p < wat l q
theorem mz0 {a b : Str} (h : wle a b) (hne : ¬ a = b) : a < b := by
  rcases Classical.em (a < b) with h1 | h1
  · exact h1
  exact absurd (hj6 h1 h) hne
theorem ascTo.next {l0 : List Str} {k : Nat} (h : ascTo l0 k) (h0 : 1 ≤ k) (hk : k < l0.length) (hs : srtTo l0 l0.length) (hne : ¬ wat l0 k = wat l0 (k - 1)) : ascTo l0 (k + 1) := by
  intro p q h1 h2
  by_cases hq : q = k
  · subst hq
    have h3 : wat l0 (q - 1) < wat l0 q := mz0 (hs _ _ (by omega) hk) (fun e => hne e.symm)
    by_cases hp : p = q - 1
    · subst hp; exact h3
    exact List.lt_trans (h p (q - 1) (by omega) (by omega)) h3
  exact h p q h1 (by omega)
structure CptOK (l0 : List Str) (b0 k j : Nat) (l : List Str) : Prop where
  len : l.length = l0.length
  j1 : 1 ≤ j
  jn : b0 + j ≤ l0.length
  k1 : 1 ≤ k
  kj : k < b0 + j
  asc : ascTo l k
  rest : ∀ q, b0 + j ≤ q + 1 → wat l q = wat l0 q
  mem : ∀ s, (∃ p, p < k ∧ wat l p = s) ↔ (∃ p, p < b0 + j ∧ wat l0 p = s)
  last : wat l (k - 1) = wat l0 (b0 + j - 1)
theorem CptOK.start {l0 : List Str} {k : Nat} (h : ascTo l0 k) (h0 : 1 ≤ k) (hk : k < l0.length) (he : wat l0 k = wat l0 (k - 1)) : CptOK l0 k k 1 l0 := by
  refine ⟨rfl, by omega, by omega, h0, by omega, h, fun _ _ => rfl, fun s => ⟨?_, ?_⟩, by rw [Nat.add_sub_cancel]; exact he.symm⟩
  · rintro ⟨p, h1, h2⟩; exact ⟨p, by omega, h2⟩
  rintro ⟨p, h1, h2⟩
  by_cases hp : p = k
  · subst hp; exact ⟨p - 1, by omega, by rw [← he]; exact h2⟩
  exact ⟨p, by omega, h2⟩
theorem CptOK.eq {l0 l : List Str} {b0 k j : Nat} (h : CptOK l0 b0 k j l) (hj : b0 + j < l0.length) (he : wat l (b0 + j) = wat l (b0 + j - 1)) : CptOK l0 b0 k (j + 1) l := by
  have hj1 := h.j1; have h1 := h.rest (b0 + j) (by omega); have h2 := h.rest (b0 + j - 1) (by omega); have h3 : wat l0 (b0 + j) = wat l0 (b0 + j - 1) := by rw [← h1, ← h2]; exact he
  have hkj := h.kj; refine ⟨h.len, by omega, by omega, h.k1, by omega, h.asc, fun q hq => h.rest q (by omega), fun s => ?_, ?_⟩
  · rw [h.mem s]
    constructor
    · rintro ⟨p, h4, h5⟩; exact ⟨p, by omega, h5⟩
    rintro ⟨p, h4, h5⟩
    by_cases hp : p = b0 + j
    · subst hp; exact ⟨b0 + j - 1, by omega, by rw [← h3]; exact h5⟩
    exact ⟨p, by omega, h5⟩
  rw [h.last, ← h3, show b0 + (j + 1) - 1 = b0 + j by omega]
theorem CptOK.ne {l0 l : List Str} {b0 k j : Nat} (h : CptOK l0 b0 k j l) (hs : srtTo l0 l0.length) (hj : b0 + j < l0.length) (hne : ¬ wat l (b0 + j) = wat l (b0 + j - 1)) : CptOK l0 b0 (k + 1) (j + 1) (l.set k (wat l (b0 + j))) := by
  have hj1 := h.j1; have h1 := h.rest (b0 + j) (by omega); have h2 := h.rest (b0 + j - 1) (by omega); have hkj := h.kj; have hk1 := h.k1; have hkl : k < l.length := by rw [h.len]; omega
  have hat : ∀ p, wat (l.set k (wat l (b0 + j))) p = if k = p then wat l (b0 + j) else wat l p := fun p => gz0 hkl
  have hlt : wat l (k - 1) < wat l (b0 + j) := by
    rw [h.last, h1]; refine mz0 (hs _ _ (by omega) hj) (fun e => hne ?_); rw [h1, h2]; exact e.symm
  refine ⟨by rw [List.length_set]; exact h.len, by omega, by omega, by omega, by omega, fun p q h3 h4 => ?_, fun q hq => ?_, fun s => ?_, ?_⟩
  · rw [hat, hat, if_neg (by omega)]
    by_cases hq : k = q
    · rw [if_pos hq]
      by_cases hp : p = k - 1
      · subst hp; exact hlt
      exact List.lt_trans (h.asc p (k - 1) (by omega) (by omega)) hlt
    rw [if_neg hq]; exact h.asc p q h3 (by omega)
  · rw [hat, if_neg (by omega)]; exact h.rest q (by omega)
  · constructor
    · rintro ⟨p, h3, h4⟩
      rw [hat] at h4
      by_cases hp : k = p
      · rw [if_pos hp] at h4
        exact ⟨b0 + j, by omega, by rw [← h1]; exact h4⟩
      rw [if_neg hp] at h4; obtain ⟨q, h5, h6⟩ := (h.mem s).1 ⟨p, by omega, h4⟩; exact ⟨q, by omega, h6⟩
    rintro ⟨p, h3, h4⟩
    by_cases hp : p = b0 + j
    · subst hp
      exact ⟨k, by omega, by rw [hat, if_pos rfl, h1]; exact h4⟩
    obtain ⟨q, h5, h6⟩ := (h.mem s).2 ⟨p, by omega, h4⟩; exact ⟨q, by omega, by rw [hat, if_neg (by omega)]; exact h6⟩
  rw [hat, if_pos (by omega), h1, show b0 + (j + 1) - 1 = b0 + j by omega]
theorem lj1 {l : List Str} {s : Str} : s ∈ l ↔ ∃ p, p < l.length ∧ wat l p = s := by
  constructor
  · intro h
    obtain ⟨i, hi, rfl⟩ := List.getElem_of_mem h; exact ⟨i, hi, B8 hi⟩
  rintro ⟨p, hp, rfl⟩; unfold wat; exact w8 hp
theorem dx4 {l : List Str} (h : ascTo l l.length) : l.Pairwise (· < ·) := by
  rw [List.pairwise_iff_getElem]; intro i j hi hj hij; have := h i j hij hj; unfold wat at this; rw [B8 hi, B8 hj] at this; exact this
abbrev DedW (l0 r : List Str) : Prop := r.Pairwise (· < ·) ∧ ∀ s, s ∈ r ↔ s ∈ l0
theorem yE {l : List Str} {k p : Nat} (hp : p < k) (hk : k ≤ l.length) : wat (l.take k) p = wat l p := by
  unfold wat; rw [List.getD_eq_getElem?_getD, List.getD_eq_getElem?_getD, List.getElem?_take, if_pos hp]
theorem CptOK.done {l0 l : List Str} {b0 k j : Nat} (h : CptOK l0 b0 k j l) (hj : l0.length ≤ b0 + j) : DedW l0 (l.take k) := by
  have h1 := h.jn; have h2 := h.kj; have hlen : (l.take k).length = k := by rw [List.length_take, h.len]; omega
  have hkl : k ≤ l.length := by rw [h.len]; omega
  refine ⟨dx4 fun p q h3 h4 => ?_, fun s => ?_⟩
  · rw [hlen] at h4
    rw [yE (by omega) hkl, yE h4 hkl]; exact h.asc p q h3 h4
  rw [lj1, lj1, hlen]
  constructor
  · rintro ⟨p, h3, h4⟩
    rw [yE h3 hkl] at h4; obtain ⟨q, h5, h6⟩ := (h.mem s).1 ⟨p, h3, h4⟩; exact ⟨q, by omega, h6⟩
  rintro ⟨p, h3, h4⟩; obtain ⟨q, h5, h6⟩ := (h.mem s).2 ⟨p, by omega, h4⟩; exact ⟨q, h5, by rw [yE h5 hkl]; exact h6⟩
theorem lq7 {g cap k : Nat} (h : k < cap) : cutA (d9 g) cap k 1 = some ⟨g, k, none⟩ := by
  unfold cutA; rw [if_neg (by omega)]
  simp [Addr.add]
  intro h2; exact h2.symm
theorem lx1 (w : World) : (zeroValue H2).run prog w = .ok (.string ⟨#[]⟩) w := w7
theorem mz6 {cur cur' : Array Value} {l : List Str} {k : Nat} (hk : k ≤ l.length) (h : cur.toList.take (l.length * 1) = rows l) (h1 : cur'.toList.take k = cur.toList.take k) : cur'.toList.take ((l.take k).length * 1) = rows (l.take k) := by
  have h2 : (rows l).take (k * 1) = rows (l.take k) := aq9 l k; rw [List.length_take, Nat.min_eq_left hk, ← h2, ← h, List.take_take, Nat.mul_one, Nat.mul_one, Nat.min_eq_left hk, h1]
set_option maxHeartbeats 1000000 in
theorem mP {A : Option Addr} {cap : Nat} (l0 : List Str) (og : Hp) (hG : GrowS A cap l0 og) (hs : srtTo l0 l0.length) (hn : l0.length ≤ 1000000) :
    Meets prog W9 [.slice A l0.length cap] { hpI := og, inv := fun x : List Str × Hp => (DedW l0 x.1 ∧ x.1.length ≤ l0.length) ∧ GrowS A cap x.1 x.2, val := fun x => .slice A x.1.length cap, hpO := fun x => x.2 } := by
 refine j3 pG rfl v8 fun w0 => ?_; refine i4 (c5 rfl (c8 (d6 (i4 (b6 rfl ?_))))); refine k6 rfl j9 rfl ?_; refine B5 rfl rfl rfl (c8 ?_)
 first | refine k9 rfl (fun hb1 => ?_) (fun hb1 => ?_) | refine j0 rfl (fun hb1 => ?_) (fun hb1 => ?_)
 ·have hb1' := hb1; try simp at hb1'
  refine i4 (b6 rfl (c5 rfl (c8 (E9 ?_)))); exact ret1 (l0, og) rfl rfl rfl ⟨⟨⟨dx4 fun p q h1 h2 => by have h3 : q < l0.length := h2; omega, fun _ => .rfl⟩, Nat.le_refl _⟩, hG⟩ (by first | (rw [List.append_nil]; exact List.Sublist.refl _) | exact List.Sublist.refl _) tK
 have hb1' := hb1; try simp at hb1'
 obtain ⟨gd, cur, e1, e2, hnc, hcm, hcs, hct, _⟩ := hG.open_ (by omega); subst e1; subst e2; refine i8 (i1 (d6 (i4 (c5 rfl (c8 (j5 ?_)))))); refine u6 (β := Nat) ⟨fun k => 1 ≤ k ∧ k ≤ l0.length ∧ ascTo l0 k, fun k => [(0, .slice (d9 gd) l0.length cap), (3, int k)], fun _ => [(gd, Obj.cells cur H2 (0, 0))], fun _ => []⟩ (fun k => l0.length - k) 1 ⟨Nat.le_refl _, by omega, fun p q h1 h2 => by omega⟩ mC (List.Sublist.refl _) tK fun k hk => ?_; obtain ⟨hk0, hk, ha⟩ := hk; refine d6 (i4 (b6 rfl (b6 rfl ?_))); refine k6 rfl j9 rfl ?_; refine B5 rfl rfl rfl (c8 ?_)
 first | refine k9 rfl (fun hb2 => ?_) (fun hb2 => ?_) | refine j0 rfl (fun hb2 => ?_) (fun hb2 => ?_)
 ·have hb2' := hb2; try simp at hb2'
  have hk2 : k < l0.length := by omega
  refine i8 (i1 (d6 (j5 (d6 ?_)))); refine C0 9 mixed (by decide) (by decide) rfl rfl (r7 rfl (r7 rfl (k8 (fun w1 => B4 (k) (k) rfl j9 j6 rfl rfl rfl (by omega) (by omega) (q_z rfl)) (k8 (fun w1 => a7 (v := str (wat l0 (k))) rfl a9 rfl (d8 mB (jS rfl hct (by omega) rfl rfl)) (q_z rfl)) (r7 rfl (r7 rfl (k8 (fun w1 => P9 ((k - 1 : Nat) : Int) rfl rfl rfl (by omega) q6 (q_z rfl)) (k8 (fun w1 => B4 (k - 1) (k - 1) rfl j9 j6 rfl rfl rfl (by omega) (by omega) (q_z rfl)) (k8 (fun w1 => a7 (v := str (wat l0 (k - 1))) rfl a9 rfl (d8 mB (jS rfl hct (by omega) rfl rfl)) (q_z rfl)) ?_))))))))); refine v7 ⟨rfl, ?_⟩; refine J3 rfl rfl rfl (c8 ?_)
  first | refine k9 rfl (fun hb3 => ?_) (fun hb3 => ?_) | refine j0 rfl (fun hb3 => ?_) (fun hb3 => ?_)
  ·have hb3' := hb3; try simp at hb3'
   refine i4 (b6 rfl (b6 rfl ?_)); refine U4 k rfl j9 j6 rfl rfl rfl (by omega) ?_; rw [lq7 (by omega)]; refine c5 rfl (c8 (d6 (i4 (c5 rfl (c8 (j5 ?_)))))); refine u6 (β := Nat × Nat × List Str × Array Value) ⟨fun x => CptOK l0 k x.1 x.2.1 x.2.2.1 ∧ x.2.2.2.size = cap * 1 ∧ x.2.2.2.toList.take (x.2.2.1.length * 1) = rows x.2.2.1, fun x => [(0, .slice (d9 gd) l0.length cap), (3, int x.1), (4, .slice (some ⟨gd, k, none⟩) (l0.length - k) (cap - k)), (5, int x.2.1)], fun x => [(gd, Obj.cells x.2.2.2 H2 (0, 0))], fun _ => []⟩ (fun x => l0.length - x.2.1) (k, 1, l0, cur) ⟨.start ha hk0 hk2 hb3, hcs, hct⟩ mC (List.Sublist.refl _) tK fun x hx => ?_; clear hcs hct hG; obtain ⟨m, j, l, cur⟩ := x; obtain ⟨hC, hcs, hct⟩ := hx; simp only at hC hcs hct; have hj1 := hC.j1; have hjn := hC.jn; have hkj := hC.kj; have hm1 := hC.k1; have hll := hC.len; refine d6 (i4 (b6 rfl (b6 rfl ?_))); refine k6 rfl j9 rfl ?_; refine B5 rfl rfl rfl (c8 ?_)
   first | refine k9 rfl (fun hb4 => ?_) (fun hb4 => ?_) | refine j0 rfl (fun hb4 => ?_) (fun hb4 => ?_)
   ·have hb4' := hb4; try simp at hb4'
    have hj2 : k + j < l0.length := by omega
    refine i8 (i1 (d6 (j5 (d6 ?_)))); refine C0 9 mixed (by decide) (by decide) rfl rfl (r7 rfl (r7 rfl (k8 (fun w1 => B4 (j) (k + j) rfl j9 j6 rfl rfl rfl (by omega) (by omega) (q_z rfl)) (k8 (fun w1 => a7 (v := str (wat l (k + j))) rfl a9 rfl (d8 mB (jS rfl hct (by omega) rfl rfl)) (q_z rfl)) (r7 rfl (r7 rfl ?_)))))); refine k8 (fun w1 => P9 ((j - 1 : Nat) : Int) rfl rfl rfl (by first | omega | (simp only; omega)) q6 (q_z rfl)) ?_; refine k8 (fun w1 => B4 (j - 1) (k + j - 1) rfl j9 j6 rfl rfl rfl (by omega) (by omega) (q_z rfl)) (k8 (fun w1 => a7 (v := str (wat l (k + j - 1))) rfl a9 rfl (d8 mB (jS rfl hct (by omega) rfl rfl)) (q_z rfl)) ?_); refine v7 ⟨rfl, ?_⟩; refine iK rfl rfl rfl (c8 ?_)
    first | refine k9 rfl (fun hb5 => ?_) (fun hb5 => ?_) | refine j0 rfl (fun hb5 => ?_) (fun hb5 => ?_)
    ·have hb5' := hb5; try simp at hb5'
     refine i4 (b6 rfl (b6 rfl (b6 rfl (b6 rfl ?_)))); refine B4 (j) (k + j) rfl j9 j6 rfl rfl rfl (by omega) (by omega) (a7 (v := str (wat l (k + j))) rfl a9 rfl (i2 mB (jS rfl hct (by omega) rfl rfl)) (B4 (m) (m) rfl j9 j6 rfl rfl rfl (by omega) (by omega) (C8 rfl rfl (.refl _) j6 (jS rfl hct (show m < l.length by omega) rfl rfl) (by rfl) ?_))); have hct1 := aq8 (α := Str) (k := m) (a := wat l (k + j)) rfl rfl hct; refine c8 (c9 (b6 rfl ?_)); refine t5 _ rfl rfl rfl rfl q6 ?_; refine c5 rfl (b5 (w6 (i1 (c9 (b6 rfl ?_))))); refine t5 _ rfl rfl rfl rfl q6 ?_; refine c5 rfl (b5 ?_); exact again _ (m + 1, j + 1, l.set m (wat l (k + j)), cur.setIfInBounds m (str (wat l (k + j)))) ⟨hC.ne hs hj2 hb5, by show (Array.setIfInBounds _ _ _).size = _; rw [Array.size_setIfInBounds]; exact hcs, hct1⟩ (y8 (by omega)) mC (List.Sublist.refl _) tK
    have hb5' := hb5; try simp at hb5'
    refine i8 (w6 (i1 (c9 (b6 rfl ?_)))); refine t5 _ rfl rfl rfl rfl q6 ?_; refine c5 rfl (b5 ?_); exact again _ (m, j + 1, l, cur) ⟨hC.eq hj2 (Classical.not_not.1 hb5), hcs, hct⟩ (y8 (by omega)) mC (List.Sublist.refl _) tK
   have hb4' := hb4; try simp at hb4'
   have hj2 : k + j = l0.length := by omega
   refine t7 (C7 (t8 (i1 (i4 (b6 rfl (b6 rfl ?_)))))); refine U4 m rfl j9 j6 rfl rfl rfl (by omega) ?_; rw [lq7 (by omega)]; refine r_clear j9 lx1 rfl rfl rfl (by show m + (l0.length - m) ≤ cur.size; omega) (.refl _) fun cur2 hc2 ht2 => ?_; refine t6 (b6 rfl (b6 rfl ?_)); refine lJ m rfl j9 j6 rfl rfl rfl (by omega) ?_; refine c5 rfl (c8 (l4 (B7 (u5 (B7 ?_))))); have hlt : (l.take m).length = m := by rw [List.length_take]; omega
   exact ret1 (l.take m, [(gd, Obj.cells cur2 H2 (0, 0))]) rfl (by show some (Value.slice (d9 gd) m cap) = some (Value.slice (d9 gd) (l.take m).length cap); rw [hlt]) rfl ⟨⟨hC.done (by omega), by show (l.take m).length ≤ l0.length; omega⟩, dq2 rfl (by show (l.take m).length ≤ cap; omega) hcm (by rw [hc2]; exact hcs) (mz6 (by omega) hct (ht2 m (Nat.le_refl _)))⟩ (List.Sublist.refl _) tK
  have hb3' := hb3; try simp at hb3'
  refine i8 (w6 (i1 (c9 (b6 rfl ?_)))); refine t5 _ rfl rfl rfl rfl q6 ?_; refine c5 rfl (b5 ?_); exact again _ (k + 1) ⟨by omega, by omega, ha.next hk0 hk2 hs hb3⟩ (y8 (by omega)) mC (List.Sublist.refl _) tK
 have hb2' := hb2; try simp at hb2'
 have hk2 : k = l0.length := by omega
 subst hk2; refine t7 (C7 (t8 (i1 (i4 (b6 rfl (c5 rfl (c8 (l4 ?_)))))))); exact ret1 (l0, [(gd, Obj.cells cur H2 (0, 0))]) rfl rfl rfl ⟨⟨⟨dx4 ha, fun _ => .rfl⟩, Nat.le_refl _⟩, hG⟩ (List.Sublist.refl _) tK
def compareE (a b : Tr) : List Cl × Int := if ¬ checkT a = 0 then ([], checkT a) else if ¬ checkT b = 0 then ([], checkT b) else (compareT a b, 0)
theorem iq1 (hs : List Hd) (cs : List Cl) : wordsT (trOf cs hs) = hs.map (·.1) := by
  show (hs.map Hd.p).map _ = _; rw [List.map_map]
  rfl
theorem cx5 (a b : Tr) (s : Str) : moveN a b s = if ((namesN a s).isSome && !(namesN b s).isSome) = true then some (s, 1) else if ((namesN b s).isSome && !(namesN a s).isSome) = true then some (s, 2) else if (namesN a s).getD [] = (namesN b s).getD [] then none else some (s, 3) := by
  unfold moveN
  cases namesN a s <;> cases namesN b s <;> simp
theorem mj8 {cs : List Cl} {hs : List Hd} (hok : TrOK (trOf cs hs)) (s : Str) : ((namesN (trOf cs hs) s).getD []).length ≤ 6 := by
  rw [dj1]
  cases hf : hs.find? (hitB s) with
  | none => simp
  | some h =>
    have hm : h ∈ hs := List.mem_of_find?_eq_some hf; obtain ⟨i, hi, rfl⟩ := List.getElem_of_mem hm; have hc := (hok.h i (by rw [H0]; exact hi)).c; have he : hs.getD i default = hs[i] := B8 hi; simp only [trOf, V4 hi] at hc; rw [he] at hc; show ((pathT cs hs[i].2.1).map (nameOf cs)).length ≤ 6; rw [List.length_map]; have hcl : ∀ i, i < cs.length → ClsOK cs i := hok.c; have h6 : cs.length ≤ 6 := hok.c6; have h1 := congrArg List.length (ax5 (c := hs[i].2.1) h6 hcl hc.2); have h2 := yY (maskOf (pathT cs hs[i].2.1)) cs.length
    omega
theorem yW {f : Str → Option Cl} {r : List Str} {k : Nat} (hk : k < r.length) : (r.take (k + 1)).filterMap f = (r.take k).filterMap f ++ (f (wat r k)).toList := by
  rw [D6 r k hk, List.filterMap_append]
  congr 1
theorem an_y {x y : Bool} (h : (x == true) = true) : y = (x && y) := by cases x <;> simp_all
theorem an_n {x y : Bool} (h : (x == true) = false) : false = (x && y) := by cases x <;> simp_all
theorem jz1 {hs hs2 : List Hd} {cs cs2 : List Cl} {l r : List Str} (h1 : l.Perm ((hs ++ hs2).map (·.1))) (h2 : DedW l r) : r = sortU (wordsT (trOf cs hs) ++ wordsT (trOf cs2 hs2)) := by
  refine jq6 h2.1 (yR _) fun x => ?_; rw [gj4, iq1, iq1, ← List.map_append, h2.2]; exact h1.mem_iff
theorem wO {A : Option Addr} {c : Nat} (l : List Hd) (hl : l.length ≤ 1000000) : Meets prog jW [.slice A l.length c] { LI := [Row A (rows l)], inv := fun x : OutC × Hp => Grow G0 4 x.1.1 l.length x.1.2 (rows l) x.2, val := fun x => .slice x.1.1 l.length x.1.2, hpO := fun x => x.2 } := by
 refine j3 zR rfl v8 fun w0 => ?_; refine i4 (c5 rfl (c8 (d6 (i4 (b6 rfl (nx0 rfl n4 rfl rfl (c8 ?_))))))); refine j0 rfl (fun hb1 => ?_) (fun hb1 => ?_)
 ·have hb1' := hb1; try simp at hb1'
  have hA : A = none := by cases A with | none => rfl | some a => cases hb1
  subst hA; refine hc_pure (φ := l = []) (fun w hw => nj4 (by decide) (hw.fs (Row none (rows l)) m0)) fun hl0 => ?_; subst hl0; refine i4 (c5 rfl (c8 (E9 ?_))); exact ret1 ((none, 0), []) rfl rfl rfl (Grow.nil _ _) (.refl _) tK
 have hb1' := hb1; try simp at hb1'
 refine i8 (i1 (i4 ?_)); refine n7 _ rfl rfl (fun _ => wL ..) fun gS => b6 rfl ?_; refine E3 l.length (rows l) Q8 rfl rfl rfl (Grow.new (cs := #[]) (n := 0) rfl (Nat.zero_le _)) (.refl _) (Src.row m0 (R6 l) (E8 l) (by decide)) (by omega) rfl (by unfold maxLen; omega) (by omega) fun A' c' og' hG => ?_; refine c5 rfl (c8 (l4 ?_)); exact ret1 ((A', c'), og') rfl rfl rfl hG (List.sublist_append_left _ _) tK
set_option maxHeartbeats 1000000 in
theorem vH {A B A2 B2 : Option Addr} {ca cb ca2 cb2 : Nat} (cs : List Cl) (hs : List Hd) (cs2 : List Cl) (hs2 : List Hd) (hca : cs.length ≤ ca) (hcb : hs.length ≤ cb) (ha : ∀ h ∈ hs, h.2.2.2.l.length ≤ 1000000) (hca2 : cs2.length ≤ ca2) (hcb2 : hs2.length ≤ cb2) (ha2 : ∀ h ∈ hs2, h.2.2.2.l.length ≤ 1000000) :
    Meets prog aT [.agg #[.slice A cs.length ca, .slice B hs.length cb], .agg #[.slice A2 cs2.length ca2, .slice B2 hs2.length cb2]] { LI := [Row A (rows cs), RowsF B hs Hd.row, Row A2 (rows cs2), RowsF B2 hs2 Hd.row], inv := fun x : OutC => ((compareE (trOf cs hs) (trOf cs2 hs2))).1.length ≤ x.2, val := fun x => .tuple #[.slice x.1 ((compareE (trOf cs hs) (trOf cs2 hs2))).1.length x.2, int ((compareE (trOf cs hs) (trOf cs2 hs2))).2], LO := fun x => [Row x.1 (rows ((compareE (trOf cs hs) (trOf cs2 hs2))).1)] } := by
 refine j3 xF rfl v8 fun w0 => i4 (O3 rfl rfl fun gB => O3 rfl rfl fun gB2 => ?_); refine c5 rfl (c5 rfl (c8 ?_)); refine I0 ⟨fun _ : Nat × OutC × OutC => True, fun x => [(2, .pointer (d9 gB)), (3, .pointer (d9 gB2)), (6, if checkT (trOf cs hs) = 0 then .pointer (some ⟨x.1, 0, none⟩) else .pointer none), (7, int (checkT (trOf cs hs)))], fun _ => [(gB2, .cells #[.slice A2 cs2.length ca2, .slice B2 hs2.length cb2] p8 (0, 0)), (gB, .cells #[.slice A cs.length ca, .slice B hs.length cb] p8 (0, 0))], fun x => (if checkT (trOf cs hs) = 0 then beginL cs hs A ca B cb x else []) ++ [Row A (rows cs), RowsF B hs Hd.row, Row A2 (rows cs2), RowsF B2 hs2 Hd.row]⟩ ?_ ?_
 ·skip
  refine c9 ?_
  first | refine G3 rfl i6 c7 rfl mB (by rfl) ?_ | refine I3 rfl i6 c7 rfl mB (by rfl) ?_ | refine z8 rfl i6 c7 rfl rfl (v9 mB (B3 (by omega))) ?_
  refine j4 M3 rfl rfl (L9 cs hs hca hcb ha) t4 mC fun x _ => ?_; refine b6 rfl (l3 rfl rfl rfl (l3 rfl rfl rfl (c5 rfl (c5 rfl (b5 ?_))))); exact D5 _ x tK mC (List.Sublist.refl _) (LSub.of_mem fun F h => h)
 refine fun x _ => ?_
 dsimp only
 refine d6 (i4 (b6 rfl (M8 rfl rfl rfl (c8 ?_))))
 first | refine k9 rfl (fun hb1 => ?_) (fun hb1 => ?_) | refine j0 rfl (fun hb1 => ?_) (fun hb1 => ?_)
 ·have hb1' := hb1; try simp at hb1'
  refine i4 (b6 rfl (c5 rfl (c5 rfl (c8 (E9 ?_))))); refine n5 (α := Cl) ?_; have hE : (compareE (trOf cs hs) (trOf cs2 hs2)) = ([], checkT (trOf cs hs)) := by unfold compareE; rw [if_pos hb1]
  exact ret2 (none, 0) rfl rfl rfl (by show Value.tuple #[.slice none ((compareE (trOf cs hs) (trOf cs2 hs2))).1.length 0, int ((compareE (trOf cs hs) (trOf cs2 hs2))).2] = _; rw [hE]; rfl) rfl (by show ((compareE (trOf cs hs) (trOf cs2 hs2))).1.length ≤ 0; rw [hE]; exact Nat.le_refl _) nK (by show LSub _ [Row none (rows ((compareE (trOf cs hs) (trOf cs2 hs2))).1)]; rw [hE]; exact ⟨m0, tK⟩)
 have hb1' := hb1; try simp at hb1'
 have h0 := Classical.not_not.1 hb1; rw [if_pos h0, if_pos h0]; have hok := mW h0; have h6 : cs.length ≤ 6 := hok.c6; have h6h := hok.h6; rw [H0] at h6h; have hcl : ∀ i, i < cs.length → ClsOK cs i := hok.c; obtain ⟨gl, ⟨oa, oc⟩, ⟨ka, kc⟩⟩ := x; show HC _ _ _ _ _ [Row (d9 gl) [.slice A cs.length ca, .slice B hs.length cb, .slice oa cs.length oc, .slice ka hs.length kc], Row oa (rows (masksN cs cs.length)), Row ka (rows (kindsN hs hs.length)), Row A (rows cs), RowsF B hs Hd.row, Row A2 (rows cs2), RowsF B2 hs2 Hd.row]; refine i8 (i1 ?_); refine I0 ⟨fun _ : Nat × OutC × OutC => True, fun x => [(2, .pointer (d9 gB)), (3, .pointer (d9 gB2)), (6, .pointer (d9 gl)), (8, if checkT (trOf cs2 hs2) = 0 then .pointer (some ⟨x.1, 0, none⟩) else .pointer none), (7, int (checkT (trOf cs2 hs2)))], fun _ => [(gB2, .cells #[.slice A2 cs2.length ca2, .slice B2 hs2.length cb2] p8 (0, 0)), (gB, .cells #[.slice A cs.length ca, .slice B hs.length cb] p8 (0, 0))], fun x => (if checkT (trOf cs2 hs2) = 0 then beginL cs2 hs2 A2 ca2 B2 cb2 x else []) ++ [Row (d9 gl) [.slice A cs.length ca, .slice B hs.length cb, .slice oa cs.length oc, .slice ka hs.length kc], Row oa (rows (masksN cs cs.length)), Row ka (rows (kindsN hs hs.length)), Row A (rows cs), RowsF B hs Hd.row, Row A2 (rows cs2), RowsF B2 hs2 Hd.row]⟩ ?_ ?_
 ·skip
  refine c9 ?_
  first | refine G3 rfl i6 c7 rfl mB (by rfl) ?_ | refine I3 rfl i6 c7 rfl mB (by rfl) ?_ | refine z8 rfl i6 c7 rfl rfl (v9 mB (B3 (by omega))) ?_
  refine j4 M3 rfl rfl (L9 cs2 hs2 hca2 hcb2 ha2) t4 mC fun x _ => ?_; refine b6 rfl (l3 rfl rfl rfl (l3 rfl rfl rfl (c5 rfl (c5 rfl (b5 ?_))))); exact D5 _ x tK mC (List.Sublist.refl _) (LSub.of_mem fun F h => h)
 refine fun x _ => ?_
 dsimp only
 refine d6 (i4 (b6 rfl (M8 rfl rfl rfl (c8 ?_))))
 first | refine k9 rfl (fun hb2 => ?_) (fun hb2 => ?_) | refine j0 rfl (fun hb2 => ?_) (fun hb2 => ?_)
 ·have hb2' := hb2; try simp at hb2'
  refine i4 (b6 rfl (c5 rfl (c5 rfl (c8 (E9 ?_))))); refine n5 (α := Cl) ?_; have hE : (compareE (trOf cs hs) (trOf cs2 hs2)) = ([], checkT (trOf cs2 hs2)) := by unfold compareE; rw [if_neg hb1, if_pos hb2]
  exact ret2 (none, 0) rfl rfl rfl (by show Value.tuple #[.slice none ((compareE (trOf cs hs) (trOf cs2 hs2))).1.length 0, int ((compareE (trOf cs hs) (trOf cs2 hs2))).2] = _; rw [hE]; rfl) rfl (by show ((compareE (trOf cs hs) (trOf cs2 hs2))).1.length ≤ 0; rw [hE]; exact Nat.le_refl _) nK (by show LSub _ [Row none (rows ((compareE (trOf cs hs) (trOf cs2 hs2))).1)]; rw [hE]; exact ⟨m0, tK⟩)
 have hb2' := hb2; try simp at hb2'
 have h02 := Classical.not_not.1 hb2; rw [if_pos h02, if_pos h02]; have hok2 := mW h02; have h62 : cs2.length ≤ 6 := hok2.c6; have h6h2 := hok2.h6; rw [H0] at h6h2; have hcl2 : ∀ i, i < cs2.length → ClsOK cs2 i := hok2.c; obtain ⟨gl2, ⟨oa2, oc2⟩, ⟨ka2, kc2⟩⟩ := x; have hE : (compareE (trOf cs hs) (trOf cs2 hs2)) = (compareT (trOf cs hs) (trOf cs2 hs2), 0) := by unfold compareE; rw [if_neg hb1, if_neg hb2]
 show HC _ _ _ _ _ [Row (d9 gl2) [.slice A2 cs2.length ca2, .slice B2 hs2.length cb2, .slice oa2 cs2.length oc2, .slice ka2 hs2.length kc2], Row oa2 (rows (masksN cs2 cs2.length)), Row ka2 (rows (kindsN hs2 hs2.length)), Row (d9 gl) [.slice A cs.length ca, .slice B hs.length cb, .slice oa cs.length oc, .slice ka hs.length kc], Row oa (rows (masksN cs cs.length)), Row ka (rows (kindsN hs hs.length)), Row A (rows cs), RowsF B hs Hd.row, Row A2 (rows cs2), RowsF B2 hs2 Hd.row]; refine S7 (ps := hs) (A := B) (f := Hd.row) mB (S7 (ps := hs2) (A := B2) (f := Hd.row) mB ?_); refine i8 (i1 (i4 (c5 rfl (c8 (Y7 ?_))))); refine H3 ([]) (_) t4 8 [5, 2] mixed (by decide) (by decide) (by decide) rfl rfl rfl ?_
 apply k7 _ rfl rfl rfl
 ·intro w1
  first | refine a6 ⟨_, 1, none⟩ rfl rfl i3 rfl ?_ | refine a6 _ rfl rfl i3 rfl ?_
  refine b5 ?_; exact i5 rfl
 apply k7 _ rfl rfl rfl
 ·intro w1
  first | refine a7 rfl b2 rfl (d8 mB rfl) ?_ | refine a7 rfl b2 rfl (i2 mB rfl) ?_ | refine a7 rfl b2 rfl (b7 mB (b4 (by omega) rfl)) ?_ | refine a7 rfl b2 rfl (b8 mB (rows_get (by omega) rfl)) ?_ | refine a7 rfl b2 rfl (d7 mB rfl) ?_
  refine b5 ?_; exact i5 rfl
 refine nE ⟨OutC × Hp, fun x => Grow G0 4 x.1.1 hs.length x.1.2 (rows hs) x.2, fun x => .slice x.1.1 hs.length x.1.2, fun _ => [], fun x => x.2⟩ rfl rfl rfl ?_ ?_
 ·intro w1; refine j4 xJ rfl rfl (wO hs (by omega)) t4 mC fun x hx => b5 ?_; exact H4 x hx (fun _ => rfl) (List.sublist_append_left _ _) tK
 apply k7 _ rfl rfl rfl
 ·intro w1
  first | refine a6 ⟨_, 1, none⟩ rfl rfl i3 rfl ?_ | refine a6 _ rfl rfl i3 rfl ?_
  refine b5 ?_; exact i5 rfl
 apply k7 _ rfl rfl rfl
 ·intro w1
  first | refine a7 rfl b2 rfl (d8 mB rfl) ?_ | refine a7 rfl b2 rfl (i2 mB rfl) ?_ | refine a7 rfl b2 rfl (b7 mB (b4 (by omega) rfl)) ?_ | refine a7 rfl b2 rfl (b8 mB (rows_get (by omega) rfl)) ?_ | refine a7 rfl b2 rfl (d7 mB rfl) ?_
  refine b5 ?_; exact i5 rfl
 refine nE ⟨OutC × Hp, fun x => Grow G0 4 x.1.1 (hs ++ hs2).length x.1.2 (rows (hs ++ hs2)) x.2, fun x => .slice x.1.1 (hs ++ hs2).length x.1.2, fun _ => [], fun x => x.2⟩ rfl rfl rfl ?_ ?_
 ·intro x0 hx0; intro w1; refine E3 (hs ++ hs2).length (rows (hs ++ hs2)) Q8 rfl rfl rfl hx0 (hp' := []) (by first | (rw [List.append_nil]; done) | (rw [List.append_nil]; exact List.Perm.refl _)) (Src.row (news := rows hs2) (m := hs2.length) mB (R6 hs2) (E8 hs2) (by decide)) List.length_append.symm (A1 _ _).symm (by unfold maxLen; rw [List.length_append]; omega) (by rw [List.length_append]; omega) fun A' c' og' hG' => ?_; refine b5 ?_; exact H4 ((A', c'), og') hG' (fun _ => rfl) (List.sublist_append_left _ _) tK
 apply k7 _ rfl rfl rfl
 ·intro x hx; intro w1; refine k6 rfl n4 rfl (b5 ?_); exact i5 rfl
 refine r7 rfl ?_; refine v7 ⟨rfl, ?_⟩; intro x0 hx0 x hx; obtain ⟨⟨Ah, ch⟩, ogh⟩ := x; refine jj1 hx ?_; clear hx hx0; refine c8 (j5 ?_); have hHl : (hs ++ hs2).length ≤ 12 := by rw [List.length_append]; omega
 generalize hws : ((hs ++ hs2).map (fun h : Hd => h.1)) = ws; have hwl : ws.length = (hs ++ hs2).length := by rw [← hws]; exact List.length_map ..
 have hwat : ∀ i, i < (hs ++ hs2).length → wat ws i = ((hs ++ hs2).getD i default).1 := fun i hi => by
   rw [← hws]; unfold wat; rw [B8 (by rw [List.length_map]; exact hi), B8 hi, List.getElem_map]
 refine u6 (β := Nat × OutC × Hp) ⟨fun x => x.1 ≤ (hs ++ hs2).length ∧ Grow H2 1 x.2.1.1 x.1 x.2.1.2 (rows (ws.take x.1)) x.2.2, fun x => [(6, .pointer (d9 gl)), (8, .pointer (d9 gl2)), (9, .slice x.2.1.1 x.1 x.2.1.2), (40, .slice Ah (hs ++ hs2).length ch), (41, int (hs ++ hs2).length), (42, int x.1)], fun x => x.2.2, fun _ => Row Ah (rows (hs ++ hs2)) :: [Row (d9 gl) [.slice A cs.length ca, .slice B hs.length cb, .slice oa cs.length oc, .slice ka hs.length kc], Row oa (rows (masksN cs cs.length)), Row A (rows cs), Row B (rows hs), Row (d9 gl2) [.slice A2 cs2.length ca2, .slice B2 hs2.length cb2, .slice oa2 cs2.length oc2, .slice ka2 hs2.length kc2], Row oa2 (rows (masksN cs2 cs2.length)), Row A2 (rows cs2), Row B2 (rows hs2)]⟩ (fun x => (hs ++ hs2).length - x.1) (0, (none, 0), []) ⟨Nat.zero_le _, Grow.nil _ _⟩ mC nK mC fun x hx => ?_; obtain ⟨k, ⟨na, nc⟩, og⟩ := x; obtain ⟨hk, hG⟩ := hx; simp only at hk hG; refine i4 (B5 rfl rfl rfl (c8 (d6 ?_)))
 first | refine k9 rfl (fun hb3 => ?_) (fun hb3 => ?_) | refine j0 rfl (fun hb3 => ?_) (fun hb3 => ?_)
 ·have hb3' := hb3; try simp at hb3'
  have hk2 : k < (hs ++ hs2).length := by omega
  refine i8 (i1 (d6 (j5 (i4 ?_)))); refine m7 (α := Hd) (hs ++ hs2) k rfl n4 l7 rfl rfl rfl mB rfl hk2 (by decide) (z8 rfl C1 l7 rfl rfl (v9 mB (B3 (by omega))) (u4 rfl (fun _ => G9 _) fun gA => l6 rfl rfl X2 l7 (by rfl) (by rfl) (c8 (Q1 (rows [(hs ++ hs2).getD k default]) ⟨[], List.append_nil _⟩ ?_)))); refine c9 (b6 rfl ?_)
  first | refine a6 ⟨_, 0, none⟩ rfl rfl l9 rfl ?_ | refine a6 _ rfl rfl l9 rfl ?_
  first | refine a7 rfl a9 rfl (i2 mB rfl) ?_ | refine a7 rfl a9 rfl (d8 mB rfl) ?_ | refine a7 rfl a9 rfl (b7 mB (b4 (by omega) rfl)) ?_ | refine a7 rfl a9 rfl (b8 mB (rows_get (by omega) rfl)) ?_ | refine a7 rfl a9 rfl (d7 mB rfl) ?_
  refine n7 _ rfl rfl (fun _ => W1 ..) fun gS => D2 (rows [((hs ++ hs2).getD k default).1]) (List.prefix_refl _) ?_; refine E3 (k + 1) (rows (ws.take k ++ [((hs ++ hs2).getD k default).1])) iH rfl rfl rfl hG (hp' := []) (by first | (rw [List.append_nil]; done) | (rw [List.append_nil]; exact List.Perm.refl _)) (Src.row (news := rows [((hs ++ hs2).getD k default).1]) (m := 1) m0 rfl (E8 _) (by decide)) rfl (A1 _ _).symm (by unfold maxLen; omega) (by omega) fun A' c' og' hG' => ?_; refine c5 rfl (b5 (w6 (i1 (c9 ?_)))); refine t5 _ rfl rfl rfl rfl q6 ?_; refine b6 rfl (b5 ?_); exact again _ (k + 1, (A', c'), og') ⟨by show k + 1 ≤ (hs ++ hs2).length; omega, by show Grow _ _ _ _ _ (rows (ws.take (k + 1))) _; rw [D6 ws k (by omega)]; rw [← hwat k hk2] at hG'; exact hG'⟩ (y8 (by omega)) mC (List.sublist_append_left _ _) mC
 have hb3' := hb3; try simp at hb3'
 have hk2 : k = ws.length := by omega
 subst hk2; rw [List.take_length] at hG; refine t7 (C7 (t8 (i1 (i4 (b6 rfl ?_))))); refine j4 (hpR := []) lU rfl rfl (lH ws og hG (by omega)) (by first | (rw [List.append_nil]; done) | (rw [List.append_nil]; exact List.Perm.refl _)) tK fun x hx => ?_; clear hG; obtain ⟨l, og1⟩ := x; obtain ⟨hsrt, hG⟩ := hx; simp only at hsrt hG; have hll : l.length = ws.length := hsrt.1.length_eq; refine t6 (c5 rfl (c8 (d6 (i4 (b6 rfl ?_))))); refine j4 (hpR := []) (vs := [.slice na l.length nc]) mT rfl (by rw [hll]; rfl) (mP l og1 hG hsrt.2 (by omega)) t4 tK fun x hx => ?_; clear hG; obtain ⟨r, og2⟩ := x; obtain ⟨⟨hD, hrn⟩, hG⟩ := hx; simp only at hD hG hrn; have hr := jz1 (cs := cs) (cs2 := cs2) (by rw [hws]; exact hsrt.1) hD; have hrl : r.length ≤ nc := hG.le; have hrc := hG.cap_le; refine jj1 hG ?_; clear hG; refine k6 rfl j9 rfl ?_; refine b6 rfl (c8 (j5 ?_)); generalize na = A3 at *; generalize nc = c3 at *; refine u6 (β := Nat × OutC × Hp) ⟨fun x => x.1 ≤ r.length ∧ Grow tR 2 x.2.1.1 ((r.take (x.1)).filterMap (moveN (trOf cs hs) (trOf cs2 hs2))).length x.2.1.2 (rows ((r.take (x.1)).filterMap (moveN (trOf cs hs) (trOf cs2 hs2)))) x.2.2, fun x => [(6, .pointer (d9 gl)), (8, .pointer (d9 gl2)), (12, .slice x.2.1.1 ((r.take (x.1)).filterMap (moveN (trOf cs hs) (trOf cs2 hs2))).length x.2.1.2), (55, .slice A3 r.length c3), (56, int r.length), (57, int x.1)], fun x => x.2.2, fun _ => (Row A3 (rows r) :: [Row (d9 gl) [.slice A cs.length ca, .slice B hs.length cb, .slice oa cs.length oc, .slice ka hs.length kc], Row oa (rows (masksN cs cs.length)), Row A (rows cs), Row B (rows hs), Row (d9 gl2) [.slice A2 cs2.length ca2, .slice B2 hs2.length cb2, .slice oa2 cs2.length oc2, .slice ka2 hs2.length kc2], Row oa2 (rows (masksN cs2 cs2.length)), Row A2 (rows cs2), Row B2 (rows hs2)])⟩ (fun x => r.length - x.1) (0, (none, 0), []) ⟨Nat.zero_le _, Grow.nil _ _⟩ mC nK mC fun x hx => ?_; obtain ⟨k, ⟨na, nc⟩, og⟩ := x; obtain ⟨hk, hG⟩ := hx; simp only at hk hG; have hol : ((r.take (k)).filterMap (moveN (trOf cs hs) (trOf cs2 hs2))).length ≤ k := Nat.le_trans (List.length_filterMap_le _ _) (by rw [List.length_take]; omega); refine i4 (B5 rfl rfl rfl (c8 (d6 ?_)))
 first | refine k9 rfl (fun hb4 => ?_) (fun hb4 => ?_) | refine j0 rfl (fun hb4 => ?_) (fun hb4 => ?_)
 ·have hb4' := hb4; try simp at hb4'
  have hk2 : k < r.length := by omega
  refine i8 (i1 (d6 (j5 (i4 ?_)))); refine m7 (α := Str) r k rfl j9 j6 rfl rfl rfl mB rfl hk2 (by decide) (a7 (v := str (wat r k)) rfl a9 rfl (b7 mB (b4 hk2 rfl)) ?_); refine c5 rfl (t6 (b6 rfl (b6 rfl ?_))); refine j4 gD rfl rfl (dK (A := A) (B := B) (oa := oa) (ka := ka) (ca := ca) (cb := cb) (oc := oc) (kc := kc) (gl := gl) cs hs (wat r k) hok) t4 mC fun y1 hy1 => ?_; refine b6 rfl (l3 rfl rfl rfl (l3 rfl rfl rfl (c5 rfl (c5 rfl (t6 (b6 rfl (b6 rfl ?_))))))); refine j4 gD rfl rfl (dK (A := A2) (B := B2) (oa := oa2) (ka := ka2) (ca := ca2) (cb := cb2) (oc := oc2) (kc := kc2) (gl := gl2) cs2 hs2 (wat r k) hok2) t4 mC fun y2 hy2 => ?_; refine b6 rfl (l3 rfl rfl rfl (l3 rfl rfl rfl (c5 rfl (c5 rfl (c8 (j5 ?_)))))); refine I0 ⟨fun _ : Unit => True, fun _ => [(6, .pointer (d9 gl)), (8, .pointer (d9 gl2)), (12, .slice na ((r.take (k)).filterMap (moveN (trOf cs hs) (trOf cs2 hs2))).length nc), (55, .slice A3 r.length c3), (56, int r.length), (57, int k), (14, str (wat r k)), (15, .slice y1.1 ((namesN (trOf cs hs) (wat r k)).getD []).length y1.2), (16, .bool (namesN (trOf cs hs) (wat r k)).isSome), (17, .slice y2.1 ((namesN (trOf cs2 hs2) (wat r k)).getD []).length y2.2), (18, .bool (namesN (trOf cs2 hs2) (wat r k)).isSome), (73, .bool ((namesN (trOf cs hs) (wat r k)).isSome && !(namesN (trOf cs2 hs2) (wat r k)).isSome))], fun _ => og, fun _ => (Row y2.1 (rows ((namesN (trOf cs2 hs2) (wat r k)).getD [])) :: Row y1.1 (rows ((namesN (trOf cs hs) (wat r k)).getD [])) :: (Row A3 (rows r) :: [Row (d9 gl) [.slice A cs.length ca, .slice B hs.length cb, .slice oa cs.length oc, .slice ka hs.length kc], Row oa (rows (masksN cs cs.length)), Row A (rows cs), Row B (rows hs), Row (d9 gl2) [.slice A2 cs2.length ca2, .slice B2 hs2.length cb2, .slice oa2 cs2.length oc2, .slice ka2 hs2.length kc2], Row oa2 (rows (masksN cs2 cs2.length)), Row A2 (rows cs2), Row B2 (rows hs2)]))⟩ ?_ ?_
  ·skip
   refine c9 (b6 rfl (b6 rfl ?_)); refine v6 rfl rfl ?_ ?_
   ·intro hg1; have hg1' := hg1; try simp at hg1'
    refine k5 hg1 (b6 rfl (k5 hg1 (H6 rfl rfl ?_))); refine p_t rfl rfl (bt1 hg1) rfl ?_; refine c5 rfl (b5 ?_); exact D5 _ () tK ⟨rfl, rfl, rfl, rfl, rfl, rfl, rfl, rfl, rfl, rfl, rfl, congrArg (fun b => some (Value.bool b)) (by exact an_y hg1), tK⟩ (List.Sublist.refl _) mC
   intro hg1; have hg1' := hg1; try simp at hg1'
   refine l8 hg1 (l8 hg1 ?_); refine p_f rfl rfl (bf2 hg1) rfl ?_; refine c5 rfl (b5 ?_); exact D5 _ () tK ⟨rfl, rfl, rfl, rfl, rfl, rfl, rfl, rfl, rfl, rfl, rfl, congrArg (fun b => some (Value.bool b)) (by exact an_n hg1), tK⟩ (List.Sublist.refl _) mC
  refine fun _ _ => ?_
  first | refine k9 rfl (fun hb5 => ?_) (fun hb5 => ?_) | refine j0 rfl (fun hb5 => ?_) (fun hb5 => ?_)
  ·have hb5' := hb5; try simp at hb5'
   refine c9 (b6 rfl (b6 rfl ?_)); refine u0 _ rfl rfl (fun _ => N7 ..) (n7 _ rfl rfl (fun _ => cM ..) fun gS => D2 (rows [((wat r k, (1 : Int)) : Cl)]) (List.prefix_refl _) ?_); refine E3 (((r.take (k)).filterMap (moveN (trOf cs hs) (trOf cs2 hs2))).length + 1) (rows (((r.take (k)).filterMap (moveN (trOf cs hs) (trOf cs2 hs2))) ++ [((wat r k, (1 : Int)) : Cl)])) iI rfl rfl rfl hG (hp' := []) (by first | (rw [List.append_nil]; done) | (rw [List.append_nil]; exact List.Perm.refl _)) (Src.row (news := rows [((wat r k, (1 : Int)) : Cl)]) (m := 1) m0 rfl (E8 _) (by decide)) rfl (A1 _ _).symm (by unfold maxLen; omega) (by omega) fun A' c' og' hG' => ?_; refine c5 rfl (b5 (w6 (w6 (i1 (c9 ?_))))); refine t5 _ rfl rfl rfl rfl q6 ?_; refine b6 rfl (b5 ?_); have hst := yW (f := moveN (trOf cs hs) (trOf cs2 hs2)) hk2; rw [show moveN (trOf cs hs) (trOf cs2 hs2) (wat r k) = some (wat r k, 1) from by rw [cx5]; rw [if_pos hb5]] at hst; exact again _ (k + 1, (A', c'), og') ⟨by show k + 1 ≤ r.length; omega, by show Grow _ _ _ ((r.take (k + 1)).filterMap (moveN (trOf cs hs) (trOf cs2 hs2))).length _ (rows ((r.take (k + 1)).filterMap (moveN (trOf cs hs) (trOf cs2 hs2)))) _; rw [hst]; rw [List.length_append]; exact hG'⟩ (y8 (by omega)) ⟨rfl, rfl, (by show some (Value.slice A' (((r.take (k)).filterMap (moveN (trOf cs hs) (trOf cs2 hs2))).length + 1) c') = some (Value.slice A' ((r.take (k + 1)).filterMap (moveN (trOf cs hs) (trOf cs2 hs2))).length c'); rw [hst, List.length_append]; rfl), rfl, rfl, rfl, tK⟩ (List.sublist_append_left _ _) mC
  have hb5' := hb5; try simp at hb5'
  refine I0 ⟨fun _ : Unit => True, fun _ => [(6, .pointer (d9 gl)), (8, .pointer (d9 gl2)), (12, .slice na ((r.take (k)).filterMap (moveN (trOf cs hs) (trOf cs2 hs2))).length nc), (55, .slice A3 r.length c3), (56, int r.length), (57, int k), (14, str (wat r k)), (15, .slice y1.1 ((namesN (trOf cs hs) (wat r k)).getD []).length y1.2), (16, .bool (namesN (trOf cs hs) (wat r k)).isSome), (17, .slice y2.1 ((namesN (trOf cs2 hs2) (wat r k)).getD []).length y2.2), (18, .bool (namesN (trOf cs2 hs2) (wat r k)).isSome), (84, .bool ((namesN (trOf cs2 hs2) (wat r k)).isSome && !(namesN (trOf cs hs) (wat r k)).isSome))], fun _ => og, fun _ => (Row y2.1 (rows ((namesN (trOf cs2 hs2) (wat r k)).getD [])) :: Row y1.1 (rows ((namesN (trOf cs hs) (wat r k)).getD [])) :: (Row A3 (rows r) :: [Row (d9 gl) [.slice A cs.length ca, .slice B hs.length cb, .slice oa cs.length oc, .slice ka hs.length kc], Row oa (rows (masksN cs cs.length)), Row A (rows cs), Row B (rows hs), Row (d9 gl2) [.slice A2 cs2.length ca2, .slice B2 hs2.length cb2, .slice oa2 cs2.length oc2, .slice ka2 hs2.length kc2], Row oa2 (rows (masksN cs2 cs2.length)), Row A2 (rows cs2), Row B2 (rows hs2)]))⟩ ?_ ?_
  ·skip
   refine c9 (b6 rfl (b6 rfl ?_)); refine v6 rfl rfl ?_ ?_
   ·intro hg2; have hg2' := hg2; try simp at hg2'
    refine k5 hg2 (b6 rfl (k5 hg2 (H6 rfl rfl ?_))); refine p_t rfl rfl (bt1 hg2) rfl ?_; refine c5 rfl (b5 ?_); exact D5 _ () tK ⟨rfl, rfl, rfl, rfl, rfl, rfl, rfl, rfl, rfl, rfl, rfl, congrArg (fun b => some (Value.bool b)) (by exact an_y hg2), tK⟩ (List.Sublist.refl _) mC
   intro hg2; have hg2' := hg2; try simp at hg2'
   refine l8 hg2 (l8 hg2 ?_); refine p_f rfl rfl (bf2 hg2) rfl ?_; refine c5 rfl (b5 ?_); exact D5 _ () tK ⟨rfl, rfl, rfl, rfl, rfl, rfl, rfl, rfl, rfl, rfl, rfl, congrArg (fun b => some (Value.bool b)) (by exact an_n hg2), tK⟩ (List.Sublist.refl _) mC
  refine fun _ _ => ?_
  first | refine k9 rfl (fun hb6 => ?_) (fun hb6 => ?_) | refine j0 rfl (fun hb6 => ?_) (fun hb6 => ?_)
  ·have hb6' := hb6; try simp at hb6'
   refine c9 (b6 rfl (b6 rfl ?_)); refine u0 _ rfl rfl (fun _ => N7 ..) (n7 _ rfl rfl (fun _ => cM ..) fun gS => D2 (rows [((wat r k, (2 : Int)) : Cl)]) (List.prefix_refl _) ?_); refine E3 (((r.take (k)).filterMap (moveN (trOf cs hs) (trOf cs2 hs2))).length + 1) (rows (((r.take (k)).filterMap (moveN (trOf cs hs) (trOf cs2 hs2))) ++ [((wat r k, (2 : Int)) : Cl)])) iI rfl rfl rfl hG (hp' := []) (by first | (rw [List.append_nil]; done) | (rw [List.append_nil]; exact List.Perm.refl _)) (Src.row (news := rows [((wat r k, (2 : Int)) : Cl)]) (m := 1) m0 rfl (E8 _) (by decide)) rfl (A1 _ _).symm (by unfold maxLen; omega) (by omega) fun A' c' og' hG' => ?_; refine c5 rfl (b5 (w6 (w6 (i1 (c9 ?_))))); refine t5 _ rfl rfl rfl rfl q6 ?_; refine b6 rfl (b5 ?_); have hst := yW (f := moveN (trOf cs hs) (trOf cs2 hs2)) hk2; rw [show moveN (trOf cs hs) (trOf cs2 hs2) (wat r k) = some (wat r k, 2) from by rw [cx5]; rw [if_neg (by rw [hb5]; decide), if_pos hb6]] at hst; exact again _ (k + 1, (A', c'), og') ⟨by show k + 1 ≤ r.length; omega, by show Grow _ _ _ ((r.take (k + 1)).filterMap (moveN (trOf cs hs) (trOf cs2 hs2))).length _ (rows ((r.take (k + 1)).filterMap (moveN (trOf cs hs) (trOf cs2 hs2)))) _; rw [hst]; rw [List.length_append]; exact hG'⟩ (y8 (by omega)) ⟨rfl, rfl, (by show some (Value.slice A' (((r.take (k)).filterMap (moveN (trOf cs hs) (trOf cs2 hs2))).length + 1) c') = some (Value.slice A' ((r.take (k + 1)).filterMap (moveN (trOf cs hs) (trOf cs2 hs2))).length c'); rw [hst, List.length_append]; rfl), rfl, rfl, rfl, tK⟩ (List.sublist_append_left _ _) mC
  have hb6' := hb6; try simp at hb6'
  refine i4 (b6 rfl (b6 rfl ?_)); refine j4 qM rfl rfl (pW ((namesN (trOf cs hs) (wat r k)).getD []) ((namesN (trOf cs2 hs2) (wat r k)).getD []) (Nat.le_trans (mj8 hok (wat r k)) (by decide))) t4 mC fun _ _ => ?_; refine H6 rfl rfl (c5 rfl (c8 ?_))
  first | refine k9 rfl (fun hb7 => ?_) (fun hb7 => ?_) | refine j0 rfl (fun hb7 => ?_) (fun hb7 => ?_)
  ·have hb7' := hb7; try simp at hb7'
   refine c9 (b6 rfl (b6 rfl ?_)); refine u0 _ rfl rfl (fun _ => N7 ..) (n7 _ rfl rfl (fun _ => cM ..) fun gS => D2 (rows [((wat r k, (3 : Int)) : Cl)]) (List.prefix_refl _) ?_); refine E3 (((r.take (k)).filterMap (moveN (trOf cs hs) (trOf cs2 hs2))).length + 1) (rows (((r.take (k)).filterMap (moveN (trOf cs hs) (trOf cs2 hs2))) ++ [((wat r k, (3 : Int)) : Cl)])) iI rfl rfl rfl hG (hp' := []) (by first | (rw [List.append_nil]; done) | (rw [List.append_nil]; exact List.Perm.refl _)) (Src.row (news := rows [((wat r k, (3 : Int)) : Cl)]) (m := 1) m0 rfl (E8 _) (by decide)) rfl (A1 _ _).symm (by unfold maxLen; omega) (by omega) fun A' c' og' hG' => ?_; refine c5 rfl (b5 (w6 (w6 (i1 (c9 ?_))))); refine t5 _ rfl rfl rfl rfl q6 ?_; refine b6 rfl (b5 ?_); have hst := yW (f := moveN (trOf cs hs) (trOf cs2 hs2)) hk2; rw [show moveN (trOf cs hs) (trOf cs2 hs2) (wat r k) = some (wat r k, 3) from by rw [cx5]; rw [if_neg (by rw [hb5]; decide), if_neg (by rw [hb6]; decide), if_neg (by simpa using hb7)]] at hst; exact again _ (k + 1, (A', c'), og') ⟨by show k + 1 ≤ r.length; omega, by show Grow _ _ _ ((r.take (k + 1)).filterMap (moveN (trOf cs hs) (trOf cs2 hs2))).length _ (rows ((r.take (k + 1)).filterMap (moveN (trOf cs hs) (trOf cs2 hs2)))) _; rw [hst]; rw [List.length_append]; exact hG'⟩ (y8 (by omega)) ⟨rfl, rfl, (by show some (Value.slice A' (((r.take (k)).filterMap (moveN (trOf cs hs) (trOf cs2 hs2))).length + 1) c') = some (Value.slice A' ((r.take (k + 1)).filterMap (moveN (trOf cs hs) (trOf cs2 hs2))).length c'); rw [hst, List.length_append]; rfl), rfl, rfl, rfl, tK⟩ (List.sublist_append_left _ _) mC
  have hb7' := hb7; try simp at hb7'
  refine i8 (w6 (w6 (i1 (c9 ?_)))); refine t5 _ rfl rfl rfl rfl q6 ?_; refine b6 rfl (b5 ?_); have hst := yW (f := moveN (trOf cs hs) (trOf cs2 hs2)) hk2; rw [show moveN (trOf cs hs) (trOf cs2 hs2) (wat r k) = none from by rw [cx5]; rw [if_neg (by rw [hb5]; decide), if_neg (by rw [hb6]; decide), if_pos (by simpa using hb7)]] at hst; rw [Option.toList_none, List.append_nil] at hst; exact again _ (k + 1, (na, nc), og) ⟨by show k + 1 ≤ r.length; omega, by show Grow _ _ _ ((r.take (k + 1)).filterMap (moveN (trOf cs hs) (trOf cs2 hs2))).length _ (rows ((r.take (k + 1)).filterMap (moveN (trOf cs hs) (trOf cs2 hs2)))) _; rw [hst]; exact hG⟩ (y8 (by omega)) ⟨rfl, rfl, (by show some (Value.slice na ((r.take (k)).filterMap (moveN (trOf cs hs) (trOf cs2 hs2))).length nc) = some (Value.slice na ((r.take (k + 1)).filterMap (moveN (trOf cs hs) (trOf cs2 hs2))).length nc); rw [hst]), rfl, rfl, rfl, tK⟩ (List.Sublist.refl _) mC
 have hb4' := hb4; try simp at hb4'
 have hk2 : k = r.length := by omega
 subst hk2; refine t7 (C7 (t8 (i1 (i4 (b6 rfl (c5 rfl (c5 rfl (c8 ?_)))))))); refine l4 ?_; have hle := hG.le; refine lC hG ?_; have hO : ((r.take (r.length)).filterMap (moveN (trOf cs hs) (trOf cs2 hs2))) = ((compareE (trOf cs hs) (trOf cs2 hs2))).1 := by rw [hE, List.take_length, hr]; rfl
 rw [hO] at hle ⊢; exact ret2 (na, nc) rfl rfl rfl (by show Value.tuple #[.slice na ((compareE (trOf cs hs) (trOf cs2 hs2))).1.length nc, int ((compareE (trOf cs hs) (trOf cs2 hs2))).2] = _; rw [hE]) rfl (by show ((compareE (trOf cs hs) (trOf cs2 hs2))).1.length ≤ nc; exact hle) nK ⟨m0, tK⟩
theorem mt_art (v : Value) (w : World) : (method (prog.types.size + Made.depth) N5 v "wayzgoose/trade.next").run prog w = .ok (N3, v) w := w7
theorem mt_ptr (v : Value) (w : World) : (method (prog.types.size + Made.depth) N4 v "wayzgoose/trade.next").run prog w = .ok (N2, v) w := w7
theorem mt_idx (v : Value) (w : World) : (method (prog.types.size + Made.depth) tM v "wayzgoose/trade.next").run prog w = .ok (Q3, v) w := w7
def nextL (h : Hd) : List Int := if ¬ h.2.2.1 = -1 then [h.2.2.1] else h.2.2.2.l
abbrev SetIs (m : Nat) (p : Nat → Bool) : Prop := m < 256 ∧ ∀ j, m.testBit j = p j
theorem SetIs.add {m e : Nat} {p q : Nat → Bool} (h : SetIs m p) (he : e < 8) (hq : ∀ j, q j = (p j || decide (e = j))) : SetIs (m ||| 2 ^ e) q := ⟨Nat.or_lt_two_pow (n := 8) h.1 (Nat.pow_lt_pow_right (by omega) he), fun j => by rw [Nat.testBit_or, Nat.testBit_two_pow, h.2 j, hq j]⟩
theorem SetIs.same {m : Nat} {p q : Nat → Bool} (h : SetIs m p) (hq : ∀ j, q j = p j) : SetIs m q := ⟨h.1, fun j => by rw [h.2 j, hq j]⟩
theorem SetIs.or {m n : Nat} {p q : Nat → Bool} (h : SetIs m p) (h2 : SetIs n q) : SetIs (m ||| n) (fun j => p j || q j) := ⟨Nat.or_lt_two_pow (n := 8) h.1 h2.1, fun j => by rw [Nat.testBit_or, h.2 j, h2.2 j]⟩
theorem kz8 {cs : List Cl} {hs : List Hd} (hok : TrOK (trOf cs hs)) {i : Nat} (hi : i < hs.length) : ∀ x ∈ nextL (hs.getD i default), 0 ≤ x ∧ x < (hs.length : Int) := by
  have hh := hok.h i (by rw [H0]; exact hi); have e : (trOf cs hs).hs.getD i default = (hs.getD i default).p := V4 hi; have hS := hh.s; have ha := hh.a; rw [e, H0] at hS ha; intro x hx; unfold nextL at hx
  split at hx
  · rename_i h1
    rw [List.mem_singleton] at hx; subst hx; simp only [Hd.p] at hS
    omega
  obtain ⟨k, hk, rfl⟩ := List.getElem_of_mem hx; have := gU (ha k hk); simp only [Hd.p] at this; rw [B8 hk] at this
  omega
theorem iz6 {cs : List Cl} {hs : List Hd} (hok : TrOK (trOf cs hs)) {i : Nat} (hi : i < hs.length) (k : Nat) : nextB (trOf cs hs) i k = decide ((k : Int) ∈ nextL (hs.getD i default)) := by
  have hh := hok.h i (by rw [H0]; exact hi); have e : (trOf cs hs).hs.getD i default = (hs.getD i default).p := V4 hi; have hk := hh.kinds; rw [e] at hk; unfold nextB nextL; rw [e, Bool.eq_iff_iff, Bool.or_eq_true, decide_eq_true_eq, decide_eq_true_eq, decide_eq_true_eq]; generalize hs.getD i default = h at *; simp only [Hd.p] at hk ⊢
  by_cases h1 : h.2.2.1 = -1
  · rw [if_neg (fun e => e h1)]
    exact ⟨fun e => e.elim (fun e => by omega) id, .inr⟩
  rw [if_pos h1]
  have h2 : h.2.2.2.l = [] := by
    rcases hk with ⟨_, _, h2⟩ | ⟨h2, _⟩ | ⟨h2, _⟩
    · exact h2
    · exact absurd h2 h1
    exact absurd h2 h1
  rw [h2, List.mem_singleton]; exact ⟨fun e => e.elim (fun e => e.symm) (fun e => by cases e), fun e => .inl e.symm⟩
theorem nU (c : Int) (al : Sl Int) : Meets prog N3 [.agg #[int c, .slice al.a al.l.length al.c]] { val := fun _ : Unit => .slice al.a al.l.length al.c } := by
 refine j3 qI rfl v8 fun w0 => i4 (O3 rfl rfl fun gB => ?_); refine c5 rfl (t6 ?_)
 first | refine a6 ⟨_, 1, none⟩ rfl rfl iB rfl ?_ | refine a6 _ rfl rfl iB rfl ?_
 first | refine a7 rfl k4 rfl (i2 mB rfl) ?_ | refine a7 rfl k4 rfl (d8 mB rfl) ?_ | refine a7 rfl k4 rfl (b7 mB (b4 (by omega) rfl)) ?_ | refine a7 rfl k4 rfl (b8 mB (rows_get (by omega) rfl)) ?_ | refine a7 rfl k4 rfl (d7 mB rfl) ?_
 refine c5 rfl (c8 (l4 ?_)); exact ret1 () rfl rfl rfl tK nK tK
theorem qR (al : Sl Int) : Meets prog Q3 [.agg #[.slice al.a al.l.length al.c]] { val := fun _ : Unit => .slice al.a al.l.length al.c } := by
 refine j3 sY rfl v8 fun w0 => i4 (O3 rfl rfl fun gB => ?_); refine c5 rfl (t6 ?_)
 first | refine a6 ⟨_, 0, none⟩ rfl rfl kE rfl ?_ | refine a6 _ rfl rfl kE rfl ?_
 first | refine a7 rfl k4 rfl (i2 mB rfl) ?_ | refine a7 rfl k4 rfl (d8 mB rfl) ?_ | refine a7 rfl k4 rfl (b7 mB (b4 (by omega) rfl)) ?_ | refine a7 rfl k4 rfl (b8 mB (rows_get (by omega) rfl)) ?_ | refine a7 rfl k4 rfl (d7 mB rfl) ?_
 refine c5 rfl (c8 (l4 ?_)); exact ret1 () rfl rfl rfl tK nK tK
theorem nQ (s : Int) : Meets prog N2 [.agg #[int s]] { val := fun x : OutC => .slice x.1 1 x.2, LO := fun x => [Row x.1 (rows [s])] } := by
 refine j3 qC rfl v8 fun w0 => i4 (O3 rfl rfl fun gB => ?_); refine c5 rfl (t6 ?_)
 first | refine a6 ⟨_, 0, none⟩ rfl rfl R9 rfl ?_ | refine a6 _ rfl rfl R9 rfl ?_
 first | refine a7 rfl a8 rfl (i2 mB rfl) ?_ | refine a7 rfl a8 rfl (d8 mB rfl) ?_ | refine a7 rfl a8 rfl (b7 mB (b4 (by omega) rfl)) ?_ | refine a7 rfl a8 rfl (b8 mB (rows_get (by omega) rfl)) ?_ | refine a7 rfl a8 rfl (d7 mB rfl) ?_
 refine n7 _ rfl rfl (fun _ => J5 ..) fun gS => ?_; refine c5 rfl (c8 (l4 ?_)); refine R8 (rows [s]) (List.prefix_refl _) ?_; exact ret1 (some ⟨gS, 0, none⟩, 1) rfl rfl rfl tK nK ⟨m0, tK⟩
theorem tr_step {p : Nat → Bool} {k : Nat} (h : p k = true) (j : Nat) : (decide (j < k + 1) && p j) = ((decide (j < k) && p j) || decide (k = j)) := by
  by_cases hj : k = j
  · subst hj; rw [h]; simp
  have e : decide (j < k + 1) = decide (j < k) := decide_eq_decide.2 (by omega); rw [e]; simp [hj]
theorem tr_skip {p : Nat → Bool} {k : Nat} (h : p k = false) (j : Nat) : (decide (j < k + 1) && p j) = (decide (j < k) && p j) := by
  by_cases hj : k = j
  · subst hj; rw [h]; simp
  have e : decide (j < k + 1) = decide (j < k) := decide_eq_decide.2 (by omega); rw [e]
section
variable {c : Cx} {Q : Exit → Act → World → Prop} {fr : Fr} {hp : Hp} {L : List Fact} {ops : Array Oper} {rest : List Oper} {d : Tmp} {ty : TypeId} {pos : String} {af : Array Edge}
theorem nq8 {x : Operand} {ats : Array TypeId} {h : Hd} (hd : Nat.blt d c.n = true) (hP : c.P = prog) (hx : ev fr x = some (kindOf h).v) (hL : Hd.row h ∈ L)
    (k : ∀ o : OutC, HL c ops Q rest ((d, .slice o.1 (nextL h).length o.2) :: fr) hp (Row o.1 (rows (nextL h)) :: L)) : HL c ops Q (⟨some d, .call ⟨.invoke x "wayzgoose/trade.next", #[], ats⟩, ty, pos, af, none⟩ :: rest) fr hp L := by
  unfold kindOf at hx; unfold nextL at k
  by_cases h1 : ¬ h.2.2.1 = -1
  · rw [if_pos h1] at hx
    simp only [if_pos h1] at k; have hm := nQ h.2.2.1; rw [← hP] at hm; refine az1 (f := N2) (hpR := hp) (by rw [hP]; exact nZ) hd hx (by rw [hP]; exact mt_ptr _) hm t4 tK fun o _ => ?_; exact k o
  rw [if_neg h1] at hx; simp only [if_neg h1] at k; have k2 : HL c ops Q rest ((d, .slice h.2.2.2.a h.2.2.2.l.length h.2.2.2.c) :: fr) hp L := hl_dup hL (k (h.2.2.2.a, h.2.2.2.c))
  by_cases h2 : ¬ h.2.1 = -1
  · rw [if_pos h2] at hx
    have hm := nU h.2.1 h.2.2.2; rw [← hP] at hm; exact az1 (f := N3) (hpR := hp) (by rw [hP]; exact pE) hd hx (by rw [hP]; exact mt_art _) hm t4 tK fun _ _ => k2
  rw [if_neg h2] at hx; have hm := qR h.2.2.2; rw [← hP] at hm; exact az1 (f := Q3) (hpR := hp) (by rw [hP]; exact rH) hd hx (by rw [hP]; exact mt_idx _) hm t4 tK fun _ _ => k2
end
theorem pM {A B oa ka : Option Addr} {ca cb oc kc gl : Nat} (cs : List Cl) (hs : List Hd) (hl : hs.length ≤ 6) : Meets prog Z9 [.pointer (d9 gl)] { LI := [Row (d9 gl) [.slice A cs.length ca, .slice B hs.length cb, .slice oa cs.length oc, .slice ka hs.length kc], Row ka (rows (kindsN hs hs.length))], inv := fun m : Nat => SetIs m (fun j => decide (j < hs.length) && isTrB (trOf cs hs) (j : Int)), val := fun m => u8 m } := by
 refine j3 rE rfl v8 fun w0 => ?_; refine i4 (c5 rfl (t6 (c5 rfl (c8 (Y7 ?_))))); refine c9 (b6 rfl (r8 rfl rfl ?_))
 first | refine a6 ⟨_, 3, none⟩ rfl rfl r9 rfl ?_ | refine a6 _ rfl rfl r9 rfl ?_
 first | refine a7 rfl j7 rfl (i2 mB rfl) ?_ | refine a7 rfl j7 rfl (d8 mB rfl) ?_ | refine a7 rfl j7 rfl (b7 mB (b4 (by omega) rfl)) ?_ | refine a7 rfl j7 rfl (b8 mB (rows_get (by omega) rfl)) ?_ | refine a7 rfl j7 rfl (d7 mB rfl) ?_
 refine k6 rfl G7 rfl ?_; refine b6 rfl (c8 (j5 ?_)); refine u6 (β := Nat × Nat) ⟨fun x => x.1 ≤ hs.length ∧ SetIs x.2 (fun j => decide (j < x.1) && isTrB (trOf cs hs) (j : Int)), fun x => [(0, .pointer (d9 gl)), (3, u8 x.2), (9, int hs.length), (10, int x.1)], fun _ => [], fun _ => [Row (d9 gl) [.slice A cs.length ca, .slice B hs.length cb, .slice oa cs.length oc, .slice ka hs.length kc], Row ka (rows (kindsN hs hs.length))]⟩ (fun x => hs.length - x.1) (0, 0) ⟨Nat.zero_le _, by decide, fun j => by simp⟩ mC nK mC fun x hx => ?_; obtain ⟨k, m⟩ := x; obtain ⟨hk, hM⟩ := hx; simp only at hk hM; refine i4 (B5 rfl rfl rfl (c8 (d6 ?_)))
 first | refine k9 rfl (fun hb1 => ?_) (fun hb1 => ?_) | refine j0 rfl (fun hb1 => ?_) (fun hb1 => ?_)
 ·have hb1' := hb1; try simp at hb1'
  have hk2 : k < hs.length := by omega
  refine i8 (i1 (d6 (j5 (i4 (b6 rfl (c5 rfl (t6 ?_))))))); refine b6 rfl (b6 rfl ?_); refine j4 bV rfl rfl (bR (oa := oa) (oc := oc) (ka := ka) (kc := kc) (gl := gl) (A := A) (B := B) (ca := ca) (cb := cb) cs hs (k : Int) (by omega) (by omega) (by omega)) t4 mC fun _ _ => c8 ?_
  first | refine k9 rfl (fun hb2 => ?_) (fun hb2 => ?_) | refine j0 rfl (fun hb2 => ?_) (fun hb2 => ?_)
  ·have hb2' := hb2; try simp at hb2'
   refine c9 (b6 rfl (b6 rfl ?_)); refine j4 K2 rfl rfl (K1 m k hM.1 (by omega)) t4 tK fun _ _ => ?_; refine c5 rfl (b5 (w6 (i1 (c9 ?_)))); refine t5 _ rfl rfl rfl rfl q6 ?_; refine b6 rfl (b5 ?_); exact again _ (k + 1, m ||| 2 ^ k) ⟨by show k + 1 ≤ hs.length; omega, hM.add (by omega) (tr_step (p := fun j => isTrB (trOf cs hs) (j : Int)) hb2)⟩ (y8 (by omega)) mC nK mC
  have hb2' := hb2; try simp at hb2'
  refine i8 (w6 (i1 (c9 ?_))); refine t5 _ rfl rfl rfl rfl q6 ?_; refine b6 rfl (b5 ?_); exact again _ (k + 1, m) ⟨by show k + 1 ≤ hs.length; omega, hM.same (tr_skip (p := fun j => isTrB (trOf cs hs) (j : Int)) hb2)⟩ (y8 (by omega)) mC nK mC
 have hb1' := hb1; try simp at hb1'
 have hk2 : k = hs.length := by omega
 subst hk2; refine t7 (C7 (t8 (i1 (i4 (b6 rfl (c5 rfl (c8 (l4 ?_)))))))); exact ret1 m rfl rfl rfl hM nK tK
theorem dx5 {l : List Int} (h : ∀ k, k < l.length → 0 ≤ l.getD k default ∧ (0 < k → l.getD (k - 1) default < l.getD k default)) : ∀ k : Nat, k < l.length → (k : Int) ≤ l.getD k default
  | 0, hk => (h 0 hk).1
  | k + 1, hk => by
    have h1 := dx5 h k (by omega); have h2 := (h (k + 1) hk).2 (by omega); rw [Nat.add_sub_cancel] at h2
    omega
theorem iz5 {cs : List Cl} {hs : List Hd} (hok : TrOK (trOf cs hs)) {i : Nat} (hi : i < hs.length) : (nextL (hs.getD i default)).length ≤ 6 := by
  have h6h := hok.h6; rw [H0] at h6h; have hh := hok.h i (by rw [H0]; exact hi); have e : (trOf cs hs).hs.getD i default = (hs.getD i default).p := V4 hi; have ha := hh.a; rw [e, H0] at ha; unfold nextL
  split
  · simp
  generalize hl : (hs.getD i default).2.2.2.l = l; have ha2 : ∀ k, k < l.length → alsoErr hs.length i l k = 0 := by rw [← hl]; exact ha
  have hg := dx5 (l := l) fun k hk => ⟨(gU (ha2 k hk)).1, (gU (ha2 k hk)).2.2.2⟩
  by_cases h0 : l.length = 0
  · omega
  have h1 := hg (l.length - 1) (by omega); have h2 := (gU (ha2 (l.length - 1) (by omega))).2.1
  omega
theorem six {ns : List Nat} (h : ns.length = 6) : ∃ a b c d e f, ns = [a, b, c, d, e, f] := by
  match ns, h with
  | [a, b, c, d, e, f], _ => exact ⟨a, b, c, d, e, f, rfl⟩
abbrev arr8 (g : Nat) (l : List Nat) : Nat × Obj := (g, .cells (rows l).toArray X4 (0, 0))
theorem dx6 {g k v : Nat} {l : List Nat} : ((g, Obj.cells ((rows l).toArray.setIfInBounds k (u8 v)) X4 (0, 0)) : Nat × Obj) = arr8 g (l.set k v) := by
  unfold arr8; rw [nj3 (α := Nat) rfl l k (u8 v) v rfl]
theorem at8 {l : List Nat} {k : Nat} (hk : k < l.length) : (rows l).toArray[k]? = some (u8 (l.getD k default)) := rows_at rfl hk rfl
theorem jj5 {l : List Nat} {k j v : Nat} (hk : k < l.length) : (l.set k v).getD j default = if k = j then v else l.getD j default := by
  rw [List.getD_eq_getElem?_getD, List.getD_eq_getElem?_getD, List.getElem?_set]
  split
  · rfl
  rfl
structure NetK (t : Tr) (k : Nat) (ns : List Nat) : Prop where
  len : ns.length = 6
  is : ∀ i, SetIs (ns.getD i default) (fun x => decide (i < k) && nextB t i x)
structure NetJ (t : Tr) (k : Nat) (l : List Int) (ns : List Nat) : Prop where
  len : ns.length = 6
  is : ∀ i, SetIs (ns.getD i default) (fun x => if i = k then decide ((x : Int) ∈ l) else decide (i < k) && nextB t i x)
theorem NetK.zero (t : Tr) : NetK t 0 (List.replicate 6 0) := ⟨rfl, fun i => by
  have e : (List.replicate 6 0).getD i (default : Nat) = 0 := by
    rw [List.getD_eq_getElem?_getD, List.getElem?_replicate]
    split <;> rfl
  rw [e]
  exact ⟨by decide, fun j => by simp⟩⟩
theorem NetK.start {t : Tr} {k : Nat} {ns : List Nat} (h : NetK t k ns) : NetJ t k [] ns := ⟨h.len, fun i => (h.is i).same fun j => by
  by_cases hi : i = k
  · rw [if_pos hi]; subst hi; simp
  rw [if_neg hi]⟩
theorem NetJ.add {t : Tr} {k e : Nat} {l : List Int} {ns : List Nat} (h : NetJ t k l ns) (hk : k < 6) (he : e < 8) : NetJ t k (l ++ [(e : Int)]) (ns.set k (ns.getD k default ||| 2 ^ e)) := ⟨by rw [List.length_set]; exact h.len, fun i => by
  rw [jj5 (by rw [h.len]; exact hk)]
  by_cases hi : k = i
  · subst hi
    rw [if_pos rfl]; refine (h.is k).add he fun j => ?_; rw [if_pos rfl, if_pos rfl, ← Bool.decide_or]; refine decide_eq_decide.2 ?_; rw [List.mem_append, List.mem_singleton]; exact or_congr_right ⟨fun e => by omega, fun e => by omega⟩
  rw [if_neg hi]
  exact (h.is i).same fun j => by rw [if_neg (fun e => hi e.symm), if_neg (fun e => hi e.symm)]⟩
theorem NetJ.done {cs : List Cl} {hs : List Hd} {k : Nat} {ns : List Nat} (hok : TrOK (trOf cs hs)) (hk : k < hs.length) (h : NetJ (trOf cs hs) k (nextL (hs.getD k default)) ns) : NetK (trOf cs hs) (k + 1) ns := ⟨h.len, fun i => (h.is i).same fun j => by
  by_cases hi : i = k
  · subst hi
    rw [if_pos rfl, iz6 hok hk]
    simp
  rw [if_neg hi]; have e : decide (i < k + 1) = decide (i < k) := decide_eq_decide.2 (by omega)
  rw [e]⟩
set_option maxHeartbeats 1000000 in
theorem sF {A B oa ka : Option Addr} {ca cb oc kc gl : Nat} (cs : List Cl) (hs : List Hd) (hok : TrOK (trOf cs hs)) : Meets prog cQ [.pointer (d9 gl)] { LI := [Row (d9 gl) [.slice A cs.length ca, .slice B hs.length cb, .slice oa cs.length oc, .slice ka hs.length kc], Row ka (rows (kindsN hs hs.length)), RowsF B hs Hd.row], inv := fun ns : List Nat => NetK (trOf cs hs) hs.length ns, val := fun ns => .agg (rows ns).toArray } := by
 refine j3 uE rfl v8 fun w0 => i4 ?_; have h6h := hok.h6; rw [H0] at h6h; refine u4 rfl (fun _ => V1 _) fun g2 => t6 (u4 rfl (fun _ => V1 _) fun g3 => ?_); refine c8 (d6 (i4 (b6 rfl (r8 rfl rfl ?_))))
 first | refine a6 ⟨_, 3, none⟩ rfl rfl r9 rfl ?_ | refine a6 _ rfl rfl r9 rfl ?_
 first | refine a7 rfl j7 rfl (i2 mB rfl) ?_ | refine a7 rfl j7 rfl (d8 mB rfl) ?_ | refine a7 rfl j7 rfl (b7 mB (b4 (by omega) rfl)) ?_ | refine a7 rfl j7 rfl (b8 mB (rows_get (by omega) rfl)) ?_ | refine a7 rfl j7 rfl (d7 mB rfl) ?_
 refine k6 rfl G7 rfl ?_; refine b6 rfl (c8 (j5 ?_)); refine u6 (β := Nat × List Nat) ⟨fun x => x.1 ≤ hs.length ∧ NetK (trOf cs hs) x.1 x.2, fun x => [(0, .pointer (d9 gl)), (2, .pointer (d9 g2)), (3, .pointer (d9 g3)), (11, .slice ka hs.length kc), (12, int hs.length), (13, int x.1)], fun x => [arr8 g3 x.2, arr8 g2 (List.replicate 6 0)], fun _ => [Row (d9 gl) [.slice A cs.length ca, .slice B hs.length cb, .slice oa cs.length oc, .slice ka hs.length kc], Row ka (rows (kindsN hs hs.length)), RowsF B hs Hd.row]⟩ (fun x => hs.length - x.1) (0, List.replicate 6 0) ⟨Nat.zero_le _, .zero _⟩ mC (List.Sublist.refl _) mC fun x hx => ?_; obtain ⟨k, ns⟩ := x; obtain ⟨hk, hN⟩ := hx; simp only at hk hN; refine i4 (B5 rfl rfl rfl (c8 (d6 ?_)))
 first | refine k9 rfl (fun hb1 => ?_) (fun hb1 => ?_) | refine j0 rfl (fun hb1 => ?_) (fun hb1 => ?_)
 ·have hb1' := hb1; try simp at hb1'
  have hk2 : k < hs.length := by omega
  have hin := kz8 hok hk2; have hnle := iz5 hok hk2; generalize hnl : nextL (hs.getD k default) = nl at hin hnle; refine i8 (i1 (d6 (j5 (i4 (b6 rfl ?_))))); refine m7 (α := Kd) (kindsN hs hs.length) k rfl G7 U9 rfl rfl rfl mB (M6 (Nat.le_refl _)).symm (by rw [M6 (Nat.le_refl _)]; exact hk2) (by decide) ?_; refine a7 (v := (kindOf (hs.getD k default)).v) rfl R4 rfl (b7 mB (by rw [← tZ hk2]; exact b4 (by rw [M6 (Nat.le_refl _)]; exact hk2) rfl)) ?_; refine c5 rfl (c5 rfl (t6 (b6 rfl ?_))); refine gx2 (p := (hs.getD k default)) mB (w8 hk2) (nq8 rfl rfl rfl m0 fun o => ?_); rw [hnl]; refine k6 rfl A8 rfl ?_; refine b6 rfl (c8 (j5 ?_)); refine u6 (β := Nat × List Nat) ⟨fun x => x.1 ≤ nl.length ∧ NetJ (trOf cs hs) k (nl.take x.1) x.2, fun x => [(0, .pointer (d9 gl)), (2, .pointer (d9 g2)), (3, .pointer (d9 g3)), (11, .slice ka hs.length kc), (12, int hs.length), (13, int k), (4, int k), (19, .slice o.1 nl.length o.2), (20, int nl.length), (21, int x.1)], fun x => [arr8 g3 x.2, arr8 g2 (List.replicate 6 0)], fun _ => Row o.1 (rows nl) :: [Row (d9 gl) [.slice A cs.length ca, .slice B hs.length cb, .slice oa cs.length oc, .slice ka hs.length kc], Row ka (rows (kindsN hs hs.length)), RowsF B hs Hd.row]⟩ (fun x => nl.length - x.1) (0, ns) ⟨Nat.zero_le _, hN.start⟩ mC (List.Sublist.refl _) mC fun x hx => ?_; clear hN; obtain ⟨j, ns⟩ := x; obtain ⟨hj, hN⟩ := hx; simp only at hj hN; have hkl : k < ns.length := by rw [hN.len]; omega
  refine i4 (B5 rfl rfl rfl (c8 (d6 ?_)))
  first | refine k9 rfl (fun hb2 => ?_) (fun hb2 => ?_) | refine j0 rfl (fun hb2 => ?_) (fun hb2 => ?_)
  ·have hb2' := hb2; try simp at hb2'
   have hj2 : j < nl.length := by omega
   obtain ⟨e, he⟩ := Int.eq_ofNat_of_zero_le (hin _ (w8 hj2)).1; have hel := (hin _ (w8 hj2)).2; refine i8 (i1 (d6 (j5 (i4 ?_)))); refine m7 (α := Int) nl j rfl A8 E1 rfl rfl rfl mB rfl hj2 (by decide) (a7 (v := int (nl.getD j default)) rfl a8 rfl (b7 mB (b4 hj2 rfl)) ?_); refine c5 rfl (c8 (c9 (b6 rfl (b6 rfl ?_)))); refine iM k k rfl P6 G8 rfl rfl rfl (by omega) (by omega) (a7 (v := u8 (ns.getD k default)) rfl D3 rfl (i2 mB (at8 hkl)) ?_); refine qX (v := int (e : Int)) rfl (congrArg (fun z => some (int z)) he) ?_; refine j4 K2 rfl rfl (K1 (ns.getD k default) e (hN.is k).1 (by omega)) t4 tK fun _ _ => iM k k rfl P6 G8 rfl rfl rfl (by omega) (by omega) (C8 rfl rfl (.refl _) G8 (at8 hkl) (by rfl) ?_); rw [dx6]; refine b5 (w6 (i1 (c9 ?_))); refine t5 _ rfl rfl rfl rfl q6 ?_; refine b6 rfl (b5 ?_); exact again _ (j + 1, ns.set k (ns.getD k default ||| 2 ^ e)) ⟨by show j + 1 ≤ nl.length; omega, by show NetJ _ _ (nl.take (j + 1)) _; rw [D6 nl j hj2, he]; exact hN.add (by omega) (by omega)⟩ (y8 (by omega)) mC (List.Sublist.refl _) mC
  have hb2' := hb2; try simp at hb2'
  have hj2 : j = nl.length := by omega
  subst hj2; rw [List.take_length, ← hnl] at hN; refine t7 (C7 (t8 (w6 (i1 (c9 ?_))))); refine t5 _ rfl rfl rfl rfl q6 ?_; refine b6 rfl (b5 ?_); exact again _ (k + 1, ns) ⟨by show k + 1 ≤ hs.length; omega, NetJ.done hok hk2 hN⟩ (y8 (by omega)) mC (List.Sublist.refl _) mC
 have hb1' := hb1; try simp at hb1'
 have hk2 : k = hs.length := by omega
 subst hk2; have hN2 := hN; obtain ⟨a0, a1, a2, a3, a4, a5, rfl⟩ := six hN.len; refine t7 (C7 (t8 (i1 (i4 ?_))))
 first | refine G3 rfl E2 C5 rfl mB (by rfl) ?_ | refine I3 rfl E2 C5 rfl mB (by rfl) ?_ | refine z8 rfl E2 C5 rfl rfl (v9 mB (B3 (by omega))) ?_
 refine l6 rfl rfl X2 C5 (by rfl) (by rfl) ?_; refine c8 (l4 ?_); refine uV [a0, a1, a2, a3, a4, a5] rfl rfl E2 C5 rfl m0 rfl rfl hN2 nK tK
set_option maxHeartbeats 1000000 in
theorem dJ (ns : List Nat) (hn : ns.length = 6) (e : Edges) (he : ∀ i, SetIs (ns.getD i default) (e i)) (h s : Nat) (hh : h < 6) (hs : s ≤ 1000000) : Meets prog bC [.agg (rows ns).toArray, int h, int s] { inv := fun m : Nat => SetIs m (reachB 6 e h s), val := fun m => u8 m } := by
 refine j3 sQ rfl v8 fun w0 => i4 (O3 rfl rfl fun gB => ?_); refine c5 rfl (t6 (b6 rfl ?_)); refine j4 K2 rfl rfl (K1 0 h (by decide) (by omega)) t4 tK fun _ _ => ?_; refine c5 rfl (c8 (d6 (i4 (b6 rfl (b6 rfl (c8 (j5 ?_))))))); refine u6 (β := Nat × Nat) ⟨fun x => x.1 ≤ s ∧ SetIs x.2 (reachB 6 e h x.1), fun x => [(3, .pointer (d9 gB)), (7, u8 x.2), (13, int s), (14, int x.1)], fun _ => [arr8 gB ns], fun _ => []⟩ (fun x => s - x.1) (0, 0 ||| 2 ^ h) ⟨Nat.zero_le _, SetIs.add (p := fun _ => false) ⟨by decide, fun j => by simp⟩ (by omega) fun j => by rw [reachB, Bool.false_or]; exact decide_eq_decide.2 ⟨fun e => e.symm, fun e => e.symm⟩⟩ mC (List.Sublist.refl _) tK fun x hx => ?_; obtain ⟨k, m⟩ := x; obtain ⟨hk, hM⟩ := hx; simp only at hk hM; refine i4 (B5 rfl rfl rfl (c8 (d6 ?_)))
 first | refine k9 rfl (fun hb1 => ?_) (fun hb1 => ?_) | refine j0 rfl (fun hb1 => ?_) (fun hb1 => ?_)
 ·have hb1' := hb1; try simp at hb1'
  have hk2 : k < s := by omega
  refine i8 (i1 (d6 (j5 (i4 (b6 rfl (c5 rfl (c8 (Y7 ?_)))))))); refine c9 ?_; refine G3 (n := 6) rfl E2 C5 rfl mB (by rw [List.size_toArray, R6]; show ns.length * 1 = 6; omega) ?_; refine b6 rfl (c8 (j5 ?_)); refine u6 (β := Nat × Nat) ⟨fun x => x.1 ≤ 6 ∧ SetIs x.2 (fun j => reachB 6 e h k j || (List.range x.1).any fun x => reachB 6 e h k x && e x j), fun x => [(3, .pointer (d9 gB)), (7, u8 m), (13, int s), (14, int k), (8, u8 x.2), (17, .agg (rows ns).toArray), (18, int x.1)], fun _ => [arr8 gB ns], fun _ => []⟩ (fun x => 6 - x.1) (0, m) ⟨Nat.zero_le _, hM.same fun j => by simp⟩ mC (List.Sublist.refl _) tK fun x hx => ?_; obtain ⟨i, q⟩ := x; obtain ⟨hi, hQ⟩ := hx; simp only at hi hQ; refine i4 (B5 rfl rfl rfl (c8 (d6 ?_)))
  first | refine k9 rfl (fun hb2 => ?_) (fun hb2 => ?_) | refine j0 rfl (fun hb2 => ?_) (fun hb2 => ?_)
  ·have hb2' := hb2; try simp at hb2'
   have hi2 : i < 6 := by omega
   refine i8 (i1 (d6 (j5 (i4 (b6 rfl ?_))))); refine jz8 i rfl P6 G8 aq0 rfl rfl rfl hi2 (at8 (by omega)) ?_; refine c5 rfl (c5 rfl (t6 (b6 rfl (b6 rfl ?_)))); refine j4 iE rfl rfl (hZ m i hM.1 (by omega)) t4 tK fun _ _ => c8 ?_
   first | refine k9 rfl (fun hb3 => ?_) (fun hb3 => ?_) | refine j0 rfl (fun hb3 => ?_) (fun hb3 => ?_)
   ·have hb3' := hb3; try simp at hb3'
    rw [hM.2 i] at hb3; refine c9 (b6 rfl (b6 rfl ?_)); refine kz2 rfl rfl rfl hQ.1 (he i).1 ?_; refine c5 rfl (b5 (w6 (i1 (c9 ?_)))); refine t5 _ rfl rfl rfl rfl q6 ?_; refine b6 rfl (b5 ?_); exact again _ (i + 1, q ||| ns.getD i default) ⟨by show i + 1 ≤ 6; omega, (hQ.or (he i)).same fun j => by rw [aj6, hb3, Bool.true_and, Bool.or_assoc]⟩ (y8 (by omega)) mC (List.Sublist.refl _) tK
   have hb3' := hb3; try simp at hb3'
   rw [hM.2 i] at hb3; refine i8 (w6 (i1 (c9 ?_))); refine t5 _ rfl rfl rfl rfl q6 ?_; refine b6 rfl (b5 ?_); exact again _ (i + 1, q) ⟨by show i + 1 ≤ 6; omega, hQ.same fun j => by rw [aj6, hb3, Bool.false_and, Bool.or_false]⟩ (y8 (by omega)) mC (List.Sublist.refl _) tK
  have hb2' := hb2; try simp at hb2'
  have hi2 : i = 6 := by omega
  subst hi2; refine t7 (C7 (t8 (i1 (c9 (b6 rfl (c5 rfl (b5 (w6 (i1 (c9 ?_)))))))))); refine t5 _ rfl rfl rfl rfl q6 ?_; refine b6 rfl (b5 ?_); exact again _ (k + 1, q) ⟨by show k + 1 ≤ s; omega, hQ.same fun j => by rw [reachB]⟩ (y8 (by omega)) mC (List.Sublist.refl _) tK
 have hb1' := hb1; try simp at hb1'
 have hk2 : k = s := by omega
 subst hk2; refine t7 (C7 (t8 (i1 (i4 (b6 rfl (c5 rfl (c8 (l4 ?_)))))))); exact ret1 m rfl rfl rfl hM nK tK
abbrev Rf := Int × Int
instance : El Rf where
  default := (0, 0)
  cells m := [int m.1, int m.2]
  sz := 2
  len _ := rfl
  one a u h := by simp at h; rcases h with rfl | rfl <;> rfl
theorem eq_ref (p q : Rf) (w : World) : (Op.equal Q4 (pair p) (pair q)).run prog w = .ok (decide (p = q)) w := pQ p.1 q.1 p.2 q.2 w
theorem gx5 (k : Rf) (w : World) : ∀ (l : List (Ment Rf)) (i : Nat), (Instr.findAsking Q4 (pair k) (l.map (entOf pair)) i).run prog w = .ok (findM k l i) w
  | [], i => rfl
  | p :: l, i => by
    rw [List.map_cons, Instr.findAsking]; simp only [Sem.run_bind, entOf, eq_ref, Result.andThen_ok, findM]
    by_cases hk : p.1 = k
    · simp [hk]
    have h' : ¬ k = p.1 := fun e => hk e.symm; simp only [hk, h', decide_false, Bool.false_eq_true, if_false]; exact gx5 k w l (i + 1)
theorem KRf : KeyC prog Q4 pair where
  chk b k w := by
    cases b <;> kernel_rfl
  find k l w := by
    unfold Instr.findKey; simp only [Sem.run_bind, run_underlying underlying156, Result.andThen_ok]
    cases l with
    | nil => rfl
    | cons p l => exact gx5 k w (p :: l) 0
  stays k w := by
    obtain ⟨a, b⟩ := k
    have : Instr.sameBits 10000 (W.pair (a, b)) (W.pair (a, b)) = true := by
      simp [Instr.sameBits, W.pair]
    unfold Instr.keyThatStays; rw [if_pos this]
    rfl
theorem zv_bool (w : World) : (zeroValue gz4).run prog w = .ok (.bool false) w := w7
def ThereOK (M : List (Ment Rf)) (S : List Rf) : Prop := ∀ p, getM M p = if p ∈ S then some (.bool true) else none
theorem ThereOK.put {M : List (Ment Rf)} {S : List Rf} (h : ThereOK M S) (p : Rf) (clk : Nat) : ThereOK (putM M p (.bool true) clk) (S ++ [p]) := fun q => by
  rw [pq8, h q]
  by_cases e : p = q
  · rw [if_pos e, if_pos (by rw [e]; simp)]
  rw [if_neg e]
  by_cases e2 : q ∈ S
  · rw [if_pos e2, if_pos (List.mem_append_left _ e2)]
  rw [if_neg e2, if_neg (by rw [List.mem_append, List.mem_singleton]; exact fun h => h.elim e2 (fun h => e h.symm))]
section
variable {c : Cx} {Q : Exit → Act → World → Prop} {fr : Fr} {hp : Hp} {L : List Fact} {ops : Array Oper} {rest : List Oper} {d : Tmp} {ty : TypeId} {pos : String} {af : Array Edge}
theorem r_there {x y : Operand} {g clk : Nat} {M : List (Ment Rf)} {S : List Rf} {p : Rf} (hT : ThereOK M S) (hd : Nat.blt d c.n = true) (hP : c.P = prog) (hx : ev fr x = some (.map (some g))) (hy : ev fr y = some (pair p)) (hm : MapAt c.b hp L g (mapO pair M clk))
    (k : HL c ops Q rest ((d, .bool (decide (p ∈ S))) :: fr) hp L) : HL c ops Q (⟨some d, .lookup iA x y false, ty, pos, af, none⟩ :: rest) fr hp L := by
  have K := KRf; have hu := dA; have hz := zv_bool; rw [← hP] at K hu; rw [← hP] at hz; have ht := hT p
  by_cases e : p ∈ S
  · rw [if_pos e] at ht
    rw [decide_eq_true e] at k; exact r_look K hd hu hx hy hm ht k
  rw [if_neg e] at ht; rw [decide_eq_false e] at k; exact r_look0 K hd hu hx hy hm hz ht k
end
def refsK (hs : List Hd) (k : Nat) : List Rf := (List.range k).flatMap fun i => (nextL (hs.getD i default)).map fun x => ((i : Int), x)
theorem lz9 (hs : List Hd) (k : Nat) : refsK hs (k + 1) = refsK hs k ++ (nextL (hs.getD k default)).map fun x => ((k : Int), x) := by
  unfold refsK; rw [List.range_succ, List.flatMap_append]
  simp
theorem nj5 {cs : List Cl} {hs : List Hd} (hok : TrOK (trOf cs hs)) {i j : Nat} (hi : i < hs.length) : (((i : Int), (j : Int)) ∈ refsK hs hs.length) ↔ nextB (trOf cs hs) i j = true := by
  rw [iz6 hok hi, decide_eq_true_eq]; unfold refsK; rw [List.mem_flatMap]
  constructor
  · rintro ⟨q, _, hm⟩
    obtain ⟨x, hx, e⟩ := List.mem_map.1 hm; have e1 : (q : Int) = (i : Int) := congrArg Prod.fst e; have e2 : x = (j : Int) := congrArg Prod.snd e; have e3 : q = i := by omega
    subst e2; subst e3; exact hx
  intro h; exact ⟨i, List.mem_range.2 hi, List.mem_map.2 ⟨_, h, rfl⟩⟩
def frI (t : Tr) (i m : Nat) : List Rf := ((List.range m).filter fun k => decide (¬ k = i) && !nextB t i k).map fun k : Nat => ((i : Int), (k : Int))
theorem px0 (t : Tr) (i m : Nat) : frI t i (m + 1) = if (decide (¬ m = i) && !nextB t i m) = true then frI t i m ++ [((i : Int), (m : Int))] else frI t i m := by
  unfold frI; rw [List.range_succ, List.filter_append, List.map_append, List.filter_cons, List.filter_nil]
  by_cases h : (decide (¬ m = i) && !nextB t i m) = true
  · rw [if_pos h, if_pos h]; rfl
  rw [if_neg h, if_neg h]; simp
def frK (t : Tr) (k : Nat) : List Rf := (List.range k).flatMap fun i => if (t.hs.getD i default).2.2.1 = -1 then frI t i t.hs.length else []
theorem jj7 (t : Tr) (k : Nat) : frK t (k + 1) = frK t k ++ if (t.hs.getD k default).2.2.1 = -1 then frI t k t.hs.length else [] := by
  unfold frK; rw [List.range_succ, List.flatMap_append]
  simp
theorem lj8 (t : Tr) (i m : Nat) : (frI t i m).length ≤ m := by
  unfold frI; rw [List.length_map]; exact Nat.le_trans (List.length_filter_le _ _) (by simp)
theorem hz6 (t : Tr) : ∀ k, (frK t k).length ≤ k * t.hs.length
  | 0 => by simp [frK]
  | k + 1 => by
    rw [jj7, List.length_append, Nat.succ_mul]; have := hz6 t k; have h2 := lj8 t k t.hs.length
    split
    · omega
    simp; omega
theorem ks_ne {k j : Nat} : (((k : Int), (j : Int)) = ((k : Int), (k : Int))) ↔ j = k := by
  rw [Prod.mk.injEq]; exact ⟨fun h => by have := h.2; omega, fun h => by subst h; exact ⟨rfl, rfl⟩⟩
theorem ks_y {k j : Nat} {S : List Rf} {b : Bool} (h : ((decide (¬ ((k : Int), (j : Int)) = ((k : Int), (k : Int)))) == true) = true) (h2 : ((k : Int), (j : Int)) ∈ S ↔ b = true) : (!decide (((k : Int), (j : Int)) ∈ S)) = (decide (¬ j = k) && !b) := by
  have h3 : ¬ j = k := fun e => by rw [beq_iff_eq, decide_eq_true_eq] at h; exact h (ks_ne.2 e)
  rw [decide_eq_true h3, Bool.true_and]
  congr 1
  rw [Bool.eq_iff_iff, decide_eq_true_eq]; exact h2
theorem ks_n {k j : Nat} {b : Bool} (h : ((decide (¬ ((k : Int), (j : Int)) = ((k : Int), (k : Int)))) == true) = false) : false = (decide (¬ j = k) && !b) := by
  have h3 : j = k := Classical.byContradiction fun e => by
    have h2 : ¬ ((k : Int), (j : Int)) = ((k : Int), (k : Int)) := fun h2 => e (ks_ne.1 h2); rw [decide_eq_true h2] at h; cases h
  rw [decide_eq_false (fun e => e h3), Bool.false_and]
theorem jj6 (t : Tr) : freeT t = frK t t.hs.length := rfl
set_option maxHeartbeats 1000000 in
theorem sH {A B oa ka : Option Addr} {ca cb oc kc gl : Nat} (cs : List Cl) (hs : List Hd) (hok : TrOK (trOf cs hs)) : Meets prog cS [.pointer (d9 gl)] { LI := [Row (d9 gl) [.slice A cs.length ca, .slice B hs.length cb, .slice oa cs.length oc, .slice ka hs.length kc], Row ka (rows (kindsN hs hs.length)), RowsF B hs Hd.row], inv := fun x : OutC => (freeT (trOf cs hs)).length ≤ x.2, val := fun x => .slice x.1 (freeT (trOf cs hs)).length x.2, LO := fun x => [Row x.1 (rows (freeT (trOf cs hs)))] } := by
 refine j3 uG rfl v8 fun w0 => ?_; refine i4 (c5 rfl (t6 ?_)); have h6h := hok.h6; have hln := H0 cs hs; rw [hln] at h6h; refine cz8 pair rfl fun gM => ?_; refine c5 rfl (c8 (d6 (i4 (b6 rfl (r8 rfl rfl ?_)))))
 first | refine a6 ⟨_, 3, none⟩ rfl rfl r9 rfl ?_ | refine a6 _ rfl rfl r9 rfl ?_
 first | refine a7 rfl j7 rfl (i2 mB rfl) ?_ | refine a7 rfl j7 rfl (d8 mB rfl) ?_ | refine a7 rfl j7 rfl (b7 mB (b4 (by omega) rfl)) ?_ | refine a7 rfl j7 rfl (b8 mB (rows_get (by omega) rfl)) ?_ | refine a7 rfl j7 rfl (d7 mB rfl) ?_
 refine k6 rfl G7 rfl ?_; refine b6 rfl (c8 (j5 ?_)); refine u6 (β := Nat × List (Ment Rf) × Nat) ⟨fun x => x.1 ≤ hs.length ∧ ThereOK x.2.1 (refsK hs x.1), fun x => [(0, .pointer (d9 gl)), (3, .map (some gM)), (19, .slice ka hs.length kc), (20, int hs.length), (21, int x.1)], fun x => [(gM, mapO pair x.2.1 x.2.2)], fun _ => [Row (d9 gl) [.slice A cs.length ca, .slice B hs.length cb, .slice oa cs.length oc, .slice ka hs.length kc], Row ka (rows (kindsN hs hs.length)), RowsF B hs Hd.row]⟩ (fun x => hs.length - x.1) (0, [], 0) ⟨Nat.zero_le _, fun p => by rw [if_neg (by simp [refsK])]; rfl⟩ mC (List.Sublist.refl _) mC fun x hx => ?_; obtain ⟨k, M, clk⟩ := x; obtain ⟨hk, hM⟩ := hx; simp only at hk hM; refine i4 (B5 rfl rfl rfl (c8 (d6 ?_)))
 first | refine k9 rfl (fun hb1 => ?_) (fun hb1 => ?_) | refine j0 rfl (fun hb1 => ?_) (fun hb1 => ?_)
 ·have hb1' := hb1; try simp at hb1'
  have hk2 : k < hs.length := by omega
  have hin := kz8 hok hk2; have hnle := iz5 hok hk2; generalize hnl : nextL (hs.getD k default) = nl at hin hnle; refine i8 (i1 (d6 (j5 (i4 (b6 rfl ?_))))); refine m7 (α := Kd) (kindsN hs hs.length) k rfl G7 U9 rfl rfl rfl mB (M6 (Nat.le_refl _)).symm (by rw [M6 (Nat.le_refl _)]; exact hk2) (by decide) ?_; refine a7 (v := (kindOf (hs.getD k default)).v) rfl R4 rfl (b7 mB (by rw [← tZ hk2]; exact b4 (by rw [M6 (Nat.le_refl _)]; exact hk2) rfl)) ?_; refine c5 rfl (c5 rfl (t6 (b6 rfl ?_))); refine gx2 (p := (hs.getD k default)) mB (w8 hk2) (nq8 rfl rfl rfl m0 fun o => ?_); rw [hnl]; refine k6 rfl A8 rfl ?_; refine b6 rfl (c8 (j5 ?_)); refine u6 (β := Nat × List (Ment Rf) × Nat) ⟨fun x => x.1 ≤ nl.length ∧ ThereOK x.2.1 (refsK hs k ++ (nl.take x.1).map fun x => ((k : Int), x)), fun x => [(0, .pointer (d9 gl)), (3, .map (some gM)), (19, .slice ka hs.length kc), (20, int hs.length), (21, int k), (4, int k), (27, .slice o.1 nl.length o.2), (28, int nl.length), (29, int x.1)], fun x => [(gM, mapO pair x.2.1 x.2.2)], fun _ => Row o.1 (rows nl) :: [Row (d9 gl) [.slice A cs.length ca, .slice B hs.length cb, .slice oa cs.length oc, .slice ka hs.length kc], Row ka (rows (kindsN hs hs.length)), RowsF B hs Hd.row]⟩ (fun x => nl.length - x.1) (0, M, clk) ⟨Nat.zero_le _, by simpa using hM⟩ mC (List.Sublist.refl _) mC fun x hx => ?_; clear hM; obtain ⟨j, M, clk⟩ := x; obtain ⟨hj, hM⟩ := hx; simp only at hj hM; refine i4 (B5 rfl rfl rfl (c8 (d6 ?_)))
  first | refine k9 rfl (fun hb2 => ?_) (fun hb2 => ?_) | refine j0 rfl (fun hb2 => ?_) (fun hb2 => ?_)
  ·have hb2' := hb2; try simp at hb2'
   have hj2 : j < nl.length := by omega
   refine i8 (i1 (d6 (j5 (i4 ?_)))); refine m7 (α := Int) nl j rfl A8 E1 rfl rfl rfl mB rfl hj2 (by decide) (a7 (v := int (nl.getD j default)) rfl a8 rfl (b7 mB (b4 hj2 rfl)) ?_); refine c5 rfl (c8 (c9 (b6 rfl (b6 rfl (b6 rfl ?_))))); refine u0 _ rfl rfl (fun _ => aW ..) (tV (k := ((k : Int), nl.getD j default)) KRf (.inl rfl) dA rfl rfl rfl (.refl _) ?_); refine b5 (w6 (i1 (c9 ?_))); refine t5 _ rfl rfl rfl rfl q6 ?_; refine b6 rfl (b5 ?_); exact again _ (j + 1, _, _) ⟨by show j + 1 ≤ nl.length; omega, by show ThereOK _ (refsK hs k ++ (nl.take (j + 1)).map fun x => ((k : Int), x)); rw [D6 nl j hj2, List.map_append, ← List.append_assoc]; exact hM.put _ _⟩ (y8 (by omega)) mC (List.Sublist.refl _) mC
  have hb2' := hb2; try simp at hb2'
  have hj2 : j = nl.length := by omega
  subst hj2; rw [List.take_length, ← hnl, ← lz9] at hM; refine t7 (C7 (t8 (w6 (i1 (c9 ?_))))); refine t5 _ rfl rfl rfl rfl q6 ?_; refine b6 rfl (b5 ?_); exact again _ (k + 1, M, clk) ⟨by show k + 1 ≤ hs.length; omega, hM⟩ (y8 (by omega)) mC (List.Sublist.refl _) mC
 have hb1' := hb1; try simp at hb1'
 have hk2 : k = hs.length := by omega
 subst hk2; refine t7 (C7 (t8 (i1 (i4 (c5 rfl (c8 (Y7 ?_))))))); refine c9 (b6 rfl (r8 rfl rfl ?_))
 first | refine a6 ⟨_, 3, none⟩ rfl rfl r9 rfl ?_ | refine a6 _ rfl rfl r9 rfl ?_
 first | refine a7 rfl j7 rfl (i2 mB rfl) ?_ | refine a7 rfl j7 rfl (d8 mB rfl) ?_ | refine a7 rfl j7 rfl (b7 mB (b4 (by omega) rfl)) ?_ | refine a7 rfl j7 rfl (b8 mB (rows_get (by omega) rfl)) ?_ | refine a7 rfl j7 rfl (d7 mB rfl) ?_
 refine k6 rfl G7 rfl ?_; refine b6 rfl (c8 (j5 ?_)); have hRM := fun (i j : Nat) (hi : i < hs.length) => nj5 hok (i := i) (j := j) hi; generalize refsK hs hs.length = S at *; refine u6 (β := Nat × OutC × Hp) ⟨fun x => x.1 ≤ hs.length ∧ Grow Q4 2 x.2.1.1 (frK (trOf cs hs) x.1).length x.2.1.2 (rows (frK (trOf cs hs) x.1)) x.2.2, fun x => [(0, .pointer (d9 gl)), (3, .map (some gM)), (42, .slice ka hs.length kc), (43, int hs.length), (44, int x.1), (8, .slice x.2.1.1 (frK (trOf cs hs) x.1).length x.2.1.2)], fun x => x.2.2 ++ [(gM, mapO pair M clk)], fun _ => [Row (d9 gl) [.slice A cs.length ca, .slice B hs.length cb, .slice oa cs.length oc, .slice ka hs.length kc], Row ka (rows (kindsN hs hs.length)), RowsF B hs Hd.row]⟩ (fun x => hs.length - x.1) (0, (none, 0), []) ⟨Nat.zero_le _, Grow.nil _ _⟩ mC (List.Sublist.refl _) mC fun x hx => ?_; obtain ⟨k, ⟨na, nc⟩, og⟩ := x; obtain ⟨hk, hG⟩ := hx; simp only at hk hG; refine i4 (B5 rfl rfl rfl (c8 (d6 ?_)))
 first | refine k9 rfl (fun hb3 => ?_) (fun hb3 => ?_) | refine j0 rfl (fun hb3 => ?_) (fun hb3 => ?_)
 ·have hb3' := hb3; try simp at hb3'
  have hk2 : k < hs.length := by omega
  have hgd : ((trOf cs hs).hs.getD k default).2.2.1 = (hs.getD k default).2.2.1 := by rw [show (trOf cs hs).hs.getD k default = (hs.getD k default).p from V4 hk2]; rfl
  have hfk := jj7 (trOf cs hs) k; rw [hgd, hln] at hfk; refine i8 (i1 (d6 (j5 (i4 (b6 rfl ?_))))); refine m7 (α := Kd) (kindsN hs hs.length) k rfl G7 U9 rfl rfl rfl mB (M6 (Nat.le_refl _)).symm (by rw [M6 (Nat.le_refl _)]; exact hk2) (by decide) ?_; refine a7 (v := (kindOf (hs.getD k default)).v) rfl R4 rfl (b7 mB (by rw [← tZ hk2]; exact b4 (by rw [M6 (Nat.le_refl _)]; exact hk2) rfl)) ?_; refine c5 rfl (c5 rfl (c8 (d6 (i4 (b6 rfl (r_asP rfl rfl rfl (b6 rfl (l3 rfl rfl rfl (l3 rfl rfl rfl ?_))))))))); refine u4 rfl (fun _ => kH _) fun gA => l6 rfl rfl X2 kB (by rfl) (by rfl) ?_; refine c5 rfl (t6 (b6 rfl (c8 ?_)))
  first | refine k9 rfl (fun hb4 => ?_) (fun hb4 => ?_) | refine j0 rfl (fun hb4 => ?_) (fun hb4 => ?_)
  ·have hb4' := hb4; try simp at hb4'
   rw [hx6, decide_eq_true_eq] at hb4; rw [if_neg hb4, List.append_nil] at hfk; refine t7 (aO (t8 (i1 (c9 ?_)))); refine t5 _ rfl rfl rfl rfl q6 ?_; refine b6 rfl (b5 ?_); exact again _ (k + 1, (na, nc), og) ⟨by show k + 1 ≤ hs.length; omega, by show Grow _ _ _ (frK (trOf cs hs) (k + 1)).length _ (rows (frK (trOf cs hs) (k + 1))) _; rw [hfk]; exact hG⟩ (y8 (by omega)) ⟨rfl, rfl, rfl, rfl, rfl, (by show some (Value.slice na (frK (trOf cs hs) k).length nc) = some (Value.slice na (frK (trOf cs hs) (k + 1)).length nc); rw [hfk]), tK⟩ (List.sublist_cons_self _ _) mC
  have hb4' := hb4; try simp at hb4'
  have hb4 : (hs.getD k default).2.2.1 = -1 := by rw [hx6, decide_eq_false_iff_not] at hb4; exact Classical.not_not.1 hb4
  rw [if_pos hb4] at hfk; refine i8 (i1 (i4 (b6 rfl (r8 rfl rfl ?_))))
  first | refine a6 ⟨_, 3, none⟩ rfl rfl r9 rfl ?_ | refine a6 _ rfl rfl r9 rfl ?_
  first | refine a7 rfl j7 rfl (i2 mB rfl) ?_ | refine a7 rfl j7 rfl (d8 mB rfl) ?_ | refine a7 rfl j7 rfl (b7 mB (b4 (by omega) rfl)) ?_ | refine a7 rfl j7 rfl (b8 mB (rows_get (by omega) rfl)) ?_ | refine a7 rfl j7 rfl (d7 mB rfl) ?_
  refine k6 rfl G7 rfl ?_; refine b6 rfl (c8 (j5 ?_)); refine u6 (β := Nat × OutC × Hp) ⟨fun x => x.1 ≤ hs.length ∧ Grow Q4 2 x.2.1.1 (frK (trOf cs hs) k ++ frI (trOf cs hs) k x.1).length x.2.1.2 (rows (frK (trOf cs hs) k ++ frI (trOf cs hs) k x.1)) x.2.2, fun x => [(0, .pointer (d9 gl)), (3, .map (some gM)), (42, .slice ka hs.length kc), (43, int hs.length), (44, int k), (8, .slice x.2.1.1 (frK (trOf cs hs) k ++ frI (trOf cs hs) k x.1).length x.2.1.2), (9, int k), (59, int hs.length), (60, int x.1)], fun x => x.2.2 ++ [(gM, mapO pair M clk)], fun _ => [Row (d9 gl) [.slice A cs.length ca, .slice B hs.length cb, .slice oa cs.length oc, .slice ka hs.length kc], Row ka (rows (kindsN hs hs.length)), RowsF B hs Hd.row]⟩ (fun x => hs.length - x.1) (0, (na, nc), og) ⟨Nat.zero_le _, by show Grow _ _ _ (frK (trOf cs hs) k ++ []).length _ (rows (frK (trOf cs hs) k ++ [])) _; rw [List.append_nil]; exact hG⟩ ⟨rfl, rfl, rfl, rfl, rfl, (by show some (Value.slice na (frK (trOf cs hs) k).length nc) = some (Value.slice na (frK (trOf cs hs) k ++ []).length nc); rw [List.append_nil]), rfl, rfl, rfl, tK⟩ (List.sublist_cons_self _ _) mC fun x hx => ?_; clear hG; obtain ⟨j, ⟨na, nc⟩, og⟩ := x; obtain ⟨hj, hG⟩ := hx; simp only at hj hG; have hfs := px0 (trOf cs hs) k j; have hle1 := hz6 (trOf cs hs) k; have hle2 := lj8 (trOf cs hs) k j; rw [hln] at hle1; have hle3 : k * hs.length ≤ 6 * 6 := Nat.mul_le_mul (by omega) h6h; refine i4 (B5 rfl rfl rfl (c8 (d6 ?_)))
  first | refine k9 rfl (fun hb5 => ?_) (fun hb5 => ?_) | refine j0 rfl (fun hb5 => ?_) (fun hb5 => ?_)
  ·have hb5' := hb5; try simp at hb5'
   have hj2 : j < hs.length := by omega
   refine i8 (i1 (d6 (j5 (i4 (b6 rfl (c5 rfl (t6 ?_))))))); refine b6 rfl (b6 rfl ?_); refine u0 _ rfl rfl (fun _ => aW ..) (u4 rfl (fun _ => bZ _) fun gA => l6 rfl rfl X2 B9 (by rfl) (by rfl) (c8 ?_)); refine I0 ⟨fun _ : Unit => True, fun _ => [(0, .pointer (d9 gl)), (3, .map (some gM)), (42, .slice ka hs.length kc), (43, int hs.length), (44, int k), (8, .slice na (frK (trOf cs hs) k ++ frI (trOf cs hs) k j).length nc), (9, int k), (59, int hs.length), (60, int j), (14, .pointer (d9 gA)), (76, .bool (decide (¬ j = k) && !nextB (trOf cs hs) k j))], fun _ => (gA, .cells #[int k, int j] Q4 (0, 0)) :: (og ++ [(gM, mapO pair M clk)]), fun _ => [Row (d9 gl) [.slice A cs.length ca, .slice B hs.length cb, .slice oa cs.length oc, .slice ka hs.length kc], Row ka (rows (kindsN hs hs.length)), RowsF B hs Hd.row]⟩ ?_ ?_
   ·skip
    refine c9 ?_
    first | refine G3 rfl G2 B9 rfl mB (by rfl) ?_ | refine I3 rfl G2 B9 rfl mB (by rfl) ?_ | refine z8 rfl G2 B9 rfl rfl (v9 mB (B3 (by omega))) ?_
    refine b6 rfl (b6 rfl ?_); refine u0 _ rfl rfl (fun _ => aW ..) (R7 _ rfl rfl rfl (fun _ => aq5 ..) (fun _ => aq1 ..) (b6 rfl ?_)); refine v6 rfl rfl ?_ ?_
    ·intro hg1; have hg1' := hg1; try simp at hg1'
     refine k5 hg1 (b6 rfl (k5 hg1 ?_))
     first | refine G3 rfl G2 B9 rfl mB (by rfl) ?_ | refine I3 rfl G2 B9 rfl mB (by rfl) ?_ | refine z8 rfl G2 B9 rfl rfl (v9 mB (B3 (by omega))) ?_
     refine k5 hg1 (r_there (p := ((k : Int), (j : Int))) hM rfl rfl rfl rfl (map_own (List.mem_cons_of_mem _ (List.mem_append_right _ (List.mem_cons_self ..)))) ?_); refine k5 hg1 (H6 rfl rfl ?_); refine p_t rfl rfl (bt1 hg1) rfl (b5 ?_); exact D5 _ () tK ⟨rfl, rfl, rfl, rfl, rfl, rfl, rfl, rfl, rfl, rfl, congrArg (fun b => some (Value.bool b)) (ks_y hg1 (hRM k j hk2)), tK⟩ (List.Sublist.refl _) mC
    intro hg1; have hg1' := hg1; try simp at hg1'
    refine l8 hg1 (l8 hg1 (l8 hg1 (l8 hg1 ?_))); refine p_f rfl rfl (bf2 hg1) rfl (b5 ?_); exact D5 _ () tK ⟨rfl, rfl, rfl, rfl, rfl, rfl, rfl, rfl, rfl, rfl, congrArg (fun b => some (Value.bool b)) (ks_n hg1), tK⟩ (List.Sublist.refl _) mC
   refine fun _ _ => ?_
   first | refine k9 rfl (fun hb6 => ?_) (fun hb6 => ?_) | refine j0 rfl (fun hb6 => ?_) (fun hb6 => ?_)
   ·have hb6' := hb6; try simp at hb6'
    refine c9 (b6 rfl ?_)
    first | refine G3 rfl G2 B9 rfl mB (by rfl) ?_ | refine I3 rfl G2 B9 rfl mB (by rfl) ?_ | refine z8 rfl G2 B9 rfl rfl (v9 mB (B3 (by omega))) ?_
    refine n7 _ rfl rfl (fun _ => kG ..) fun gS => D2 (rows [(((k : Int), (j : Int)) : Rf)]) (List.prefix_refl _) ?_; refine E3 ((frK (trOf cs hs) k ++ frI (trOf cs hs) k j).length + 1) (rows ((frK (trOf cs hs) k ++ frI (trOf cs hs) k j) ++ [(((k : Int), (j : Int)) : Rf)])) dP rfl rfl rfl hG (pmB _ _ _) (Src.row (news := rows [(((k : Int), (j : Int)) : Rf)]) (m := 1) m0 rfl (E8 _) (by decide)) rfl (A1 _ _).symm (by rw [List.length_append]; unfold maxLen; omega) (by rw [List.length_append]; omega) fun A' c' og' hG' => ?_; refine c5 rfl (b5 (w6 (i1 (c9 ?_)))); refine t5 _ rfl rfl rfl rfl q6 ?_; refine b6 rfl (b5 ?_); have hst : (frK (trOf cs hs) k ++ frI (trOf cs hs) k (j + 1)) = (frK (trOf cs hs) k ++ frI (trOf cs hs) k j) ++ [(((k : Int), (j : Int)) : Rf)] := by rw [hfs, if_pos hb6, List.append_assoc]
    exact again _ (j + 1, (A', c'), og') ⟨by show j + 1 ≤ hs.length; omega, by show Grow _ _ _ (frK (trOf cs hs) k ++ frI (trOf cs hs) k (j + 1)).length _ (rows (frK (trOf cs hs) k ++ frI (trOf cs hs) k (j + 1))) _; rw [hst]; rw [List.length_append (bs := [_])]; exact hG'⟩ (y8 (by omega)) ⟨rfl, rfl, rfl, rfl, rfl, (by show some (Value.slice A' ((frK (trOf cs hs) k ++ frI (trOf cs hs) k j).length + 1) c') = some (Value.slice A' (frK (trOf cs hs) k ++ frI (trOf cs hs) k (j + 1)).length c'); rw [hst, List.length_append (bs := [_])]; rfl), rfl, rfl, rfl, tK⟩ (List.Sublist.append_left (List.sublist_cons_self _ _) _) mC
   have hb6' := hb6; try simp at hb6'
   refine i8 (w6 (i1 (c9 ?_))); refine t5 _ rfl rfl rfl rfl q6 ?_; refine b6 rfl (b5 ?_); have hst : (frK (trOf cs hs) k ++ frI (trOf cs hs) k (j + 1)) = (frK (trOf cs hs) k ++ frI (trOf cs hs) k j) := by rw [hfs, if_neg (by rw [hb6]; decide)]
   exact again _ (j + 1, (na, nc), og) ⟨by show j + 1 ≤ hs.length; omega, by show Grow _ _ _ (frK (trOf cs hs) k ++ frI (trOf cs hs) k (j + 1)).length _ (rows (frK (trOf cs hs) k ++ frI (trOf cs hs) k (j + 1))) _; rw [hst]; exact hG⟩ (y8 (by omega)) ⟨rfl, rfl, rfl, rfl, rfl, (by show some (Value.slice na (frK (trOf cs hs) k ++ frI (trOf cs hs) k j).length nc) = some (Value.slice na (frK (trOf cs hs) k ++ frI (trOf cs hs) k (j + 1)).length nc); rw [hst]), rfl, rfl, rfl, tK⟩ (List.sublist_cons_self _ _) mC
  have hb5' := hb5; try simp at hb5'
  have hj2 : j = hs.length := by omega
  subst hj2; rw [← hfk] at hG; refine t7 (C7 (t8 (w6 (i1 (c9 ?_))))); refine t5 _ rfl rfl rfl rfl q6 ?_; refine b6 rfl (b5 ?_); exact again _ (k + 1, (na, nc), og) ⟨by show k + 1 ≤ hs.length; omega, hG⟩ (y8 (by omega)) ⟨rfl, rfl, rfl, rfl, rfl, (by show some (Value.slice na (frK (trOf cs hs) k ++ frI (trOf cs hs) k hs.length).length nc) = some (Value.slice na (frK (trOf cs hs) (k + 1)).length nc); rw [hfk]), tK⟩ (List.Sublist.refl _) mC
 have hb3' := hb3; try simp at hb3'
 have hk2 : k = hs.length := by omega
 subst hk2; refine t7 (C7 (t8 (i1 (i4 (b6 rfl (c5 rfl (c8 (l4 ?_)))))))); have hle := hG.le; refine lM hG ?_; have hfr : frK (trOf cs hs) hs.length = freeT (trOf cs hs) := by rw [jj6, hln]
 rw [hfr] at hle ⊢; exact ret1 (na, nc) rfl rfl rfl hle nK ⟨m0, tK⟩
end Go.Proofs.YtdgmfagfpbdbhaaGreatDoor
end
