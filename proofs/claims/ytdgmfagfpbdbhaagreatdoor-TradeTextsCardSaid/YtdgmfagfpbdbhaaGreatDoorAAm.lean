/- Texts. -/

import Derived.Test.YtdgmfagfpbdbhaaGreatDoorAAl
set_option linter.unusedVariables false
set_option linter.unusedSimpArgs false
section
namespace Go.Proofs.YtdgmfagfpbdbhaaGreatDoor
open Go Go.W Tryz T F
set_option maxRecDepth 20000
attribute [local irreducible] HL HC HQ HB Row Rows2 Blk Facts
section
variable {c : Cx} {fr : Fr} {hp : Hp} {L : List Fact}
theorem D0 {fn : Func} {t u1 u2 : Tmp} {ty e : TypeId} {g n : Nat} {cs : Array Value} {fz : Nat × Nat} {v1 v2 : Value} (hres : fn.results = #[.cell t ty, .tmp u1, .tmp u2]) (hv : lk fr t = some (.pointer (d9 g))) (hv1 : lk fr u1 = some v1) (hv2 : lk fr u2 = some v2) (ht : IsR c.P ty) (hz : Sz c.P ty n) (hn : cs.size = n)
    (hm : (g, Obj.cells cs e fz) ∈ hp) (a : Act) (w : World) (hfr : ∀ t v, lk fr t = some v → a.tmps.getD t undef = v) (hw : WI c.b w hp L) : (results fn a.tmps).run c.P w = .ok (.tuple #[.agg cs, v1, v2]) w := by
  obtain ⟨dd, ht, hr⟩ := ht; have h1 := hw.own _ hm; simp only at h1
  have hl : (loadVar ty ⟨g, 0, none⟩).run c.P w = .ok (.agg cs) w := by
    have hagg : (isAgg ty).run c.P w = .ok true w := by
      unfold isAgg; rw [Sem.run_bind, run_underlying ht w]
      cases dd <;> simp_all [TypeDesc.isRow]
    have hc := run_loadCells_list (P := c.P) w ⟨g, 0, none⟩ cs.toList (fun j u hu => by rw [add_mk, Nat.zero_add]; simp at hu; simp [World.cell?, h1, hu]); have hs := dT hz w; simp only [loadVar, Sem.run_bind, hagg, Result.andThen_ok, if_true, hs, ← hn]; have e : cs.size = cs.toList.length := by simp
    rw [e, hc]
    simp
  have h5 : a.tmps[t]?.getD undef = .pointer (d9 g) := by simpa using hfr _ _ hv
  have h6 : a.tmps[u1]?.getD undef = v1 := by simpa using hfr _ _ hv1
  have h7 : a.tmps[u2]?.getD undef = v2 := by simpa using hfr _ _ hv2
  unfold results; rw [hres]
  simp [h5, h6, h7, asAddr, hl]
end
theorem aj5 (w : List Str) (k n : Nat) : at_ (w.drop k) n = at_ w (k + n) := by
  unfold at_; rw [List.getD_eq_getElem?_getD, List.getD_eq_getElem?_getD, List.getElem?_drop]
theorem pt_cls {w : List Str} (h2 : ¬ w.length < 2) (h0 : at_ w 0 = wClass) (hn : wordB (at_ w 1) = true) : parseT w = if clsB (w.drop 2) = true then some (false, at_ w 1, clsN (w.drop 2), [], []) else none := by
  have a0 : at_ (w.drop 2) 0 = at_ w 2 := aj5 w 2 0; have a1 : at_ (w.drop 2) 1 = at_ w 3 := aj5 w 2 1; have ln : (w.drop 2).length = w.length - 2 := List.length_drop; rw [parseT, if_neg h2, if_pos h0, if_neg (by rw [hn]; decide)]
  by_cases h : w.length = 4 ∧ at_ w 2 = kIn
  · have eb : clsB (w.drop 2) = wordB (at_ w 3) := by unfold clsB; rw [a0, a1, ln, if_pos (show w.length - 2 = 2 ∧ at_ w 2 = kIn from ⟨by omega, h.2⟩)]
    have en : clsN (w.drop 2) = at_ w 3 := by unfold clsN; rw [a0, a1, ln, if_pos (show w.length - 2 = 2 ∧ at_ w 2 = kIn from ⟨by omega, h.2⟩)]
    rw [if_pos h, eb, en]
  have hh : ¬ (w.length - 2 = 2 ∧ at_ w 2 = kIn) := fun e => h ⟨by omega, e.2⟩; have eb : clsB (w.drop 2) = decide (w.length - 2 = 0) := by unfold clsB; rw [a0, a1, ln, if_neg hh]
  have en : clsN (w.drop 2) = [] := by unfold clsN; rw [a0, a1, ln, if_neg hh]
  rw [if_neg h, eb, en]
  by_cases h3 : w.length = 2
  · rw [if_pos h3, decide_eq_true (show w.length - 2 = 0 by omega), if_pos rfl]
  rw [if_neg h3, decide_eq_false (show ¬ w.length - 2 = 0 by omega), if_neg (by decide)]
theorem pt_clsn {w : List Str} (h2 : ¬ w.length < 2) (h0 : at_ w 0 = wClass) (hn : wordB (at_ w 1) = false) : parseT w = none := by
  rw [parseT, if_neg h2, if_pos h0, if_pos hn]
theorem hq6 {w : List Str} (h2 : ¬ w.length < 2) (h0 : ¬ at_ w 0 = wClass) (hn : wordB (at_ w 0) = false) : parseT w = none := by
  rw [parseT, if_neg h2, if_neg h0, if_pos hn]
theorem hq4 {w : List Str} (h2 : ¬ w.length < 2) (h0 : ¬ at_ w 0 = wClass) (ha : ¬ at_ w 1 = kIs) (hb : ¬ at_ w 1 = kAlso) (hc : ¬ at_ w 1 = kSee) : parseT w = none := by
  rw [parseT, if_neg h2, if_neg h0, if_neg ha, if_neg hb, if_neg hc]
  split <;> rfl
theorem pt_is {w : List Str} (h2 : ¬ w.length < 2) (h0 : ¬ at_ w 0 = wClass) (hn : wordB (at_ w 0) = true) (h1 : at_ w 1 = kIs) : parseT w = if isB (w.drop 2) = true then some (true, at_ w 0, isN (w.drop 2), [], isA (w.drop 2)) else none := by
  have a0 : at_ (w.drop 2) 0 = at_ w 2 := aj5 w 2 0; have a1 : at_ (w.drop 2) 1 = at_ w 3 := aj5 w 2 1; have ln : (w.drop 2).length = w.length - 2 := List.length_drop; have d2 : (w.drop 2).drop 2 = w.drop 4 := List.drop_drop; rw [parseT, if_neg h2, if_neg h0, if_neg (by rw [hn]; decide), if_pos h1]
  by_cases h : w.length ≤ 2 ∨ wordB (at_ w 2) = false
  · have e : isX (w.drop 2) = true := by
      unfold isX; rw [a0, ln]
      rcases h with h | h
      · rw [decide_eq_true (show w.length - 2 = 0 by omega)]; rfl
      rw [h]; simp
    have eb : isB (w.drop 2) = false := by unfold isB; rw [e]; rfl
    rw [if_pos h, eb, if_neg (by decide)]
  have hw : wordB (at_ w 2) = true := by
    cases hq : wordB (at_ w 2) with
    | true => rfl
    | false => exact absurd (.inr hq) h
  have hl : ¬ w.length ≤ 2 := fun e => h (.inl e); have e : isX (w.drop 2) = false := by unfold isX; rw [a0, ln, decide_eq_false (show ¬ w.length - 2 = 0 by omega), hw]; rfl
  have en : isN (w.drop 2) = at_ w 2 := by unfold isN; rw [e, if_neg (by decide), a0]
  rw [if_neg h, en]
  by_cases h3 : w.length = 3
  · have eb : isB (w.drop 2) = true := by unfold isB; rw [e, ln, decide_eq_true (show w.length - 2 = 1 by omega)]; rfl
    have ea : isA (w.drop 2) = [] := by unfold isA; rw [if_pos (.inr (.inl (by omega)))]
    rw [if_pos h3, eb, ea, if_pos rfl]
  have n1 : ¬ w.length - 2 = 1 := by omega
  by_cases h4 : at_ w 3 = kAlso
  · have eb : isB (w.drop 2) = wordsB (w.drop 4) := by unfold isB; rw [e, ln, a1, d2, decide_eq_false n1, decide_eq_true h4]; simp
    have ea : isA (w.drop 2) = w.drop 4 := by unfold isA; rw [if_neg (by rw [e, ln, a1]; simp [h4]; omega), d2]
    rw [if_neg h3, eb, ea]
    by_cases h5 : wordsB (w.drop 4) = true
    · rw [if_pos ⟨h4, h5⟩, if_pos h5]
    rw [if_neg (fun q => h5 q.2), if_neg h5]
  have eb : isB (w.drop 2) = false := by unfold isB; rw [e, ln, a1, decide_eq_false n1, decide_eq_false h4]; rfl
  rw [if_neg h3, if_neg (fun q => h4 q.1), eb, if_neg (by decide)]
theorem kz6 {w : List Str} (h2 : ¬ w.length < 2) (h0 : ¬ at_ w 0 = wClass) (hn : wordB (at_ w 0) = true) (h1 : at_ w 1 = kAlso) : parseT w = if wordsB (w.drop 2) = true then some (true, at_ w 0, [], [], w.drop 2) else none := by
  rw [parseT, if_neg h2, if_neg h0, if_neg (by rw [hn]; decide), if_neg (by rw [h1]; decide), if_pos h1]
theorem pt_see {w : List Str} (h2 : ¬ w.length < 2) (h0 : ¬ at_ w 0 = wClass) (hn : wordB (at_ w 0) = true) (h1 : at_ w 1 = kSee) : parseT w = if seeB (w.drop 2) = true then some (true, at_ w 0, [], seeN (w.drop 2), []) else none := by
  have a0 : at_ (w.drop 2) 0 = at_ w 2 := aj5 w 2 0; have ln : (w.drop 2).length = w.length - 2 := List.length_drop; rw [parseT, if_neg h2, if_neg h0, if_neg (by rw [hn]; decide), if_neg (by rw [h1]; decide), if_neg (by rw [h1]; decide), if_pos h1]
  by_cases h3 : w.length = 3
  · have eb : seeB (w.drop 2) = wordB (at_ w 2) := by unfold seeB; rw [a0, ln, decide_eq_true (show w.length - 2 = 1 by omega)]; rfl
    have en : seeN (w.drop 2) = at_ w 2 := by unfold seeN; rw [a0, ln, if_pos (show w.length - 2 = 1 by omega)]
    rw [eb, en]
    by_cases h4 : wordB (at_ w 2) = true
    · rw [if_pos ⟨h3, h4⟩, if_pos h4]
    rw [if_neg (fun q => h4 q.2), if_neg h4]
  have eb : seeB (w.drop 2) = false := by unfold seeB; rw [ln, decide_eq_false (show ¬ w.length - 2 = 1 by omega)]; rfl
  rw [eb, if_neg (fun q => h3 q.1), if_neg (by decide)]
theorem S8 {us rest : List Value} {cs : Array Value} (h : cs.toList = us ++ rest) : ∀ i u, us[i]? = some u → cs[0 + i]? = some u := fun i u hu => by
  rw [Nat.zero_add, ← Array.getElem?_toList, h, List.getElem?_append_left (List.getElem?_eq_some_iff.1 hu).1]; exact hu
theorem zv_form (w : World) : (zeroValue vZ).run prog w = .ok (.agg #[.bool false, .nilFunc]) w := w7
def ParOK (w : List Str) (y : Ln × Bool × Bool) : Prop := parseT w = if y.2.2 = true then some (y.2.1, y.1.p) else none
theorem fm_none {gA : Nat} {n : Str} (h0 : ¬ n = wClass) (ha : ¬ n = kIs) (hb : ¬ n = kAlso) (hc : ¬ n = kSee) : getM (FM gA) n = none := by
  unfold FM; rw [aQ, if_neg (fun e => h0 e.symm), aQ, if_neg (fun e => ha e.symm), aQ, if_neg (fun e => hb e.symm), aQ, if_neg (fun e => hc e.symm)]
  rfl
theorem iz2 (s : Str) (hs : s.length ≤ 1000000) (h2 : (splitB 32 s).length < 2) : Meets prog K8 [str s] { inv := fun y : Ln × Bool × Bool => ParOK (splitB 32 s) y, val := fun y => .tuple #[.agg #[str y.1.1, str y.1.2.1, str y.1.2.2.1, .slice y.1.2.2.2.a y.1.2.2.2.l.length y.1.2.2.2.c], .bool y.2.1, .bool y.2.2], LO := fun y => [y.1.row] } := by
 have hS := I9 s 32 hs; have hwn := P2 32 s; have hcl : s.count 32 ≤ s.length := List.count_le_length; obtain ⟨w, hw⟩ : ∃ w, splitB 32 s = w := ⟨_, rfl⟩; rw [hw] at hS hwn h2; rw [hw]; refine j3 N8 rfl v8 fun w0 => i4 (u4 rfl (fun _ => D8 _) fun g2 => ?_); refine c5 rfl (c5 rfl (t6 (b6 rfl ?_))); refine j4 J2 rfl rfl (hS) (hpR := [_]) (.refl _) tK fun gw _ => ?_; refine c5 rfl (c8 (d6 (i4 (b6 rfl ?_)))); refine k6 rfl j9 rfl ?_; refine B5 rfl rfl rfl (c8 ?_)
 first | refine k9 rfl (fun hb1 => ?_) (fun hb1 => ?_) | refine j0 rfl (fun hb1 => ?_) (fun hb1 => ?_)
 ·have hb1' := hb1; try simp at hb1'
  refine i4 (u0 _ rfl rfl (fun _ => K4 ..) (l6 (cs := #[str [], str [], str [], .slice none 0 0]) rfl rfl (.refl _) m9 (by rfl) (by rfl) ?_)); refine c5 rfl (c5 rfl (c8 (E9 ?_))); refine n5 (α := Str) ?_; exact A9 ((([], [], [], ⟨none, 0, []⟩), false, false) : Ln × Bool × Bool) (fun a w9 ha hw9 => D0 (cs := #[str [], str [], str [], .slice none 0 0]) (v1 := .bool false) (v2 := .bool false) rfl rfl rfl rfl A5 m9 rfl m0 a w9 ha.at_ hw9) rfl (by show parseT w = none; exact (by rw [parseT, if_pos h2])) nK mC
 exfalso; omega
set_option maxHeartbeats 1000000 in
theorem mj6 (s : Str) (hs : s.length ≤ 1000000) (h2 : ¬ (splitB 32 s).length < 2) (h0 : at_ (splitB 32 s) 0 = wClass) : Meets prog K8 [str s] { inv := fun y : Ln × Bool × Bool => ParOK (splitB 32 s) y, val := fun y => .tuple #[.agg #[str y.1.1, str y.1.2.1, str y.1.2.2.1, .slice y.1.2.2.2.a y.1.2.2.2.l.length y.1.2.2.2.c], .bool y.2.1, .bool y.2.2], LO := fun y => [y.1.row] } := by
 have hS := I9 s 32 hs; have hwn := P2 32 s; have hcl : s.count 32 ≤ s.length := List.count_le_length; obtain ⟨w, hw⟩ : ∃ w, splitB 32 s = w := ⟨_, rfl⟩; rw [hw] at hS hwn h2 h0; rw [hw]; refine j3 N8 rfl v8 fun w0 => i4 (u4 rfl (fun _ => D8 _) fun g2 => ?_); refine c5 rfl (c5 rfl (t6 (b6 rfl ?_))); refine j4 J2 rfl rfl (hS) (hpR := [_]) (.refl _) tK fun gw _ => ?_; refine c5 rfl (c8 (d6 (i4 (b6 rfl ?_)))); refine k6 rfl j9 rfl ?_; refine B5 rfl rfl rfl (c8 ?_)
 first | refine k9 rfl (fun hb1 => ?_) (fun hb1 => ?_) | refine j0 rfl (fun hb1 => ?_) (fun hb1 => ?_)
 ·exfalso; omega
 have hb1' := hb1; try simp at hb1'
 refine i8 (i1 (d6 ?_)); refine C0 7 mixed (by decide) (by decide) rfl rfl (r7 rfl (k8 (fun w1 => m7 (α := Str) w 1 rfl j9 j6 rfl rfl rfl mB rfl (by omega) (by decide) (q_z rfl)) (k8 (fun w1 => a7 (v := str (at_ w 1)) rfl a9 rfl (b7 mB (b4 (by omega) rfl)) (q_z rfl)) (r7 rfl (k8 (fun w1 => m7 (α := Str) w 0 rfl j9 j6 rfl rfl rfl mB rfl (by omega) (by decide) (q_z rfl)) (k8 (fun w1 => a7 (v := str (at_ w 0)) rfl a9 rfl (b7 mB (b4 (by omega) rfl)) (q_z rfl)) (k8 (fun w1 => c5 rfl (q_z rfl)) ?_))))))); refine v7 ⟨rfl, ?_⟩; refine c5 rfl (c8 (d6 (i4 (b6 rfl ?_)))); refine m7 (α := Str) w 0 rfl j9 j6 rfl rfl rfl mB rfl (by omega) (by decide) (a7 (v := str (at_ w 0)) rfl a9 rfl (b7 mB (b4 (by omega) rfl)) ?_); refine J3 rfl rfl rfl (c8 ?_)
 first | refine k9 rfl (fun hb2 => ?_) (fun hb2 => ?_) | refine j0 rfl (fun hb2 => ?_) (fun hb2 => ?_)
 ·have hb2' := hb2; try simp at hb2'
  refine C0 7 mixed (by decide) (by decide) rfl rfl (r7 rfl (k8 (fun w1 => m7 (α := Str) w 0 rfl j9 j6 rfl rfl rfl mB rfl (by omega) (by decide) (q_z rfl)) (k8 (fun w1 => a7 (v := str (at_ w 0)) rfl a9 rfl (b7 mB (b4 (by omega) rfl)) (q_z rfl)) (r7 rfl (k8 (fun w1 => m7 (α := Str) w 1 rfl j9 j6 rfl rfl rfl mB rfl (by omega) (by decide) (q_z rfl)) (k8 (fun w1 => a7 (v := str (at_ w 1)) rfl a9 rfl (b7 mB (b4 (by omega) rfl)) (q_z rfl)) (k8 (fun w1 => c5 rfl (q_z rfl)) ?_))))))); refine v7 ⟨rfl, ?_⟩; refine c5 rfl (t6 ?_); refine j4 P4 rfl rfl (O8) (hpR := [_]) (.refl _) tK fun y7 _ => ?_; obtain ⟨gM, gA⟩ := y7; refine b6 rfl ?_; refine tU (k := at_ w 0) (v := .agg #[.bool false, .func (.func 132) #[] #[]]) (KeyC.str q8) rfl C2 rfl rfl (vC mB) (by rw [h0]; rfl) ?_; refine b6 rfl (l3 rfl rfl rfl (l3 rfl rfl rfl ?_)); refine u4 rfl (fun _ => Q9 _) fun gF => l6 (cs := #[.bool false, .func (.func 132) #[] #[]]) rfl rfl (.refl _) Q7 (by rfl) (by rfl) ?_; refine c5 rfl (c8 (Y7 (C3 ?_))); refine C0 14 mixed (by decide) (by decide) rfl rfl (r7 rfl (k8 (fun w1 => H6 rfl rfl (q_z rfl)) (r7 rfl ?_))); refine L3 (t := 42) (want := false) rfl ?_ ?_
  ·intro hg1; have hg1' := hg1; try simp at hg1'
   apply k7 _ rfl rfl rfl
   ·intro w1; refine k5 hg1 (b6 rfl (b5 ?_)); exact i5 rfl
   apply k7 _ rfl rfl rfl
   ·intro w1; refine k5 hg1 (j4 H7 rfl rfl (H5 (at_ w 1)) t4 tK fun _ _ => b5 ?_); exact i5 rfl
   apply k7 _ rfl rfl rfl
   ·intro w1; refine k5 hg1 (H6 rfl rfl (b5 ?_)); exact i5 rfl
   refine k8 (fun w1 => p_f rfl rfl (bf1 hg1) rfl (q_z rfl)) (r7 rfl ?_); refine L3 (t := 47) (want := false) rfl ?_ ?_
   ·intro hg2; have hg2' := hg2; try simp at hg2'
    have hn : wordB (at_ w 1) = true := by simpa using hg2
    apply k7 _ rfl rfl rfl
    ·intro w1; refine k5 hg2 ?_
     first | refine a6 ⟨_, 0, none⟩ rfl rfl B6 rfl ?_ | refine a6 _ rfl rfl B6 rfl ?_
     refine b5 ?_; exact i5 rfl
    apply k7 _ rfl rfl rfl
    ·intro w1; refine k5 hg2 ?_
     first | refine a7 rfl q7 rfl (d8 mB rfl) ?_ | refine a7 rfl q7 rfl (i2 mB rfl) ?_ | refine a7 rfl q7 rfl (b7 mB (b4 (by omega) rfl)) ?_ | refine a7 rfl q7 rfl (b8 mB (rows_get (by omega) rfl)) ?_ | refine a7 rfl q7 rfl (d7 mB rfl) ?_
     refine b5 ?_; exact i5 rfl
    apply k7 _ rfl rfl rfl
    ·intro w1; refine k5 hg2 (b6 rfl (b5 ?_)); exact i5 rfl
    apply k7 _ rfl rfl rfl
    ·intro w1; refine k5 hg2 (m7 (α := Str) w 0 rfl j9 j6 rfl rfl rfl mB rfl (by omega) (by decide) (b5 ?_)); exact i5 rfl
    apply k7 _ rfl rfl rfl
    ·intro w1; refine k5 hg2 (a7 (v := str (at_ w 0)) rfl a9 rfl (b7 mB (b4 (by omega) rfl)) (b5 ?_)); exact i5 rfl
    apply k7 _ rfl rfl rfl
    ·intro w1; refine k5 hg2 (J3 rfl rfl rfl (b5 ?_)); exact i5 rfl
    refine v7 ⟨rfl, ?_⟩; refine k5 hg2 (gq6 rfl kZ rfl rfl ?_); refine p_f rfl rfl (bf1 hg2) rfl (c8 ?_)
    first | refine k9 rfl (fun hb3 => ?_) (fun hb3 => ?_) | refine j0 rfl (fun hb3 => ?_) (fun hb3 => ?_)
    ·exfalso; revert hb3; rw [decide_eq_true (show at_ w 0 = [99, 108, 97, 115, 115] from h0)]; decide
    have hb3' := hb3; try simp at hb3'
    refine i8 (i1 (i4 (b6 rfl ?_))); refine u0 _ rfl rfl (fun _ => W4 ..) (u4 rfl (fun _ => D8 _) fun g10 => l6 (cs := #[str (at_ w 1), str [], str [], .slice none 0 0]) rfl rfl (.refl _) m9 (by rfl) (by rfl) ?_); refine c8 (d6 ?_); refine C0 4 mixed (by decide) (by decide) rfl rfl ?_
    apply k7 _ rfl rfl rfl
    ·intro w1
     first | refine a6 ⟨_, 1, none⟩ rfl rfl K0 rfl ?_ | refine a6 _ rfl rfl K0 rfl ?_
     refine b5 ?_; exact i5 rfl
    apply k7 _ rfl rfl rfl
    ·intro w1
     first | refine a7 rfl j2 rfl (d8 mB rfl) ?_ | refine a7 rfl j2 rfl (i2 mB rfl) ?_ | refine a7 rfl j2 rfl (b7 mB (b4 (by omega) rfl)) ?_ | refine a7 rfl j2 rfl (b8 mB (rows_get (by omega) rfl)) ?_ | refine a7 rfl j2 rfl (d7 mB rfl) ?_
     refine b5 ?_; exact i5 rfl
    refine r7 rfl ?_; refine V9 ⟨Unit, fun _ => True, fun _ => .slice (cutA (d9 gw) w.length 2 1) (w.drop 2).length (w.drop 2).length, fun _ => [Row (cutA (d9 gw) w.length 2 1) (rows (w.drop 2))]⟩ rfl rfl rfl ?_ ?_
    ·intro w1; refine rB (α := Str) (A := some ⟨gw, 0, none⟩) (p := w) (ca := w.length) 2 w.length mB (Nat.le_refl _) ?_; rw [List.take_length]; refine U4 2 rfl j9 j6 rfl rfl rfl (by omega) ?_; have hdl : w.length - 2 = (w.drop 2).length := by rw [List.length_drop]
     rw [hdl]; refine b5 ?_; exact K5 () tK rfl mC
    refine v7 ⟨rfl, ?_⟩; intro _ _; refine X3 (vs := [.pointer (d9 g10), .slice (cutA (d9 gw) w.length 2 1) (w.drop 2).length (w.drop 2).length]) (cap := []) vT rfl rfl rfl (ij1 (at_ w 1) (w.drop 2) (by rw [List.length_drop]; omega)) (hpR := [_]) (.refl _) mC fun q hq => ?_; refine c5 rfl (c8 (d6 (C3 ?_))); refine H3 ([(g2, Obj.cells #[str [], str [], str [], .slice none 0 0] G4 (0, 0))]) ([]) (.refl _) 6 [4] mixed (by decide) (by decide) (by decide) rfl rfl rfl (k8 (fun w1 => z8 (cs := [str (at_ w 1), str (clsN (w.drop 2)), str [], .slice none 0 0]) rfl A5 m9 rfl rfl (R3 (o := 0) mB (S8 (List.append_nil _).symm)) (q_z rfl)) ?_)
    apply k7 _ rfl rfl rfl
    ·intro w1
     first | refine a6 ⟨_, 0, none⟩ rfl rfl B6 rfl ?_ | refine a6 _ rfl rfl B6 rfl ?_
     refine b5 ?_; exact i5 rfl
    apply k7 _ rfl rfl rfl
    ·intro w1
     first | refine a7 rfl q7 rfl (d8 mB rfl) ?_ | refine a7 rfl q7 rfl (i2 mB rfl) ?_ | refine a7 rfl q7 rfl (b7 mB (b4 (by omega) rfl)) ?_ | refine a7 rfl q7 rfl (b8 mB (rows_get (by omega) rfl)) ?_ | refine a7 rfl q7 rfl (d7 mB rfl) ?_
     refine b5 ?_; exact i5 rfl
    refine r7 rfl ?_; refine nF ⟨Unit, fun _ => True, fun _ => undef, fun _ => [], fun _ => [(g2, Obj.cells #[str (at_ w 1), str (clsN (w.drop 2)), str [], .slice none 0 0] G4 (0, 0))]⟩ rfl rfl ?_ ?_
    ·intro w1; refine l6 (cs := #[str (at_ w 1), str (clsN (w.drop 2)), str [], .slice none 0 0]) rfl rfl (.refl _) m9 (by rfl) (by rfl) (b5 ?_); exact H4 () tK (fun h => by cases h) (.refl _) tK
    refine k8 (fun w1 => c5 rfl (q_z rfl)) ?_; refine v7 ⟨rfl, ?_⟩; intro _ _; refine c5 rfl (c8 (l4 ?_)); refine n5 (α := Str) ?_; exact A9 (((at_ w 1, (clsN (w.drop 2)), [], (⟨none, 0, []⟩ : Sl Str)), false, (clsB (w.drop 2))) : Ln × Bool × Bool) (fun a w9 ha hw9 => D0 (cs := #[str (at_ w 1), str (clsN (w.drop 2)), str [], .slice none 0 0]) (v1 := .bool false) (v2 := .bool (clsB (w.drop 2))) rfl rfl rfl rfl A5 m9 rfl m0 a w9 ha.at_ hw9) rfl (pt_cls h2 h0 hn) nK mC
   intro hg2; have hg2' := hg2; try simp at hg2'
   have hn : wordB (at_ w 1) = false := by simpa using hg2
   refine k8 (fun w1 => l8 hg2 (q_z rfl)) (k8 (fun w1 => l8 hg2 (q_z rfl)) (k8 (fun w1 => l8 hg2 (q_z rfl)) (k8 (fun w1 => l8 hg2 (q_z rfl)) (k8 (fun w1 => l8 hg2 (q_z rfl)) (k8 (fun w1 => l8 hg2 (q_z rfl)) ?_))))); refine v7 ⟨rfl, ?_⟩; refine l8 hg2 (p_t rfl rfl (bt2 hg2) rfl ?_); refine c8 (c_t rfl rfl (i4 ?_)); refine u0 _ rfl rfl (fun _ => K4 ..) (l6 (cs := #[str [], str [], str [], .slice none 0 0]) rfl rfl (.refl _) m9 (by rfl) (by rfl) ?_); refine c5 rfl (c5 rfl (c8 (E9 ?_))); refine n5 (α := Str) ?_; exact A9 ((([], [], [], ⟨none, 0, []⟩), false, false) : Ln × Bool × Bool) (fun a w9 ha hw9 => D0 (cs := #[str [], str [], str [], .slice none 0 0]) (v1 := .bool false) (v2 := .bool false) rfl rfl rfl rfl A5 m9 rfl m0 a w9 ha.at_ hw9) rfl (by show parseT w = none; exact (pt_clsn h2 h0 hn)) nK mC
  intro hg1; have hg1' := hg1; try simp at hg1'
 exact absurd h0 hb2
set_option maxHeartbeats 1000000 in
theorem mj5 (s : Str) (hs : s.length ≤ 1000000) (h2 : ¬ (splitB 32 s).length < 2) (h0 : ¬ at_ (splitB 32 s) 0 = wClass) (hk1 : ¬ at_ (splitB 32 s) 1 = wClass) (hk2 : ¬ at_ (splitB 32 s) 1 = kIs) (hk3 : ¬ at_ (splitB 32 s) 1 = kAlso) (hk4 : ¬ at_ (splitB 32 s) 1 = kSee) : Meets prog K8 [str s] { inv := fun y : Ln × Bool × Bool => ParOK (splitB 32 s) y, val := fun y => .tuple #[.agg #[str y.1.1, str y.1.2.1, str y.1.2.2.1, .slice y.1.2.2.2.a y.1.2.2.2.l.length y.1.2.2.2.c], .bool y.2.1, .bool y.2.2], LO := fun y => [y.1.row] } := by
 have hS := I9 s 32 hs; have hwn := P2 32 s; have hcl : s.count 32 ≤ s.length := List.count_le_length; obtain ⟨w, hw⟩ : ∃ w, splitB 32 s = w := ⟨_, rfl⟩; rw [hw] at hS hwn h2 h0 hk1 hk2 hk3 hk4; rw [hw]; refine j3 N8 rfl v8 fun w0 => i4 (u4 rfl (fun _ => D8 _) fun g2 => ?_); refine c5 rfl (c5 rfl (t6 (b6 rfl ?_))); refine j4 J2 rfl rfl (hS) (hpR := [_]) (.refl _) tK fun gw _ => ?_; refine c5 rfl (c8 (d6 (i4 (b6 rfl ?_)))); refine k6 rfl j9 rfl ?_; refine B5 rfl rfl rfl (c8 ?_)
 first | refine k9 rfl (fun hb1 => ?_) (fun hb1 => ?_) | refine j0 rfl (fun hb1 => ?_) (fun hb1 => ?_)
 ·exfalso; omega
 have hb1' := hb1; try simp at hb1'
 refine i8 (i1 (d6 ?_)); refine C0 7 mixed (by decide) (by decide) rfl rfl (r7 rfl (k8 (fun w1 => m7 (α := Str) w 1 rfl j9 j6 rfl rfl rfl mB rfl (by omega) (by decide) (q_z rfl)) (k8 (fun w1 => a7 (v := str (at_ w 1)) rfl a9 rfl (b7 mB (b4 (by omega) rfl)) (q_z rfl)) (r7 rfl (k8 (fun w1 => m7 (α := Str) w 0 rfl j9 j6 rfl rfl rfl mB rfl (by omega) (by decide) (q_z rfl)) (k8 (fun w1 => a7 (v := str (at_ w 0)) rfl a9 rfl (b7 mB (b4 (by omega) rfl)) (q_z rfl)) (k8 (fun w1 => c5 rfl (q_z rfl)) ?_))))))); refine v7 ⟨rfl, ?_⟩; refine c5 rfl (c8 (d6 (i4 (b6 rfl ?_)))); refine m7 (α := Str) w 0 rfl j9 j6 rfl rfl rfl mB rfl (by omega) (by decide) (a7 (v := str (at_ w 0)) rfl a9 rfl (b7 mB (b4 (by omega) rfl)) ?_); refine J3 rfl rfl rfl (c8 ?_)
 first | refine k9 rfl (fun hb2 => ?_) (fun hb2 => ?_) | refine j0 rfl (fun hb2 => ?_) (fun hb2 => ?_)
 ·exact absurd hb2 h0
 have hb2' := hb2; try simp at hb2'
 refine i8 (i1 (i4 ?_)); refine j4 P4 rfl rfl (O8) (hpR := [_]) (.refl _) tK fun y7 _ => ?_; obtain ⟨gM, gA⟩ := y7; refine b6 rfl (mj1 (k := at_ w 1) (z := .agg #[.bool false, .nilFunc]) (KeyC.str q8) rfl C2 rfl rfl (vC mB) zv_form (fm_none hk1 hk2 hk3 hk4) ?_); refine b6 rfl (l3 rfl rfl rfl (l3 rfl rfl rfl ?_)); refine u4 rfl (fun _ => Q9 _) fun gF => l6 (cs := #[.bool false, .nilFunc]) rfl rfl (.refl _) Q7 (by rfl) (by rfl) ?_; refine c5 rfl (c8 (Y7 (C3 ?_))); refine C0 14 mixed (by decide) (by decide) rfl rfl (r7 rfl (k8 (fun w1 => H6 rfl rfl (q_z rfl)) (r7 rfl ?_))); refine L3 (t := 42) (want := false) rfl ?_ ?_
 ·intro hg1; have hg1' := hg1; try simp at hg1'
 intro hg1; have hg1' := hg1; try simp at hg1'
 refine k8 (fun w1 => l8 hg1 (q_z rfl)) (k8 (fun w1 => l8 hg1 (q_z rfl)) (k8 (fun w1 => l8 hg1 (q_z rfl)) (k8 (fun w1 => p_t rfl rfl (bt2 hg1) rfl (q_z rfl)) (r7 rfl (k8 (fun w1 => S5 rfl rfl rfl rfl rfl rfl (q_z rfl)) (k8 (fun w1 => S5 rfl rfl rfl rfl rfl rfl (q_z rfl)) (k8 (fun w1 => S5 rfl rfl rfl rfl rfl rfl (q_z rfl)) (k8 (fun w1 => S5 rfl rfl rfl rfl rfl rfl (q_z rfl)) (k8 (fun w1 => S5 rfl rfl rfl rfl rfl rfl (q_z rfl)) (k8 (fun w1 => S5 rfl rfl rfl rfl rfl rfl (q_z rfl)) ?_)))))))))); refine v7 ⟨rfl, ?_⟩; refine S5 rfl rfl rfl rfl rfl rfl (p_t rfl rfl rfl rfl (c8 (c_t rfl rfl (i4 ?_)))); refine u0 _ rfl rfl (fun _ => K4 ..) (l6 (cs := #[str [], str [], str [], .slice none 0 0]) rfl rfl (.refl _) m9 (by rfl) (by rfl) ?_); refine c5 rfl (c5 rfl (c8 (E9 ?_))); refine n5 (α := Str) ?_; exact A9 ((([], [], [], ⟨none, 0, []⟩), false, false) : Ln × Bool × Bool) (fun a w9 ha hw9 => D0 (cs := #[str [], str [], str [], .slice none 0 0]) (v1 := .bool false) (v2 := .bool false) rfl rfl rfl rfl A5 m9 rfl m0 a w9 ha.at_ hw9) rfl (by show parseT w = none; exact hq4 h2 h0 hk2 hk3 hk4) nK mC
set_option maxHeartbeats 1000000 in
theorem mj7 (s : Str) (hs : s.length ≤ 1000000) (h2 : ¬ (splitB 32 s).length < 2) (h0 : ¬ at_ (splitB 32 s) 0 = wClass) (h1 : at_ (splitB 32 s) 1 = wClass) : Meets prog K8 [str s] { inv := fun y : Ln × Bool × Bool => ParOK (splitB 32 s) y, val := fun y => .tuple #[.agg #[str y.1.1, str y.1.2.1, str y.1.2.2.1, .slice y.1.2.2.2.a y.1.2.2.2.l.length y.1.2.2.2.c], .bool y.2.1, .bool y.2.2], LO := fun y => [y.1.row] } := by
 have hS := I9 s 32 hs; have hwn := P2 32 s; have hcl : s.count 32 ≤ s.length := List.count_le_length; obtain ⟨w, hw⟩ : ∃ w, splitB 32 s = w := ⟨_, rfl⟩; rw [hw] at hS hwn h2 h0 h1; rw [hw]; refine j3 N8 rfl v8 fun w0 => i4 (u4 rfl (fun _ => D8 _) fun g2 => ?_); refine c5 rfl (c5 rfl (t6 (b6 rfl ?_))); refine j4 J2 rfl rfl (hS) (hpR := [_]) (.refl _) tK fun gw _ => ?_; refine c5 rfl (c8 (d6 (i4 (b6 rfl ?_)))); refine k6 rfl j9 rfl ?_; refine B5 rfl rfl rfl (c8 ?_)
 first | refine k9 rfl (fun hb1 => ?_) (fun hb1 => ?_) | refine j0 rfl (fun hb1 => ?_) (fun hb1 => ?_)
 ·exfalso; omega
 have hb1' := hb1; try simp at hb1'
 refine i8 (i1 (d6 ?_)); refine C0 7 mixed (by decide) (by decide) rfl rfl (r7 rfl (k8 (fun w1 => m7 (α := Str) w 1 rfl j9 j6 rfl rfl rfl mB rfl (by omega) (by decide) (q_z rfl)) (k8 (fun w1 => a7 (v := str (at_ w 1)) rfl a9 rfl (b7 mB (b4 (by omega) rfl)) (q_z rfl)) (r7 rfl (k8 (fun w1 => m7 (α := Str) w 0 rfl j9 j6 rfl rfl rfl mB rfl (by omega) (by decide) (q_z rfl)) (k8 (fun w1 => a7 (v := str (at_ w 0)) rfl a9 rfl (b7 mB (b4 (by omega) rfl)) (q_z rfl)) (k8 (fun w1 => c5 rfl (q_z rfl)) ?_))))))); refine v7 ⟨rfl, ?_⟩; refine c5 rfl (c8 (d6 (i4 (b6 rfl ?_)))); refine m7 (α := Str) w 0 rfl j9 j6 rfl rfl rfl mB rfl (by omega) (by decide) (a7 (v := str (at_ w 0)) rfl a9 rfl (b7 mB (b4 (by omega) rfl)) ?_); refine J3 rfl rfl rfl (c8 ?_)
 first | refine k9 rfl (fun hb2 => ?_) (fun hb2 => ?_) | refine j0 rfl (fun hb2 => ?_) (fun hb2 => ?_)
 ·exact absurd hb2 h0
 have hb2' := hb2; try simp at hb2'
 refine i8 (i1 (i4 ?_)); refine j4 P4 rfl rfl (O8) (hpR := [_]) (.refl _) tK fun y7 _ => ?_; obtain ⟨gM, gA⟩ := y7; refine b6 rfl ?_; refine tU (k := at_ w 1) (v := .agg #[.bool false, .func (.func 132) #[] #[]]) (KeyC.str q8) rfl C2 rfl rfl (vC mB) (by rw [h1]; rfl) ?_; refine b6 rfl (l3 rfl rfl rfl (l3 rfl rfl rfl ?_)); refine u4 rfl (fun _ => Q9 _) fun gF => l6 (cs := #[.bool false, .func (.func 132) #[] #[]]) rfl rfl (.refl _) Q7 (by rfl) (by rfl) ?_; refine c5 rfl (c8 (Y7 (C3 ?_))); refine C0 14 mixed (by decide) (by decide) rfl rfl (r7 rfl (k8 (fun w1 => H6 rfl rfl (q_z rfl)) (r7 rfl ?_))); refine L3 (t := 42) (want := false) rfl ?_ ?_
 ·intro hg1; have hg1' := hg1; try simp at hg1'
  apply k7 _ rfl rfl rfl
  ·intro w1; refine k5 hg1 (b6 rfl (b5 ?_)); exact i5 rfl
  apply k7 _ rfl rfl rfl
  ·intro w1; refine k5 hg1 (j4 H7 rfl rfl (H5 (at_ w 0)) t4 tK fun _ _ => b5 ?_); exact i5 rfl
  apply k7 _ rfl rfl rfl
  ·intro w1; refine k5 hg1 (H6 rfl rfl (b5 ?_)); exact i5 rfl
  refine k8 (fun w1 => p_f rfl rfl (bf1 hg1) rfl (q_z rfl)) (r7 rfl ?_); refine L3 (t := 47) (want := false) rfl ?_ ?_
  ·intro hg2; have hg2' := hg2; try simp at hg2'
   have hn : wordB (at_ w 0) = true := by simpa using hg2
   apply k7 _ rfl rfl rfl
   ·intro w1; refine k5 hg2 ?_
    first | refine a6 ⟨_, 0, none⟩ rfl rfl B6 rfl ?_ | refine a6 _ rfl rfl B6 rfl ?_
    refine b5 ?_; exact i5 rfl
   apply k7 _ rfl rfl rfl
   ·intro w1; refine k5 hg2 ?_
    first | refine a7 rfl q7 rfl (d8 mB rfl) ?_ | refine a7 rfl q7 rfl (i2 mB rfl) ?_ | refine a7 rfl q7 rfl (b7 mB (b4 (by omega) rfl)) ?_ | refine a7 rfl q7 rfl (b8 mB (rows_get (by omega) rfl)) ?_ | refine a7 rfl q7 rfl (d7 mB rfl) ?_
    refine b5 ?_; exact i5 rfl
   apply k7 _ rfl rfl rfl
   ·intro w1; refine k5 hg2 (b6 rfl (b5 ?_)); exact i5 rfl
   apply k7 _ rfl rfl rfl
   ·intro w1; refine k5 hg2 (m7 (α := Str) w 0 rfl j9 j6 rfl rfl rfl mB rfl (by omega) (by decide) (b5 ?_)); exact i5 rfl
   apply k7 _ rfl rfl rfl
   ·intro w1; refine k5 hg2 (a7 (v := str (at_ w 0)) rfl a9 rfl (b7 mB (b4 (by omega) rfl)) (b5 ?_)); exact i5 rfl
   apply k7 _ rfl rfl rfl
   ·intro w1; refine k5 hg2 (J3 rfl rfl rfl (b5 ?_)); exact i5 rfl
   refine v7 ⟨rfl, ?_⟩; refine k5 hg2 (gq6 rfl kZ rfl rfl ?_); refine p_f rfl rfl (bf1 hg2) rfl (c8 ?_)
   first | refine k9 rfl (fun hb3 => ?_) (fun hb3 => ?_) | refine j0 rfl (fun hb3 => ?_) (fun hb3 => ?_)
   ·have hb3' := hb3; try simp at hb3'
    refine i4 (u0 _ rfl rfl (fun _ => K4 ..) (l6 (cs := #[str [], str [], str [], .slice none 0 0]) rfl rfl (.refl _) m9 (by rfl) (by rfl) ?_)); refine c5 rfl (c5 rfl (c8 (E9 ?_))); refine n5 (α := Str) ?_; exact A9 ((([], [], [], ⟨none, 0, []⟩), false, false) : Ln × Bool × Bool) (fun a w9 ha hw9 => D0 (cs := #[str [], str [], str [], .slice none 0 0]) (v1 := .bool false) (v2 := .bool false) rfl rfl rfl rfl A5 m9 rfl m0 a w9 ha.at_ hw9) rfl (by show parseT w = none; exact (hq4 h2 h0 (by rw [h1]; decide) (by rw [h1]; decide) (by rw [h1]; decide))) nK mC
   refine absurd ?_ hb3; rw [decide_eq_false (show ¬ at_ w 0 = [99, 108, 97, 115, 115] from h0)]
  intro hg2; have hg2' := hg2; try simp at hg2'
  have hn : wordB (at_ w 0) = false := by simpa using hg2
  refine k8 (fun w1 => l8 hg2 (q_z rfl)) (k8 (fun w1 => l8 hg2 (q_z rfl)) (k8 (fun w1 => l8 hg2 (q_z rfl)) (k8 (fun w1 => l8 hg2 (q_z rfl)) (k8 (fun w1 => l8 hg2 (q_z rfl)) (k8 (fun w1 => l8 hg2 (q_z rfl)) ?_))))); refine v7 ⟨rfl, ?_⟩; refine l8 hg2 (p_t rfl rfl (bt2 hg2) rfl ?_); refine c8 (c_t rfl rfl (i4 ?_)); refine u0 _ rfl rfl (fun _ => K4 ..) (l6 (cs := #[str [], str [], str [], .slice none 0 0]) rfl rfl (.refl _) m9 (by rfl) (by rfl) ?_); refine c5 rfl (c5 rfl (c8 (E9 ?_))); refine n5 (α := Str) ?_; exact A9 ((([], [], [], ⟨none, 0, []⟩), false, false) : Ln × Bool × Bool) (fun a w9 ha hw9 => D0 (cs := #[str [], str [], str [], .slice none 0 0]) (v1 := .bool false) (v2 := .bool false) rfl rfl rfl rfl A5 m9 rfl m0 a w9 ha.at_ hw9) rfl (by show parseT w = none; exact (hq4 h2 h0 (by rw [h1]; decide) (by rw [h1]; decide) (by rw [h1]; decide))) nK mC
 intro hg1; have hg1' := hg1; try simp at hg1'
set_option maxHeartbeats 1000000 in
theorem nx6 (s : Str) (hs : s.length ≤ 1000000) (h2 : ¬ (splitB 32 s).length < 2) (h0 : ¬ at_ (splitB 32 s) 0 = wClass) (h1 : at_ (splitB 32 s) 1 = kIs) : Meets prog K8 [str s] { inv := fun y : Ln × Bool × Bool => ParOK (splitB 32 s) y, val := fun y => .tuple #[.agg #[str y.1.1, str y.1.2.1, str y.1.2.2.1, .slice y.1.2.2.2.a y.1.2.2.2.l.length y.1.2.2.2.c], .bool y.2.1, .bool y.2.2], LO := fun y => [y.1.row] } := by
 have hS := I9 s 32 hs; have hwn := P2 32 s; have hcl : s.count 32 ≤ s.length := List.count_le_length; obtain ⟨w, hw⟩ : ∃ w, splitB 32 s = w := ⟨_, rfl⟩; rw [hw] at hS hwn h2 h0 h1; rw [hw]; refine j3 N8 rfl v8 fun w0 => i4 (u4 rfl (fun _ => D8 _) fun g2 => ?_); refine c5 rfl (c5 rfl (t6 (b6 rfl ?_))); refine j4 J2 rfl rfl (hS) (hpR := [_]) (.refl _) tK fun gw _ => ?_; refine c5 rfl (c8 (d6 (i4 (b6 rfl ?_)))); refine k6 rfl j9 rfl ?_; refine B5 rfl rfl rfl (c8 ?_)
 first | refine k9 rfl (fun hb1 => ?_) (fun hb1 => ?_) | refine j0 rfl (fun hb1 => ?_) (fun hb1 => ?_)
 ·exfalso; omega
 have hb1' := hb1; try simp at hb1'
 refine i8 (i1 (d6 ?_)); refine C0 7 mixed (by decide) (by decide) rfl rfl (r7 rfl (k8 (fun w1 => m7 (α := Str) w 1 rfl j9 j6 rfl rfl rfl mB rfl (by omega) (by decide) (q_z rfl)) (k8 (fun w1 => a7 (v := str (at_ w 1)) rfl a9 rfl (b7 mB (b4 (by omega) rfl)) (q_z rfl)) (r7 rfl (k8 (fun w1 => m7 (α := Str) w 0 rfl j9 j6 rfl rfl rfl mB rfl (by omega) (by decide) (q_z rfl)) (k8 (fun w1 => a7 (v := str (at_ w 0)) rfl a9 rfl (b7 mB (b4 (by omega) rfl)) (q_z rfl)) (k8 (fun w1 => c5 rfl (q_z rfl)) ?_))))))); refine v7 ⟨rfl, ?_⟩; refine c5 rfl (c8 (d6 (i4 (b6 rfl ?_)))); refine m7 (α := Str) w 0 rfl j9 j6 rfl rfl rfl mB rfl (by omega) (by decide) (a7 (v := str (at_ w 0)) rfl a9 rfl (b7 mB (b4 (by omega) rfl)) ?_); refine J3 rfl rfl rfl (c8 ?_)
 first | refine k9 rfl (fun hb2 => ?_) (fun hb2 => ?_) | refine j0 rfl (fun hb2 => ?_) (fun hb2 => ?_)
 ·exact absurd hb2 h0
 have hb2' := hb2; try simp at hb2'
 refine i8 (i1 (i4 ?_)); refine j4 P4 rfl rfl (O8) (hpR := [_]) (.refl _) tK fun y7 _ => ?_; obtain ⟨gM, gA⟩ := y7; refine b6 rfl ?_; refine tU (k := at_ w 1) (v := .agg #[.bool true, .func (.func 133) #[] #[.pointer (d9 gA)]]) (KeyC.str q8) rfl C2 rfl rfl (vC mB) (by rw [h1]; rfl) ?_; refine b6 rfl (l3 rfl rfl rfl (l3 rfl rfl rfl ?_)); refine u4 rfl (fun _ => Q9 _) fun gF => l6 (cs := #[.bool true, .func (.func 133) #[] #[.pointer (d9 gA)]]) rfl rfl (.refl _) Q7 (by rfl) (by rfl) ?_; refine c5 rfl (c8 (Y7 (C3 ?_))); refine C0 14 mixed (by decide) (by decide) rfl rfl (r7 rfl (k8 (fun w1 => H6 rfl rfl (q_z rfl)) (r7 rfl ?_))); refine L3 (t := 42) (want := false) rfl ?_ ?_
 ·intro hg1; have hg1' := hg1; try simp at hg1'
  apply k7 _ rfl rfl rfl
  ·intro w1; refine k5 hg1 (b6 rfl (b5 ?_)); exact i5 rfl
  apply k7 _ rfl rfl rfl
  ·intro w1; refine k5 hg1 (j4 H7 rfl rfl (H5 (at_ w 0)) t4 tK fun _ _ => b5 ?_); exact i5 rfl
  apply k7 _ rfl rfl rfl
  ·intro w1; refine k5 hg1 (H6 rfl rfl (b5 ?_)); exact i5 rfl
  refine k8 (fun w1 => p_f rfl rfl (bf1 hg1) rfl (q_z rfl)) (r7 rfl ?_); refine L3 (t := 47) (want := false) rfl ?_ ?_
  ·intro hg2; have hg2' := hg2; try simp at hg2'
   have hn : wordB (at_ w 0) = true := by simpa using hg2
   apply k7 _ rfl rfl rfl
   ·intro w1; refine k5 hg2 ?_
    first | refine a6 ⟨_, 0, none⟩ rfl rfl B6 rfl ?_ | refine a6 _ rfl rfl B6 rfl ?_
    refine b5 ?_; exact i5 rfl
   apply k7 _ rfl rfl rfl
   ·intro w1; refine k5 hg2 ?_
    first | refine a7 rfl q7 rfl (d8 mB rfl) ?_ | refine a7 rfl q7 rfl (i2 mB rfl) ?_ | refine a7 rfl q7 rfl (b7 mB (b4 (by omega) rfl)) ?_ | refine a7 rfl q7 rfl (b8 mB (rows_get (by omega) rfl)) ?_ | refine a7 rfl q7 rfl (d7 mB rfl) ?_
    refine b5 ?_; exact i5 rfl
   apply k7 _ rfl rfl rfl
   ·intro w1; refine k5 hg2 (b6 rfl (b5 ?_)); exact i5 rfl
   apply k7 _ rfl rfl rfl
   ·intro w1; refine k5 hg2 (m7 (α := Str) w 0 rfl j9 j6 rfl rfl rfl mB rfl (by omega) (by decide) (b5 ?_)); exact i5 rfl
   apply k7 _ rfl rfl rfl
   ·intro w1; refine k5 hg2 (a7 (v := str (at_ w 0)) rfl a9 rfl (b7 mB (b4 (by omega) rfl)) (b5 ?_)); exact i5 rfl
   apply k7 _ rfl rfl rfl
   ·intro w1; refine k5 hg2 (J3 rfl rfl rfl (b5 ?_)); exact i5 rfl
   refine v7 ⟨rfl, ?_⟩; refine k5 hg2 (gq6 rfl kZ rfl rfl ?_); refine p_f rfl rfl (bf1 hg2) rfl (c8 ?_)
   first | refine k9 rfl (fun hb3 => ?_) (fun hb3 => ?_) | refine j0 rfl (fun hb3 => ?_) (fun hb3 => ?_)
   ·exfalso; revert hb3; rw [decide_eq_false (show ¬ at_ w 0 = [99, 108, 97, 115, 115] from h0)]; decide
   have hb3' := hb3; try simp at hb3'
   refine i8 (i1 (i4 (b6 rfl ?_))); refine u0 _ rfl rfl (fun _ => W4 ..) (u4 rfl (fun _ => D8 _) fun g10 => l6 (cs := #[str (at_ w 0), str [], str [], .slice none 0 0]) rfl rfl (.refl _) m9 (by rfl) (by rfl) ?_); refine c8 (d6 ?_); refine C0 4 mixed (by decide) (by decide) rfl rfl ?_
   apply k7 _ rfl rfl rfl
   ·intro w1
    first | refine a6 ⟨_, 1, none⟩ rfl rfl K0 rfl ?_ | refine a6 _ rfl rfl K0 rfl ?_
    refine b5 ?_; exact i5 rfl
   apply k7 _ rfl rfl rfl
   ·intro w1
    first | refine a7 rfl j2 rfl (d8 mB rfl) ?_ | refine a7 rfl j2 rfl (i2 mB rfl) ?_ | refine a7 rfl j2 rfl (b7 mB (b4 (by omega) rfl)) ?_ | refine a7 rfl j2 rfl (b8 mB (rows_get (by omega) rfl)) ?_ | refine a7 rfl j2 rfl (d7 mB rfl) ?_
    refine b5 ?_; exact i5 rfl
   refine r7 rfl ?_; refine V9 ⟨Unit, fun _ => True, fun _ => .slice (cutA (d9 gw) w.length 2 1) (w.drop 2).length (w.drop 2).length, fun _ => [Row (cutA (d9 gw) w.length 2 1) (rows (w.drop 2))]⟩ rfl rfl rfl ?_ ?_
   ·intro w1; refine rB (α := Str) (A := some ⟨gw, 0, none⟩) (p := w) (ca := w.length) 2 w.length mB (Nat.le_refl _) ?_; rw [List.take_length]; refine U4 2 rfl j9 j6 rfl rfl rfl (by omega) ?_; have hdl : w.length - 2 = (w.drop 2).length := by rw [List.length_drop]
    rw [hdl]; refine b5 ?_; exact K5 () tK rfl mC
   refine v7 ⟨rfl, ?_⟩; intro _ _; refine X3 (vs := [.pointer (d9 g10), .slice (cutA (d9 gw) w.length 2 1) (w.drop 2).length (w.drop 2).length]) (cap := [.pointer (d9 gA)]) vS rfl rfl rfl (ij0 (gA := gA) (at_ w 0) (w.drop 2) (by rw [List.length_drop]; omega) (Nat.le_refl _)) (hpR := [_]) (.refl _) mC fun q hq => ?_; refine c5 rfl (c8 (d6 (C3 ?_))); refine H3 ([(g2, Obj.cells #[str [], str [], str [], .slice none 0 0] G4 (0, 0))]) ([]) (.refl _) 6 [4] mixed (by decide) (by decide) (by decide) rfl rfl rfl (k8 (fun w1 => z8 (cs := [str (at_ w 0), str (isN (w.drop 2)), str [], .slice q.a q.l.length q.c]) rfl A5 m9 rfl rfl (R3 (o := 0) mB (S8 (List.append_nil _).symm)) (q_z rfl)) ?_)
   apply k7 _ rfl rfl rfl
   ·intro w1
    first | refine a6 ⟨_, 0, none⟩ rfl rfl B6 rfl ?_ | refine a6 _ rfl rfl B6 rfl ?_
    refine b5 ?_; exact i5 rfl
   apply k7 _ rfl rfl rfl
   ·intro w1
    first | refine a7 rfl q7 rfl (d8 mB rfl) ?_ | refine a7 rfl q7 rfl (i2 mB rfl) ?_ | refine a7 rfl q7 rfl (b7 mB (b4 (by omega) rfl)) ?_ | refine a7 rfl q7 rfl (b8 mB (rows_get (by omega) rfl)) ?_ | refine a7 rfl q7 rfl (d7 mB rfl) ?_
    refine b5 ?_; exact i5 rfl
   refine r7 rfl ?_; refine nF ⟨Unit, fun _ => True, fun _ => undef, fun _ => [], fun _ => [(g2, Obj.cells #[str (at_ w 0), str (isN (w.drop 2)), str [], .slice q.a q.l.length q.c] G4 (0, 0))]⟩ rfl rfl ?_ ?_
   ·intro w1; refine l6 (cs := #[str (at_ w 0), str (isN (w.drop 2)), str [], .slice q.a q.l.length q.c]) rfl rfl (.refl _) m9 (by rfl) (by rfl) (b5 ?_); exact H4 () tK (fun h => by cases h) (.refl _) tK
   refine k8 (fun w1 => c5 rfl (q_z rfl)) ?_; refine v7 ⟨rfl, ?_⟩; intro _ _; refine c5 rfl (c8 (l4 ?_)); exact A9 (((at_ w 0, (isN (w.drop 2)), [], q), true, (isB (w.drop 2))) : Ln × Bool × Bool) (fun a w9 ha hw9 => D0 (cs := #[str (at_ w 0), str (isN (w.drop 2)), str [], .slice q.a q.l.length q.c]) (v1 := .bool true) (v2 := .bool (isB (w.drop 2))) rfl rfl rfl rfl A5 m9 rfl m0 a w9 ha.at_ hw9) rfl (by show parseT w = if isB (w.drop 2) = true then some (true, at_ w 0, isN (w.drop 2), [], q.l) else none; rw [show q.l = isA (w.drop 2) from hq]; exact pt_is h2 h0 hn h1) nK mC
  intro hg2; have hg2' := hg2; try simp at hg2'
  have hn : wordB (at_ w 0) = false := by simpa using hg2
  refine k8 (fun w1 => l8 hg2 (q_z rfl)) (k8 (fun w1 => l8 hg2 (q_z rfl)) (k8 (fun w1 => l8 hg2 (q_z rfl)) (k8 (fun w1 => l8 hg2 (q_z rfl)) (k8 (fun w1 => l8 hg2 (q_z rfl)) (k8 (fun w1 => l8 hg2 (q_z rfl)) ?_))))); refine v7 ⟨rfl, ?_⟩; refine l8 hg2 (p_t rfl rfl (bt2 hg2) rfl ?_); refine c8 (c_t rfl rfl (i4 ?_)); refine u0 _ rfl rfl (fun _ => K4 ..) (l6 (cs := #[str [], str [], str [], .slice none 0 0]) rfl rfl (.refl _) m9 (by rfl) (by rfl) ?_); refine c5 rfl (c5 rfl (c8 (E9 ?_))); refine n5 (α := Str) ?_; exact A9 ((([], [], [], ⟨none, 0, []⟩), false, false) : Ln × Bool × Bool) (fun a w9 ha hw9 => D0 (cs := #[str [], str [], str [], .slice none 0 0]) (v1 := .bool false) (v2 := .bool false) rfl rfl rfl rfl A5 m9 rfl m0 a w9 ha.at_ hw9) rfl (by show parseT w = none; exact (hq6 h2 h0 hn)) nK mC
 intro hg1; have hg1' := hg1; try simp at hg1'
set_option maxHeartbeats 1000000 in
theorem kj1 (s : Str) (hs : s.length ≤ 1000000) (h2 : ¬ (splitB 32 s).length < 2) (h0 : ¬ at_ (splitB 32 s) 0 = wClass) (h1 : at_ (splitB 32 s) 1 = kAlso) : Meets prog K8 [str s] { inv := fun y : Ln × Bool × Bool => ParOK (splitB 32 s) y, val := fun y => .tuple #[.agg #[str y.1.1, str y.1.2.1, str y.1.2.2.1, .slice y.1.2.2.2.a y.1.2.2.2.l.length y.1.2.2.2.c], .bool y.2.1, .bool y.2.2], LO := fun y => [y.1.row] } := by
 have hS := I9 s 32 hs; have hwn := P2 32 s; have hcl : s.count 32 ≤ s.length := List.count_le_length; obtain ⟨w, hw⟩ : ∃ w, splitB 32 s = w := ⟨_, rfl⟩; rw [hw] at hS hwn h2 h0 h1; rw [hw]; refine j3 N8 rfl v8 fun w0 => i4 (u4 rfl (fun _ => D8 _) fun g2 => ?_); refine c5 rfl (c5 rfl (t6 (b6 rfl ?_))); refine j4 J2 rfl rfl (hS) (hpR := [_]) (.refl _) tK fun gw _ => ?_; refine c5 rfl (c8 (d6 (i4 (b6 rfl ?_)))); refine k6 rfl j9 rfl ?_; refine B5 rfl rfl rfl (c8 ?_)
 first | refine k9 rfl (fun hb1 => ?_) (fun hb1 => ?_) | refine j0 rfl (fun hb1 => ?_) (fun hb1 => ?_)
 ·exfalso; omega
 have hb1' := hb1; try simp at hb1'
 refine i8 (i1 (d6 ?_)); refine C0 7 mixed (by decide) (by decide) rfl rfl (r7 rfl (k8 (fun w1 => m7 (α := Str) w 1 rfl j9 j6 rfl rfl rfl mB rfl (by omega) (by decide) (q_z rfl)) (k8 (fun w1 => a7 (v := str (at_ w 1)) rfl a9 rfl (b7 mB (b4 (by omega) rfl)) (q_z rfl)) (r7 rfl (k8 (fun w1 => m7 (α := Str) w 0 rfl j9 j6 rfl rfl rfl mB rfl (by omega) (by decide) (q_z rfl)) (k8 (fun w1 => a7 (v := str (at_ w 0)) rfl a9 rfl (b7 mB (b4 (by omega) rfl)) (q_z rfl)) (k8 (fun w1 => c5 rfl (q_z rfl)) ?_))))))); refine v7 ⟨rfl, ?_⟩; refine c5 rfl (c8 (d6 (i4 (b6 rfl ?_)))); refine m7 (α := Str) w 0 rfl j9 j6 rfl rfl rfl mB rfl (by omega) (by decide) (a7 (v := str (at_ w 0)) rfl a9 rfl (b7 mB (b4 (by omega) rfl)) ?_); refine J3 rfl rfl rfl (c8 ?_)
 first | refine k9 rfl (fun hb2 => ?_) (fun hb2 => ?_) | refine j0 rfl (fun hb2 => ?_) (fun hb2 => ?_)
 ·exact absurd hb2 h0
 have hb2' := hb2; try simp at hb2'
 refine i8 (i1 (i4 ?_)); refine j4 P4 rfl rfl (O8) (hpR := [_]) (.refl _) tK fun y7 _ => ?_; obtain ⟨gM, gA⟩ := y7; refine b6 rfl ?_; refine tU (k := at_ w 1) (v := .agg #[.bool true, .func (.func 130) #[] #[]]) (KeyC.str q8) rfl C2 rfl rfl (vC mB) (by rw [h1]; rfl) ?_; refine b6 rfl (l3 rfl rfl rfl (l3 rfl rfl rfl ?_)); refine u4 rfl (fun _ => Q9 _) fun gF => l6 (cs := #[.bool true, .func (.func 130) #[] #[]]) rfl rfl (.refl _) Q7 (by rfl) (by rfl) ?_; refine c5 rfl (c8 (Y7 (C3 ?_))); refine C0 14 mixed (by decide) (by decide) rfl rfl (r7 rfl (k8 (fun w1 => H6 rfl rfl (q_z rfl)) (r7 rfl ?_))); refine L3 (t := 42) (want := false) rfl ?_ ?_
 ·intro hg1; have hg1' := hg1; try simp at hg1'
  apply k7 _ rfl rfl rfl
  ·intro w1; refine k5 hg1 (b6 rfl (b5 ?_)); exact i5 rfl
  apply k7 _ rfl rfl rfl
  ·intro w1; refine k5 hg1 (j4 H7 rfl rfl (H5 (at_ w 0)) t4 tK fun _ _ => b5 ?_); exact i5 rfl
  apply k7 _ rfl rfl rfl
  ·intro w1; refine k5 hg1 (H6 rfl rfl (b5 ?_)); exact i5 rfl
  refine k8 (fun w1 => p_f rfl rfl (bf1 hg1) rfl (q_z rfl)) (r7 rfl ?_); refine L3 (t := 47) (want := false) rfl ?_ ?_
  ·intro hg2; have hg2' := hg2; try simp at hg2'
   have hn : wordB (at_ w 0) = true := by simpa using hg2
   apply k7 _ rfl rfl rfl
   ·intro w1; refine k5 hg2 ?_
    first | refine a6 ⟨_, 0, none⟩ rfl rfl B6 rfl ?_ | refine a6 _ rfl rfl B6 rfl ?_
    refine b5 ?_; exact i5 rfl
   apply k7 _ rfl rfl rfl
   ·intro w1; refine k5 hg2 ?_
    first | refine a7 rfl q7 rfl (d8 mB rfl) ?_ | refine a7 rfl q7 rfl (i2 mB rfl) ?_ | refine a7 rfl q7 rfl (b7 mB (b4 (by omega) rfl)) ?_ | refine a7 rfl q7 rfl (b8 mB (rows_get (by omega) rfl)) ?_ | refine a7 rfl q7 rfl (d7 mB rfl) ?_
    refine b5 ?_; exact i5 rfl
   apply k7 _ rfl rfl rfl
   ·intro w1; refine k5 hg2 (b6 rfl (b5 ?_)); exact i5 rfl
   apply k7 _ rfl rfl rfl
   ·intro w1; refine k5 hg2 (m7 (α := Str) w 0 rfl j9 j6 rfl rfl rfl mB rfl (by omega) (by decide) (b5 ?_)); exact i5 rfl
   apply k7 _ rfl rfl rfl
   ·intro w1; refine k5 hg2 (a7 (v := str (at_ w 0)) rfl a9 rfl (b7 mB (b4 (by omega) rfl)) (b5 ?_)); exact i5 rfl
   apply k7 _ rfl rfl rfl
   ·intro w1; refine k5 hg2 (J3 rfl rfl rfl (b5 ?_)); exact i5 rfl
   refine v7 ⟨rfl, ?_⟩; refine k5 hg2 (gq6 rfl kZ rfl rfl ?_); refine p_f rfl rfl (bf1 hg2) rfl (c8 ?_)
   first | refine k9 rfl (fun hb3 => ?_) (fun hb3 => ?_) | refine j0 rfl (fun hb3 => ?_) (fun hb3 => ?_)
   ·exfalso; revert hb3; rw [decide_eq_false (show ¬ at_ w 0 = [99, 108, 97, 115, 115] from h0)]; decide
   have hb3' := hb3; try simp at hb3'
   refine i8 (i1 (i4 (b6 rfl ?_))); refine u0 _ rfl rfl (fun _ => W4 ..) (u4 rfl (fun _ => D8 _) fun g10 => l6 (cs := #[str (at_ w 0), str [], str [], .slice none 0 0]) rfl rfl (.refl _) m9 (by rfl) (by rfl) ?_); refine c8 (d6 ?_); refine C0 4 mixed (by decide) (by decide) rfl rfl ?_
   apply k7 _ rfl rfl rfl
   ·intro w1
    first | refine a6 ⟨_, 1, none⟩ rfl rfl K0 rfl ?_ | refine a6 _ rfl rfl K0 rfl ?_
    refine b5 ?_; exact i5 rfl
   apply k7 _ rfl rfl rfl
   ·intro w1
    first | refine a7 rfl j2 rfl (d8 mB rfl) ?_ | refine a7 rfl j2 rfl (i2 mB rfl) ?_ | refine a7 rfl j2 rfl (b7 mB (b4 (by omega) rfl)) ?_ | refine a7 rfl j2 rfl (b8 mB (rows_get (by omega) rfl)) ?_ | refine a7 rfl j2 rfl (d7 mB rfl) ?_
    refine b5 ?_; exact i5 rfl
   refine r7 rfl ?_; refine V9 ⟨Unit, fun _ => True, fun _ => .slice (cutA (d9 gw) w.length 2 1) (w.drop 2).length (w.drop 2).length, fun _ => [Row (cutA (d9 gw) w.length 2 1) (rows (w.drop 2))]⟩ rfl rfl rfl ?_ ?_
   ·intro w1; refine rB (α := Str) (A := some ⟨gw, 0, none⟩) (p := w) (ca := w.length) 2 w.length mB (Nat.le_refl _) ?_; rw [List.take_length]; refine U4 2 rfl j9 j6 rfl rfl rfl (by omega) ?_; have hdl : w.length - 2 = (w.drop 2).length := by rw [List.length_drop]
    rw [hdl]; refine b5 ?_; exact K5 () tK rfl mC
   refine v7 ⟨rfl, ?_⟩; intro _ _; refine X3 (vs := [.pointer (d9 g10), .slice (cutA (d9 gw) w.length 2 1) (w.drop 2).length (w.drop 2).length]) (cap := []) kK rfl rfl rfl (aj3 (at_ w 0) [] [] (w.drop 2) (by rw [List.length_drop]; omega)) (hpR := [_]) (.refl _) mC fun q hq => ?_; refine c5 rfl (c8 (d6 (C3 ?_))); refine H3 ([(g2, Obj.cells #[str [], str [], str [], .slice none 0 0] G4 (0, 0))]) ([]) (.refl _) 6 [4] mixed (by decide) (by decide) (by decide) rfl rfl rfl (k8 (fun w1 => z8 (cs := [str (at_ w 0), str [], str [], .slice (cutA (d9 gw) w.length 2 1) (w.drop 2).length (w.drop 2).length]) rfl A5 m9 rfl rfl (R3 (o := 0) mB (S8 (List.append_nil _).symm)) (q_z rfl)) ?_)
   apply k7 _ rfl rfl rfl
   ·intro w1
    first | refine a6 ⟨_, 0, none⟩ rfl rfl B6 rfl ?_ | refine a6 _ rfl rfl B6 rfl ?_
    refine b5 ?_; exact i5 rfl
   apply k7 _ rfl rfl rfl
   ·intro w1
    first | refine a7 rfl q7 rfl (d8 mB rfl) ?_ | refine a7 rfl q7 rfl (i2 mB rfl) ?_ | refine a7 rfl q7 rfl (b7 mB (b4 (by omega) rfl)) ?_ | refine a7 rfl q7 rfl (b8 mB (rows_get (by omega) rfl)) ?_ | refine a7 rfl q7 rfl (d7 mB rfl) ?_
    refine b5 ?_; exact i5 rfl
   refine r7 rfl ?_; refine nF ⟨Unit, fun _ => True, fun _ => undef, fun _ => [], fun _ => [(g2, Obj.cells #[str (at_ w 0), str [], str [], .slice (cutA (d9 gw) w.length 2 1) (w.drop 2).length (w.drop 2).length] G4 (0, 0))]⟩ rfl rfl ?_ ?_
   ·intro w1; refine l6 (cs := #[str (at_ w 0), str [], str [], .slice (cutA (d9 gw) w.length 2 1) (w.drop 2).length (w.drop 2).length]) rfl rfl (.refl _) m9 (by rfl) (by rfl) (b5 ?_); exact H4 () tK (fun h => by cases h) (.refl _) tK
   refine k8 (fun w1 => c5 rfl (q_z rfl)) ?_; refine v7 ⟨rfl, ?_⟩; intro _ _; refine c5 rfl (c8 (l4 ?_)); exact A9 (((at_ w 0, [], [], (⟨(cutA (d9 gw) w.length 2 1), (w.drop 2).length, w.drop 2⟩ : Sl Str)), true, (wordsB (w.drop 2))) : Ln × Bool × Bool) (fun a w9 ha hw9 => D0 (cs := #[str (at_ w 0), str [], str [], .slice (cutA (d9 gw) w.length 2 1) (w.drop 2).length (w.drop 2).length]) (v1 := .bool true) (v2 := .bool (wordsB (w.drop 2))) rfl rfl rfl rfl A5 m9 rfl m0 a w9 ha.at_ hw9) rfl (kz6 h2 h0 hn h1) nK mC
  intro hg2; have hg2' := hg2; try simp at hg2'
  have hn : wordB (at_ w 0) = false := by simpa using hg2
  refine k8 (fun w1 => l8 hg2 (q_z rfl)) (k8 (fun w1 => l8 hg2 (q_z rfl)) (k8 (fun w1 => l8 hg2 (q_z rfl)) (k8 (fun w1 => l8 hg2 (q_z rfl)) (k8 (fun w1 => l8 hg2 (q_z rfl)) (k8 (fun w1 => l8 hg2 (q_z rfl)) ?_))))); refine v7 ⟨rfl, ?_⟩; refine l8 hg2 (p_t rfl rfl (bt2 hg2) rfl ?_); refine c8 (c_t rfl rfl (i4 ?_)); refine u0 _ rfl rfl (fun _ => K4 ..) (l6 (cs := #[str [], str [], str [], .slice none 0 0]) rfl rfl (.refl _) m9 (by rfl) (by rfl) ?_); refine c5 rfl (c5 rfl (c8 (E9 ?_))); refine n5 (α := Str) ?_; exact A9 ((([], [], [], ⟨none, 0, []⟩), false, false) : Ln × Bool × Bool) (fun a w9 ha hw9 => D0 (cs := #[str [], str [], str [], .slice none 0 0]) (v1 := .bool false) (v2 := .bool false) rfl rfl rfl rfl A5 m9 rfl m0 a w9 ha.at_ hw9) rfl (by show parseT w = none; exact (hq6 h2 h0 hn)) nK mC
 intro hg1; have hg1' := hg1; try simp at hg1'
set_option maxHeartbeats 1000000 in
theorem mj4 (s : Str) (hs : s.length ≤ 1000000) (h2 : ¬ (splitB 32 s).length < 2) (h0 : ¬ at_ (splitB 32 s) 0 = wClass) (h1 : at_ (splitB 32 s) 1 = kSee) : Meets prog K8 [str s] { inv := fun y : Ln × Bool × Bool => ParOK (splitB 32 s) y, val := fun y => .tuple #[.agg #[str y.1.1, str y.1.2.1, str y.1.2.2.1, .slice y.1.2.2.2.a y.1.2.2.2.l.length y.1.2.2.2.c], .bool y.2.1, .bool y.2.2], LO := fun y => [y.1.row] } := by
 have hS := I9 s 32 hs; have hwn := P2 32 s; have hcl : s.count 32 ≤ s.length := List.count_le_length; obtain ⟨w, hw⟩ : ∃ w, splitB 32 s = w := ⟨_, rfl⟩; rw [hw] at hS hwn h2 h0 h1; rw [hw]; refine j3 N8 rfl v8 fun w0 => i4 (u4 rfl (fun _ => D8 _) fun g2 => ?_); refine c5 rfl (c5 rfl (t6 (b6 rfl ?_))); refine j4 J2 rfl rfl (hS) (hpR := [_]) (.refl _) tK fun gw _ => ?_; refine c5 rfl (c8 (d6 (i4 (b6 rfl ?_)))); refine k6 rfl j9 rfl ?_; refine B5 rfl rfl rfl (c8 ?_)
 first | refine k9 rfl (fun hb1 => ?_) (fun hb1 => ?_) | refine j0 rfl (fun hb1 => ?_) (fun hb1 => ?_)
 ·exfalso; omega
 have hb1' := hb1; try simp at hb1'
 refine i8 (i1 (d6 ?_)); refine C0 7 mixed (by decide) (by decide) rfl rfl (r7 rfl (k8 (fun w1 => m7 (α := Str) w 1 rfl j9 j6 rfl rfl rfl mB rfl (by omega) (by decide) (q_z rfl)) (k8 (fun w1 => a7 (v := str (at_ w 1)) rfl a9 rfl (b7 mB (b4 (by omega) rfl)) (q_z rfl)) (r7 rfl (k8 (fun w1 => m7 (α := Str) w 0 rfl j9 j6 rfl rfl rfl mB rfl (by omega) (by decide) (q_z rfl)) (k8 (fun w1 => a7 (v := str (at_ w 0)) rfl a9 rfl (b7 mB (b4 (by omega) rfl)) (q_z rfl)) (k8 (fun w1 => c5 rfl (q_z rfl)) ?_))))))); refine v7 ⟨rfl, ?_⟩; refine c5 rfl (c8 (d6 (i4 (b6 rfl ?_)))); refine m7 (α := Str) w 0 rfl j9 j6 rfl rfl rfl mB rfl (by omega) (by decide) (a7 (v := str (at_ w 0)) rfl a9 rfl (b7 mB (b4 (by omega) rfl)) ?_); refine J3 rfl rfl rfl (c8 ?_)
 first | refine k9 rfl (fun hb2 => ?_) (fun hb2 => ?_) | refine j0 rfl (fun hb2 => ?_) (fun hb2 => ?_)
 ·exact absurd hb2 h0
 have hb2' := hb2; try simp at hb2'
 refine i8 (i1 (i4 ?_)); refine j4 P4 rfl rfl (O8) (hpR := [_]) (.refl _) tK fun y7 _ => ?_; obtain ⟨gM, gA⟩ := y7; refine b6 rfl ?_; refine tU (k := at_ w 1) (v := .agg #[.bool true, .func (.func 134) #[] #[]]) (KeyC.str q8) rfl C2 rfl rfl (vC mB) (by rw [h1]; rfl) ?_; refine b6 rfl (l3 rfl rfl rfl (l3 rfl rfl rfl ?_)); refine u4 rfl (fun _ => Q9 _) fun gF => l6 (cs := #[.bool true, .func (.func 134) #[] #[]]) rfl rfl (.refl _) Q7 (by rfl) (by rfl) ?_; refine c5 rfl (c8 (Y7 (C3 ?_))); refine C0 14 mixed (by decide) (by decide) rfl rfl (r7 rfl (k8 (fun w1 => H6 rfl rfl (q_z rfl)) (r7 rfl ?_))); refine L3 (t := 42) (want := false) rfl ?_ ?_
 ·intro hg1; have hg1' := hg1; try simp at hg1'
  apply k7 _ rfl rfl rfl
  ·intro w1; refine k5 hg1 (b6 rfl (b5 ?_)); exact i5 rfl
  apply k7 _ rfl rfl rfl
  ·intro w1; refine k5 hg1 (j4 H7 rfl rfl (H5 (at_ w 0)) t4 tK fun _ _ => b5 ?_); exact i5 rfl
  apply k7 _ rfl rfl rfl
  ·intro w1; refine k5 hg1 (H6 rfl rfl (b5 ?_)); exact i5 rfl
  refine k8 (fun w1 => p_f rfl rfl (bf1 hg1) rfl (q_z rfl)) (r7 rfl ?_); refine L3 (t := 47) (want := false) rfl ?_ ?_
  ·intro hg2; have hg2' := hg2; try simp at hg2'
   have hn : wordB (at_ w 0) = true := by simpa using hg2
   apply k7 _ rfl rfl rfl
   ·intro w1; refine k5 hg2 ?_
    first | refine a6 ⟨_, 0, none⟩ rfl rfl B6 rfl ?_ | refine a6 _ rfl rfl B6 rfl ?_
    refine b5 ?_; exact i5 rfl
   apply k7 _ rfl rfl rfl
   ·intro w1; refine k5 hg2 ?_
    first | refine a7 rfl q7 rfl (d8 mB rfl) ?_ | refine a7 rfl q7 rfl (i2 mB rfl) ?_ | refine a7 rfl q7 rfl (b7 mB (b4 (by omega) rfl)) ?_ | refine a7 rfl q7 rfl (b8 mB (rows_get (by omega) rfl)) ?_ | refine a7 rfl q7 rfl (d7 mB rfl) ?_
    refine b5 ?_; exact i5 rfl
   apply k7 _ rfl rfl rfl
   ·intro w1; refine k5 hg2 (b6 rfl (b5 ?_)); exact i5 rfl
   apply k7 _ rfl rfl rfl
   ·intro w1; refine k5 hg2 (m7 (α := Str) w 0 rfl j9 j6 rfl rfl rfl mB rfl (by omega) (by decide) (b5 ?_)); exact i5 rfl
   apply k7 _ rfl rfl rfl
   ·intro w1; refine k5 hg2 (a7 (v := str (at_ w 0)) rfl a9 rfl (b7 mB (b4 (by omega) rfl)) (b5 ?_)); exact i5 rfl
   apply k7 _ rfl rfl rfl
   ·intro w1; refine k5 hg2 (J3 rfl rfl rfl (b5 ?_)); exact i5 rfl
   refine v7 ⟨rfl, ?_⟩; refine k5 hg2 (gq6 rfl kZ rfl rfl ?_); refine p_f rfl rfl (bf1 hg2) rfl (c8 ?_)
   first | refine k9 rfl (fun hb3 => ?_) (fun hb3 => ?_) | refine j0 rfl (fun hb3 => ?_) (fun hb3 => ?_)
   ·exfalso; revert hb3; rw [decide_eq_false (show ¬ at_ w 0 = [99, 108, 97, 115, 115] from h0)]; decide
   have hb3' := hb3; try simp at hb3'
   refine i8 (i1 (i4 (b6 rfl ?_))); refine u0 _ rfl rfl (fun _ => W4 ..) (u4 rfl (fun _ => D8 _) fun g10 => l6 (cs := #[str (at_ w 0), str [], str [], .slice none 0 0]) rfl rfl (.refl _) m9 (by rfl) (by rfl) ?_); refine c8 (d6 ?_); refine C0 4 mixed (by decide) (by decide) rfl rfl ?_
   apply k7 _ rfl rfl rfl
   ·intro w1
    first | refine a6 ⟨_, 1, none⟩ rfl rfl K0 rfl ?_ | refine a6 _ rfl rfl K0 rfl ?_
    refine b5 ?_; exact i5 rfl
   apply k7 _ rfl rfl rfl
   ·intro w1
    first | refine a7 rfl j2 rfl (d8 mB rfl) ?_ | refine a7 rfl j2 rfl (i2 mB rfl) ?_ | refine a7 rfl j2 rfl (b7 mB (b4 (by omega) rfl)) ?_ | refine a7 rfl j2 rfl (b8 mB (rows_get (by omega) rfl)) ?_ | refine a7 rfl j2 rfl (d7 mB rfl) ?_
    refine b5 ?_; exact i5 rfl
   refine r7 rfl ?_; refine V9 ⟨Unit, fun _ => True, fun _ => .slice (cutA (d9 gw) w.length 2 1) (w.drop 2).length (w.drop 2).length, fun _ => [Row (cutA (d9 gw) w.length 2 1) (rows (w.drop 2))]⟩ rfl rfl rfl ?_ ?_
   ·intro w1; refine rB (α := Str) (A := some ⟨gw, 0, none⟩) (p := w) (ca := w.length) 2 w.length mB (Nat.le_refl _) ?_; rw [List.take_length]; refine U4 2 rfl j9 j6 rfl rfl rfl (by omega) ?_; have hdl : w.length - 2 = (w.drop 2).length := by rw [List.length_drop]
    rw [hdl]; refine b5 ?_; exact K5 () tK rfl mC
   refine v7 ⟨rfl, ?_⟩; intro _ _; refine X3 (vs := [.pointer (d9 g10), .slice (cutA (d9 gw) w.length 2 1) (w.drop 2).length (w.drop 2).length]) (cap := []) vR rfl rfl rfl (hz9 (at_ w 0) (w.drop 2) (by rw [List.length_drop]; omega)) (hpR := [_]) (.refl _) mC fun q hq => ?_; refine c5 rfl (c8 (d6 (C3 ?_))); refine H3 ([(g2, Obj.cells #[str [], str [], str [], .slice none 0 0] G4 (0, 0))]) ([]) (.refl _) 6 [4] mixed (by decide) (by decide) (by decide) rfl rfl rfl (k8 (fun w1 => z8 (cs := [str (at_ w 0), str [], str (seeN (w.drop 2)), .slice none 0 0]) rfl A5 m9 rfl rfl (R3 (o := 0) mB (S8 (List.append_nil _).symm)) (q_z rfl)) ?_)
   apply k7 _ rfl rfl rfl
   ·intro w1
    first | refine a6 ⟨_, 0, none⟩ rfl rfl B6 rfl ?_ | refine a6 _ rfl rfl B6 rfl ?_
    refine b5 ?_; exact i5 rfl
   apply k7 _ rfl rfl rfl
   ·intro w1
    first | refine a7 rfl q7 rfl (d8 mB rfl) ?_ | refine a7 rfl q7 rfl (i2 mB rfl) ?_ | refine a7 rfl q7 rfl (b7 mB (b4 (by omega) rfl)) ?_ | refine a7 rfl q7 rfl (b8 mB (rows_get (by omega) rfl)) ?_ | refine a7 rfl q7 rfl (d7 mB rfl) ?_
    refine b5 ?_; exact i5 rfl
   refine r7 rfl ?_; refine nF ⟨Unit, fun _ => True, fun _ => undef, fun _ => [], fun _ => [(g2, Obj.cells #[str (at_ w 0), str [], str (seeN (w.drop 2)), .slice none 0 0] G4 (0, 0))]⟩ rfl rfl ?_ ?_
   ·intro w1; refine l6 (cs := #[str (at_ w 0), str [], str (seeN (w.drop 2)), .slice none 0 0]) rfl rfl (.refl _) m9 (by rfl) (by rfl) (b5 ?_); exact H4 () tK (fun h => by cases h) (.refl _) tK
   refine k8 (fun w1 => c5 rfl (q_z rfl)) ?_; refine v7 ⟨rfl, ?_⟩; intro _ _; refine c5 rfl (c8 (l4 ?_)); refine n5 (α := Str) ?_; exact A9 (((at_ w 0, [], (seeN (w.drop 2)), (⟨none, 0, []⟩ : Sl Str)), true, (seeB (w.drop 2))) : Ln × Bool × Bool) (fun a w9 ha hw9 => D0 (cs := #[str (at_ w 0), str [], str (seeN (w.drop 2)), .slice none 0 0]) (v1 := .bool true) (v2 := .bool (seeB (w.drop 2))) rfl rfl rfl rfl A5 m9 rfl m0 a w9 ha.at_ hw9) rfl (pt_see h2 h0 hn h1) nK mC
  intro hg2; have hg2' := hg2; try simp at hg2'
  have hn : wordB (at_ w 0) = false := by simpa using hg2
  refine k8 (fun w1 => l8 hg2 (q_z rfl)) (k8 (fun w1 => l8 hg2 (q_z rfl)) (k8 (fun w1 => l8 hg2 (q_z rfl)) (k8 (fun w1 => l8 hg2 (q_z rfl)) (k8 (fun w1 => l8 hg2 (q_z rfl)) (k8 (fun w1 => l8 hg2 (q_z rfl)) ?_))))); refine v7 ⟨rfl, ?_⟩; refine l8 hg2 (p_t rfl rfl (bt2 hg2) rfl ?_); refine c8 (c_t rfl rfl (i4 ?_)); refine u0 _ rfl rfl (fun _ => K4 ..) (l6 (cs := #[str [], str [], str [], .slice none 0 0]) rfl rfl (.refl _) m9 (by rfl) (by rfl) ?_); refine c5 rfl (c5 rfl (c8 (E9 ?_))); refine n5 (α := Str) ?_; exact A9 ((([], [], [], ⟨none, 0, []⟩), false, false) : Ln × Bool × Bool) (fun a w9 ha hw9 => D0 (cs := #[str [], str [], str [], .slice none 0 0]) (v1 := .bool false) (v2 := .bool false) rfl rfl rfl rfl A5 m9 rfl m0 a w9 ha.at_ hw9) rfl (by show parseT w = none; exact (hq6 h2 h0 hn)) nK mC
 intro hg1; have hg1' := hg1; try simp at hg1'
theorem yH (s : Str) (hs : s.length ≤ 1000000) : Meets prog K8 [str s] { inv := fun y : Ln × Bool × Bool => ParOK (splitB 32 s) y, val := fun y => .tuple #[.agg #[str y.1.1, str y.1.2.1, str y.1.2.2.1, .slice y.1.2.2.2.a y.1.2.2.2.l.length y.1.2.2.2.c], .bool y.2.1, .bool y.2.2], LO := fun y => [y.1.row] } := by
  by_cases h2 : (splitB 32 s).length < 2
  · exact iz2 s hs h2
  by_cases h0 : at_ (splitB 32 s) 0 = wClass
  · exact mj6 s hs h2 h0
  by_cases h1 : at_ (splitB 32 s) 1 = wClass
  · exact mj7 s hs h2 h0 h1
  by_cases h3 : at_ (splitB 32 s) 1 = kIs
  · exact nx6 s hs h2 h0 h3
  by_cases h4 : at_ (splitB 32 s) 1 = kAlso
  · exact kj1 s hs h2 h0 h4
  by_cases h5 : at_ (splitB 32 s) 1 = kSee
  · exact mj4 s hs h2 h0 h5
  exact mj5 s hs h2 h0 h1 h3 h4 h5
theorem tW {l : List Ln} {k : Nat} (h : k < l.length) : (l.map Ln.p).getD k default = (l.getD k default).p := by
  rw [B8 h, B8 (by simpa using h)]; simp
def wrV (p : Nat) (e : Int) : Value := .iface U8 (.agg #[int p, int e])
abbrev RdR := Option (List PL × List PL) × Nat
def rdV (R : RdR) : Value := match R.1 with
  | none => wrV R.2 2
  | some _ => .nilIface
section
variable {L : List Str} {i : Nat} {cl hd : List PL} {R : RdR}
theorem nj9 (h : rdF i (L.drop i) cl hd = R) (hi : i + 1 = L.length) : R = (none, L.length) := by
  rw [M7 (by omega), rdF, if_pos (List.drop_eq_nil_of_le (by omega))] at h; rw [← h, hi]
theorem gq4 (hi : i + 1 < L.length) : ¬ L.drop (i + 1) = [] := fun e => by
  have := congrArg List.length e; rw [List.length_drop, List.length_nil] at this
  omega
theorem kz0 (h : rdF i (L.drop i) cl hd = R) (hi : i + 2 = L.length) (hs : L.getD i default = wFinis) (hl : L.getD (i + 1) default = []) : R = (some (cl, hd), 0) := by
  rw [M7 (by omega), rdF, if_neg (gq4 (by omega)), if_pos hs, M7 (k := i + 1) (by omega), hl, List.drop_eq_nil_of_le (by omega), if_pos rfl] at h; exact h.symm
theorem hj9 (h : rdF i (L.drop i) cl hd = R) (hi : i + 1 < L.length) (hs : L.getD i default = wFinis) (hl : ¬ (i + 2 = L.length ∧ L.getD (i + 1) default = [])) : R = (none, i + 2) := by
  rw [M7 (by omega), rdF, if_neg (gq4 hi), if_pos hs, if_neg] at h
  · exact h.symm
  intro e; refine hl ⟨?_, ?_⟩
  · have := congrArg List.length e
    rw [List.length_drop] at this
    simp at this
    omega
  rw [M7 (k := i + 1) (by omega)] at e; exact (List.cons.inj e).1
theorem nq1 (h : rdF i (L.drop i) cl hd = R) (hi : i + 1 < L.length) (hs : ¬ L.getD i default = wFinis) (hp : parseT (splitB 32 (L.getD i default)) = none) : R = (none, i + 1) := by
  rw [M7 (by omega), rdF, if_neg (gq4 hi), if_neg hs, hp] at h; exact h.symm
theorem kx9 {y : PL} (h : rdF i (L.drop i) cl hd = R) (hi : i + 1 < L.length) (hs : ¬ L.getD i default = wFinis) (hp : parseT (splitB 32 (L.getD i default)) = some (false, y)) (hh : ¬ hd = []) : R = (none, i + 1) := by
  rw [M7 (by omega), rdF, if_neg (gq4 hi), if_neg hs, hp] at h; simp only [if_neg hh] at h; exact h.symm
theorem nq0 {y : PL} (h : rdF i (L.drop i) cl hd = R) (hi : i + 1 < L.length) (hs : ¬ L.getD i default = wFinis) (hp : parseT (splitB 32 (L.getD i default)) = some (false, y)) (hh : hd = []) : rdF (i + 1) (L.drop (i + 1)) (cl ++ [y]) hd = R := by
  rw [M7 (by omega), rdF, if_neg (gq4 hi), if_neg hs, hp] at h; simp only [if_pos hh] at h; exact h
theorem nj8 {y : PL} (h : rdF i (L.drop i) cl hd = R) (hi : i + 1 < L.length) (hs : ¬ L.getD i default = wFinis) (hp : parseT (splitB 32 (L.getD i default)) = some (true, y)) : rdF (i + 1) (L.drop (i + 1)) cl (hd ++ [y]) = R := by
  rw [M7 (by omega), rdF, if_neg (gq4 hi), if_neg hs, hp] at h; exact h
end
theorem also_le {w : List Str} {b : Bool} {y : PL} (h : parseT w = some (b, y)) : y.2.2.2.length ≤ w.length := by
  unfold parseT at h
  repeat' (split at h)
  all_goals (cases h)
  all_goals (first | exact Nat.zero_le _ | (show (List.drop _ _).length ≤ _; rw [List.length_drop]; omega))
theorem O7 {α : Type} {p : α → Prop} {l : List α} {x : α} (h : ∀ y ∈ l, p y) (hx : p x) : ∀ y ∈ l ++ [x], p y := fun y hy => by
  rcases List.mem_append.1 hy with h1 | h1
  · exact h y h1
  rw [List.mem_singleton.1 h1]; exact hx
structure LnsOK (R : RdR) (y : (List Ln × OutC) × (List Ln × OutC)) : Prop where
  no : R.1 = none → y.1.1 = [] ∧ y.2.1 = []
  ye : ∀ t, R.1 = some t → y.1.1.map Ln.p = t.1 ∧ y.2.1.map Ln.p = t.2
  n1 : y.1.1.length ≤ 1000
  n2 : y.2.1.length ≤ 1000
  n3 : ∀ x ∈ y.2.1, x.2.2.2.l.length ≤ 1000
structure Ls where
  i : Nat
  cl : List Ln
  o1 : OutC
  h1 : Hp
  hd : List Ln
  o2 : OutC
  h2 : Hp
structure Ls.ok (L : List Str) (R : RdR) (z : Ls) : Prop where
  e : rdF z.i (L.drop z.i) (z.cl.map Ln.p) (z.hd.map Ln.p) = R
  il : z.i + 1 ≤ L.length
  g1 : Grow G4 4 z.o1.1 z.cl.length z.o1.2 (rows z.cl) z.h1
  g2 : Grow G4 4 z.o2.1 z.hd.length z.o2.2 (rows z.hd) z.h2
  l1 : z.cl.length ≤ z.i
  l2 : z.hd.length ≤ z.i
  la : ∀ x ∈ z.hd, x.2.2.2.l.length ≤ 1000
theorem aL {A : Option Addr} {ca : Nat} (l : List Ln) (n : Str) (hl : l.length ≤ 1000000) : Meets prog pA [.slice A l.length ca, str n] { LI := [Row A (rows l)], val := fun _ : Unit => int (findP (l.map Ln.p) n) } := by
 refine j3 cj7 rfl v8 fun w0 => ?_; refine i4 (c5 rfl (c8 (d6 (i4 (b6 rfl ?_))))); refine k6 rfl G6 rfl ?_; refine b6 rfl (c8 (j5 ?_)); refine u6 (β := Nat) ⟨fun k => k ≤ l.length ∧ ∀ j, j < k → ¬ (l.getD j default).1 = n, fun k => [(1, str n), (7, .slice A l.length ca), (8, int l.length), (9, int k)], fun _ => [], fun _ => [Row A (rows l)]⟩ (fun k => l.length - k) 0 ⟨Nat.zero_le _, fun j hj => absurd hj (Nat.not_lt_zero j)⟩ mC (.refl _) mC fun k hk => ?_; obtain ⟨hk0, hall⟩ := hk; refine i4 (B5 rfl rfl rfl (c8 (d6 ?_)))
 first | refine k9 rfl (fun hb1 => ?_) (fun hb1 => ?_) | refine j0 rfl (fun hb1 => ?_) (fun hb1 => ?_)
 ·have hb1' := hb1; try simp at hb1'
  have hk1 : k < l.length := by omega
  refine i8 (i1 (d6 (j5 (i4 (b6 rfl ?_))))); refine m7 (α := Ln) l k rfl G6 m9 rfl rfl rfl mB rfl hk1 (by decide) (z8 (cs := El.cells (l.getD k default)) rfl A5 m9 rfl rfl (v9 mB (B3 hk1)) (u4 rfl (fun _ => D8 _) fun g6 => c5 rfl (l6 (cs := #[str (l.getD k default).1, str (l.getD k default).2.1, str (l.getD k default).2.2.1, .slice (l.getD k default).2.2.2.a (l.getD k default).2.2.2.l.length (l.getD k default).2.2.2.c]) rfl rfl (.refl _) m9 (by rfl) (by rfl) (t6 ?_))))
  first | refine a6 ⟨_, 0, none⟩ rfl rfl N6 rfl ?_ | refine a6 _ rfl rfl N6 rfl ?_
  first | refine a7 rfl a9 rfl (i2 mB rfl) ?_ | refine a7 rfl a9 rfl (d8 mB rfl) ?_ | refine a7 rfl a9 rfl (b7 mB (b4 (by omega) rfl)) ?_ | refine a7 rfl a9 rfl (b8 mB (rows_get (by omega) rfl)) ?_ | refine a7 rfl a9 rfl (d7 mB rfl) ?_
  refine b6 rfl (J3 rfl rfl rfl (c8 ?_))
  first | refine k9 rfl (fun hb2 => ?_) (fun hb2 => ?_) | refine j0 rfl (fun hb2 => ?_) (fun hb2 => ?_)
  ·have hb2' := hb2; try simp at hb2'
   have hf : findP (l.map Ln.p) n = (k : Int) := by
     have h9 := lq4 (n := n) (l := l.map Ln.p) (i := 0) (k := k) (by simpa using hk1) (fun j hj => by rw [tW (by omega)]; exact hall j hj) (by rw [tW hk1]; exact hb2); rw [findP, h9, Nat.zero_add]
   refine i4 (b6 rfl (c5 rfl (c8 (l4 (B7 (u5 (B7 ?_))))))); exact ret1 () rfl (by rw [hf]; rfl) rfl tK nK tK
  have hb2' := hb2; try simp at hb2'
  refine i8 (w6 (i1 (c9 ?_))); refine t5 _ rfl rfl rfl rfl q6 ?_; refine b6 rfl (b5 ?_); exact again _ (k + 1) ⟨hk1, fun j hj => (Nat.lt_succ_iff_lt_or_eq.1 hj).elim (hall j) fun e => by subst e; exact hb2⟩ (y8 (by omega)) mC nK mC
 have hb1' := hb1; try simp at hb1'
 have hk1 : k = l.length := by omega
 subst hk1; refine t7 (C7 (t8 (i1 (i4 (c5 rfl (c8 (l4 ?_))))))); have hf : findP (l.map Ln.p) n = -1 := lq2 fun j hj => by rw [tW (by simpa using hj)]; exact hall j (by simpa using hj)
 exact ret1 () rfl (by rw [hf]; rfl) rfl tK nK tK
end Go.Proofs.YtdgmfagfpbdbhaaGreatDoor
end
