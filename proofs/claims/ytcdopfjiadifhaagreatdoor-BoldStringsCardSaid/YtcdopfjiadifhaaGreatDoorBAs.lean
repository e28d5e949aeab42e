/- Texts. -/

import Derived.Test.YtcdopfjiadifhaaGreatDoorBAr
import Derived.Test.YtcdopfjiadifhaaGreatDoorBAq
import Derived.Test.YtcdopfjiadifhaaGreatDoorBAf
set_option linter.unusedVariables false
set_option linter.unusedSimpArgs false
section
namespace Go.Proofs.YtcdopfjiadifhaaGreatDoor
open Go Go.W Tryz T F
set_option maxRecDepth 20000
attribute [local irreducible] HL HC HQ HB Row Rows2 Blk Facts
theorem form0 {w : List Str} (hl : w.length = 9) (h0 : at_ w 0 = tariffS) (h5 : at_ w 5 = offS0) (h7 : at_ w 7 = fromS) : formB w nm0 = true := by
  match w, hl with
  | [a0, a1, a2, a3, a4, a5, a6, a7, a8], _ =>
    obtain rfl : a0 = tariffS := h0; obtain rfl : a5 = offS0 := h5; obtain rfl : a7 = fromS := h7
    rfl
theorem pq3 {w : List Str} (h : ¬ w.length = 9 ∨ ¬ at_ w 0 = tariffS ∨ ¬ at_ w 5 = offS0 ∨ ¬ at_ w 7 = fromS) : chS w = none := by
  rw [chS]
  cases hf : formB w nm0 with
  | false => rfl
  | true =>
    exfalso
    rcases h with h | h | h | h
    · exact h (yM hf)
    · exact h (yN hf (k := 0) (by decide) (by decide))
    · exact h (yN hf (k := 5) (by decide) (by decide))
    exact h (yN hf (k := 7) (by decide) (by decide))
def tarR (w : List Str) : Ch × Bool := match chS w with
  | some c => (c, true)
  | none => ((0, 0, 0, 0, 0, 0), false)
theorem xN {w : List Str} (h : chS w = none) : tarR w = ((0, 0, 0, 0, 0, 0), false) := by rw [tarR, h]
theorem vq6 {w : List Str} (h : ∀ t ∈ w, t.length ≤ 1000000) : ∀ t ∈ sixS w, t.length ≤ 1000000 := by
  intro t ht
  have ha : ∀ k, (at_ w k).length ≤ 1000000 := fun k => by
    unfold at_
    by_cases hk : k < w.length
    · exact h _ (A3 hk)
    rw [List.getD_eq_getElem?_getD, List.getElem?_eq_none (by omega)]; exact Nat.zero_le _
  simp only [sixS, List.mem_cons, List.not_mem_nil, or_false] at ht
  rcases ht with rfl | rfl | rfl | rfl | rfl | rfl <;> exact ha _
theorem six_len (w : List Str) : (sixS w).length = 6 := rfl
theorem ch_six {w : List Str} (hf : formB w nm0 = true) : (numsS (sixS w) = none → chS w = none) ∧ ∀ r, numsS (sixS w) = some r → chS w = some (r.getD 0 default, r.getD 1 default, r.getD 2 default, r.getD 3 default, r.getD 4 default, r.getD 5 default) ∧ r.length = 6 := by
  rw [chS, if_neg (by rw [hf]; decide)]; refine ⟨fun h => by rw [h], fun r h => ?_⟩; have hl := sR h; rw [six_len] at hl; rw [h]
  match r, hl with
  | [a, b, c, d, e, f], _ => exact ⟨rfl, rfl⟩
section
variable {c : Cx} {fr : Fr} {hp : Hp} {L : List Fact}
theorem t9 {fn : Func} {t u1 : Tmp} {ty e : TypeId} {g n : Nat} {cs : Array Value} {fz : Nat × Nat} {v1 : Value} (hres : fn.results = #[.cell t ty, .tmp u1]) (hv : lk fr t = some (.pointer (d6 g))) (hv1 : lk fr u1 = some v1) (ht : IsR c.P ty) (hz : Sz c.P ty n) (hn : cs.size = n)
    (hm : (g, Obj.cells cs e fz) ∈ hp) (a : Act) (w : World) (hfr : ∀ t v, lk fr t = some v → a.tmps.getD t undef = v) (hw : WI c.b w hp L) : (results fn a.tmps).run c.P w = .ok (.tuple #[.agg cs, v1]) w := by
  obtain ⟨dd, ht, hr⟩ := ht; have h1 := hw.own _ hm; simp only at h1
  have hl : (loadVar ty ⟨g, 0, none⟩).run c.P w = .ok (.agg cs) w := by
    have hagg : (isAgg ty).run c.P w = .ok true w := by
      unfold isAgg; rw [Sem.run_bind, run_underlying ht w]
      cases dd <;> simp_all [TypeDesc.isRow]
    have hc := run_loadCells_list (P := c.P) w ⟨g, 0, none⟩ cs.toList (fun j u hu => by rw [bI, Nat.zero_add]; simp at hu; simp [World.cell?, h1, hu]); have hs := U4 hz w; simp only [loadVar, Sem.run_bind, hagg, Result.andThen_ok, if_true, hs, ← hn]; have e : cs.size = cs.toList.length := by simp
    rw [e, hc]
    simp
  have h5 : a.tmps[t]?.getD undef = .pointer (d6 g) := by simpa using hfr _ _ hv
  have h6 : a.tmps[u1]?.getD undef = v1 := by simpa using hfr _ _ hv1
  unfold results; rw [hres]
  simp [h5, h6, asAddr, hl]
end
set_option maxHeartbeats 2000000 in
theorem ax3 {A : Option Addr} {ca : Nat} (w : List Str) (hn : w.length ≤ 100000) (hl : ∀ t ∈ w, t.length ≤ 1000000) : Meets prog kK [.slice A w.length ca] { LI := [Row A (rows w)], val := fun x : Unit => .tuple #[chV (tarR w).1, .bool (tarR w).2] } := by
 refine j3 dq7 rfl t8 fun w0 => d9 (B3 rfl (fun _ => aO _) fun gC => ?_); refine c7 rfl (d8 (i7 (d9 (b8 rfl ?_)))); refine l7 rfl p8 rfl ?_; refine P9 rfl rfl rfl (b8 rfl ?_); refine t7 rfl rfl ?_ ?_
 ·intro hg1; have hg1' := hg1; try simp at hg1'
  refine l9 hg1 (b8 rfl (l9 hg1 ?_)); refine r8 (α := Str) w 0 rfl p8 m7 rfl rfl rfl mB rfl (by omega) (by decide) (l9 hg1 (c8 (v := str (at_ w 0)) rfl l3 rfl (k9 mB (j9 (by omega) rfl)) ?_)); refine l9 hg1 (qT rfl rfl rfl ?_); refine p_f rfl rfl (bf1 hg1) rfl (b8 rfl ?_); refine t7 rfl rfl ?_ ?_
  ·intro hg2; have hg2' := hg2; try simp at hg2'
   refine l9 hg2 (b8 rfl (l9 hg2 ?_)); refine r8 (α := Str) w 5 rfl p8 m7 rfl rfl rfl mB rfl (by omega) (by decide) (l9 hg2 (c8 (v := str (at_ w 5)) rfl l3 rfl (k9 mB (j9 (by omega) rfl)) ?_)); refine l9 hg2 (qT rfl rfl rfl ?_); refine p_f rfl rfl (bf1 hg2) rfl (b8 rfl ?_); refine t7 rfl rfl ?_ ?_
   ·intro hg3; have hg3' := hg3; try simp at hg3'
    refine l9 hg3 (b8 rfl (l9 hg3 ?_)); refine r8 (α := Str) w 7 rfl p8 m7 rfl rfl rfl mB rfl (by omega) (by decide) (l9 hg3 (c8 (v := str (at_ w 7)) rfl l3 rfl (k9 mB (j9 (by omega) rfl)) ?_)); refine l9 hg3 (qT rfl rfl rfl ?_); refine p_f rfl rfl (bf1 hg3) rfl (d8 ?_); refine m6 rfl (fun hb1 => ?_) (fun hb1 => ?_)
    ·refine d9 (v9 _ rfl rfl (fun _ => S8 ..) (t6 rfl rfl gP u3 (by rfl) (by rfl) ?_)); refine c7 rfl (d8 (J4 ?_)); have hno : chS w = none := pq3 (by first | exact .inr (.inr (.inr (by assumption))) | exact .inr (.inr (.inl (by assumption))) | exact .inr (.inl (by assumption)) | exact .inl (by omega)); rw [xN hno]; exact u9 () (fun a w ha hw => t9 (cs := #[int 0, int 0, int 0, int 0, int 0, int 0]) (v1 := .bool false) rfl rfl rfl C2 u3 rfl m0 a w ha.at_ hw) rfl tK nK tK
    have hb1' := hb1; try simp at hb1'
    refine j6 (i8 (i7 ?_)); have hf := form0 (w := w) (by omega) (by assumption) (by assumption) (by assumption); obtain ⟨hs0, hs1⟩ := ch_six hf; have hN : Meets prog bQ _ _ := cA (A := none) (ca := 6) (sixS w) (by show (6 : Nat) ≤ 100000; decide) (vq6 hl); have hNA := fun A => cA (A := A) (ca := 6) (sixS w) (by show (6 : Nat) ≤ 100000; decide) (vq6 hl); clear hN; obtain ⟨⟨r, br⟩, hRR⟩ : ∃ R, numsR (sixS w) = R := ⟨_, rfl⟩; rw [hRR] at hNA
    dsimp only at hNA
    have hr : (numsR (sixS w)).1 = r := by rw [hRR]
    have hbr : (numsR (sixS w)).2 = br := by rw [hRR]
    refine J0 24 mixed (by decide) (by decide) rfl rfl (u4 rfl (k7 (fun w1 => r8 (α := Str) w 1 rfl p8 m7 rfl rfl rfl mB rfl (by omega) (by decide) (q_z rfl)) (k7 (fun w1 => c8 (v := str (at_ w 1)) rfl l3 rfl (k9 mB (j9 (by omega) rfl)) (q_z rfl)) (u4 rfl (k7 (fun w1 => r8 (α := Str) w 2 rfl p8 m7 rfl rfl rfl mB rfl (by omega) (by decide) (q_z rfl)) (k7 (fun w1 => c8 (v := str (at_ w 2)) rfl l3 rfl (k9 mB (j9 (by omega) rfl)) (q_z rfl)) (u4 rfl (k7 (fun w1 => r8 (α := Str) w 3 rfl p8 m7 rfl rfl rfl mB rfl (by omega) (by decide) (q_z rfl)) (k7 (fun w1 => c8 (v := str (at_ w 3)) rfl l3 rfl (k9 mB (j9 (by omega) rfl)) (q_z rfl)) (u4 rfl (k7 (fun w1 => r8 (α := Str) w 4 rfl p8 m7 rfl rfl rfl mB rfl (by omega) (by decide) (q_z rfl)) ?_))))))))))); refine k7 (fun w1 => c8 (v := str (at_ w 4)) rfl l3 rfl (k9 mB (j9 (by omega) rfl)) (q_z rfl)) (u4 rfl (k7 (fun w1 => r8 (α := Str) w 6 rfl p8 m7 rfl rfl rfl mB rfl (by omega) (by decide) (q_z rfl)) (k7 (fun w1 => c8 (v := str (at_ w 6)) rfl l3 rfl (k9 mB (j9 (by omega) rfl)) (q_z rfl)) (u4 rfl (k7 (fun w1 => r8 (α := Str) w 8 rfl p8 m7 rfl rfl rfl mB rfl (by omega) (by decide) (q_z rfl)) (k7 (fun w1 => c8 (v := str (at_ w 8)) rfl l3 rfl (k9 mB (j9 (by omega) rfl)) (q_z rfl)) ?_)))))); refine U5 ⟨Nat, fun _ => True, fun g => .slice (d6 g) 6 6, fun g => [Row (d6 g) (rows (sixS w))]⟩ rfl rfl rfl ?_ ?_
    ·intro w1; refine p7 _ rfl rfl (fun _ => nq3 ..) fun gS => j4 (H6 (rows (sixS w)) (List.prefix_refl _) ?_); exact I9 gS tK rfl ⟨m0, tK⟩
    refine U5 ⟨OutC, fun _ => True, fun x => .tuple #[.slice x.1 r.length x.2, .bool br], fun x => [Row x.1 (rows r)]⟩ rfl rfl rfl ?_ ?_
    ·intro g1 _; intro w1; refine j5 kZ rfl rfl (hNA _) p6 mC fun x _ => j4 ?_; exact I9 x tK rfl mC
    refine U5 ⟨OutC, fun _ => True, fun x => .tuple #[.slice x.1 r.length x.2, .bool br], fun x => [Row x.1 (rows r)]⟩ rfl rfl rfl ?_ ?_
    ·intro x _; intro w1; refine b8 rfl (j4 ?_); exact I9 x tK rfl mC
    refine U5 ⟨OutC, fun _ => True, fun x => .slice x.1 r.length x.2, fun x => [Row x.1 (rows r)]⟩ rfl rfl rfl ?_ ?_
    ·intro x _; intro w1; refine m4 rfl rfl rfl (j4 ?_); exact I9 x tK rfl mC
    apply V6 _ rfl rfl rfl
    ·intro x _; dsimp only; intro w1; refine m4 rfl rfl rfl (j4 ?_); exact I7 rfl
    refine U5 ⟨OutC, fun _ => True, fun x => .slice x.1 r.length x.2, fun x => [Row x.1 (rows r)]⟩ rfl rfl rfl ?_ ?_
    ·intro x _; intro w1; refine c7 rfl (j4 ?_); exact I9 x tK rfl mC
    refine E1 ⟨rfl, ?_⟩; intro g1 _ x1 _ x2 _ x3 _ x _; refine c7 rfl (d8 (i7 (d9 (b8 rfl (K6 rfl rfl (d8 ?_)))))); refine D0 rfl (fun hb2 => ?_) (fun hb2 => ?_)
    ·have hn0 : numsS (sixS w) = none := by
       cases hq : numsS (sixS w) with
       | none => rfl
       | some q => rw [numsR, hq] at hbr; simp only at hbr; subst hbr; cases hb2
     have hno := hs0 hn0; refine d9 (v9 _ rfl rfl (fun _ => S8 ..) (t6 rfl rfl gP u3 (by rfl) (by rfl) ?_)); refine c7 rfl (d8 (J4 ?_)); rw [xN hno]; exact u9 () (fun a w ha hw => t9 (cs := #[int 0, int 0, int 0, int 0, int 0, int 0]) (v1 := .bool false) rfl rfl rfl C2 u3 rfl m0 a w ha.at_ hw) rfl tK nK tK
    have hn0 : numsS (sixS w) = some r := by
      cases hq : numsS (sixS w) with
      | none => rw [numsR, hq] at hbr; simp only at hbr; subst hbr; cases hb2
      | some q => rw [numsR, hq] at hr; simp only at hr; rw [hr]
    obtain ⟨hy, hrl⟩ := hs1 r hn0; have hR : tarR w = ((r.getD 0 default, r.getD 1 default, r.getD 2 default, r.getD 3 default, r.getD 4 default, r.getD 5 default), true) := by rw [tarR, hy]
    rw [hR]; refine j6 (i8 (i7 ?_)); refine J0 18 mixed (by decide) (by decide) rfl rfl (u4 rfl ?_); refine k7 (fun w1 => r8 (α := Int) r 0 rfl l8 m9 rfl rfl rfl mB (by first | rfl | exact hrl) (by omega) (by decide) (q_z rfl)) ?_; refine k7 (fun w1 => c8 (v := int (r.getD 0 default)) rfl b9 rfl (k9 mB (j9 (by omega) rfl)) (q_z rfl)) (u4 rfl ?_); refine k7 (fun w1 => r8 (α := Int) r 1 rfl l8 m9 rfl rfl rfl mB (by first | rfl | exact hrl) (by omega) (by decide) (q_z rfl)) ?_; refine k7 (fun w1 => c8 (v := int (r.getD 1 default)) rfl b9 rfl (k9 mB (j9 (by omega) rfl)) (q_z rfl)) (u4 rfl ?_); refine k7 (fun w1 => r8 (α := Int) r 2 rfl l8 m9 rfl rfl rfl mB (by first | rfl | exact hrl) (by omega) (by decide) (q_z rfl)) ?_; refine k7 (fun w1 => c8 (v := int (r.getD 2 default)) rfl b9 rfl (k9 mB (j9 (by omega) rfl)) (q_z rfl)) (u4 rfl ?_); refine k7 (fun w1 => r8 (α := Int) r 3 rfl l8 m9 rfl rfl rfl mB (by first | rfl | exact hrl) (by omega) (by decide) (q_z rfl)) ?_; refine k7 (fun w1 => c8 (v := int (r.getD 3 default)) rfl b9 rfl (k9 mB (j9 (by omega) rfl)) (q_z rfl)) (u4 rfl ?_); refine k7 (fun w1 => r8 (α := Int) r 4 rfl l8 m9 rfl rfl rfl mB (by first | rfl | exact hrl) (by omega) (by decide) (q_z rfl)) ?_; refine k7 (fun w1 => c8 (v := int (r.getD 4 default)) rfl b9 rfl (k9 mB (j9 (by omega) rfl)) (q_z rfl)) (u4 rfl ?_); refine k7 (fun w1 => r8 (α := Int) r 5 rfl l8 m9 rfl rfl rfl mB (by first | rfl | exact hrl) (by omega) (by decide) (q_z rfl)) ?_; refine k7 (fun w1 => c8 (v := int (r.getD 5 default)) rfl b9 rfl (k9 mB (j9 (by omega) rfl)) (q_z rfl)) ?_; refine E1 ⟨rfl, ?_⟩; refine v9 _ rfl rfl (fun _ => K9 ..) (t6 rfl rfl gP u3 (by rfl) (by rfl) ?_); refine c7 rfl (d8 (k5 ?_)); exact u9 () (fun a w ha hw => t9 (cs := #[int (r.getD 0 default), int (r.getD 1 default), int (r.getD 2 default), int (r.getD 3 default), int (r.getD 4 default), int (r.getD 5 default)]) (v1 := .bool true) rfl rfl rfl C2 u3 rfl m0 a w ha.at_ hw) rfl tK nK tK
   intro hg3; have hg3' := hg3; try simp at hg3'
   refine q7 hg3 (q7 hg3 (q7 hg3 (q7 hg3 ?_))); refine p_t rfl rfl (bt2 hg3) rfl ?_; refine d8 (c_t rfl rfl (d9 ?_)); refine v9 _ rfl rfl (fun _ => S8 ..) (t6 rfl rfl gP u3 (by rfl) (by rfl) ?_); refine c7 rfl (d8 (J4 ?_)); have hno : chS w = none := pq3 (by first | exact .inr (.inr (.inr (by assumption))) | exact .inr (.inr (.inl (by assumption))) | exact .inr (.inl (by assumption)) | exact .inl (by omega)); rw [xN hno]; exact u9 () (fun a w ha hw => t9 (cs := #[int 0, int 0, int 0, int 0, int 0, int 0]) (v1 := .bool false) rfl rfl rfl C2 u3 rfl m0 a w ha.at_ hw) rfl tK nK tK
  intro hg2; have hg2' := hg2; try simp at hg2'
  refine q7 hg2 (q7 hg2 (q7 hg2 (q7 hg2 ?_))); refine p_t rfl rfl (bt2 hg2) rfl ?_; refine b8 rfl (E2 rfl rfl rfl rfl rfl rfl (E2 rfl rfl rfl rfl rfl rfl (E2 rfl rfl rfl rfl rfl rfl (E2 rfl rfl rfl rfl rfl rfl (p_t rfl rfl rfl rfl (d8 (c_t rfl rfl (d9 ?_)))))))); refine v9 _ rfl rfl (fun _ => S8 ..) (t6 rfl rfl gP u3 (by rfl) (by rfl) ?_); refine c7 rfl (d8 (J4 ?_)); have hno : chS w = none := pq3 (by first | exact .inr (.inr (.inr (by assumption))) | exact .inr (.inr (.inl (by assumption))) | exact .inr (.inl (by assumption)) | exact .inl (by omega)); rw [xN hno]; exact u9 () (fun a w ha hw => t9 (cs := #[int 0, int 0, int 0, int 0, int 0, int 0]) (v1 := .bool false) rfl rfl rfl C2 u3 rfl m0 a w ha.at_ hw) rfl tK nK tK
 intro hg1; have hg1' := hg1; try simp at hg1'
 refine q7 hg1 (q7 hg1 (q7 hg1 (q7 hg1 ?_))); refine p_t rfl rfl (bt2 hg1) rfl ?_; refine b8 rfl (E2 rfl rfl rfl rfl rfl rfl (E2 rfl rfl rfl rfl rfl rfl (E2 rfl rfl rfl rfl rfl rfl (E2 rfl rfl rfl rfl rfl rfl (p_t rfl rfl rfl rfl (b8 rfl (E2 rfl rfl rfl rfl rfl rfl (E2 rfl rfl rfl rfl rfl rfl (E2 rfl rfl rfl rfl rfl rfl (E2 rfl rfl rfl rfl rfl rfl (p_t rfl rfl rfl rfl ?_))))))))))); refine d8 (c_t rfl rfl (d9 ?_)); refine v9 _ rfl rfl (fun _ => S8 ..) (t6 rfl rfl gP u3 (by rfl) (by rfl) ?_); refine c7 rfl (d8 (J4 ?_)); have hno : chS w = none := pq3 (by first | exact .inr (.inr (.inr (by assumption))) | exact .inr (.inr (.inl (by assumption))) | exact .inr (.inl (by assumption)) | exact .inl (by omega)); rw [xN hno]; exact u9 () (fun a w ha hw => t9 (cs := #[int 0, int 0, int 0, int 0, int 0, int 0]) (v1 := .bool false) rfl rfl rfl C2 u3 rfl m0 a w ha.at_ hw) rfl tK nK tK
theorem formP {w : List Str} (hl : w.length = 2) (h1 : at_ w 1 = plainS) : formB w nmP = true := by
  match w, hl with
  | [a, b], _ =>
    obtain rfl : b = plainS := h1
    rfl
theorem formBd {w : List Str} (hl : w.length = 3) (h1 : at_ w 1 = boldS) : formB w nmB = true := by
  match w, hl with
  | [a, b, c], _ =>
    obtain rfl : b = boldS := h1
    rfl
theorem adv_no0 {w : List Str} (h : numS (at_ w 0) = none) : advS w = none := by
  have h2 : ∀ k, twoS w k = none := fun k => wU (by simp) h; unfold advS
  split
  · split
    · rfl
    rw [h]
  split
  · exact h2 3
  split
  · rfl
  exact h2 2
theorem ux9 {w : List Str} {z : Int} (hl : w.length = 2) (h1 : at_ w 1 = plainS) (h : numS (at_ w 0) = some z) : advS w = some (z, 1, 1) := by
  rw [advS, if_pos hl, if_neg (by rw [formP hl h1]; decide), h]
theorem uz8 {w : List Str} {k z z2 : Int} {b2 : Bool} (h0 : numS (at_ w 0) = some z) (h2 : numS (at_ w 2) = if b2 = true then some z2 else none) : twoS w k = if b2 = true then some (z, k, z2) else none := by
  cases b2 with
  | true => exact jz6 h0 h2
  | false => exact wU (t := at_ w 2) (by simp) h2
theorem W0 {w : List Str} {z z2 : Int} {b2 : Bool} (hl : w.length = 3) (h1 : at_ w 1 = cardS) (h0 : numS (at_ w 0) = some z) (h2 : numS (at_ w 2) = if b2 = true then some z2 else none) : advS w = if b2 = true then some (z, 3, z2) else none := by
  rw [advS, if_neg (by omega), if_pos ⟨hl, h1⟩]; exact uz8 h0 h2
theorem W1 {w : List Str} {z z2 : Int} {b2 : Bool} (hl : w.length = 3) (h1 : at_ w 1 = boldS) (h0 : numS (at_ w 0) = some z) (h2 : numS (at_ w 2) = if b2 = true then some z2 else none) : advS w = if b2 = true then some (z, 2, z2) else none := by
  rw [advS, if_neg (by omega), if_neg (fun h => by rw [h1] at h; exact absurd h.2 (by decide)), if_neg (by rw [formBd hl h1]; decide)]; exact uz8 h0 h2
theorem V9 {w : List Str} (hp : ¬ (w.length = 2 ∧ at_ w 1 = plainS)) (hb : ¬ (w.length = 3 ∧ at_ w 1 = boldS)) (hc : ¬ (w.length = 3 ∧ at_ w 1 = cardS)) : advS w = none := by
  unfold advS
  split
  · rename_i h
    cases hf : formB w nmP with
    | false => rfl
    | true => exact absurd ⟨h, yN hf (k := 1) (by decide) (by decide)⟩ hp
  try rw [if_neg hc]
  cases hf : formB w nmB with
  | false => rfl
  | true => exact absurd ⟨yM hf, yN hf (k := 1) (by decide) (by decide)⟩ hb
set_option maxHeartbeats 2000000 in
theorem ax4 {A : Option Addr} {ca : Nat} (w : List Str) (h0 : 0 < w.length) (hn : w.length ≤ 100000) (hl : ∀ t ∈ w, t.length ≤ 1000000) : Meets prog kM [.slice A w.length ca] { LI := [Row A (rows w)], val := fun x : Ad × Bool => .tuple #[adV x.1, .bool x.2], inv := fun x => advS w = if x.2 = true then some x.1 else none } := by
 refine j3 dq9 rfl t8 fun w0 => d9 (B3 rfl (fun _ => J2 _) fun gR => ?_); refine c7 rfl (k6 ?_); refine v9 _ rfl rfl (fun _ => aq8 ..) (B3 rfl (fun _ => J2 _) fun g4 => t6 (cs := #[int 0, int 0, int 1]) rfl rfl (.refl _) d7 (by rfl) (by rfl) ?_); refine k6 (c7 rfl (k6 (b8 rfl ?_))); refine r8 (α := Str) w 0 rfl p8 m7 rfl rfl rfl mB rfl (by omega) (by decide) (c8 (v := str (at_ w 0)) rfl l3 rfl (k9 mB (j9 (by omega) rfl)) (j5 K4 rfl rfl (K3 (at_ w 0) (hl _ (Y1 _ (by omega)))) (hpR := [_, _]) (.refl _) tK fun z hz => ?_)); obtain ⟨z, bz⟩ := z; simp only at hz; refine b8 rfl (m4 rfl rfl rfl (m4 rfl rfl rfl ?_)); refine a9 ⟨_, 0, none⟩ rfl rfl I6 rfl (z8 rfl rfl (.refl _) m9 (by rfl) (by rfl) ?_); refine c7 rfl (d8 (i7 (j8 (d9 (b8 rfl (K6 rfl rfl (c7 rfl (d8 ?_)))))))); refine D0 rfl (fun hb1 => ?_) (fun hb1 => ?_)
 ·have hno : numS (at_ w 0) = none := by rw [hz]; cases bz <;> simp_all
  refine d9 (B8 rfl i9 d7 rfl m0 (by rfl) (t6 (cs := #[int z, int 0, int 1]) rfl rfl (.swap _ _ _) d7 (by rfl) (by rfl) ?_)); refine c7 rfl (d8 (k5 (G6 ?_))); exact u9 ((z, 0, 1), false) (fun a w ha hw => t9 (cs := #[int z, int 0, int 1]) (v1 := .bool false) rfl rfl rfl i9 d7 rfl m0 a w ha.at_ hw) rfl (by show advS w = _; rw [adv_no0 hno]; rfl) nK tK
 have hz0 : numS (at_ w 0) = some z := by rw [hz]; cases bz <;> simp_all
 refine d9 (b8 rfl ?_); refine l7 rfl p8 rfl ?_; refine G2 rfl rfl rfl (b8 rfl ?_); refine t7 rfl rfl ?_ ?_
 ·intro hg1; have hw1 : w.length = 2 := by simp at hg1; omega
  refine l9 hg1 (b8 rfl (l9 hg1 ?_)); refine r8 (α := Str) w 1 rfl p8 m7 rfl rfl rfl mB rfl (by omega) (by decide) (l9 hg1 (c8 (v := str (at_ w 1)) rfl l3 rfl (k9 mB (j9 (by omega) rfl)) ?_)); refine l9 hg1 (Z0 rfl rfl rfl ?_); refine p_t rfl rfl (bt1 hg1) rfl ?_; refine c7 rfl (d8 ?_); refine m6 rfl (fun hb2 => ?_) (fun hb2 => ?_)
  ·have hpl : at_ w 1 = plainS := by assumption
   refine d9 (a9 ⟨_, 1, none⟩ rfl rfl A9 rfl (z8 rfl rfl (.refl _) m9 (by rfl) (by rfl) (k6 (B8 rfl i9 d7 rfl m0 (by rfl) (t6 (cs := #[int z, int 1, int 1]) rfl rfl (.swap _ _ _) d7 (by rfl) (by rfl) ?_))))); refine c7 rfl (d8 (k5 (G6 ?_))); exact u9 ((z, 1, 1), true) (fun a w ha hw => t9 (cs := #[int z, int 1, int 1]) (v1 := .bool true) rfl rfl rfl i9 d7 rfl m0 a w ha.at_ hw) rfl (by show advS w = _; rw [ux9 hw1 hpl hz0]; rfl) nK tK
  have hnp : ¬ (w.length = 2 ∧ at_ w 1 = plainS) := fun h => absurd h.2 (by assumption); refine d9 (b8 rfl ?_); refine l7 rfl p8 rfl ?_; refine G2 rfl rfl rfl (b8 rfl ?_); refine t7 rfl rfl ?_ ?_
  ·intro hg2; have hw2 : w.length = 3 := by simp at hg2; omega
   refine l9 hg2 (b8 rfl (l9 hg2 ?_)); refine r8 (α := Str) w 1 rfl p8 m7 rfl rfl rfl mB rfl (by omega) (by decide) (l9 hg2 (c8 (v := str (at_ w 1)) rfl l3 rfl (k9 mB (j9 (by omega) rfl)) ?_)); refine l9 hg2 (Z0 rfl rfl rfl ?_); refine p_t rfl rfl (bt1 hg2) rfl ?_; refine c7 rfl (d8 ?_); refine m6 rfl (fun hb3 => ?_) (fun hb3 => ?_)
   ·have hbd : at_ w 1 = boldS := by assumption
    refine j0 (a9 ⟨_, 1, none⟩ rfl rfl A9 rfl (z8 rfl rfl (.refl _) m9 (by rfl) (by rfl) ?_)); refine j4 (w9 (i8 (d9 (b8 rfl ?_)))); refine r8 (α := Str) w 2 rfl p8 m7 rfl rfl rfl mB rfl (by omega) (by decide) (c8 (v := str (at_ w 2)) rfl l3 rfl (k9 mB (j9 (by omega) rfl)) (j5 K4 rfl rfl (K3 (at_ w 2) (hl _ (Y1 _ (by omega)))) (hpR := [_, _]) (.refl _) tK fun y2 hy2 => ?_)); obtain ⟨z2, b2⟩ := y2; simp only at hy2; refine b8 rfl (m4 rfl rfl rfl (m4 rfl rfl rfl ?_)); refine a9 ⟨_, 2, none⟩ rfl rfl z9 rfl (z8 rfl rfl (.refl _) m9 (by rfl) (by rfl) ?_); refine c7 rfl (k6 ?_); refine B8 rfl i9 d7 rfl m0 (by rfl) (b8 rfl (t6 (cs := #[int z, int 2, int z2]) rfl rfl (.swap _ _ _) d7 (by rfl) (by rfl) ?_)); refine c7 rfl (d8 (k5 ?_))
    first
    | exact u9 ((z, 0, 1), false) (fun a w ha hw => t9 (cs := #[int z, int 0, int 1]) (v1 := .bool false) rfl rfl rfl i9 d7 rfl m0 a w ha.at_ hw) rfl (by show advS w = _; rw [V9 hnp hnb hnc]; rfl) nK tK
    | exact u9 ((z, 2, z2), b2) (fun a w ha hw => t9 (cs := #[int z, int 2, int z2]) (v1 := .bool b2) rfl rfl rfl i9 d7 rfl m0 a w ha.at_ hw) rfl (W1 hw2 hbd hz0 hy2) nK tK
    | exact u9 ((z, 3, z2), b2) (fun a w ha hw => t9 (cs := #[int z, int 3, int z2]) (v1 := .bool b2) rfl rfl rfl i9 d7 rfl m0 a w ha.at_ hw) rfl (W0 hw3 hcd hz0 hy2) nK tK
   have hnb : ¬ (w.length = 3 ∧ at_ w 1 = boldS) := fun h => absurd h.2 (by assumption); refine d9 (b8 rfl ?_); refine l7 rfl p8 rfl ?_; refine G2 rfl rfl rfl (b8 rfl ?_); refine t7 rfl rfl ?_ ?_
   ·intro hg3; have hw3 : w.length = 3 := by simp at hg3; omega
    refine l9 hg3 (b8 rfl (l9 hg3 ?_)); refine r8 (α := Str) w 1 rfl p8 m7 rfl rfl rfl mB rfl (by omega) (by decide) (l9 hg3 (c8 (v := str (at_ w 1)) rfl l3 rfl (k9 mB (j9 (by omega) rfl)) ?_)); refine l9 hg3 (Z0 rfl rfl rfl ?_); refine p_t rfl rfl (bt1 hg3) rfl ?_; refine c7 rfl (d8 ?_); refine m6 rfl (fun hb4 => ?_) (fun hb4 => ?_)
    ·have hcd : at_ w 1 = cardS := by assumption
     refine j0 (a9 ⟨_, 1, none⟩ rfl rfl A9 rfl (z8 rfl rfl (.refl _) m9 (by rfl) (by rfl) ?_)); refine j4 (w9 (i8 (d9 (b8 rfl ?_)))); refine r8 (α := Str) w 2 rfl p8 m7 rfl rfl rfl mB rfl (by omega) (by decide) (c8 (v := str (at_ w 2)) rfl l3 rfl (k9 mB (j9 (by omega) rfl)) (j5 K4 rfl rfl (K3 (at_ w 2) (hl _ (Y1 _ (by omega)))) (hpR := [_, _]) (.refl _) tK fun y2 hy2 => ?_)); obtain ⟨z2, b2⟩ := y2; simp only at hy2; refine b8 rfl (m4 rfl rfl rfl (m4 rfl rfl rfl ?_)); refine a9 ⟨_, 2, none⟩ rfl rfl z9 rfl (z8 rfl rfl (.refl _) m9 (by rfl) (by rfl) ?_); refine c7 rfl (k6 ?_); refine B8 rfl i9 d7 rfl m0 (by rfl) (b8 rfl (t6 (cs := #[int z, int 3, int z2]) rfl rfl (.swap _ _ _) d7 (by rfl) (by rfl) ?_)); refine c7 rfl (d8 (k5 ?_))
     first
     | exact u9 ((z, 0, 1), false) (fun a w ha hw => t9 (cs := #[int z, int 0, int 1]) (v1 := .bool false) rfl rfl rfl i9 d7 rfl m0 a w ha.at_ hw) rfl (by show advS w = _; rw [V9 hnp hnb hnc]; rfl) nK tK
     | exact u9 ((z, 2, z2), b2) (fun a w ha hw => t9 (cs := #[int z, int 2, int z2]) (v1 := .bool b2) rfl rfl rfl i9 d7 rfl m0 a w ha.at_ hw) rfl (W1 hw2 hbd hz0 hy2) nK tK
     | exact u9 ((z, 3, z2), b2) (fun a w ha hw => t9 (cs := #[int z, int 3, int z2]) (v1 := .bool b2) rfl rfl rfl i9 d7 rfl m0 a w ha.at_ hw) rfl (W0 hw3 hcd hz0 hy2) nK tK
    have hnc : ¬ (w.length = 3 ∧ at_ w 1 = cardS) := fun h => absurd h.2 (by assumption); refine d9 (B8 rfl i9 d7 rfl m0 (by rfl) (t6 (cs := #[int z, int 0, int 1]) rfl rfl (.swap _ _ _) d7 (by rfl) (by rfl) ?_)); refine c7 rfl (d8 (k5 (G6 ?_)))
    first
    | exact u9 ((z, 0, 1), false) (fun a w ha hw => t9 (cs := #[int z, int 0, int 1]) (v1 := .bool false) rfl rfl rfl i9 d7 rfl m0 a w ha.at_ hw) rfl (by show advS w = _; rw [V9 hnp hnb hnc]; rfl) nK tK
    | exact u9 ((z, 2, z2), b2) (fun a w ha hw => t9 (cs := #[int z, int 2, int z2]) (v1 := .bool b2) rfl rfl rfl i9 d7 rfl m0 a w ha.at_ hw) rfl (W1 hw2 hbd hz0 hy2) nK tK
    | exact u9 ((z, 3, z2), b2) (fun a w ha hw => t9 (cs := #[int z, int 3, int z2]) (v1 := .bool b2) rfl rfl rfl i9 d7 rfl m0 a w ha.at_ hw) rfl (W0 hw3 hcd hz0 hy2) nK tK
   intro hg3; have hn3 : ¬ w.length = 3 := by simp at hg3; omega
   refine q7 hg3 (q7 hg3 (q7 hg3 (q7 hg3 ?_))); refine p_f rfl rfl (bf2 hg3) rfl ?_; refine c7 rfl (d8 (c_f rfl rfl ?_)); have hnc : ¬ (w.length = 3 ∧ at_ w 1 = cardS) := fun h => hn3 h.1; refine d9 (B8 rfl i9 d7 rfl m0 (by rfl) (t6 (cs := #[int z, int 0, int 1]) rfl rfl (.swap _ _ _) d7 (by rfl) (by rfl) ?_)); refine c7 rfl (d8 (k5 (G6 ?_)))
   first
   | exact u9 ((z, 0, 1), false) (fun a w ha hw => t9 (cs := #[int z, int 0, int 1]) (v1 := .bool false) rfl rfl rfl i9 d7 rfl m0 a w ha.at_ hw) rfl (by show advS w = _; rw [V9 hnp hnb hnc]; rfl) nK tK
   | exact u9 ((z, 2, z2), b2) (fun a w ha hw => t9 (cs := #[int z, int 2, int z2]) (v1 := .bool b2) rfl rfl rfl i9 d7 rfl m0 a w ha.at_ hw) rfl (W1 hw2 hbd hz0 hy2) nK tK
   | exact u9 ((z, 3, z2), b2) (fun a w ha hw => t9 (cs := #[int z, int 3, int z2]) (v1 := .bool b2) rfl rfl rfl i9 d7 rfl m0 a w ha.at_ hw) rfl (W0 hw3 hcd hz0 hy2) nK tK
  intro hg2; have hn2 : ¬ w.length = 3 := by simp at hg2; omega
  refine q7 hg2 (q7 hg2 (q7 hg2 (q7 hg2 ?_))); refine p_f rfl rfl (bf2 hg2) rfl ?_; refine c7 rfl (d8 (c_f rfl rfl ?_)); have hnb : ¬ (w.length = 3 ∧ at_ w 1 = boldS) := fun h => hn2 h.1; refine d9 (b8 rfl ?_); refine l7 rfl p8 rfl ?_; refine G2 rfl rfl rfl (b8 rfl ?_); refine t7 rfl rfl ?_ ?_
  ·intro hg4; have hw3 : w.length = 3 := by simp at hg4; omega
   refine l9 hg4 (b8 rfl (l9 hg4 ?_)); refine r8 (α := Str) w 1 rfl p8 m7 rfl rfl rfl mB rfl (by omega) (by decide) (l9 hg4 (c8 (v := str (at_ w 1)) rfl l3 rfl (k9 mB (j9 (by omega) rfl)) ?_)); refine l9 hg4 (Z0 rfl rfl rfl ?_); refine p_t rfl rfl (bt1 hg4) rfl ?_; refine c7 rfl (d8 ?_); refine m6 rfl (fun hb4 => ?_) (fun hb4 => ?_)
   ·have hcd : at_ w 1 = cardS := by assumption
    refine j0 (a9 ⟨_, 1, none⟩ rfl rfl A9 rfl (z8 rfl rfl (.refl _) m9 (by rfl) (by rfl) ?_)); refine j4 (w9 (i8 (d9 (b8 rfl ?_)))); refine r8 (α := Str) w 2 rfl p8 m7 rfl rfl rfl mB rfl (by omega) (by decide) (c8 (v := str (at_ w 2)) rfl l3 rfl (k9 mB (j9 (by omega) rfl)) (j5 K4 rfl rfl (K3 (at_ w 2) (hl _ (Y1 _ (by omega)))) (hpR := [_, _]) (.refl _) tK fun y2 hy2 => ?_)); obtain ⟨z2, b2⟩ := y2; simp only at hy2; refine b8 rfl (m4 rfl rfl rfl (m4 rfl rfl rfl ?_)); refine a9 ⟨_, 2, none⟩ rfl rfl z9 rfl (z8 rfl rfl (.refl _) m9 (by rfl) (by rfl) ?_); refine c7 rfl (k6 ?_); refine B8 rfl i9 d7 rfl m0 (by rfl) (b8 rfl (t6 (cs := #[int z, int 3, int z2]) rfl rfl (.swap _ _ _) d7 (by rfl) (by rfl) ?_)); refine c7 rfl (d8 (k5 ?_))
    first
    | exact u9 ((z, 0, 1), false) (fun a w ha hw => t9 (cs := #[int z, int 0, int 1]) (v1 := .bool false) rfl rfl rfl i9 d7 rfl m0 a w ha.at_ hw) rfl (by show advS w = _; rw [V9 hnp hnb hnc]; rfl) nK tK
    | exact u9 ((z, 2, z2), b2) (fun a w ha hw => t9 (cs := #[int z, int 2, int z2]) (v1 := .bool b2) rfl rfl rfl i9 d7 rfl m0 a w ha.at_ hw) rfl (W1 hw2 hbd hz0 hy2) nK tK
    | exact u9 ((z, 3, z2), b2) (fun a w ha hw => t9 (cs := #[int z, int 3, int z2]) (v1 := .bool b2) rfl rfl rfl i9 d7 rfl m0 a w ha.at_ hw) rfl (W0 hw3 hcd hz0 hy2) nK tK
   have hnc : ¬ (w.length = 3 ∧ at_ w 1 = cardS) := fun h => absurd h.2 (by assumption); refine d9 (B8 rfl i9 d7 rfl m0 (by rfl) (t6 (cs := #[int z, int 0, int 1]) rfl rfl (.swap _ _ _) d7 (by rfl) (by rfl) ?_)); refine c7 rfl (d8 (k5 (G6 ?_)))
   first
   | exact u9 ((z, 0, 1), false) (fun a w ha hw => t9 (cs := #[int z, int 0, int 1]) (v1 := .bool false) rfl rfl rfl i9 d7 rfl m0 a w ha.at_ hw) rfl (by show advS w = _; rw [V9 hnp hnb hnc]; rfl) nK tK
   | exact u9 ((z, 2, z2), b2) (fun a w ha hw => t9 (cs := #[int z, int 2, int z2]) (v1 := .bool b2) rfl rfl rfl i9 d7 rfl m0 a w ha.at_ hw) rfl (W1 hw2 hbd hz0 hy2) nK tK
   | exact u9 ((z, 3, z2), b2) (fun a w ha hw => t9 (cs := #[int z, int 3, int z2]) (v1 := .bool b2) rfl rfl rfl i9 d7 rfl m0 a w ha.at_ hw) rfl (W0 hw3 hcd hz0 hy2) nK tK
  intro hg4; have hn3 : ¬ w.length = 3 := by simp at hg4; omega
  refine q7 hg4 (q7 hg4 (q7 hg4 (q7 hg4 ?_))); refine p_f rfl rfl (bf2 hg4) rfl ?_; refine c7 rfl (d8 (c_f rfl rfl ?_)); have hnc : ¬ (w.length = 3 ∧ at_ w 1 = cardS) := fun h => hn3 h.1; refine d9 (B8 rfl i9 d7 rfl m0 (by rfl) (t6 (cs := #[int z, int 0, int 1]) rfl rfl (.swap _ _ _) d7 (by rfl) (by rfl) ?_)); refine c7 rfl (d8 (k5 (G6 ?_)))
  first
  | exact u9 ((z, 0, 1), false) (fun a w ha hw => t9 (cs := #[int z, int 0, int 1]) (v1 := .bool false) rfl rfl rfl i9 d7 rfl m0 a w ha.at_ hw) rfl (by show advS w = _; rw [V9 hnp hnb hnc]; rfl) nK tK
  | exact u9 ((z, 2, z2), b2) (fun a w ha hw => t9 (cs := #[int z, int 2, int z2]) (v1 := .bool b2) rfl rfl rfl i9 d7 rfl m0 a w ha.at_ hw) rfl (W1 hw2 hbd hz0 hy2) nK tK
  | exact u9 ((z, 3, z2), b2) (fun a w ha hw => t9 (cs := #[int z, int 3, int z2]) (v1 := .bool b2) rfl rfl rfl i9 d7 rfl m0 a w ha.at_ hw) rfl (W0 hw3 hcd hz0 hy2) nK tK
 intro hg1; have hn1 : ¬ w.length = 2 := by simp at hg1; omega
 refine q7 hg1 (q7 hg1 (q7 hg1 (q7 hg1 ?_))); refine p_f rfl rfl (bf2 hg1) rfl ?_; refine c7 rfl (d8 (c_f rfl rfl ?_)); have hnp : ¬ (w.length = 2 ∧ at_ w 1 = plainS) := fun h => hn1 h.1; refine d9 (b8 rfl ?_); refine l7 rfl p8 rfl ?_; refine G2 rfl rfl rfl (b8 rfl ?_); refine t7 rfl rfl ?_ ?_
 ·intro hg5; have hw2 : w.length = 3 := by simp at hg5; omega
  refine l9 hg5 (b8 rfl (l9 hg5 ?_)); refine r8 (α := Str) w 1 rfl p8 m7 rfl rfl rfl mB rfl (by omega) (by decide) (l9 hg5 (c8 (v := str (at_ w 1)) rfl l3 rfl (k9 mB (j9 (by omega) rfl)) ?_)); refine l9 hg5 (Z0 rfl rfl rfl ?_); refine p_t rfl rfl (bt1 hg5) rfl ?_; refine c7 rfl (d8 ?_); refine m6 rfl (fun hb3 => ?_) (fun hb3 => ?_)
  ·have hbd : at_ w 1 = boldS := by assumption
   refine j0 (a9 ⟨_, 1, none⟩ rfl rfl A9 rfl (z8 rfl rfl (.refl _) m9 (by rfl) (by rfl) ?_)); refine j4 (w9 (i8 (d9 (b8 rfl ?_)))); refine r8 (α := Str) w 2 rfl p8 m7 rfl rfl rfl mB rfl (by omega) (by decide) (c8 (v := str (at_ w 2)) rfl l3 rfl (k9 mB (j9 (by omega) rfl)) (j5 K4 rfl rfl (K3 (at_ w 2) (hl _ (Y1 _ (by omega)))) (hpR := [_, _]) (.refl _) tK fun y2 hy2 => ?_)); obtain ⟨z2, b2⟩ := y2; simp only at hy2; refine b8 rfl (m4 rfl rfl rfl (m4 rfl rfl rfl ?_)); refine a9 ⟨_, 2, none⟩ rfl rfl z9 rfl (z8 rfl rfl (.refl _) m9 (by rfl) (by rfl) ?_); refine c7 rfl (k6 ?_); refine B8 rfl i9 d7 rfl m0 (by rfl) (b8 rfl (t6 (cs := #[int z, int 2, int z2]) rfl rfl (.swap _ _ _) d7 (by rfl) (by rfl) ?_)); refine c7 rfl (d8 (k5 ?_))
   first
   | exact u9 ((z, 0, 1), false) (fun a w ha hw => t9 (cs := #[int z, int 0, int 1]) (v1 := .bool false) rfl rfl rfl i9 d7 rfl m0 a w ha.at_ hw) rfl (by show advS w = _; rw [V9 hnp hnb hnc]; rfl) nK tK
   | exact u9 ((z, 2, z2), b2) (fun a w ha hw => t9 (cs := #[int z, int 2, int z2]) (v1 := .bool b2) rfl rfl rfl i9 d7 rfl m0 a w ha.at_ hw) rfl (W1 hw2 hbd hz0 hy2) nK tK
   | exact u9 ((z, 3, z2), b2) (fun a w ha hw => t9 (cs := #[int z, int 3, int z2]) (v1 := .bool b2) rfl rfl rfl i9 d7 rfl m0 a w ha.at_ hw) rfl (W0 hw3 hcd hz0 hy2) nK tK
  have hnb : ¬ (w.length = 3 ∧ at_ w 1 = boldS) := fun h => absurd h.2 (by assumption); refine d9 (b8 rfl ?_); refine l7 rfl p8 rfl ?_; refine G2 rfl rfl rfl (b8 rfl ?_); refine t7 rfl rfl ?_ ?_
  ·intro hg6; have hw3 : w.length = 3 := by simp at hg6; omega
   refine l9 hg6 (b8 rfl (l9 hg6 ?_)); refine r8 (α := Str) w 1 rfl p8 m7 rfl rfl rfl mB rfl (by omega) (by decide) (l9 hg6 (c8 (v := str (at_ w 1)) rfl l3 rfl (k9 mB (j9 (by omega) rfl)) ?_)); refine l9 hg6 (Z0 rfl rfl rfl ?_); refine p_t rfl rfl (bt1 hg6) rfl ?_; refine c7 rfl (d8 ?_); refine m6 rfl (fun hb4 => ?_) (fun hb4 => ?_)
   ·have hcd : at_ w 1 = cardS := by assumption
    refine j0 (a9 ⟨_, 1, none⟩ rfl rfl A9 rfl (z8 rfl rfl (.refl _) m9 (by rfl) (by rfl) ?_)); refine j4 (w9 (i8 (d9 (b8 rfl ?_)))); refine r8 (α := Str) w 2 rfl p8 m7 rfl rfl rfl mB rfl (by omega) (by decide) (c8 (v := str (at_ w 2)) rfl l3 rfl (k9 mB (j9 (by omega) rfl)) (j5 K4 rfl rfl (K3 (at_ w 2) (hl _ (Y1 _ (by omega)))) (hpR := [_, _]) (.refl _) tK fun y2 hy2 => ?_)); obtain ⟨z2, b2⟩ := y2; simp only at hy2; refine b8 rfl (m4 rfl rfl rfl (m4 rfl rfl rfl ?_)); refine a9 ⟨_, 2, none⟩ rfl rfl z9 rfl (z8 rfl rfl (.refl _) m9 (by rfl) (by rfl) ?_); refine c7 rfl (k6 ?_); refine B8 rfl i9 d7 rfl m0 (by rfl) (b8 rfl (t6 (cs := #[int z, int 3, int z2]) rfl rfl (.swap _ _ _) d7 (by rfl) (by rfl) ?_)); refine c7 rfl (d8 (k5 ?_))
    first
    | exact u9 ((z, 0, 1), false) (fun a w ha hw => t9 (cs := #[int z, int 0, int 1]) (v1 := .bool false) rfl rfl rfl i9 d7 rfl m0 a w ha.at_ hw) rfl (by show advS w = _; rw [V9 hnp hnb hnc]; rfl) nK tK
    | exact u9 ((z, 2, z2), b2) (fun a w ha hw => t9 (cs := #[int z, int 2, int z2]) (v1 := .bool b2) rfl rfl rfl i9 d7 rfl m0 a w ha.at_ hw) rfl (W1 hw2 hbd hz0 hy2) nK tK
    | exact u9 ((z, 3, z2), b2) (fun a w ha hw => t9 (cs := #[int z, int 3, int z2]) (v1 := .bool b2) rfl rfl rfl i9 d7 rfl m0 a w ha.at_ hw) rfl (W0 hw3 hcd hz0 hy2) nK tK
   have hnc : ¬ (w.length = 3 ∧ at_ w 1 = cardS) := fun h => absurd h.2 (by assumption); refine d9 (B8 rfl i9 d7 rfl m0 (by rfl) (t6 (cs := #[int z, int 0, int 1]) rfl rfl (.swap _ _ _) d7 (by rfl) (by rfl) ?_)); refine c7 rfl (d8 (k5 (G6 ?_)))
   first
   | exact u9 ((z, 0, 1), false) (fun a w ha hw => t9 (cs := #[int z, int 0, int 1]) (v1 := .bool false) rfl rfl rfl i9 d7 rfl m0 a w ha.at_ hw) rfl (by show advS w = _; rw [V9 hnp hnb hnc]; rfl) nK tK
   | exact u9 ((z, 2, z2), b2) (fun a w ha hw => t9 (cs := #[int z, int 2, int z2]) (v1 := .bool b2) rfl rfl rfl i9 d7 rfl m0 a w ha.at_ hw) rfl (W1 hw2 hbd hz0 hy2) nK tK
   | exact u9 ((z, 3, z2), b2) (fun a w ha hw => t9 (cs := #[int z, int 3, int z2]) (v1 := .bool b2) rfl rfl rfl i9 d7 rfl m0 a w ha.at_ hw) rfl (W0 hw3 hcd hz0 hy2) nK tK
  intro hg6; have hn3 : ¬ w.length = 3 := by simp at hg6; omega
  refine q7 hg6 (q7 hg6 (q7 hg6 (q7 hg6 ?_))); refine p_f rfl rfl (bf2 hg6) rfl ?_; refine c7 rfl (d8 (c_f rfl rfl ?_)); have hnc : ¬ (w.length = 3 ∧ at_ w 1 = cardS) := fun h => hn3 h.1; refine d9 (B8 rfl i9 d7 rfl m0 (by rfl) (t6 (cs := #[int z, int 0, int 1]) rfl rfl (.swap _ _ _) d7 (by rfl) (by rfl) ?_)); refine c7 rfl (d8 (k5 (G6 ?_)))
  first
  | exact u9 ((z, 0, 1), false) (fun a w ha hw => t9 (cs := #[int z, int 0, int 1]) (v1 := .bool false) rfl rfl rfl i9 d7 rfl m0 a w ha.at_ hw) rfl (by show advS w = _; rw [V9 hnp hnb hnc]; rfl) nK tK
  | exact u9 ((z, 2, z2), b2) (fun a w ha hw => t9 (cs := #[int z, int 2, int z2]) (v1 := .bool b2) rfl rfl rfl i9 d7 rfl m0 a w ha.at_ hw) rfl (W1 hw2 hbd hz0 hy2) nK tK
  | exact u9 ((z, 3, z2), b2) (fun a w ha hw => t9 (cs := #[int z, int 3, int z2]) (v1 := .bool b2) rfl rfl rfl i9 d7 rfl m0 a w ha.at_ hw) rfl (W0 hw3 hcd hz0 hy2) nK tK
 intro hg5; have hn2 : ¬ w.length = 3 := by simp at hg5; omega
 refine q7 hg5 (q7 hg5 (q7 hg5 (q7 hg5 ?_))); refine p_f rfl rfl (bf2 hg5) rfl ?_; refine c7 rfl (d8 (c_f rfl rfl ?_)); have hnb : ¬ (w.length = 3 ∧ at_ w 1 = boldS) := fun h => hn2 h.1; refine d9 (b8 rfl ?_); refine l7 rfl p8 rfl ?_; refine G2 rfl rfl rfl (b8 rfl ?_); refine t7 rfl rfl ?_ ?_
 ·intro hg7; have hw3 : w.length = 3 := by simp at hg7; omega
  refine l9 hg7 (b8 rfl (l9 hg7 ?_)); refine r8 (α := Str) w 1 rfl p8 m7 rfl rfl rfl mB rfl (by omega) (by decide) (l9 hg7 (c8 (v := str (at_ w 1)) rfl l3 rfl (k9 mB (j9 (by omega) rfl)) ?_)); refine l9 hg7 (Z0 rfl rfl rfl ?_); refine p_t rfl rfl (bt1 hg7) rfl ?_; refine c7 rfl (d8 ?_); refine m6 rfl (fun hb4 => ?_) (fun hb4 => ?_)
  ·have hcd : at_ w 1 = cardS := by assumption
   refine j0 (a9 ⟨_, 1, none⟩ rfl rfl A9 rfl (z8 rfl rfl (.refl _) m9 (by rfl) (by rfl) ?_)); refine j4 (w9 (i8 (d9 (b8 rfl ?_)))); refine r8 (α := Str) w 2 rfl p8 m7 rfl rfl rfl mB rfl (by omega) (by decide) (c8 (v := str (at_ w 2)) rfl l3 rfl (k9 mB (j9 (by omega) rfl)) (j5 K4 rfl rfl (K3 (at_ w 2) (hl _ (Y1 _ (by omega)))) (hpR := [_, _]) (.refl _) tK fun y2 hy2 => ?_)); obtain ⟨z2, b2⟩ := y2; simp only at hy2; refine b8 rfl (m4 rfl rfl rfl (m4 rfl rfl rfl ?_)); refine a9 ⟨_, 2, none⟩ rfl rfl z9 rfl (z8 rfl rfl (.refl _) m9 (by rfl) (by rfl) ?_); refine c7 rfl (k6 ?_); refine B8 rfl i9 d7 rfl m0 (by rfl) (b8 rfl (t6 (cs := #[int z, int 3, int z2]) rfl rfl (.swap _ _ _) d7 (by rfl) (by rfl) ?_)); refine c7 rfl (d8 (k5 ?_))
   first
   | exact u9 ((z, 0, 1), false) (fun a w ha hw => t9 (cs := #[int z, int 0, int 1]) (v1 := .bool false) rfl rfl rfl i9 d7 rfl m0 a w ha.at_ hw) rfl (by show advS w = _; rw [V9 hnp hnb hnc]; rfl) nK tK
   | exact u9 ((z, 2, z2), b2) (fun a w ha hw => t9 (cs := #[int z, int 2, int z2]) (v1 := .bool b2) rfl rfl rfl i9 d7 rfl m0 a w ha.at_ hw) rfl (W1 hw2 hbd hz0 hy2) nK tK
   | exact u9 ((z, 3, z2), b2) (fun a w ha hw => t9 (cs := #[int z, int 3, int z2]) (v1 := .bool b2) rfl rfl rfl i9 d7 rfl m0 a w ha.at_ hw) rfl (W0 hw3 hcd hz0 hy2) nK tK
  have hnc : ¬ (w.length = 3 ∧ at_ w 1 = cardS) := fun h => absurd h.2 (by assumption); refine d9 (B8 rfl i9 d7 rfl m0 (by rfl) (t6 (cs := #[int z, int 0, int 1]) rfl rfl (.swap _ _ _) d7 (by rfl) (by rfl) ?_)); refine c7 rfl (d8 (k5 (G6 ?_)))
  first
  | exact u9 ((z, 0, 1), false) (fun a w ha hw => t9 (cs := #[int z, int 0, int 1]) (v1 := .bool false) rfl rfl rfl i9 d7 rfl m0 a w ha.at_ hw) rfl (by show advS w = _; rw [V9 hnp hnb hnc]; rfl) nK tK
  | exact u9 ((z, 2, z2), b2) (fun a w ha hw => t9 (cs := #[int z, int 2, int z2]) (v1 := .bool b2) rfl rfl rfl i9 d7 rfl m0 a w ha.at_ hw) rfl (W1 hw2 hbd hz0 hy2) nK tK
  | exact u9 ((z, 3, z2), b2) (fun a w ha hw => t9 (cs := #[int z, int 3, int z2]) (v1 := .bool b2) rfl rfl rfl i9 d7 rfl m0 a w ha.at_ hw) rfl (W0 hw3 hcd hz0 hy2) nK tK
 intro hg7; have hn3 : ¬ w.length = 3 := by simp at hg7; omega
 refine q7 hg7 (q7 hg7 (q7 hg7 (q7 hg7 ?_))); refine p_f rfl rfl (bf2 hg7) rfl ?_; refine c7 rfl (d8 (c_f rfl rfl ?_)); have hnc : ¬ (w.length = 3 ∧ at_ w 1 = cardS) := fun h => hn3 h.1; refine d9 (B8 rfl i9 d7 rfl m0 (by rfl) (t6 (cs := #[int z, int 0, int 1]) rfl rfl (.swap _ _ _) d7 (by rfl) (by rfl) ?_)); refine c7 rfl (d8 (k5 (G6 ?_)))
 first
 | exact u9 ((z, 0, 1), false) (fun a w ha hw => t9 (cs := #[int z, int 0, int 1]) (v1 := .bool false) rfl rfl rfl i9 d7 rfl m0 a w ha.at_ hw) rfl (by show advS w = _; rw [V9 hnp hnb hnc]; rfl) nK tK
 | exact u9 ((z, 2, z2), b2) (fun a w ha hw => t9 (cs := #[int z, int 2, int z2]) (v1 := .bool b2) rfl rfl rfl i9 d7 rfl m0 a w ha.at_ hw) rfl (W1 hw2 hbd hz0 hy2) nK tK
 | exact u9 ((z, 3, z2), b2) (fun a w ha hw => t9 (cs := #[int z, int 3, int z2]) (v1 := .bool b2) rfl rfl rfl i9 d7 rfl m0 a w ha.at_ hw) rfl (W0 hw3 hcd hz0 hy2) nK tK
theorem wj0 {n i p : Nat} {st : SaT} {a s : Str} (h : (10 : UInt8) ∉ a) : parseF (n + 1) i (a ++ 10 :: s) p st = if 1 < i ∧ a = soldS then (if s = [] then (some st, p) else (none, p + (a.length + 1))) else match takeW i (splitB 32 a) st with
    | none => (none, p)
    | some st' => parseF n (i + 1) s (p + (a.length + 1)) st' := by
  rw [parseF, tj2 _ h, if_neg (by simp)]
  rfl
theorem pf_no {n i p : Nat} {st : SaT} {s : Str} (h : (10 : UInt8) ∉ s) : parseF n i s p st = (none, p) := by
  cases n with
  | zero => rfl
  | succ n =>
    rw [parseF, if_pos]
    rcases uG 10 s with ⟨_, h2, _⟩ | ⟨j, _, h1, _, h3, _⟩
    · rw [h2]
    rw [List.getElem?_eq_getElem h1] at h3; exact absurd (Option.some.inj h3 ▸ List.getElem_mem h1) h
theorem rq4 {b : UInt8} {s : Str} {a : Str} {r : List Str} (h : splitB b s = a :: r) (hr : r ≠ []) : ∃ s', s = a ++ b :: s' ∧ b ∉ a ∧ splitB b s' = r := by
  by_cases hm : b ∈ s
  · rcases uG b s with ⟨_, _, h2⟩ | ⟨j, _, h1, h2, h3, h5⟩
    · exact absurd hm h2
    have hc : ¬ (cutB b s).2.2 = false := by rw [h2]; simp
    obtain ⟨l, q, h6, h7⟩ := xj9 hc; rw [h7, cq8 _ h6] at h; have ha := (List.cons.inj h).1; have hb := (List.cons.inj h).2; subst ha; exact ⟨q, h7, h6, hb⟩
  rw [cq7 hm] at h; exact absurd (List.cons.inj h).2.symm hr
theorem mq2 {b : UInt8} {s a : Str} (h : splitB b s = [a]) : b ∉ s ∧ s = a := by
  have h1 := kz0 b s; rw [h] at h1; have h2 : a = s := h1; refine ⟨fun hm => ?_, h2.symm⟩; have h3 := bN b s; rw [h] at h3; have := List.count_pos_iff.2 hm
  simp at h3
  omega
theorem xj1 {l : List Str} {i : Nat} (h : i + 1 < l.length) : l.drop i = l.getD i default :: l.drop (i + 1) ∧ l.drop (i + 1) ≠ [] := by
  refine ⟨?_, fun e => ?_⟩
  · rw [List.drop_eq_getElem_cons (by omega), List.getD_eq_getElem?_getD, List.getElem?_eq_getElem (by omega)]; rfl
  have := congrArg List.length e; rw [List.length_drop, List.length_nil] at this
  omega
theorem bx4 {l : List Str} {i : Nat} (h : i + 1 = l.length) : l.drop i = [l.getD i default] := by
  rw [List.drop_eq_getElem_cons (by omega), List.getD_eq_getElem?_getD, List.getElem?_eq_getElem (by omega), List.drop_eq_nil_of_le (by omega)]; rfl
def LnI (N : Nat) (L : List Str) (R : Option SaT × Nat) (i p : Nat) (e : Bool) (st : SaT) : Prop :=
  i + 1 ≤ L.length ∧ p ≤ N ∧ ((e = false ∧ ∃ n s, parseF n i s p st = R ∧ s.length < n ∧ splitB 10 s = L.drop i ∧ p + s.length = N) ∨ (e = true ∧ (L.drop i = [[]] → R.1 = some st) ∧ (¬ L.drop i = [[]] → R = (none, p))))
section
variable {N : Nat} {L : List Str} {R : Option SaT × Nat} {i p : Nat} {st : SaT}
theorem wq2 (h : LnI N L R i p false st) (hi : i + 1 < L.length) : ∃ n s', (10 : UInt8) ∉ L.getD i default ∧ parseF (n + 1) i (L.getD i default ++ 10 :: s') p st = R ∧ s'.length < n ∧ splitB 10 s' = L.drop (i + 1) ∧ p + ((L.getD i default).length + 1) + s'.length = N := by
  obtain ⟨_, _, ⟨_, n, s, h1, h2, h3, h4⟩ | ⟨h1, _⟩⟩ := h
  · obtain ⟨hd, hne⟩ := xj1 hi
    rw [hd] at h3; obtain ⟨s', rfl, h5, h6⟩ := rq4 h3 hne; obtain ⟨n, rfl⟩ : ∃ m, n = m + 1 := ⟨n - 1, by omega⟩; rw [List.length_append, List.length_cons] at h2 h4; exact ⟨n, s', h5, h1, by omega, h6, by omega⟩
  cases h1
theorem ln_sold (h : LnI N L R i p false st) (hi : i + 1 < L.length) (h1 : 1 < i) (ha : L.getD i default = soldS) : LnI N L R (i + 1) (p + ((L.getD i default).length + 1)) true st := by
  obtain ⟨n, s', h2, h3, h4, h5, h6⟩ := wq2 h hi; rw [wj0 h2, if_pos ⟨h1, ha⟩] at h3; refine ⟨by omega, by omega, .inr ⟨rfl, fun e => ?_, fun e => ?_⟩⟩
  · rw [e] at h5
    rw [if_pos (mq2 h5).2] at h3; rw [← h3]
  rw [if_neg (fun hs => e (by rw [← h5, hs]; rfl))] at h3; exact h3.symm
theorem ln_none (h : LnI N L R i p false st) (hi : i + 1 < L.length) (h1 : ¬ (1 < i ∧ L.getD i default = soldS)) (ht : takeW i (splitB 32 (L.getD i default)) st = none) : R = (none, p) := by
  obtain ⟨n, s', h2, h3, h4, h5, h6⟩ := wq2 h hi; rw [wj0 h2, if_neg h1, ht] at h3; exact h3.symm
theorem ln_some {st' : SaT} (h : LnI N L R i p false st) (hi : i + 1 < L.length) (h1 : ¬ (1 < i ∧ L.getD i default = soldS)) (ht : takeW i (splitB 32 (L.getD i default)) st = some st') : LnI N L R (i + 1) (p + ((L.getD i default).length + 1)) false st' := by
  obtain ⟨n, s', h2, h3, h4, h5, h6⟩ := wq2 h hi; rw [wj0 h2, if_neg h1, ht] at h3; exact ⟨by omega, by omega, .inl ⟨rfl, n, s', h3, h4, h5, h6⟩⟩
theorem ln_on (h : LnI N L R i p true st) (hi : i + 1 < L.length) : R = (none, p) := by
  obtain ⟨_, _, ⟨h1, _⟩ | ⟨_, _, h1⟩⟩ := h
  · cases h1
  refine h1 fun e => ?_; have := congrArg List.length e; rw [List.length_drop] at this
  simp at this
  omega
theorem ln_end0 (h : LnI N L R i p false st) (hi : ¬ i + 1 < L.length) : R = (none, p) := by
  obtain ⟨h0, _, ⟨_, n, s, h1, h2, h3, h4⟩ | ⟨h1, _⟩⟩ := h
  · rw [bx4 (by omega)] at h3
    rw [← h1, pf_no (mq2 h3).1]
  cases h1
theorem ln_endN (h : LnI N L R i p true st) (hi : ¬ i + 1 < L.length) (hl : ¬ L.getD i default = []) : R = (none, p) := by
  obtain ⟨h0, _, ⟨h1, _⟩ | ⟨_, _, h1⟩⟩ := h
  · cases h1
  exact h1 fun e => hl (by rw [bx4 (by omega)] at e; exact (List.cons.inj e).1)
theorem ln_endY (h : LnI N L R i p true st) (hi : ¬ i + 1 < L.length) (hl : L.getD i default = []) : R.1 = some st := by
  obtain ⟨h0, _, ⟨h1, _⟩ | ⟨_, h1, _⟩⟩ := h
  · cases h1
  exact h1 (by rw [bx4 (by omega), hl])
end
theorem nx7 {x : Str} {R : Option SaT × Nat} {p : Nat} (hx : ¬ 250 < x.length) (hR : parseR x = R) (h : R = (none, p)) : readB x = (zeroSa, p, 2) := by rw [readB, if_neg hx, hR, h]
theorem rb_bad {x : Str} {R : Option SaT × Nat} {s : SaT} (hx : ¬ 250 < x.length) (hR : parseR x = R) (h : R.1 = some s) (hc : ¬ chkT s = 0) : readB x = (zeroSa, 0, chkT s) := by
  obtain ⟨o, p⟩ := R; have h : o = some s := h; subst h; rw [readB, if_neg hx, hR]; exact if_neg hc
theorem rb_good {x : Str} {R : Option SaT × Nat} {s : SaT} (hx : ¬ 250 < x.length) (hR : parseR x = R) (h : R.1 = some s) (hc : chkT s = 0) : readB x = (s, 0, 0) := by
  obtain ⟨o, p⟩ := R; have h : o = some s := h; subst h; rw [readB, if_neg hx, hR]; exact if_pos hc
theorem rb_len {x : Str} {R : Option SaT × Nat} {s : SaT} (hR : parseR x = R) (h : R.1 = some s) : s.2.1.length ≤ x.length ∧ s.2.2.length ≤ x.length := by
  obtain ⟨o, p⟩ := R; have h : o = some s := h; subst h; exact gz0 hR
theorem take0 {w : List Str} {st : SaT} {c : Ch} {b : Bool} (h : tarR w = (c, b)) : takeW 0 w st = if b = true then some (c, st.2.1, st.2.2) else none := by
  rw [takeW, if_pos rfl]; rw [tarR] at h
  cases hc : chS w with
  | none => rw [hc] at h; cases h; rfl
  | some y => rw [hc] at h; cases h; rfl
theorem take1 {w : List Str} {c : Ch} {xs : List Ad} {r : List Int} {br b : Bool} (h : numsR (w.drop 1) = (r, br)) (hb : b = (br && decide (at_ w 0 = streetsS) && decide (1 < w.length))) : takeW 1 w (c, [], xs) = if b = true then some (c, r, xs) else none := by
  subst hb; rw [takeW, if_neg (by decide), if_pos rfl]; rw [numsR] at h
  by_cases h1 : w.length < 2 ∨ ¬ at_ w 0 = streetsS
  · have e : (br && decide (at_ w 0 = streetsS) && decide (1 < w.length)) = false := by
      rcases h1 with h1 | h1
      · rw [decide_eq_false (p := 1 < w.length) (by omega), Bool.and_false]
      rw [decide_eq_false h1, Bool.and_false, Bool.false_and]
    rw [stS, if_pos h1, e]
    rfl
  have e : (br && decide (at_ w 0 = streetsS) && decide (1 < w.length)) = br := by
    rw [decide_eq_true (p := 1 < w.length) (by omega), decide_eq_true (p := at_ w 0 = streetsS) (Classical.not_not.1 fun e => h1 (.inr e)), Bool.and_true, Bool.and_true]
  rw [stS, if_neg h1, e]
  cases hc : numsS (w.drop 1) with
  | none => rw [hc] at h; cases h; rfl
  | some y => rw [hc] at h; cases h; rfl
theorem take2 {i : Nat} {w : List Str} {c : Ch} {ss : List Int} {xs : List Ad} {y : Ad} {b : Bool} (h0 : ¬ i = 0) (h1 : ¬ i = 1) (h : advS w = if b = true then some y else none) : takeW i w (c, ss, xs) = if b = true then some (c, ss, xs ++ [y]) else none := by
  rw [takeW, if_neg h0, if_neg h1, h]
  cases b <;> rfl
structure Rd where
  i : Nat
  p : Nat
  e : Bool
  c : Ch
  o1 : OutC
  ss : List Int
  o2 : OutC
  xs : List Ad
  h2 : Hp
structure Rd.ok (N : Nat) (L : List Str) (R : Option SaT × Nat) (z : Rd) : Prop where
  ln : LnI N L R z.i z.p z.e (z.c, z.ss, z.xs)
  g : Grow C6 3 z.o2.1 z.xs.length z.o2.2 (rows z.xs) z.h2
  xl : z.xs.length ≤ z.i
  s0 : z.i ≤ 1 → z.ss = []
structure Rn where
  b : Bool
  e : Bool
  c : Ch
  o1 : OutC
  ss : List Int
  o2 : OutC
  xs : List Ad
  h2 : Hp
structure Rn.ok (N : Nat) (L : List Str) (R : Option SaT × Nat) (i p : Nat) (z : Rn) : Prop where
  no : z.b = false → R = (none, p)
  ye : z.b = true → LnI N L R (i + 1) (p + ((L.getD i default).length + 1)) z.e (z.c, z.ss, z.xs)
  g : Grow C6 3 z.o2.1 z.xs.length z.o2.2 (rows z.xs) z.h2
  xl : z.xs.length ≤ i + 1
  s0 : i = 0 → z.ss = []
theorem st1 {br : Bool} {w : List Str} (h1 : br = true) (h2 : at_ w 0 = streetsS) : decide ((1 : Int) < (w.length : Int)) = (br && decide (at_ w 0 = streetsS) && decide (1 < w.length)) := by
  rw [h1, decide_eq_true h2, Bool.true_and, Bool.true_and]
  by_cases h : 1 < w.length
  · rw [decide_eq_true h, decide_eq_true (by omega)]
  rw [decide_eq_false h, decide_eq_false (by omega)]
theorem st2 {br : Bool} {w : List Str} (h2 : ¬ at_ w 0 = streetsS) : false = (br && decide (at_ w 0 = streetsS) && decide (1 < w.length)) := by rw [decide_eq_false h2, Bool.and_false, Bool.false_and]
theorem st3 {br : Bool} {w : List Str} (h1 : br = false) : false = (br && decide (at_ w 0 = streetsS) && decide (1 < w.length)) := by rw [h1]; rfl
section
variable {N : Nat} {L : List Str} {R : Option SaT × Nat} {i p : Nat} {c c' : Ch} {ss ss' : List Int} {xs xs' : List Ad} {o1 o2 : OutC} {h2 : Hp} {b : Bool}
theorem rnT (hln : LnI N L R i p false (c, ss, xs)) (hi : i + 1 < L.length) (h1 : ¬ (1 < i ∧ L.getD i default = soldS)) (ht : takeW i (splitB 32 (L.getD i default)) (c, ss, xs) = if b = true then some (c', ss', xs') else none)
    (g : Grow C6 3 o2.1 xs'.length o2.2 (rows xs') h2) (xl : xs'.length ≤ i + 1) (s0 : i = 0 → ss' = []) : Rn.ok N L R i p ⟨b, false, c', o1, ss', o2, xs', h2⟩ :=
  ⟨fun hf => ln_none hln hi h1 (ht.trans (if_neg (by rw [show b = false from hf]; decide))), fun hf => ln_some hln hi h1 (ht.trans (if_pos hf)), g, xl, s0⟩
theorem rn1 {w : List Str} {r : List Int} {br : Bool} (hln : LnI N L R i p false (c, ss, xs)) (hi : i + 1 < L.length) (hi1 : i = 1) (hse : ss = []) (hw : splitB 32 (L.getD i default) = w) (hN : numsR (w.drop 1) = (r, br))
    (g : Grow C6 3 o2.1 xs.length o2.2 (rows xs) h2) (xl : xs.length ≤ i) (hb : b = (br && decide (at_ w 0 = streetsS) && decide (1 < w.length))) : Rn.ok N L R i p ⟨b, false, c, o1, r, o2, xs, h2⟩ := by
  subst hi1; subst hse; exact rnT hln hi (fun h => by omega) (by rw [hw]; exact take1 hN hb) g (by omega) (fun h => by cases h)
end
set_option maxHeartbeats 4000000 in
theorem gx3 (x : Str) : Meets prog rH [str x] { val := fun y : OutC × OutC => .tuple #[.agg (tkC (readB x).1.1 (y.1, (readB x).1.2.1.length) (y.2, (readB x).1.2.2.length)), int (readB x).2.1, int (readB x).2.2], LO := fun y => [Row y.1.1 (rows (readB x).1.2.1), Row y.2.1 (rows (readB x).1.2.2)] } := by
 refine j3 jq3 rfl t8 fun w0 => d9 (B3 rfl (fun _ => G5 _) fun gR => ?_); refine c7 rfl (c7 rfl (d8 (i7 (d9 (b8 rfl ?_))))); refine C7 rfl l5 rfl ?_; refine P4 rfl rfl rfl (d8 ?_); refine m6 rfl (fun hb1 => ?_) (fun hb1 => ?_)
 ·have hlong : 250 < x.length := by omega
  refine d9 (v9 _ rfl rfl (fun _ => K8 ..) (t6 (cs := tkC (0, 0, 0, 0, 0, 0) ((none, 0), 0) ((none, 0), 0)) rfl rfl (.refl _) j7 (by rfl) (by rfl) ?_)); refine c7 rfl (c7 rfl (d8 (J4 ?_))); refine B5 (α := Int) (B5 (α := Ad) ?_); have hRz : readB x = (zeroSa, 0, 10) := by rw [readB, if_pos hlong]
  rw [hRz]; exact u9 ((none, 0), (none, 0)) (fun a w ha hw => W2 (cs := tkC (0, 0, 0, 0, 0, 0) ((none, 0), 0) ((none, 0), 0)) (v1 := int (0 : Nat)) (v2 := int (10)) rfl rfl rfl rfl l6 j7 rfl m0 a w ha.at_ hw) rfl tK nK ⟨m1, m0, tK⟩
 have hb1' := hb1; try simp at hb1'
 have hlong : ¬ 250 < x.length := by omega
 refine j6 (i8 (d9 ?_)); refine B3 rfl (fun _ => G5 _) fun g5 => ?_; refine k6 (b8 rfl ?_); obtain ⟨L, hL⟩ : ∃ L, splitB 10 x = L := ⟨_, rfl⟩; obtain ⟨R, hR⟩ : ∃ R, parseR x = R := ⟨_, rfl⟩; have hSp := pU x 10 (by omega); have hLl := bN 10 x; have hLw := sD 10 x; have hxc : x.count 10 ≤ x.length := List.count_le_length; rw [hL] at hSp hLl hLw; refine j5 qD rfl rfl (hSp) (hpR := [_, _]) (.refl _) tK fun y6 _ => ?_; obtain ⟨A6, c6⟩ := y6; refine c7 rfl (k6 (c7 rfl (c7 rfl (d8 (i7 (d9 ?_)))))); refine gz5 (α := Int) ?_; refine c7 rfl (d8 (j8 ?_)); refine y8 (β := Rd) ⟨fun z => z.ok x.length L R, fun z => [(2, .pointer (d6 gR)), (5, .pointer (d6 g5)), (6, .slice A6 L.length c6), (7, int z.p), (8, .bool z.e), (9, int z.i)], fun z => tkO g5 z.c (z.o1, z.ss.length) (z.o2, z.xs.length) :: (gR, Obj.cells (tkC (0, 0, 0, 0, 0, 0) ((none, 0), 0) ((none, 0), 0)) r7 (0, 0)) :: z.h2, fun z => [Row z.o1.1 (rows z.ss), Row A6 (rows L)]⟩ (fun z => L.length - z.i) ⟨0, 0, false, (0, 0, 0, 0, 0, 0), (none, 0), [], (none, 0), [], []⟩ ⟨⟨by show 0 + 1 ≤ L.length; omega, Nat.zero_le _, .inl ⟨rfl, x.length + 1, x, hR, Nat.lt_succ_self _, hL, Nat.zero_add _⟩⟩, Grow.nil _ _, Nat.le_refl _, fun _ => rfl⟩ mC (.refl _) mC fun z hz => ?_; obtain ⟨i, p, e, c, o1, ss, o2, xs, h2⟩ := z; obtain ⟨hln, g2, hxl, hs0⟩ := hz; simp only at hln g2 hxl hs0; have hil := hln.1; have hpl := hln.2.1; refine i7 (d9 (b8 rfl (b8 rfl ?_))); refine l7 rfl p8 rfl (W9 _ rfl rfl rfl rfl r6 ?_); refine C4 rfl rfl rfl (d8 ?_); refine m6 rfl (fun hb2 => ?_) (fun hb2 => ?_)
 ·have hb2' := hb2; try simp at hb2'
  have hi : i + 1 < L.length := by omega
  have hlw := hLw _ (A3 (l := L) (show i < L.length by omega)); refine j6 (i8 (i7 (j8 (d9 (b8 rfl (b8 rfl ?_)))))); refine r8 (α := Str) L i rfl p8 m7 rfl rfl rfl mB rfl (by omega) (by decide) (c8 (v := str (L.getD i default)) rfl l3 rfl (k9 mB (j9 (by omega) rfl)) ?_); obtain ⟨w, hw⟩ : ∃ w, splitB 32 (L.getD i default) = w := ⟨_, rfl⟩; have hSw := pU (L.getD i default) 32 (by omega); have hwn := bN 32 (L.getD i default); have hwl := sD 32 (L.getD i default); have hwc : (L.getD i default).count 32 ≤ (L.getD i default).length := List.count_le_length; rw [hw] at hSw hwn hwl; have hwl2 : ∀ t ∈ w, t.length ≤ 1000000 := fun t ht => by have := hwl t ht; omega
  refine j5 qD rfl rfl (hSw) (hpR := tkO g5 c (o1, ss.length) (o2, xs.length) :: (gR, Obj.cells (tkC (0, 0, 0, 0, 0, 0) ((none, 0), 0) ((none, 0), 0)) r7 (0, 0)) :: h2) (.refl _) tK fun yw hwcap => ?_; obtain ⟨wA, wc⟩ := yw; simp only at hwcap; refine c7 rfl (k6 (c7 rfl (d8 ?_))); refine kE ⟨fun z : Rn => z.ok x.length L R i p, fun z => [(2, .pointer (d6 gR)), (5, .pointer (d6 g5)), (6, .slice A6 L.length c6), (7, int p), (8, .bool z.e), (9, int i), (11, .bool z.b)], fun z => tkO g5 z.c (z.o1, z.ss.length) (z.o2, z.xs.length) :: (gR, Obj.cells (tkC (0, 0, 0, 0, 0, 0) ((none, 0), 0) ((none, 0), 0)) r7 (0, 0)) :: z.h2, fun z => [Row z.o1.1 (rows z.ss), Row A6 (rows L)]⟩ ?_ ?_
  ·skip
   refine j8 (d9 (b8 rfl (c7 rfl (d8 ?_)))); refine D0 rfl (fun hb3 => ?_) (fun hb3 => ?_)
   ·refine j6 (w9 ?_); have he : e = true := hb3; subst he; exact P5 _ (⟨false, true, c, o1, ss, o2, xs, h2⟩ : Rn) (⟨fun _ => ln_on hln hi, fun h => (by cases h), g2, (by show xs.length ≤ _; omega), fun h => hs0 (by omega)⟩) mC (.refl _) mC
   have hb3' := hb3; try simp at hb3'
   have he : e = false := by simpa using hb3
   subst he; refine d9 (b8 rfl (G2 rfl rfl rfl (c7 rfl (d8 ?_)))); refine m6 rfl (fun hb4 => ?_) (fun hb4 => ?_)
   ·have hb4' := hb4; try simp at hb4'
    have hi0 : i = 0 := by omega
    refine j0 (b8 rfl ?_); have hTm := fun A ca => ax3 (A := A) (ca := ca) w (by omega) hwl2; obtain ⟨⟨c0, b⟩, hT⟩ : ∃ q, tarR w = q := ⟨_, rfl⟩; rw [hT] at hTm
    dsimp only at hTm
    have ht : takeW i (splitB 32 (L.getD i default)) (c, ss, xs) = if b = true then some (c0, ss, xs) else none := by rw [hw, hi0]; exact take0 hT
    refine j5 bj5 rfl rfl (hTm _ _) (hpR := tkO g5 c (o1, ss.length) (o2, xs.length) :: (gR, Obj.cells (tkC (0, 0, 0, 0, 0, 0) ((none, 0), 0) ((none, 0), 0)) r7 (0, 0)) :: h2) (.refl _) mC fun _ _ => ?_; refine b8 rfl (m4 rfl rfl rfl (m4 rfl rfl rfl ?_)); refine a9 ⟨_, 0, none⟩ rfl rfl E9 rfl ?_; refine cx0 (cs := #[int c0.1, int c0.2.1, int c0.2.2.1, int c0.2.2.2.1, int c0.2.2.2.2.1, int c0.2.2.2.2.2]) rfl rfl (.refl _) u3 (by show 0 + 6 ≤ 8; decide) (by rfl) ?_; refine c7 rfl (j4 (w9 ?_)); exact P5 _ (⟨b, false, c0, o1, ss, o2, xs, h2⟩ : Rn) (rnT hln hi (fun h9 => by omega) ht g2 (by omega) (fun _ => hs0 (by omega))) mC (.refl _) mC
   have hb4' := hb4; try simp at hb4'
   have hi0 : ¬ i = 0 := by omega
   refine d9 (b8 rfl (G2 rfl rfl rfl (c7 rfl (d8 ?_)))); refine m6 rfl (fun hb5 => ?_) (fun hb5 => ?_)
   ·have hb5' := hb5; try simp at hb5'
    have hi1 : i = 1 := by omega
    have hse : ss = [] := hs0 (by omega); refine d9 (b8 rfl ?_); refine wx6 (α := Str) (A := wA) (p := w) (ca := wc) 1 w.length mB hwcap ?_; rw [List.take_length]; refine ax5 1 rfl p8 m7 rfl rfl rfl (by omega) ?_; have hdl : w.length - 1 = (w.drop 1).length := by rw [List.length_drop]
    rw [hdl]; have hNm := fun A ca => cA (A := A) (ca := ca) (w.drop 1) (by rw [List.length_drop]; omega) (fun t h9 => hwl2 t (List.mem_of_mem_drop h9)); obtain ⟨⟨r, br⟩, hN⟩ : ∃ q, numsR (w.drop 1) = q := ⟨_, rfl⟩; rw [hN] at hNm
    dsimp only at hNm
    refine j5 kZ rfl rfl (hNm _ _) (hpR := tkO g5 c (o1, ss.length) (o2, xs.length) :: (gR, Obj.cells (tkC (0, 0, 0, 0, 0, 0) ((none, 0), 0) ((none, 0), 0)) r7 (0, 0)) :: h2) (.refl _) mC fun yn _ => ?_; obtain ⟨nA, nc⟩ := yn; refine b8 rfl (m4 rfl rfl rfl (m4 rfl rfl rfl ?_)); refine a9 ⟨_, 6, none⟩ rfl rfl q9 rfl (z8 rfl rfl (.refl _) tT (by rfl) (by rfl) ?_); refine c7 rfl (d8 (j0 (b8 rfl (b8 rfl ?_)))); refine t7 rfl rfl ?_ ?_
    ·intro hg1; have hg1' := hg1; try simp at hg1'
     refine l9 hg1 (b8 rfl (l9 hg1 ?_)); refine r8 (α := Str) w 0 rfl p8 m7 rfl rfl rfl mB rfl (by omega) (by decide) (l9 hg1 (c8 (v := str (at_ w 0)) rfl l3 rfl (k9 mB (j9 (by omega) rfl)) ?_)); refine l9 hg1 (Z0 rfl rfl rfl ?_); refine p_t rfl rfl (bt1 hg1) rfl (b8 rfl ?_); refine t7 rfl rfl ?_ ?_
     ·intro hg2; refine l9 hg2 (b8 rfl (l9 hg2 ?_)); refine l7 rfl p8 rfl ?_; refine l9 hg2 (P4 rfl rfl rfl ?_); refine p_t rfl rfl (bt1 hg2) rfl ?_; refine c7 rfl (j4 (w9 ?_)); exact P5 _ (⟨_, false, c, (nA, nc), r, o2, xs, h2⟩ : Rn) (by exact rn1 hln hi hi1 hse hw hN g2 hxl (by first | exact st1 (eq_of_beq hg1) (of_decide_eq_true (eq_of_beq hg2)) | exact st2 (by first | exact of_decide_eq_false (by simpa using hg2)  | assumption) | exact st3 (by simpa using hg1))) mC (.refl _) mC
     intro hg2; have hg2' := hg2; try simp at hg2'
     refine q7 hg2 (q7 hg2 (q7 hg2 ?_)); refine p_f rfl rfl (bf2 hg2) rfl ?_; refine c7 rfl (j4 (w9 ?_)); exact P5 _ (⟨_, false, c, (nA, nc), r, o2, xs, h2⟩ : Rn) (by exact rn1 hln hi hi1 hse hw hN g2 hxl (by first | exact st1 (eq_of_beq hg1) (of_decide_eq_true (eq_of_beq hg2)) | exact st2 (by first | exact of_decide_eq_false (by simpa using hg2)  | assumption) | exact st3 (by simpa using hg1))) mC (.refl _) mC
    intro hg1; refine q7 hg1 (q7 hg1 (q7 hg1 (q7 hg1 ?_))); refine p_f rfl rfl (bf2 hg1) rfl ?_; refine b8 rfl (E2 rfl rfl rfl rfl rfl rfl (E2 rfl rfl rfl rfl rfl rfl (E2 rfl rfl rfl rfl rfl rfl (p_f rfl rfl rfl rfl (c7 rfl (j4 (w9 ?_))))))); exact P5 _ (⟨_, false, c, (nA, nc), r, o2, xs, h2⟩ : Rn) (by exact rn1 hln hi hi1 hse hw hN g2 hxl (by first | exact st1 (eq_of_beq hg1) (of_decide_eq_true (eq_of_beq hg2)) | exact st2 (by first | exact of_decide_eq_false (by simpa using hg2)  | assumption) | exact st3 (by simpa using hg1))) mC (.refl _) mC
   have hb5' := hb5; try simp at hb5'
   have hi1 : ¬ i = 1 := by omega
   refine d9 (b8 rfl (b8 rfl ?_)); refine r8 (α := Str) L i rfl p8 m7 rfl rfl rfl mB rfl (by omega) (by decide) (c8 (v := str (L.getD i default)) rfl l3 rfl (k9 mB (j9 (by omega) rfl)) ?_); refine Z0 rfl rfl rfl (c7 rfl (d8 ?_)); refine m6 rfl (fun hb6 => ?_) (fun hb6 => ?_)
   ·have hso : L.getD i default = soldS := by assumption
    refine j0 (c7 rfl (c7 rfl (j4 (w9 ?_)))); exact P5 _ (⟨true, true, c, o1, ss, o2, xs, h2⟩ : Rn) (⟨fun h => (by cases h), fun _ => ln_sold hln hi (by omega) hso, g2, (by show xs.length ≤ _; omega), fun h => absurd h hi0⟩) mC (.refl _) mC
   have hso : ¬ L.getD i default = soldS := by assumption
   refine d9 (B3 rfl (fun _ => J2 _) fun gy => ?_); refine k6 (b8 rfl ?_); refine j5 bj7 rfl rfl (ax4 w (by omega) (by omega) hwl2) (hpR := _ :: tkO g5 c (o1, ss.length) (o2, xs.length) :: (gR, Obj.cells (tkC (0, 0, 0, 0, 0, 0) ((none, 0), 0) ((none, 0), 0)) r7 (0, 0)) :: h2) (.refl _) mC fun y9 hy9 => ?_; obtain ⟨y, b⟩ := y9; simp only at hy9; have ht : takeW i (splitB 32 (L.getD i default)) (c, ss, xs) = if b = true then some (c, ss, xs ++ [y]) else none := by rw [hw]; exact take2 hi0 hi1 hy9
   refine b8 rfl (m4 rfl rfl rfl (m4 rfl rfl rfl ?_)); refine t6 (cs := #[int y.1, int y.2.1, int y.2.2]) rfl rfl (.refl _) d7 (by rfl) (by rfl) ?_; refine c7 rfl (d8 (j0 ?_)); refine a9 ⟨_, 7, none⟩ rfl rfl m5 rfl (c8 (v := .slice o2.1 xs.length o2.2) rfl k4 rfl (m3 m1 rfl) (B8 rfl i9 d7 rfl m0 (by rfl) (p7 _ rfl rfl (fun _ => K0 ..) fun gS => E0 (rows [(y : Ad)]) (List.prefix_refl _) ?_))); refine M2 (xs.length + 1) (rows (xs ++ [y])) L8 rfl rfl rfl g2 (List.perm_append_comm (l₁ := [_, _, _]) (l₂ := h2)) (Src.row (news := rows [(y : Ad)]) (m := 1) m0 rfl (M1 _) (by decide)) rfl (C9 xs [y]).symm (by unfold maxLen; omega) (by omega) fun A' c' og' hG' => ?_; refine a9 ⟨_, 7, none⟩ rfl rfl m5 rfl (z8 rfl rfl ((List.perm_append_comm (l₁ := og') (l₂ := [_, _, _])).trans (.swap _ _ _)) J9 (by rfl) (by rfl) ?_); refine j4 (w9 ?_); have hxy : (xs ++ [y]).length = xs.length + 1 := lenA; rw [← hxy] at hG'; exact P5 _ (⟨b, false, c, o1, ss, (A', c'), xs ++ [y], og'⟩ : Rn) (rnT hln hi (fun h9 => absurd h9.2 hso) ht hG' (by omega) (fun h => absurd h hi0)) mC (by show List.Sublist (tkO g5 c (o1, ss.length) ((A', c'), (xs ++ [y]).length) :: (gR, Obj.cells (tkC (0, 0, 0, 0, 0, 0) ((none, 0), 0) ((none, 0), 0)) r7 (0, 0)) :: og') _; rw [hxy]; exact .cons_cons _ (.cons _ (.refl _))) mC
  intro z hz; obtain ⟨b, e9, c9, p1, s9, p2, x9, h9⟩ := z; obtain ⟨hno, hye, gz, hxz, hsz⟩ := hz; simp only at hno hye gz hxz hsz; refine i7 (d9 (b8 rfl (K6 rfl rfl (d8 ?_)))); refine D0 rfl (fun hb7 => ?_) (fun hb7 => ?_)
  ·have hbf : b = false := by simpa using hb7
   have hRn := hno hbf; refine d9 (v9 _ rfl rfl (fun _ => K8 ..) (b8 rfl (t6 (cs := tkC (0, 0, 0, 0, 0, 0) ((none, 0), 0) ((none, 0), 0)) rfl rfl (.swap _ _ _) j7 (by rfl) (by rfl) ?_))); refine c7 rfl (c7 rfl (d8 (J4 (G6 (C5 (G6 ?_)))))); refine B5 (α := Int) (B5 (α := Ad) ?_); have hRz : readB x = (zeroSa, p, 2) := nx7 hlong hR hRn; rw [hRz]; exact u9 ((none, 0), (none, 0)) (fun a w ha hw => W2 (cs := tkC (0, 0, 0, 0, 0, 0) ((none, 0), 0) ((none, 0), 0)) (v1 := int (p : Nat)) (v2 := int (2)) rfl rfl rfl rfl l6 j7 rfl m0 a w ha.at_ hw) rfl tK nK ⟨m1, m0, tK⟩
  have hbt : b = true := by simpa using hb7
  have hln2 := hye hbt; have hpl2 := hln2.2.1; refine j6 (i8 (j0 (b8 rfl (b8 rfl (b8 rfl ?_))))); refine r8 (α := Str) L i rfl p8 m7 rfl rfl rfl mB rfl (by omega) (by decide) (c8 (v := str (L.getD i default)) rfl l3 rfl (k9 mB (j9 (by omega) rfl)) (C7 rfl l5 rfl (v8 ((p + (L.getD i default).length : Nat) : Int) rfl rfl rfl (by omega) r6 (v8 ((p + ((L.getD i default).length + 1) : Nat) : Int) rfl rfl rfl (by omega) r6 ?_)))); refine c7 rfl (j4 (w9 (i8 (j0 (b8 rfl ?_))))); refine v8 ((i + 1 : Nat) : Int) rfl rfl rfl (by push_cast; rfl) r6 ?_; refine c7 rfl (j4 ?_); exact again _ (⟨i + 1, p + ((L.getD i default).length + 1), e9, c9, p1, s9, p2, x9, h9⟩ : Rd) ⟨hln2, gz, hxz, fun h => hsz (by have h : i + 1 ≤ 1 := h; omega)⟩ (C8 (by omega)) mC (.refl _) mC
 have hb2' := hb2; try simp at hb2'
 have hi : ¬ i + 1 < L.length := by omega
 refine w8 (E4 (w6 (i8 (i7 (d9 (b8 rfl (K6 rfl rfl (b8 rfl ?_)))))))); refine t7 rfl rfl ?_ ?_
 ·intro hg3; have he : e = true := by simpa using hg3
  subst he; refine l9 hg3 (b8 rfl (l9 hg3 (b8 rfl (l9 hg3 ?_)))); refine l7 rfl p8 rfl (l9 hg3 (W9 ((i : Nat) : Int) rfl rfl rfl (by omega) r6 (l9 hg3 (r8 (α := Str) L i rfl p8 m7 rfl rfl rfl mB rfl (by omega) (by decide) (l9 hg3 (c8 (v := str (L.getD i default)) rfl l3 rfl (k9 mB (j9 (by omega) rfl)) ?_)))))); refine l9 hg3 (qT rfl rfl rfl ?_); refine p_f rfl rfl (bf1 hg3) rfl (d8 ?_); refine m6 rfl (fun hb8 => ?_) (fun hb8 => ?_)
  ·have hRn := ln_endN hln hi (by assumption); refine d9 (v9 _ rfl rfl (fun _ => K8 ..) (b8 rfl (t6 (cs := tkC (0, 0, 0, 0, 0, 0) ((none, 0), 0) ((none, 0), 0)) rfl rfl (.swap _ _ _) j7 (by rfl) (by rfl) ?_))); refine c7 rfl (c7 rfl (d8 (J4 ?_))); refine B5 (α := Int) (B5 (α := Ad) ?_); have hRz : readB x = (zeroSa, p, 2) := nx7 hlong hR hRn; rw [hRz]; exact u9 ((none, 0), (none, 0)) (fun a w ha hw => W2 (cs := tkC (0, 0, 0, 0, 0, 0) ((none, 0), 0) ((none, 0), 0)) (v1 := int (p : Nat)) (v2 := int (2)) rfl rfl rfl rfl l6 j7 rfl m0 a w ha.at_ hw) rfl tK nK ⟨m1, m0, tK⟩
  have hl0 : L.getD i default = [] := by first | assumption | exact Classical.not_not.1 (by assumption)
  have hR1 := ln_endY hln hi hl0; have hln9 : ss.length ≤ x.length ∧ xs.length ≤ x.length := rb_len hR hR1; refine j6 (i8 (dj7 ?_)); refine pZ (hp' := h2 ++ [tkO g5 c (o1, ss.length) (o2, xs.length), (gR, Obj.cells (tkC (0, 0, 0, 0, 0, 0) ((none, 0), 0) ((none, 0), 0)) r7 (0, 0))]) (List.perm_append_comm (l₁ := [_, _]) (l₂ := h2)) ?_; refine yA g2 (j0 ?_); refine B8 rfl l6 j7 rfl m0 (by rfl) ?_; refine j5 qE rfl rfl (pV c ⟨o1.1, o1.2, ss⟩ ⟨o2.1, o2.2, xs⟩ (by show ss.length ≤ 1000000; omega) (by show xs.length ≤ 1000000; omega)) (hpR := [_, _]) (.refl _) mC fun _ _ => ?_; refine c7 rfl (k6 (b8 rfl (P9 rfl rfl rfl (d8 ?_)))); refine m6 rfl (fun hb9 => ?_) (fun hb9 => ?_)
  ·have hch : ¬ chkT (c, ss, xs) = 0 := hb9; refine d9 (v9 _ rfl rfl (fun _ => K8 ..) (b8 rfl (t6 (cs := tkC (0, 0, 0, 0, 0, 0) ((none, 0), 0) ((none, 0), 0)) rfl rfl (.swap _ _ _) j7 (by rfl) (by rfl) ?_))); refine c7 rfl (c7 rfl (d8 (J4 ?_))); refine B5 (α := Int) (B5 (α := Ad) ?_); have hRz : readB x = (zeroSa, 0, chkT (c, ss, xs)) := rb_bad hlong hR hR1 hch; rw [hRz]; exact u9 ((none, 0), (none, 0)) (fun a w ha hw => W2 (cs := tkC (0, 0, 0, 0, 0, 0) ((none, 0), 0) ((none, 0), 0)) (v1 := int (0 : Nat)) (v2 := int (chkT (c, ss, xs))) rfl rfl rfl rfl l6 j7 rfl m0 a w ha.at_ hw) rfl tK nK ⟨m1, m0, tK⟩
  have hch : chkT (c, ss, xs) = 0 := Classical.not_not.1 hb9; refine j6 (i8 (d9 ?_)); refine B8 rfl l6 j7 rfl m0 (by rfl) (t6 (cs := tkC c (o1, ss.length) (o2, xs.length)) rfl rfl (.swap _ _ _) j7 (by rfl) (by rfl) ?_); refine c7 rfl (c7 rfl (d8 (k5 ?_))); have hRz : readB x = ((c, ss, xs), 0, 0) := rb_good hlong hR hR1 hch; rw [hRz]; exact u9 (o1, o2) (fun a w ha hw => W2 (cs := tkC c (o1, ss.length) (o2, xs.length)) (v1 := int (0 : Nat)) (v2 := int 0) rfl rfl rfl rfl l6 j7 rfl m0 a w ha.at_ hw) rfl tK nK mC
 intro hg3; have he : e = false := by simpa using hg3
 subst he; refine q7 hg3 (q7 hg3 (q7 hg3 (q7 hg3 (q7 hg3 (q7 hg3 (q7 hg3 ?_)))))); refine p_t rfl rfl (bt2 hg3) rfl ?_; refine d8 (c_t rfl rfl ?_); have hRn := ln_end0 hln hi; refine d9 (v9 _ rfl rfl (fun _ => K8 ..) (b8 rfl (t6 (cs := tkC (0, 0, 0, 0, 0, 0) ((none, 0), 0) ((none, 0), 0)) rfl rfl (.swap _ _ _) j7 (by rfl) (by rfl) ?_))); refine c7 rfl (c7 rfl (d8 (J4 ?_))); refine B5 (α := Int) (B5 (α := Ad) ?_); have hRz : readB x = (zeroSa, p, 2) := nx7 hlong hR hRn; rw [hRz]; exact u9 ((none, 0), (none, 0)) (fun a w ha hw => W2 (cs := tkC (0, 0, 0, 0, 0, 0) ((none, 0), 0) ((none, 0), 0)) (v1 := int (p : Nat)) (v2 := int (2)) rfl rfl rfl rfl l6 j7 rfl m0 a w ha.at_ hw) rfl tK nK ⟨m1, m0, tK⟩
abbrev sumsL (c : Ch) (xs : List Ad) (n k : Nat) : List Int := (List.range n).map (sumK c xs k)
end Go.Proofs.YtcdopfjiadifhaaGreatDoor
end
section
namespace Go.W
open Go Go.RowKit
def GoQ {β : Type} (s : Sta β) (μ : β → Nat) (m : Option Nat) (l : Nat) (c : Cx) (Q : Exit → Act → World → Prop) : Exit → Act → World → Prop
  | .goto l', a, w => l' = l ∧ ∃ y, s.inv y ∧ (∀ k, m = some k → μ y < k) ∧ Ok c a (s.fr y) ∧ WI c.b w (s.hp y) (s.L y)
  | e, a, w => Q e a w
section
variable {c : Cx} {Q : Exit → Act → World → Prop} {fr : Fr} {hp : Hp} {L : List Fact}
end
end Go.W
end
section
namespace Go.Proofs.YtcdopfjiadifhaaGreatDoor
open Go Go.W Tryz T F
set_option maxRecDepth 20000
attribute [local irreducible] HL HC HQ HB Row Rows2 Blk Facts
def bilA (c : Ch) (ss : List Int) (xs : List Ad) (y : Ad) : Int := bilN c ss (xs ++ [y]) y.1.toNat
def chStep (c : Ch) (ss : List Int) (xs : List Ad) (o : Option (Ad × Int)) (y : Ad) : Option (Ad × Int) :=
  if ¬ adErr ss.length y = 0 then o else match o with
    | none => some (y, bilA c ss xs y)
    | some z => if bilA c ss xs y < z.2 then some (y, bilA c ss xs y) else some z
def xA : Option (Ad × Int) → Ad
  | none => (0, 0, 0)
  | some z => z.1
def xB : Option (Ad × Int) → Int
  | none => 0
  | some z => z.2
def chIn (c : Ch) (ss : List Int) (xs : List Ad) (cu ln : Int) (kd : Nat) (o : Option (Ad × Int)) (i : Nat) : Option (Ad × Int) := (List.range i).foldl (fun o (j : Nat) => chStep c ss xs o (cu, (kd : Int), ln + (j : Int))) o
def chOut (c : Ch) (ss : List Int) (xs : List Ad) (cu ln : Int) (k : Nat) : Option (Ad × Int) := (List.range k).foldl (fun o kd => chIn c ss xs cu ln (kd + 1) o (7 - ln).toNat) none
def cheapE (c : Ch) (ss : List Int) (xs : List Ad) (cu ln : Int) : Ad × Int × Int :=
  if ¬ chkS c ss xs = 0 then ((0, 0, 0), 0, chkS c ss xs) else if ¬ (0 ≤ cu ∧ cu ≤ (ss.length : Int) - 1) then ((0, 0, 0), 0, 3) else if ¬ (1 ≤ ln ∧ ln ≤ 6) then ((0, 0, 0), 0, 1) else if 8 ≤ xs.length then ((0, 0, 0), 0, 6)
  else (xA (chOut c ss xs cu ln 3), xB (chOut c ss xs cu ln 3), 0)
def chAt (c : Ch) (ss : List Int) (xs : List Ad) (cu ln : Int) (x : Nat × Nat) : Option (Ad × Int) := chIn c ss xs cu ln (x.1 + 1) (chOut c ss xs cu ln x.1) x.2
def xC : Option (Ad × Int) → Int
  | none => -1
  | some z => z.2
def chItem (cu ln : Int) (kd j : Nat) : Ad := (cu, (kd : Int), ln + (j : Int))
def chList (cu ln : Int) (k : Nat) : List Ad := (List.range k).flatMap fun kd => (List.range (7 - ln).toNat).map fun j => chItem cu ln (kd + 1) j
def chNN (o : Option (Ad × Int)) : Prop := ∀ z, o = some z → 0 ≤ z.2
abbrev Sx := Ch × Sl Int × Sl Ad
instance : El Sx where
  default := ((0, 0, 0, 0, 0, 0), ⟨none, 0, []⟩, ⟨none, 0, []⟩)
  cells x := [int x.1.1, int x.1.2.1, int x.1.2.2.1, int x.1.2.2.2.1, int x.1.2.2.2.2.1, int x.1.2.2.2.2.2, .slice x.2.1.a x.2.1.l.length x.2.1.c, .slice x.2.2.a x.2.2.l.length x.2.2.c]
  sz := 8
  len _ := rfl
  one a u h := by simp at h; rcases h with h | h | h | h | h | h | h | h <;> subst h <;> rfl
abbrev Sx.row (d : Sx) : Fact := Facts [Row d.2.1.a (rows d.2.1.l), Row d.2.2.a (rows d.2.2.l)]
theorem dj5 {pA qA : Option Addr} {pC qC : Nat} (c : Ch) (ps : Sl Int) (qs : Sl Ad) (hn : ps.l.length ≤ 1000000) (hm : qs.l.length ≤ 1000000) : Meets prog nS [saV c ps qs, saV c ⟨pA, pC, ps.l⟩ ⟨qA, qC, qs.l⟩] { LI := [Row ps.a (rows ps.l), Row qs.a (rows qs.l), Row pA (rows ps.l), Row qA (rows qs.l)], val := fun _ : Unit => .bool true } := by
 refine j3 hx9 rfl t8 fun w0 => d9 (J5 rfl rfl fun gB => J5 rfl rfl fun gC => ?_); refine c7 rfl (d8 (dj7 (Y3 (Y3 (j0 ?_))))); refine a9 ⟨_, 0, none⟩ rfl rfl E9 rfl (I0 (cs := [int c.1, int c.2.1, int c.2.2.1, int c.2.2.2.1, int c.2.2.2.2.1, int c.2.2.2.2.2]) rfl C2 u3 rfl rfl (lZ (o := 0) mB (jH rfl)) (a9 ⟨_, 0, none⟩ rfl rfl E9 rfl (I0 (cs := [int c.1, int c.2.1, int c.2.2.1, int c.2.2.2.1, int c.2.2.2.2.1, int c.2.2.2.2.2]) rfl C2 u3 rfl rfl (lZ (o := 0) mB (jH rfl)) (q8 _ rfl rfl rfl (fun _ => aq2 ..) (fun _ => aj9 ..) (b8 rfl ?_))))); refine t7 rfl rfl ?_ ?_
 ·intro hg1; refine l9 hg1 (a9 ⟨_, 6, none⟩ rfl rfl q9 rfl (l9 hg1 (c8 rfl k8 rfl (l4 mB rfl) (l9 hg1 (a9 ⟨_, 6, none⟩ rfl rfl q9 rfl (l9 hg1 (c8 rfl k8 rfl (l4 mB rfl) (l9 hg1 (j5 bR rfl rfl (iS ps.l ps.l (by omega)) p6 mC fun _ _ => ?_))))))))); refine l9 hg1 (K6 rfl rfl ?_); refine p_f rfl rfl (bf1 hg1) rfl (b8 rfl ?_); refine t7 rfl rfl ?_ ?_
  ·intro hg2; refine l9 hg2 (a9 ⟨_, 7, none⟩ rfl rfl m5 rfl (l9 hg2 (c8 rfl k4 rfl (l4 mB rfl) (l9 hg2 (l7 rfl u0 rfl (l9 hg2 (a9 ⟨_, 7, none⟩ rfl rfl m5 rfl (l9 hg2 (c8 rfl k4 rfl (l4 mB rfl) (l9 hg2 (l7 rfl u0 rfl ?_))))))))))); refine l9 hg2 (P9 rfl rfl rfl ?_); refine p_f rfl rfl (bf1 hg2) rfl (d8 ?_); refine m6 rfl (fun hb1 => ?_) (fun hb1 => ?_)
   ·have hb1' := hb1; try simp at hb1'
   refine j6 (i8 (i7 (d9 (c7 rfl (d8 (j8 ?_)))))); refine y8 (β := Nat) ⟨fun k => k ≤ qs.l.length, fun k => [(2, .pointer (d6 gB)), (3, .pointer (d6 gC)), (5, int k)], fun _ => [], fun _ => [Blk gC (.cells (saC c ⟨pA, pC, ps.l⟩ ⟨qA, qC, qs.l⟩) r7 (0, 0)), Blk gB (.cells (saC c ps qs) r7 (0, 0)), Row ps.a (rows ps.l), Row qs.a (rows qs.l), Row pA (rows ps.l), Row qA (rows qs.l)]⟩ (fun k => qs.l.length - k) 0 (Nat.zero_le _) mC nK mC fun k hk => ?_; simp only at hk; refine i7 (d9 (b8 rfl ?_)); refine a9 ⟨_, 7, none⟩ rfl rfl m5 rfl (c8 rfl k4 rfl (l4 mB rfl) (l7 rfl u0 rfl ?_)); refine C4 rfl rfl rfl (d8 ?_); refine m6 rfl (fun hb2 => ?_) (fun hb2 => ?_)
   ·have hk2 : k < qs.l.length := by omega
    refine j6 (i8 (i7 (j8 (i7 ?_)))); refine J0 10 mixed (by decide) (by decide) rfl rfl (k7 (fun w1 => a9 ⟨_, 7, none⟩ rfl rfl m5 rfl (q_z rfl)) (k7 (fun w1 => c8 rfl k4 rfl (l4 mB rfl) (q_z rfl)) (u4 rfl (k7 (fun w1 => r8 (α := Ad) qs.l k rfl u0 d7 rfl rfl rfl mB rfl (hk2) (by decide) (q_z rfl)) (k7 (fun w1 => I0 rfl i9 d7 rfl rfl (H5 mB (K2 (by omega))) (q_z rfl)) (k7 (fun w1 => a9 ⟨_, 7, none⟩ rfl rfl m5 rfl (q_z rfl)) (k7 (fun w1 => c8 rfl k4 rfl (l4 mB rfl) (q_z rfl)) (u4 rfl (k7 (fun w1 => r8 (α := Ad) qs.l k rfl u0 d7 rfl rfl rfl mB rfl (hk2) (by decide) (q_z rfl)) (k7 (fun w1 => I0 rfl i9 d7 rfl rfl (H5 mB (K2 (by omega))) (q_z rfl)) ?_)))))))))); refine E1 ⟨rfl, ?_⟩; refine q8 _ rfl rfl rfl (fun _ => cj4 ..) (fun _ => cj0 ..) (d8 ?_); refine m6 rfl (fun hb3 => ?_) (fun hb3 => ?_)
    ·exact absurd rfl hb3
    refine j6 (w9 (i8 (j0 (b8 rfl ?_)))); refine v8 _ rfl rfl rfl rfl r6 ?_; refine c7 rfl (j4 ?_); exact again _ (k + 1) (by show k + 1 ≤ qs.l.length; omega) (C8 (by omega)) mC nK mC
   refine w8 (E4 (w6 (i8 (d9 (c7 rfl (d8 (k5 ?_))))))); exact ret1 () rfl rfl rfl tK nK tK
  intro hg2; have hg2' := hg2; try simp at hg2'
 intro hg1; have hg1' := hg1; try simp at hg1'
end Go.Proofs.YtcdopfjiadifhaaGreatDoor
end
