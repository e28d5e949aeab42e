/- Texts of this claim, one behind another. -/

import Derived.Test.YtfhninnleacgiaaGreatAAo
import Derived.Test.YtfhninnleacgiaaGreatAAk
import Derived.Test.YtfhninnleacgiaaGreatAAe
set_option linter.unusedVariables false
set_option linter.unusedSimpArgs false
section
namespace Go.Proofs.YtfhninnleacgiaaGreat
open Go Go.W
set_option maxRecDepth 20000
attribute [local irreducible] HL HC HQ HB Row Rows2 Blk Facts
set_option maxHeartbeats 1000000 in
theorem cP {A B oa ka : Option Addr} {ca cb oc kc gl : Nat} (cs : List Cl) (hs : List Hd) (hok : TrOK (trOf cs hs)) : Meets Tryz.prog F.P0 [.pointer (b8 gl)] { LI := [Row (b8 gl) [.slice A cs.length ca, .slice B hs.length cb, .slice oa cs.length oc, .slice ka hs.length kc], Row ka (rows (kindsN hs hs.length))], inv := fun x : OutS => lsts x.1 = (cirK (hs.map Hd.p) hs.length), val := fun x => .slice x.2.1 x.1.length x.2.2, LO := fun x => [Rows2 x.2.1 x.1] } := by
 refine i7 F.jW rfl p7 fun w0 => ?_; refine i4 (b7 rfl (d9 (i1 ?_))); have h6h := hok.h6; have hln := t0 cs hs; rw [hln] at h6h; have hS0 := qH hok; have hS := see_p hok; have hH : (hs.map Hd.p).length = hs.length := List.length_map ..; refine bQ (Fs := ([] : List (Sl Int)).map (fun p : Sl Int => Row p.a (rows p.l))) (by intro F hF; simp at hF) ?_; refine b9 (b7 rfl (d9 (i1 (i4 (a8 rfl (l9 rfl rfl ?_))))))
 first | refine a7 ⟨_, 3, none⟩ rfl rfl T.j9 rfl ?_ | refine a7 _ rfl rfl T.j9 rfl ?_
 first | refine a6 rfl T.b6 rfl (h9 mB rfl) ?_ | refine a6 rfl T.b6 rfl (d8 mB rfl) ?_ | refine a6 rfl T.b6 rfl (d3 mB (b4 (by omega) rfl)) ?_ | refine a6 rfl T.b6 rfl (d1 mB (rows_get (by omega) rfl)) ?_ | refine a6 rfl T.b6 rfl (d7 mB rfl) ?_
 refine k4 rfl T.r8 rfl ?_; refine a8 rfl (d9 (i9 ?_)); refine p6 (β := Nat × List (Sl Int) × OutC × Hp) ⟨fun x => x.1 ≤ hs.length ∧ Grow T.ints 1 x.2.2.1.1 x.2.1.length x.2.2.1.2 (rows x.2.1) x.2.2.2 ∧ lsts x.2.1 = (cirK (hs.map Hd.p) x.1), fun x => [(0, .pointer (b8 gl)), (3, .slice x.2.2.1.1 x.2.1.length x.2.2.1.2), (13, int hs.length), (14, int x.1)], fun x => x.2.2.2, fun x => [Facts (x.2.1.map (fun p : Sl Int => Row p.a (rows p.l))), Row (b8 gl) [.slice A cs.length ca, .slice B hs.length cb, .slice oa cs.length oc, .slice ka hs.length kc], Row ka (rows (kindsN hs hs.length))]⟩ (fun x => hs.length - x.1) (0, [], (none, 0), []) ⟨Nat.zero_le _, Grow.nil _ _, rfl⟩ mC nil_sb mC fun x hx => ?_; obtain ⟨i, ps, ⟨na, nc⟩, og⟩ := x; obtain ⟨hi, hG, hps⟩ := hx; simp only at hi hG hps; have hpl : ps.length ≤ i := by have h1 := congrArg List.length hps; rw [lsts, List.length_map] at h1; have := jq1 (hs.map Hd.p) i; omega
 refine i4 (t7 rfl rfl rfl (d9 (i1 ?_)))
 first | refine k8 rfl (fun hb1 => ?_) (fun hb1 => ?_) | refine i5 rfl (fun hb1 => ?_) (fun hb1 => ?_)
 ·have hb1' := hb1; try simp at hb1'
  have hi2 : i < hs.length := by omega
  have hiz : 0 ≤ (i : Int) ∧ (i : Int) < ((hs.map Hd.p).length : Int) := ⟨by omega, by rw [hH]; omega⟩; refine j3 (g6 (i1 (i9 (i4 (a8 rfl (b7 rfl (j8 ?_))))))); refine b7 rfl (j8 (a8 rfl (b7 rfl (d9 ?_)))); refine B8 ⟨fun x : (Nat × Int) × OutC × Hp => ((x.1.2 = (i : Int) ∧ Cyc (hs.map Hd.p) (i : Int) x.1.1) ∨ ((x.1.1 = 0 ∨ ¬ x.1.2 = (i : Int)) ∧ ∀ j, 1 ≤ j → j ≤ (hs.map Hd.p).length → ¬ (orb (hs.map Hd.p) (i : Int) j) = (i : Int))) ∧ x.1.1 ≤ hs.length ∧ Grow T.int 1 x.2.1.1 (pthN (hs.map Hd.p) (i : Int) x.1.1).length x.2.1.2 (rows (pthN (hs.map Hd.p) (i : Int) x.1.1)) x.2.2, fun x => [(0, .pointer (b8 gl)), (3, .slice (na, nc).1 ps.length (na, nc).2), (13, int hs.length), (14, int i), (4, int i), (5, .slice x.2.1.1 (pthN (hs.map Hd.p) (i : Int) x.1.1).length x.2.1.2), (6, int x.1.2)], fun x => x.2.2 ++ og, fun x => [Facts (ps.map (fun p : Sl Int => Row p.a (rows p.l))), Row (b8 gl) [.slice A cs.length ca, .slice B hs.length cb, .slice oa cs.length oc, .slice ka hs.length kc], Row ka (rows (kindsN hs hs.length))]⟩ ?_ ?_
  ·skip
   refine i4 (a8 rfl (l9 rfl rfl ?_))
   first | refine a7 ⟨_, 3, none⟩ rfl rfl T.j9 rfl ?_ | refine a7 _ rfl rfl T.j9 rfl ?_
   first | refine a6 rfl T.b6 rfl (h9 mB rfl) ?_ | refine a6 rfl T.b6 rfl (d8 mB rfl) ?_ | refine a6 rfl T.b6 rfl (d3 mB (b4 (by omega) rfl)) ?_ | refine a6 rfl T.b6 rfl (d1 mB (rows_get (by omega) rfl)) ?_ | refine a6 rfl T.b6 rfl (d7 mB rfl) ?_
   refine k4 rfl T.r8 rfl ?_; refine a8 rfl (d9 (i9 ?_)); refine p6 (β := Nat × OutC × Hp) ⟨fun x => x.1 ≤ hs.length ∧ Grow T.int 1 x.2.1.1 (pthN (hs.map Hd.p) (i : Int) x.1).length x.2.1.2 (rows (pthN (hs.map Hd.p) (i : Int) x.1)) x.2.2 ∧ 0 ≤ (orb (hs.map Hd.p) (i : Int) x.1) ∧ ∀ j, 1 ≤ j → j ≤ x.1 → ¬ (orb (hs.map Hd.p) (i : Int) j) = (i : Int), fun x => [(0, .pointer (b8 gl)), (3, .slice (na, nc).1 ps.length (na, nc).2), (13, int hs.length), (14, int i), (4, int i), (5, .slice x.2.1.1 (pthN (hs.map Hd.p) (i : Int) x.1).length x.2.1.2), (6, int (orb (hs.map Hd.p) (i : Int) x.1)), (22, int hs.length), (23, int x.1)], fun x => x.2.2 ++ og, fun _ => [Facts (ps.map (fun p : Sl Int => Row p.a (rows p.l))), Row (b8 gl) [.slice A cs.length ca, .slice B hs.length cb, .slice oa cs.length oc, .slice ka hs.length kc], Row ka (rows (kindsN hs hs.length))]⟩ (fun x => hs.length - x.1) (0, (none, 0), []) ⟨Nat.zero_le _, Grow.nil _ _, by show 0 ≤ (i : Int); omega, fun j h1 h2 => by have h2 : j ≤ 0 := h2; omega⟩ mC (List.Sublist.refl _) mC fun x hx => ?_; obtain ⟨r, ⟨da, dc⟩, og2⟩ := x; obtain ⟨hr, hG2, h0, hne⟩ := hx; simp only at hr hG2 h0 hne; have hpn := aq0 (hs.map Hd.p) (i : Int) r; have hob := (uU hS hiz r).2; rw [hH] at hob; have hpsc := dx2 (hs.map Hd.p) (i : Int) r; have hosc := gN (hs.map Hd.p) (i : Int) r; unfold seeZ at hosc; rw [if_neg (by omega), G8 (by omega)] at hosc; refine i4 (t7 rfl rfl rfl (d9 (i1 ?_)))
   first | refine k8 rfl (fun hb2 => ?_) (fun hb2 => ?_) | refine i5 rfl (fun hb2 => ?_) (fun hb2 => ?_)
   ·have hb2' := hb2; try simp at hb2'
    have hr2 : r < hs.length := by omega
    refine j3 (g6 (i1 (i9 (i4 (a8 rfl (l9 rfl rfl ?_))))))
    first | refine a7 ⟨_, 3, none⟩ rfl rfl T.j9 rfl ?_ | refine a7 _ rfl rfl T.j9 rfl ?_
    first | refine a6 rfl T.b6 rfl (h9 mB rfl) ?_ | refine a6 rfl T.b6 rfl (d8 mB rfl) ?_ | refine a6 rfl T.b6 rfl (d3 mB (b4 (by omega) rfl)) ?_ | refine a6 rfl T.b6 rfl (d1 mB (rows_get (by omega) rfl)) ?_ | refine a6 rfl T.b6 rfl (d7 mB rfl) ?_
    refine a8 rfl ?_; refine r9 (α := Kd) (kindsN hs hs.length) (orb (hs.map Hd.p) (i : Int) r).toNat rfl T.r8 T.E1 rfl rfl (Int.toNat_of_nonneg h0).symm mB (t6 (Nat.le_refl _)).symm (by rw [t6 (Nat.le_refl _)]; omega) (by decide) ?_; refine a6 (v := Kd.v (kindOf (hs.getD (orb (hs.map Hd.p) (i : Int) r).toNat default))) rfl T.C1 rfl (d3 mB (b4 (by rw [t6 (Nat.le_refl _)]; omega) (by rw [U0 (by omega)]; rfl))) ?_; obtain ⟨kd, hkd⟩ : ∃ kd, kd = kindOf (hs.getD (orb (hs.map Hd.p) (i : Int) r).toNat default) := ⟨_, rfl⟩; refine cq5 (kd := kd) rfl rfl (by subst hkd; rfl) ?_; refine a8 rfl (i6 rfl rfl rfl (i6 rfl rfl rfl ?_)); refine r7 rfl (fun _ => T.N4 _) fun g8 => ?_; refine r4 (cs := #[int kd.see]) rfl rfl (.refl _) T.M8 (by rfl) (by rfl) ?_; refine b7 rfl (d9 (bY (D9 (b9 (a8 rfl (B3 rfl rfl (d9 ?_)))))))
    first | refine k8 rfl (fun hb3 => ?_) (fun hb3 => ?_) | refine i5 rfl (fun hb3 => ?_) (fun hb3 => ?_)
    ·have hb3' := hb3; try simp at hb3'
     have hp0 : kd.isP = false := by simpa using hb3
     rw [hkd, iM, decide_eq_false_iff_not] at hp0; have hnx : (orb (hs.map Hd.p) (i : Int) (r + 1)) = -1 := by rw [hosc]; exact Classical.not_not.1 hp0
     refine n2 (H5 (kV rfl (t4 (n1 ?_)))); exact w4 _ ((r, (orb (hs.map Hd.p) (i : Int) r)), (da, dc), og2) ⟨.inr ⟨by show r = 0 ∨ ¬ (orb (hs.map Hd.p) (i : Int) r) = (i : Int); by_cases e : r = 0; exact .inl e; exact .inr (hne r (by omega) (Nat.le_refl _)), fun j hj1 hj2 => by rcases Nat.lt_or_ge r j with h1 | h1; have h2 := yU (H := (hs.map Hd.p)) (i := (i : Int)) (k := r + 1) (by rw [hnx]; decide) ; rcases Nat.lt_or_ge (r + 1) j with h3 | h3; have h4 := h2 (j - (r + 2)); rw [show r + 1 + 1 + (j - (r + 2)) = j by omega] at h4; omega; rw [show j = r + 1 by omega, hnx]; omega; exact hne j hj1 h1⟩, by show r ≤ hs.length; omega, hG2⟩ mC (List.Sublist.refl _) mC
    have hb3' := hb3; try simp at hb3'
    have hp0 : kd.isP = true := by simpa using hb3
    rw [hkd, iM, decide_eq_true_eq] at hp0; have hse : kd.see = (orb (hs.map Hd.p) (i : Int) (r + 1)) := by rw [hkd, yQ hp0, hosc]; rfl
    have hnb := (uU hS hiz (r + 1)).1; have hnz : 0 ≤ (orb (hs.map Hd.p) (i : Int) (r + 1)) := by rw [hosc] at hnb ⊢; have : ¬ (hs.getD (orb (hs.map Hd.p) (i : Int) r).toNat default).p.2.2.1 = -1 := hp0; omega
    refine j3 (g6 (i1 ?_)); refine G1 (og2 ++ og) ([]) (by rw [List.append_nil]) 7 [6, 3] mixed (by decide) (by decide) (by decide) rfl rfl rfl ?_; refine l3 (fun w1 => a8 rfl (q_z rfl)) (l3 (fun w1 => a8 rfl (q_z rfl)) ?_); refine V0 ⟨Nat, fun _ => True, fun g => .slice (b8 g) 1 1, fun g => [Row (b8 g) (rows [(orb (hs.map Hd.p) (i : Int) r)])]⟩ rfl rfl rfl ?_ ?_
    ·intro w1; refine j4 _ rfl rfl (fun _ => T.v0 ..) fun gS => ?_; refine b3 ?_; refine U3 (rows [(orb (hs.map Hd.p) (i : Int) r)]) (List.prefix_refl _) ?_; exact H2 gS trivial rfl ⟨m0, trivial⟩
    refine iX ⟨OutC × Hp, fun x => Grow T.int 1 x.1.1 (pthN (hs.map Hd.p) (i : Int) (r + 1)).length x.1.2 (rows (pthN (hs.map Hd.p) (i : Int) (r + 1))) x.2, fun x => .slice x.1.1 (pthN (hs.map Hd.p) (i : Int) (r + 1)).length x.1.2, fun _ => [], fun x => x.2 ++ og⟩ rfl rfl rfl ?_ ?_
    ·intro g9 _; intro w1; refine B6 ((pthN (hs.map Hd.p) (i : Int) r).length + 1) (rows ((pthN (hs.map Hd.p) (i : Int) r) ++ [(orb (hs.map Hd.p) (i : Int) r)])) T.iO rfl rfl rfl hG2 (hp' := og) j5 (Src.row (news := rows [(orb (hs.map Hd.p) (i : Int) r)]) (m := 1) m0 rfl (A9 _) (by decide)) rfl (s9 _ _).symm (by unfold maxLen; omega) (by omega) fun A' c' og' hG' => ?_; refine b3 ?_; exact G4 ((A', c'), og') (by show Grow _ _ _ _ _ (rows _) _; rw [hpsc, List.length_append]; exact hG') (fun _ => by rw [hpsc, List.length_append]; rfl) (List.Sublist.refl _) trivial
    apply n6 _ rfl rfl rfl
    ·intro w1
     first | refine a7 ⟨_, 0, none⟩ rfl rfl T.B0 rfl ?_ | refine a7 _ rfl rfl T.B0 rfl ?_
     refine b3 ?_; exact j7 rfl
    apply n6 _ rfl rfl rfl
    ·intro w1
     first | refine a6 rfl T.b2 rfl (d8 mB rfl) ?_ | refine a6 rfl T.b2 rfl (h9 mB rfl) ?_ | refine a6 rfl T.b2 rfl (d3 mB (b4 (by omega) rfl)) ?_ | refine a6 rfl T.b2 rfl (d1 mB (rows_get (by omega) rfl)) ?_ | refine a6 rfl T.b2 rfl (d7 mB rfl) ?_
     refine b3 ?_; exact j7 rfl
    refine iX ⟨OutC × Hp, fun x => Grow T.int 1 x.1.1 (pthN (hs.map Hd.p) (i : Int) (r + 1)).length x.1.2 (rows (pthN (hs.map Hd.p) (i : Int) (r + 1))) x.2, fun x => .slice x.1.1 (pthN (hs.map Hd.p) (i : Int) (r + 1)).length x.1.2, fun _ => [], fun x => x.2 ++ og⟩ rfl rfl rfl ?_ ?_
    ·intro x hx; intro w1; refine b7 rfl (b3 ?_); exact G4 x hx (fun _ => rfl) (List.Sublist.refl _) trivial
    refine w5 ⟨rfl, ?_⟩; clear hG2; intro _ _ _ _ x6 hG2; obtain ⟨⟨da, dc⟩, og2⟩ := x6; simp only at hG2; refine b7 rfl (j8 (a8 rfl (a8 rfl (G0 rfl rfl rfl (d9 ?_)))))
    first | refine k8 rfl (fun hb4 => ?_) (fun hb4 => ?_) | refine i5 rfl (fun hb4 => ?_) (fun hb4 => ?_)
    ·have hb4' := hb4; try simp at hb4'
     rw [hse] at hb4; refine n2 (kV rfl (t4 (n1 ?_))); exact w4 _ ((r + 1, (orb (hs.map Hd.p) (i : Int) (r + 1))), (da, dc), og2) ⟨.inl ⟨hb4, by show 1 ≤ r + 1; omega, hb4, fun j h1 h2 => hne j h1 (by have h2 : j < r + 1 := h2; omega)⟩, by show r + 1 ≤ hs.length; omega, hG2⟩ ⟨rfl, rfl, rfl, rfl, rfl, rfl, congrArg (fun z : Int => some (int z)) hse, trivial⟩ (by first | exact List.Sublist.refl _ | (rw [List.append_nil]; exact List.Sublist.refl _)) mC
    have hb4' := hb4; try simp at hb4'
    rw [hse] at hb4; refine j3 (n9 (g6 (b9 ?_))); refine q9 _ rfl rfl rfl rfl n5 ?_; refine a8 rfl (b3 ?_); exact again _ (r + 1, (da, dc), og2) ⟨by show r + 1 ≤ hs.length; omega, hG2, hnz, fun j h1 h2 => by rcases Nat.lt_or_ge r j with h3 | h3; rw [show j = r + 1 by have h2 : j ≤ r + 1 := h2; omega]; exact hb4; exact hne j h1 h3⟩ (r6 (by omega)) ⟨rfl, rfl, rfl, rfl, rfl, rfl, congrArg (fun z : Int => some (int z)) hse, rfl, rfl, trivial⟩ (by first | exact List.Sublist.refl _ | (rw [List.append_nil]; exact List.Sublist.refl _)) mC
   have hb2' := hb2; try simp at hb2'
   obtain rfl : r = hs.length := by omega
   refine n2 (t4 (n1 ?_)); exact w4 _ ((hs.length, (orb (hs.map Hd.p) (i : Int) hs.length)), (da, dc), og2) ⟨.inr ⟨.inr (hne hs.length (by omega) (Nat.le_refl _)), fun j h1 h2 => hne j h1 (by omega)⟩, Nat.le_refl _, hG2⟩ mC (List.Sublist.refl _) mC
  intro x hx; obtain ⟨⟨m, z⟩, ⟨A2, c2⟩, og2⟩ := x; obtain ⟨hcz, hm6, hG2⟩ := hx; simp only at hcz hm6 hG2; have hpm := aq0 (hs.map Hd.p) (i : Int) m; refine i1 (i4 (a8 rfl ?_)); refine k4 rfl T.s5 rfl ?_; refine G0 rfl rfl rfl (a8 rfl ?_); refine m6 rfl rfl ?_ ?_
  ·intro hg1; have hg1' := hg1; try simp at hg1'
   have hg0 : (decide ((((pthN (hs.map Hd.p) (i : Int) m).length : Nat) : Int) = 0) == false) = true := hg1; have hm0 : ¬ m = 0 := by have := of_decide_eq_false (eq_of_beq hg0); omega
   refine i3 rfl rfl hg1 (a8 rfl (i3 rfl rfl hg1 (a8 rfl (i3 rfl rfl hg1 (t3 rfl rfl rfl ?_))))); refine p_f rfl rfl (bf1 hg1) rfl (a8 rfl ?_); refine m6 rfl rfl ?_ ?_
   ·intro hg2; have hg2' := hg2; try simp at hg2'
    have hg0 : (decide (¬ z = (i : Int)) == false) = true := hg2; have hzi : z = (i : Int) := Classical.not_not.1 (of_decide_eq_false (eq_of_beq hg0)); have hcy := (hcz.resolve_right (fun e => e.1.elim hm0 (fun e2 => e2 hzi))).2; have hat := cirI_at hS hiz hcy; refine i3 rfl rfl hg2 (a8 rfl (i3 rfl rfl hg2 ?_)); refine d5 (hpR := og) F.nD rfl rfl (jF (pthN (hs.map Hd.p) (i : Int) m) og2 hG2 (by omega) (by omega)) j5 trivial fun zl hzl => ?_; refine i3 rfl rfl hg2 (a8 rfl (i3 rfl rfl hg2 (t3 rfl rfl rfl ?_))); refine p_f rfl rfl (bf1 hg2) rfl ?_; refine d9 ?_
    first | refine k8 rfl (fun hb5 => ?_) (fun hb5 => ?_) | refine i5 rfl (fun hb5 => ?_) (fun hb5 => ?_)
    ·have hb5' := hb5; try simp at hb5'
     have hmn : ¬ minB (i : Int) (pthN (hs.map Hd.p) (i : Int) m) = true := fun e => hb5 ((ij5 hcy hzl.1 hzl.2).2 e); rw [if_neg hmn] at hat; refine n2 (H5 (n1 (g6 (b9 ?_)))); refine q9 _ rfl rfl rfl rfl n5 ?_; refine a8 rfl (b3 ?_); have hn := lP (hs.map Hd.p) i; rw [show cirI (hs.map Hd.p) (i : Int) = none from hat, Option.toList_none, List.append_nil] at hn; exact again _ (i + 1, ps, (na, nc), og) ⟨by show i + 1 ≤ hs.length; omega, hG, by show lsts ps = _; rw [hps, hn]⟩ (r6 (by omega)) mC (List.sublist_append_right _ _) mC
    have hb5' := hb5; try simp at hb5'
    have hmn : minB (i : Int) (pthN (hs.map Hd.p) (i : Int) m) = true := (ij5 hcy hzl.1 hzl.2).1 (Classical.not_not.1 hb5); rw [if_pos hmn] at hat; refine j3 (g6 (i4 (a8 rfl ?_))); refine d5 (hpR := og) F.mF rfl rfl (hZ (pthN (hs.map Hd.p) (i : Int) m) og2 hG2 (by omega)) j5 trivial fun x hx => ?_; clear hG2; obtain ⟨sl, og3⟩ := x; obtain ⟨⟨hsp, hss⟩, hG3⟩ := hx; simp only at hsp hss hG3; have hsl : sl = (cirL (hs.map Hd.p) (i : Int) m) := jj9 hS hiz hcy hsp (List.pairwise_iff_getElem.2 fun p q hp hq hpq => by have h1 := hss p q hpq hq; unfold iat at h1; rw [u9 hp, u9 hq] at h1; exact Int.not_lt.1 h1); have hsn : (pthN (hs.map Hd.p) (i : Int) m).length = (cirL (hs.map Hd.p) (i : Int) m).length := by rw [← hsl]; exact hsp.length_eq.symm
    subst hsl; have hG3c := hG3.le; refine rE hG3 (d9 (b9 (a8 rfl (a8 rfl ?_)))); refine j4 _ rfl rfl (fun _ => T.iR ..) fun gS => ?_; refine n0 (rows [(⟨A2, c2, (cirL (hs.map Hd.p) (i : Int) m)⟩ : Sl Int)]) (by show [Value.slice A2 (cirL (hs.map Hd.p) (i : Int) m).length c2] <+: [Value.slice A2 (pthN (hs.map Hd.p) (i : Int) m).length c2]; rw [hsn]; exact List.prefix_refl _) ?_; refine B6 (ps.length + 1) (rows (ps ++ [(⟨A2, c2, (cirL (hs.map Hd.p) (i : Int) m)⟩ : Sl Int)])) T.ax9 rfl rfl rfl hG (hp' := []) (by first | (rw [List.append_nil]; done) | (rw [List.append_nil]; exact List.Perm.refl _)) (Src.row (news := rows [(⟨A2, c2, (cirL (hs.map Hd.p) (i : Int) m)⟩ : Sl Int)]) (m := 1) m0 rfl (A9 _) (by decide)) rfl (s9 _ _).symm (by unfold maxLen; omega) (by omega) fun A' c' og' hG' => ?_; refine b7 rfl (b3 (n9 (g6 (b9 ?_)))); refine q9 _ rfl rfl rfl rfl n5 ?_; refine a8 rfl (b3 ?_); have hn := lP (hs.map Hd.p) i; rw [hat] at hn; refine O3 (kU (ps := ps) (f := (fun p : Sl Int => Row p.a (rows p.l))) (p := (⟨A2, c2, (cirL (hs.map Hd.p) (i : Int) m)⟩ : Sl Int)) mB mB) ?_; exact again _ (i + 1, ps ++ [(⟨A2, c2, (cirL (hs.map Hd.p) (i : Int) m)⟩ : Sl Int)], (A', c'), og') ⟨by show i + 1 ≤ hs.length; omega, by show Grow _ _ _ (ps ++ [_]).length _ _ _; rw [List.length_append]; exact hG', by show lsts (ps ++ [_]) = _; rw [hn, lsts, List.map_append, ← hps]; rfl⟩ (r6 (by omega)) ⟨rfl, by show some (Value.slice A' (ps.length + 1) c') = some (Value.slice A' (ps ++ [_]).length c'); rw [List.length_append]; rfl, rfl, rfl, trivial⟩ (List.sublist_append_left _ _) mC
   intro hg2; have hg2' := hg2; try simp at hg2'
   have hg0 : (decide (¬ z = (i : Int)) == false) = false := hg2; have hzi : ¬ z = (i : Int) := Classical.byContradiction fun e => by rw [decide_eq_false e] at hg0; cases hg0
   have hno := dj1 (hcz.resolve_left (fun e => hzi e.1)).2; refine q7 rfl rfl rfl rfl rfl hg2 (q7 rfl rfl rfl rfl rfl hg2 (q7 rfl rfl rfl rfl rfl hg2 (q7 rfl rfl rfl rfl rfl hg2 ?_))); refine p_t rfl rfl (bt2 hg2) rfl ?_; refine d9 (c_t rfl rfl (n2 (H5 (n1 (g6 (b9 ?_)))))); refine q9 _ rfl rfl rfl rfl n5 ?_; refine a8 rfl (b3 ?_); have hn := lP (hs.map Hd.p) i; rw [show cirI (hs.map Hd.p) (i : Int) = none from hno, Option.toList_none, List.append_nil] at hn; exact again _ (i + 1, ps, (na, nc), og) ⟨by show i + 1 ≤ hs.length; omega, hG, by show lsts ps = _; rw [hps, hn]⟩ (r6 (by omega)) mC (List.sublist_append_right _ _) mC
  intro hg1; have hg1' := hg1; try simp at hg1'
  have hg0 : (decide ((((pthN (hs.map Hd.p) (i : Int) m).length : Nat) : Int) = 0) == false) = false := hg1; have hm1 : (((pthN (hs.map Hd.p) (i : Int) m).length : Nat) : Int) = 0 := Classical.byContradiction fun e => by rw [decide_eq_false e] at hg0; cases hg0
  have hm0 : m = 0 := by omega
  refine q7 rfl rfl rfl rfl rfl hg1 (q7 rfl rfl rfl rfl rfl hg1 (q7 rfl rfl rfl rfl rfl hg1 ?_)); refine p_t rfl rfl (bt2 hg1) rfl ?_; refine a8 rfl (q7 rfl rfl rfl rfl rfl rfl (q7 rfl rfl rfl rfl rfl rfl (q7 rfl rfl rfl rfl rfl rfl (q7 rfl rfl rfl rfl rfl rfl (p_t rfl rfl rfl rfl (d9 (c_t rfl rfl (n2 (H5 (n1 ?_)))))))))); refine g6 (b9 ?_); refine q9 _ rfl rfl rfl rfl n5 ?_; refine a8 rfl (b3 ?_); have hn := lP (hs.map Hd.p) i; rw [show cirI (hs.map Hd.p) (i : Int) = none from dj1 (hcz.resolve_left (fun e => by have := e.2.1; omega)).2, Option.toList_none, List.append_nil] at hn; exact again _ (i + 1, ps, (na, nc), og) ⟨by show i + 1 ≤ hs.length; omega, hG, by show lsts ps = _; rw [hps, hn]⟩ (r6 (by omega)) mC (List.sublist_append_right _ _) mC
 have hb1' := hb1; try simp at hb1'
 obtain rfl : i = hs.length := by omega
 refine n2 (t4 (n1 (g6 (i4 (a8 rfl (b7 rfl (d9 (k5 ?_)))))))); refine Q4 hG (X0 (A := na) (ps := ps) mB mB ?_); exact ret1 (ps, (na, nc)) rfl rfl rfl hps nil_sb ⟨m0, trivial⟩
end Go.Proofs.YtfhninnleacgiaaGreat
end
section
namespace Go.Proofs.YtfhninnleacgiaaGreat
open Go Go.W
set_option maxRecDepth 20000
attribute [local irreducible] HL HC HQ HB Row Rows2 Blk Facts
abbrev Td := Sl Cl × Sl Hd
instance : El Td where
  default := (⟨none, 0, []⟩, ⟨none, 0, []⟩)
  cells m := [.slice m.1.a m.1.l.length m.1.c, .slice m.2.a m.2.l.length m.2.c]
  sz := 2
  len _ := rfl
  one a u h := by simp at h; rcases h with h | h <;> subst h <;> rfl
abbrev Td.row (d : Td) : Fact := Facts [Row d.1.a (rows d.1.l), RowsF d.2.a d.2.l Hd.row]
structure TdOK (d : Td) : Prop where
  a : d.1.l.length ≤ d.1.c
  b : d.2.l.length ≤ d.2.c
  c : d.1.l.length ≤ 20
  h : d.2.l.length ≤ 20
  ha : ∀ h ∈ d.2.l, h.2.2.2.l.length ≤ 1000000
  wc : ∀ x ∈ d.1.l, x.1.length ≤ 1000
  wh : ∀ h ∈ d.2.l, h.1.length ≤ 1000
set_option maxHeartbeats 1000000 in
theorem pB {A B A2 B2 : Option Addr} {ca cb ca2 cb2 : Nat} (cs : List Cl) (hs hs2 : List Hd) (hp : hs2.map Hd.p = hs.map Hd.p) (hc : cs.length ≤ 1000) (hh : hs.length ≤ 1000) (ha : ∀ h ∈ hs, h.2.2.2.l.length ≤ 1000000) : Meets Tryz.prog F.aP [.agg #[.slice A cs.length ca, .slice B hs.length cb], .agg #[.slice A2 cs.length ca2, .slice B2 hs2.length cb2]] { LI := [Row A (rows cs), RowsF B hs Hd.row, Row A2 (rows cs), RowsF B2 hs2 Hd.row], val := fun _ : Unit => .bool true } := by
 refine i7 F.vE rfl p7 fun w0 => ?_; refine i4 ?_; refine E5 rfl rfl fun gB => ?_; refine E5 rfl rfl fun gC => ?_; refine b7 rfl (d9 (bY ?_)); have hl := p_len hp; refine D9 (D9 (b9 ?_))
 first | refine a7 ⟨_, 0, none⟩ rfl rfl T.k0 rfl ?_ | refine a7 _ rfl rfl T.k0 rfl ?_
 first | refine a6 rfl T.b5 rfl (h9 mB rfl) ?_ | refine a6 rfl T.b5 rfl (d8 mB rfl) ?_ | refine a6 rfl T.b5 rfl (d3 mB (b4 (by omega) rfl)) ?_ | refine a6 rfl T.b5 rfl (d1 mB (rows_get (by omega) rfl)) ?_ | refine a6 rfl T.b5 rfl (d7 mB rfl) ?_
 refine k4 rfl T.p8 rfl ?_
 first | refine a7 ⟨_, 0, none⟩ rfl rfl T.k0 rfl ?_ | refine a7 _ rfl rfl T.k0 rfl ?_
 first | refine a6 rfl T.b5 rfl (h9 mB rfl) ?_ | refine a6 rfl T.b5 rfl (d8 mB rfl) ?_ | refine a6 rfl T.b5 rfl (d3 mB (b4 (by omega) rfl)) ?_ | refine a6 rfl T.b5 rfl (d1 mB (rows_get (by omega) rfl)) ?_ | refine a6 rfl T.b5 rfl (d7 mB rfl) ?_
 refine k4 rfl T.p8 rfl ?_; refine t3 rfl rfl rfl (a8 rfl ?_); refine m6 rfl rfl ?_ ?_
 ·intro hg1; have hg1' := hg1; try simp at hg1'
  refine i3 rfl rfl hg1 ?_
  first | refine a7 ⟨_, 1, none⟩ rfl rfl T.j0 rfl ?_ | refine a7 _ rfl rfl T.j0 rfl ?_
  refine i3 rfl rfl hg1 ?_
  first | refine a6 rfl T.a9 rfl (h9 mB rfl) ?_ | refine a6 rfl T.a9 rfl (d8 mB rfl) ?_ | refine a6 rfl T.a9 rfl (d3 mB (b4 (by omega) rfl)) ?_ | refine a6 rfl T.a9 rfl (d1 mB (rows_get (by omega) rfl)) ?_ | refine a6 rfl T.a9 rfl (d7 mB rfl) ?_
  refine i3 rfl rfl hg1 (k4 rfl T.m9 rfl (i3 rfl rfl hg1 ?_))
  first | refine a7 ⟨_, 1, none⟩ rfl rfl T.j0 rfl ?_ | refine a7 _ rfl rfl T.j0 rfl ?_
  refine i3 rfl rfl hg1 ?_
  first | refine a6 rfl T.a9 rfl (h9 mB rfl) ?_ | refine a6 rfl T.a9 rfl (d8 mB rfl) ?_ | refine a6 rfl T.a9 rfl (d3 mB (b4 (by omega) rfl)) ?_ | refine a6 rfl T.a9 rfl (d1 mB (rows_get (by omega) rfl)) ?_ | refine a6 rfl T.a9 rfl (d7 mB rfl) ?_
  refine i3 rfl rfl hg1 (k4 rfl T.m9 rfl ?_); refine i3 rfl rfl hg1 (t3 rfl rfl rfl ?_); refine p_f rfl rfl (bf1 hg1) rfl ?_; refine d9 ?_
  first | refine k8 rfl (fun hb1 => ?_) (fun hb1 => ?_) | refine i5 rfl (fun hb1 => ?_) (fun hb1 => ?_)
  ·exact absurd (by omega) hb1
  have hb1' := hb1; try simp at hb1'
  refine j3 (g6 (i1 (i4 (b7 rfl (d9 (i9 ?_)))))); refine p6 (β := Nat) ⟨fun k => k ≤ cs.length, fun k => [(2, .pointer (b8 gB)), (3, .pointer (b8 gC)), (5, int k)], fun _ => [], fun _ => [Blk gC (.cells #[.slice A2 cs.length ca2, .slice B2 hs2.length cb2] T.i2 (0, 0)), Blk gB (.cells #[.slice A cs.length ca, .slice B hs.length cb] T.i2 (0, 0)), Row A (rows cs), RowsF B hs Hd.row, Row A2 (rows cs), RowsF B2 hs2 Hd.row]⟩ (fun k => cs.length - k) 0 (Nat.zero_le _) mC nil_sb mC fun k hk => ?_; simp only at hk; refine i1 (i4 (a8 rfl ?_))
  first | refine a7 ⟨_, 0, none⟩ rfl rfl T.k0 rfl ?_ | refine a7 _ rfl rfl T.k0 rfl ?_
  first | refine a6 rfl T.b5 rfl (h9 mB rfl) ?_ | refine a6 rfl T.b5 rfl (d8 mB rfl) ?_ | refine a6 rfl T.b5 rfl (d3 mB (b4 (by omega) rfl)) ?_ | refine a6 rfl T.b5 rfl (d1 mB (rows_get (by omega) rfl)) ?_ | refine a6 rfl T.b5 rfl (d7 mB rfl) ?_
  refine k4 rfl T.p8 rfl ?_; refine t7 rfl rfl rfl (d9 ?_)
  first | refine k8 rfl (fun hb2 => ?_) (fun hb2 => ?_) | refine i5 rfl (fun hb2 => ?_) (fun hb2 => ?_)
  ·have hb2' := hb2; try simp at hb2'
   have hk2 : k < cs.length := by omega
   refine j3 (g6 (i1 (i9 (i1 ?_)))); refine C8 10 mixed (by decide) (by decide) rfl rfl ?_
   apply n6 _ rfl rfl rfl
   ·intro w1
    first | refine a7 ⟨_, 0, none⟩ rfl rfl T.k0 rfl ?_ | refine a7 _ rfl rfl T.k0 rfl ?_
    refine b3 ?_; exact j7 rfl
   apply n6 _ rfl rfl rfl
   ·intro w1
    first | refine a6 rfl T.b5 rfl (d8 mB rfl) ?_ | refine a6 rfl T.b5 rfl (h9 mB rfl) ?_ | refine a6 rfl T.b5 rfl (d3 mB (b4 (by omega) rfl)) ?_ | refine a6 rfl T.b5 rfl (d1 mB (rows_get (by omega) rfl)) ?_ | refine a6 rfl T.b5 rfl (d7 mB rfl) ?_
    refine b3 ?_; exact j7 rfl
   refine l3 (fun w1 => a8 rfl (q_z rfl)) (l3 (fun w1 => r9 (α := Cl) cs k rfl T.p8 T.t5 rfl rfl rfl mB rfl hk2 (by decide) (q_z rfl)) (l3 (fun w1 => q6 rfl T.K6 T.t5 rfl rfl (m7 mB (n7 (by omega))) (q_z rfl)) ?_))
   apply n6 _ rfl rfl rfl
   ·intro w1
    first | refine a7 ⟨_, 0, none⟩ rfl rfl T.k0 rfl ?_ | refine a7 _ rfl rfl T.k0 rfl ?_
    refine b3 ?_; exact j7 rfl
   apply n6 _ rfl rfl rfl
   ·intro w1
    first | refine a6 rfl T.b5 rfl (d8 mB rfl) ?_ | refine a6 rfl T.b5 rfl (h9 mB rfl) ?_ | refine a6 rfl T.b5 rfl (d3 mB (b4 (by omega) rfl)) ?_ | refine a6 rfl T.b5 rfl (d1 mB (rows_get (by omega) rfl)) ?_ | refine a6 rfl T.b5 rfl (d7 mB rfl) ?_
    refine b3 ?_; exact j7 rfl
   refine l3 (fun w1 => a8 rfl (q_z rfl)) (l3 (fun w1 => r9 (α := Cl) cs k rfl T.p8 T.t5 rfl rfl rfl mB rfl hk2 (by decide) (q_z rfl)) (l3 (fun w1 => q6 rfl T.K6 T.t5 rfl rfl (m7 mB (n7 (by omega))) (q_z rfl)) ?_)); refine w5 ⟨rfl, ?_⟩; refine n3 _ rfl rfl rfl (fun _ => T.wU ..) (fun _ => T.wN ..) ?_; refine d9 ?_
   first | refine k8 rfl (fun hb3 => ?_) (fun hb3 => ?_) | refine i5 rfl (fun hb3 => ?_) (fun hb3 => ?_)
   ·exact absurd rfl hb3
   have hb3' := hb3; try simp at hb3'
   refine j3 (n9 (g6 (b9 (a8 rfl ?_)))); refine q9 _ rfl rfl rfl rfl n5 ?_; refine b7 rfl (b3 ?_); exact again _ (k + 1) (by show k + 1 ≤ cs.length; omega) (r6 (by omega)) mC nil_sb mC
  have hb2' := hb2; try simp at hb2'
  refine n2 (t4 (n1 (g6 (i1 (i4 (b7 rfl (d9 (i9 ?_)))))))); refine J4 (ps := hs) (A := B) (f := Hd.row) mB (J4 (ps := hs2) (A := B2) (f := Hd.row) mB ?_); refine p6 (β := Nat) ⟨fun k => k ≤ hs.length, fun k => [(2, .pointer (b8 gB)), (3, .pointer (b8 gC)), (6, int k)], fun _ => [], fun _ => [Row B2 (rows hs2), Row B (rows hs), Blk gC (.cells #[.slice A2 cs.length ca2, .slice B2 hs2.length cb2] T.i2 (0, 0)), Blk gB (.cells #[.slice A cs.length ca, .slice B hs.length cb] T.i2 (0, 0)), Row A (rows cs), RowsF B hs Hd.row, Row A2 (rows cs), RowsF B2 hs2 Hd.row]⟩ (fun k => hs.length - k) 0 (Nat.zero_le _) mC nil_sb mC fun k hk => ?_; simp only at hk; refine i1 (i4 (a8 rfl ?_))
  first | refine a7 ⟨_, 1, none⟩ rfl rfl T.j0 rfl ?_ | refine a7 _ rfl rfl T.j0 rfl ?_
  first | refine a6 rfl T.a9 rfl (h9 mB rfl) ?_ | refine a6 rfl T.a9 rfl (d8 mB rfl) ?_ | refine a6 rfl T.a9 rfl (d3 mB (b4 (by omega) rfl)) ?_ | refine a6 rfl T.a9 rfl (d1 mB (rows_get (by omega) rfl)) ?_ | refine a6 rfl T.a9 rfl (d7 mB rfl) ?_
  refine k4 rfl T.m9 rfl ?_; refine t7 rfl rfl rfl (d9 ?_)
  first | refine k8 rfl (fun hb4 => ?_) (fun hb4 => ?_) | refine i5 rfl (fun hb4 => ?_) (fun hb4 => ?_)
  ·have hb4' := hb4; try simp at hb4'
   have hk2 : k < hs.length := by omega
   have hk3 : k < hs2.length := by omega
   have he := p_at hp hk3; have e1 : (hs.getD k default).1 = (hs2.getD k default).1 := (congrArg (fun q : PH => q.1) he).symm; have e2 : (hs.getD k default).2.1 = (hs2.getD k default).2.1 := (congrArg (fun q : PH => q.2.1) he).symm; have e3 : (hs.getD k default).2.2.1 = (hs2.getD k default).2.2.1 := (congrArg (fun q : PH => q.2.2.1) he).symm; have e4 : (hs.getD k default).2.2.2.l = (hs2.getD k default).2.2.2.l := (congrArg (fun q : PH => q.2.2.2) he).symm; have hal := ha _ (s6 hk2); refine j3 (g6 (i1 (i9 (i1 ?_)))); refine G1 ([]) ([]) j5 13 [12, 10] mixed (by decide) (by decide) (by decide) rfl rfl rfl ?_
   apply n6 _ rfl rfl rfl
   ·intro w1
    first | refine a7 ⟨_, 1, none⟩ rfl rfl T.j0 rfl ?_ | refine a7 _ rfl rfl T.j0 rfl ?_
    refine b3 ?_; exact j7 rfl
   apply n6 _ rfl rfl rfl
   ·intro w1
    first | refine a6 rfl T.a9 rfl (d8 mB rfl) ?_ | refine a6 rfl T.a9 rfl (h9 mB rfl) ?_ | refine a6 rfl T.a9 rfl (d3 mB (b4 (by omega) rfl)) ?_ | refine a6 rfl T.a9 rfl (d1 mB (rows_get (by omega) rfl)) ?_ | refine a6 rfl T.a9 rfl (d7 mB rfl) ?_
    refine b3 ?_; exact j7 rfl
   refine l3 (fun w1 => a8 rfl (q_z rfl)) (l3 (fun w1 => r9 (α := Hd) hs k rfl T.m9 T.l8 rfl rfl rfl mB rfl hk2 (by decide) (q_z rfl)) (l3 (fun w1 => q6 rfl T.z7 T.l8 rfl rfl (m7 mB (n7 (by omega))) (q_z rfl)) ?_))
   apply n6 _ rfl rfl rfl
   ·intro w1
    first | refine a7 ⟨_, 1, none⟩ rfl rfl T.j0 rfl ?_ | refine a7 _ rfl rfl T.j0 rfl ?_
    refine b3 ?_; exact j7 rfl
   apply n6 _ rfl rfl rfl
   ·intro w1
    first | refine a6 rfl T.a9 rfl (d8 mB rfl) ?_ | refine a6 rfl T.a9 rfl (h9 mB rfl) ?_ | refine a6 rfl T.a9 rfl (d3 mB (b4 (by omega) rfl)) ?_ | refine a6 rfl T.a9 rfl (d1 mB (rows_get (by omega) rfl)) ?_ | refine a6 rfl T.a9 rfl (d7 mB rfl) ?_
    refine b3 ?_; exact j7 rfl
   refine l3 (fun w1 => a8 rfl (q_z rfl)) (l3 (fun w1 => r9 (α := Hd) hs2 k rfl T.m9 T.l8 rfl rfl rfl mB rfl hk3 (by decide) (q_z rfl)) (l3 (fun w1 => q6 rfl T.z7 T.l8 rfl rfl (m7 mB (n7 (by omega))) (q_z rfl)) ?_)); refine iX ⟨Nat, fun _ => True, fun g => .pointer (b8 g), fun _ => [], fun g => [(g, Obj.cells #[str [], int 0, int 0, .slice none 0 0] T.i8 (0, 0))]⟩ rfl rfl rfl ?_ ?_
   ·intro w1; refine r7 rfl (fun _ => T.D1 _) fun gA => ?_; refine b3 ?_; exact G4 gA trivial (fun _ => rfl) (List.Sublist.refl _) trivial
   refine hb_ad ⟨Nat, fun _ => True, fun g => .pointer (b8 g), fun _ => [], fun g => [(g, Obj.cells #[str [], int 0, int 0, .slice none 0 0] T.i8 (0, 0))]⟩ rfl rfl rfl ?_ ?_
   ·intro w1; refine r7 rfl (fun _ => T.D1 _) fun gA => ?_; refine b3 ?_; exact G4 gA trivial (fun _ => rfl) (List.Sublist.refl _) trivial
   refine hb_stL ⟨Nat, fun _ => True, fun _ => undef, fun _ => [], fun g => [(g, Obj.cells #[str (hs.getD k default).1, int (hs.getD k default).2.1, int (hs.getD k default).2.2.1, .slice (hs.getD k default).2.2.2.a (hs.getD k default).2.2.2.l.length (hs.getD k default).2.2.2.c] T.i8 (0, 0))]⟩ [(7, 0)] rfl rfl rfl ?_ ?_
   ·intro ρ; intro x7 hx7 hr7 _; intro w1; refine r4 (cs := #[str (hs.getD k default).1, int (hs.getD k default).2.1, int (hs.getD k default).2.2.1, .slice (hs.getD k default).2.2.2.a (hs.getD k default).2.2.2.l.length (hs.getD k default).2.2.2.c]) rfl rfl (.refl _) T.l8 (by rfl) (by rfl) ?_; refine b3 ?_; exact ql_done x7 trivial (fun h => by cases h) (fun p hp => by simp at hp; subst hp; exact hr7 rfl) (List.Sublist.refl _) trivial
   refine w5 ⟨rfl, ?_⟩; intro x7 _ x8 _ y7 _ hl7; obtain rfl : x7 = y7 := ptr_inj (hl7 (7, 0) (by simp) rfl _ rfl); refine U4 (hp' := [(x8, Obj.cells #[str [], int 0, int 0, .slice none 0 0] T.i8 (0, 0)), (x7, Obj.cells #[str (hs.getD k default).1, int (hs.getD k default).2.1, int (hs.getD k default).2.2.1, .slice (hs.getD k default).2.2.2.a (hs.getD k default).2.2.2.l.length (hs.getD k default).2.2.2.c] T.i8 (0, 0))]) (show List.Perm (([(x7, Obj.cells #[str (hs.getD k default).1, int (hs.getD k default).2.1, int (hs.getD k default).2.2.1, .slice (hs.getD k default).2.2.2.a (hs.getD k default).2.2.2.l.length (hs.getD k default).2.2.2.c] T.i8 (0, 0))] ++ ([(x8, Obj.cells #[str [], int 0, int 0, .slice none 0 0] T.i8 (0, 0))] ++ [])) ++ []) ([(x8, Obj.cells #[str [], int 0, int 0, .slice none 0 0] T.i8 (0, 0)), (x7, Obj.cells #[str (hs.getD k default).1, int (hs.getD k default).2.1, int (hs.getD k default).2.2.1, .slice (hs.getD k default).2.2.2.a (hs.getD k default).2.2.2.l.length (hs.getD k default).2.2.2.c] T.i8 (0, 0))]) from (D4 fun p => by simp only [List.countP_append, List.countP_cons, List.countP_nil]; omega)) ?_; refine r4 rfl rfl (by first | exact .refl _ | exact perm2 _ _ _ | exact perm3 _ _ _ _ | exact perm4 _ _ _ _ _) T.l8 (by rfl) (by rfl) ?_; refine d9 (i1 ?_); refine C4 (rows [(hs2.getD k default)]) ⟨[], List.append_nil _⟩ (C4 (rows [(hs.getD k default)]) ⟨[], List.append_nil _⟩ (aZ (p := (hs.getD k default)) (f := Hd.row) (ps := hs) mB (s6 hk2) (aZ (p := (hs2.getD k default)) (f := Hd.row) (ps := hs2) mB (s6 hk3) ?_))); refine b9 ?_
   first | refine a7 ⟨_, 0, none⟩ rfl rfl T.n8 rfl ?_ | refine a7 _ rfl rfl T.n8 rfl ?_
   first | refine a6 rfl T.j2 rfl (h9 mB rfl) ?_ | refine a6 rfl T.j2 rfl (d8 mB rfl) ?_ | refine a6 rfl T.j2 rfl (d3 mB (b4 (by omega) rfl)) ?_ | refine a6 rfl T.j2 rfl (d1 mB (rows_get (by omega) rfl)) ?_ | refine a6 rfl T.j2 rfl (d7 mB rfl) ?_
   first | refine a7 ⟨_, 0, none⟩ rfl rfl T.n8 rfl ?_ | refine a7 _ rfl rfl T.n8 rfl ?_
   first | refine a6 rfl T.j2 rfl (h9 mB rfl) ?_ | refine a6 rfl T.j2 rfl (d8 mB rfl) ?_ | refine a6 rfl T.j2 rfl (d3 mB (b4 (by omega) rfl)) ?_ | refine a6 rfl T.j2 rfl (d1 mB (rows_get (by omega) rfl)) ?_ | refine a6 rfl T.j2 rfl (d7 mB rfl) ?_
   refine rS rfl rfl rfl (a8 rfl ?_); refine m6 rfl rfl ?_ ?_
   ·intro hg2; have hg2' := hg2; try simp at hg2'
    refine i3 rfl rfl hg2 ?_
    first | refine a7 ⟨_, 1, none⟩ rfl rfl T.p9 rfl ?_ | refine a7 _ rfl rfl T.p9 rfl ?_
    refine i3 rfl rfl hg2 ?_
    first | refine a6 rfl T.b2 rfl (h9 mB rfl) ?_ | refine a6 rfl T.b2 rfl (d8 mB rfl) ?_ | refine a6 rfl T.b2 rfl (d3 mB (b4 (by omega) rfl)) ?_ | refine a6 rfl T.b2 rfl (d1 mB (rows_get (by omega) rfl)) ?_ | refine a6 rfl T.b2 rfl (d7 mB rfl) ?_
    refine i3 rfl rfl hg2 ?_
    first | refine a7 ⟨_, 1, none⟩ rfl rfl T.p9 rfl ?_ | refine a7 _ rfl rfl T.p9 rfl ?_
    refine i3 rfl rfl hg2 ?_
    first | refine a6 rfl T.b2 rfl (h9 mB rfl) ?_ | refine a6 rfl T.b2 rfl (d8 mB rfl) ?_ | refine a6 rfl T.b2 rfl (d3 mB (b4 (by omega) rfl)) ?_ | refine a6 rfl T.b2 rfl (d1 mB (rows_get (by omega) rfl)) ?_ | refine a6 rfl T.b2 rfl (d7 mB rfl) ?_
    refine i3 rfl rfl hg2 (t3 rfl rfl rfl ?_); refine p_f rfl rfl (bf1 hg2) rfl (a8 rfl ?_); refine m6 rfl rfl ?_ ?_
    ·intro hg3; have hg3' := hg3; try simp at hg3'
     refine i3 rfl rfl hg3 ?_
     first | refine a7 ⟨_, 2, none⟩ rfl rfl T.n4 rfl ?_ | refine a7 _ rfl rfl T.n4 rfl ?_
     refine i3 rfl rfl hg3 ?_
     first | refine a6 rfl T.b2 rfl (h9 mB rfl) ?_ | refine a6 rfl T.b2 rfl (d8 mB rfl) ?_ | refine a6 rfl T.b2 rfl (d3 mB (b4 (by omega) rfl)) ?_ | refine a6 rfl T.b2 rfl (d1 mB (rows_get (by omega) rfl)) ?_ | refine a6 rfl T.b2 rfl (d7 mB rfl) ?_
     refine i3 rfl rfl hg3 ?_
     first | refine a7 ⟨_, 2, none⟩ rfl rfl T.n4 rfl ?_ | refine a7 _ rfl rfl T.n4 rfl ?_
     refine i3 rfl rfl hg3 ?_
     first | refine a6 rfl T.b2 rfl (h9 mB rfl) ?_ | refine a6 rfl T.b2 rfl (d8 mB rfl) ?_ | refine a6 rfl T.b2 rfl (d3 mB (b4 (by omega) rfl)) ?_ | refine a6 rfl T.b2 rfl (d1 mB (rows_get (by omega) rfl)) ?_ | refine a6 rfl T.b2 rfl (d7 mB rfl) ?_
     refine i3 rfl rfl hg3 (t3 rfl rfl rfl ?_); refine p_f rfl rfl (bf1 hg3) rfl (a8 rfl ?_); refine m6 rfl rfl ?_ ?_
     ·intro hg4; have hg4' := hg4; try simp at hg4'
      refine i3 rfl rfl hg4 ?_
      first | refine a7 ⟨_, 3, none⟩ rfl rfl T.r0 rfl ?_ | refine a7 _ rfl rfl T.r0 rfl ?_
      refine i3 rfl rfl hg4 ?_
      first | refine a6 rfl T.k6 rfl (h9 mB rfl) ?_ | refine a6 rfl T.k6 rfl (d8 mB rfl) ?_ | refine a6 rfl T.k6 rfl (d3 mB (b4 (by omega) rfl)) ?_ | refine a6 rfl T.k6 rfl (d1 mB (rows_get (by omega) rfl)) ?_ | refine a6 rfl T.k6 rfl (d7 mB rfl) ?_
      refine i3 rfl rfl hg4 ?_
      first | refine a7 ⟨_, 3, none⟩ rfl rfl T.r0 rfl ?_ | refine a7 _ rfl rfl T.r0 rfl ?_
      refine i3 rfl rfl hg4 ?_
      first | refine a6 rfl T.k6 rfl (h9 mB rfl) ?_ | refine a6 rfl T.k6 rfl (d8 mB rfl) ?_ | refine a6 rfl T.k6 rfl (d3 mB (b4 (by omega) rfl)) ?_ | refine a6 rfl T.k6 rfl (d1 mB (rows_get (by omega) rfl)) ?_ | refine a6 rfl T.k6 rfl (d7 mB rfl) ?_
      refine i3 rfl rfl hg4 ?_; refine d5 F.B9 rfl rfl (N2 (hs.getD k default).2.2.2.l (hs2.getD k default).2.2.2.l (by omega)) j5 mC fun _ _ => ?_; refine i3 rfl rfl hg4 (B3 rfl rfl ?_); refine p_f rfl rfl (bf1 hg4) rfl ?_; refine d9 ?_
      first | refine k8 rfl (fun hb5 => ?_) (fun hb5 => ?_) | refine i5 rfl (fun hb5 => ?_) (fun hb5 => ?_)
      ·exfalso; first | exact hb5 e4 | (rw [e4] at hb5; simp at hb5)
      have hb5' := hb5; try simp at hb5'
      refine j3 (n9 (g6 (b9 (a8 rfl ?_)))); refine q9 _ rfl rfl rfl rfl n5 ?_; refine b7 rfl (b3 ?_); exact again _ (k + 1) (by show k + 1 ≤ hs.length; omega) (r6 (by omega)) mC nil_sb mC
     intro hg4; have hg4' := hg4; try simp at hg4'
     exfalso; rw [e3] at hg4; simp at hg4
    intro hg3; have hg3' := hg3; try simp at hg3'
    exfalso; rw [e2] at hg3; simp at hg3
   intro hg2; have hg2' := hg2; try simp at hg2'
   exfalso; rw [e1] at hg2; simp at hg2
  have hb4' := hb4; try simp at hb4'
  refine n2 (t4 (n1 (g6 (i4 (b7 rfl (d9 (k5 ?_))))))); exact ret1 () rfl rfl rfl trivial nil_sb trivial
 intro hg1; have hg1' := hg1; try simp at hg1'
end Go.Proofs.YtfhninnleacgiaaGreat
end
section
namespace Go.Proofs.YtfhninnleacgiaaGreat
open Go Go.W
set_option maxRecDepth 20000
attribute [local irreducible] HL HC HQ HB Row Rows2 Blk Facts
def askdE (t : Tr) (l1 l2 : List Int) : Int := if ¬ checkT t = 0 then checkT t else if l1.all (fun x => decide (0 ≤ x ∧ x ≤ (t.cs.length : Int) - 1)) then (if l2.all (fun x => decide (0 ≤ x ∧ x ≤ (t.hs.length : Int) - 1)) then 0 else 3) else 3
def lastC (p q : List Int) : Nat → Int
  | 0 => -1
  | k + 1 => if p.getD k default ∈ q then p.getD k default else lastC p q k
end Go.Proofs.YtfhninnleacgiaaGreat
end
section
namespace Go.Proofs.YtfhninnleacgiaaGreat
open Go Go.W
set_option maxRecDepth 20000
attribute [local irreducible] HL HC HQ HB Row Rows2 Blk Facts
theorem aK {A B : Option Addr} {ca cb : Nat} (cs : List Cl) (hs : List Hd) (hca : cs.length ≤ ca) (hcb : hs.length ≤ cb) (ha : ∀ h ∈ hs, h.2.2.2.l.length ≤ 1000000) : Meets Tryz.prog F.O1 [.agg #[.slice A cs.length ca, .slice B hs.length cb]] { LI := [Row A (rows cs), RowsF B hs Hd.row], inv := fun x : OutS => lsts x.1 = (circlesE (trOf cs hs)).1, val := fun x => .tuple #[.slice x.2.1 x.1.length x.2.2, int (circlesE (trOf cs hs)).2], LO := fun x => [Rows2 x.2.1 x.1] } := by
 refine i7 F.sY rfl p7 fun w0 => ?_; refine i4 ?_; refine E5 rfl rfl fun gB => ?_; refine b7 rfl (b7 rfl (d9 ?_)); refine B8 ⟨fun _ : Nat × OutC × OutC => True, fun x => [(1, .pointer (b8 gB)), (4, if checkT (trOf cs hs) = 0 then .pointer (some ⟨x.1, 0, none⟩) else .pointer none), (5, int (checkT (trOf cs hs)))], fun _ => [(gB, .cells #[.slice A cs.length ca, .slice B hs.length cb] T.i2 (0, 0))], fun x => (if checkT (trOf cs hs) = 0 then beginL cs hs A ca B cb x else []) ++ [Row A (rows cs), RowsF B hs Hd.row]⟩ ?_ ?_
 ·skip
  refine b9 ?_
  first | refine u6 rfl T.d6 T.d4 rfl mB (by rfl) ?_ | refine t9 rfl T.d6 T.d4 rfl mB (by rfl) ?_ | refine q6 rfl T.d6 T.d4 rfl rfl (m7 mB (n7 (by omega))) ?_
  refine d5 F.C6 rfl rfl (A7 cs hs hca hcb ha) j5 mC fun x _ => ?_; refine a8 rfl (i6 rfl rfl rfl (i6 rfl rfl rfl (b7 rfl (b7 rfl (b3 ?_))))); exact w4 _ x trivial mC (List.Sublist.refl _) (LSub.of_mem fun F h => h)
 refine fun x _ => ?_
 dsimp only
 refine i1 (i4 (a8 rfl (t3 rfl rfl rfl (d9 ?_))))
 first | refine k8 rfl (fun hb1 => ?_) (fun hb1 => ?_) | refine i5 rfl (fun hb1 => ?_) (fun hb1 => ?_)
 ·have hb1' := hb1; try simp at hb1'
  refine i4 (a8 rfl (b7 rfl (b7 rfl (d9 (P8 ?_))))); refine A4 (α := Sl Int) ?_; refine O3 (Fs := ([] : List (Sl Int)).map fun p => Row p.a (rows p.l)) (by intro F hF; simp at hF) ?_; refine X0 (A := none) (ps := ([] : List (Sl Int))) mB mB ?_; have hE : (circlesE (trOf cs hs)) = ([], checkT (trOf cs hs)) := by unfold circlesE; rw [if_pos hb1]
  exact ret2 (([] : List (Sl Int)), (none, 0)) rfl rfl rfl (by show Value.tuple #[.slice none 0 0, int ((circlesE (trOf cs hs))).2] = _; rw [hE]) rfl (by show [] = ((circlesE (trOf cs hs))).1; rw [hE]) nil_sb ⟨m0, trivial⟩
 have hb1' := hb1; try simp at hb1'
 have h0 := Classical.not_not.1 hb1; rw [if_pos h0, if_pos h0]; have hok := Y3 h0; have h6 : cs.length ≤ 6 := hok.c6; have h6h := hok.h6; rw [t0] at h6h; have hcl : ∀ i, i < cs.length → ClsOK cs i := hok.c; obtain ⟨gl, ⟨oa, oc⟩, ⟨ka, kc⟩⟩ := x; have hE : (circlesE (trOf cs hs)) = ((cirK (hs.map Hd.p) hs.length), 0) := by unfold circlesE; rw [if_neg hb1, t0]
 show HC _ _ _ _ _ [Row (b8 gl) [.slice A cs.length ca, .slice B hs.length cb, .slice oa cs.length oc, .slice ka hs.length kc], Row oa (rows (masksN cs cs.length)), Row ka (rows (kindsN hs hs.length)), Row A (rows cs), RowsF B hs Hd.row]; refine j3 (g6 (i4 (a8 rfl ?_))); refine d5 F.jE rfl rfl (cP (A := A) (B := B) (oa := oa) (ka := ka) (ca := ca) (cb := cb) (oc := oc) (kc := kc) (gl := gl) cs hs hok) j5 mC fun y hy => ?_; refine b7 rfl (b7 rfl (d9 (k5 ?_))); exact ret2 y rfl rfl rfl (by show Value.tuple #[.slice y.2.1 y.1.length y.2.2, int (circlesE (trOf cs hs)).2] = _; rw [hE]) rfl (by show lsts y.1 = (circlesE (trOf cs hs)).1; rw [hE]; exact hy) nil_sb ⟨m0, trivial⟩
end Go.Proofs.YtfhninnleacgiaaGreat
end
section
namespace Go.Proofs.YtfhninnleacgiaaGreat
open Go Go.W
set_option maxRecDepth 20000
attribute [local irreducible] HL HC HQ HB Row Rows2 Blk Facts
theorem iq7 (a b : Nat) : circlesE (trOf shopsC (shopsH a b)) = ([], 0) := by kernel_rfl
theorem iq6 (a b : Nat) : circlesE (trOf shopsC (shH5 a b)) = ([[1, 5]], 0) := by kernel_rfl
theorem jj6 (x : Nat × Nat × Nat × Nat) : Meets Tryz.prog F.P2 [.agg #[.slice (some ⟨x.1, 0, none⟩) 4 4, .slice (some ⟨x.2.1, 0, none⟩) 6 6], int 4, int 1] { LI := [Row (some ⟨x.1, 0, none⟩) (rows shopsC), RowsF (some ⟨x.2.1, 0, none⟩) (shopsH x.2.2.1 x.2.2.2) Hd.row], inv := fun y : OutS => lsts y.1 = [[4, 0], [4, 2]], val := fun y => .tuple #[.slice y.2.1 y.1.length y.2.2, int 0], LO := fun y => [Rows2 y.2.1 y.1] } := by
  have h := M6 (A := some ⟨x.1, 0, none⟩) (B := some ⟨x.2.1, 0, none⟩) (ca := 4) (cb := 6) shopsC (shopsH x.2.2.1 x.2.2.2) 4 1 (by decide) (Nat.le_refl 6) (by intro h hh; simp only [shopsH, List.mem_cons, List.not_mem_nil, or_false] at hh; rcases hh with rfl | rfl | rfl | rfl | rfl | rfl <;> first | decide | exact (show 1 ≤ 1000000 by decide)); rw [show joinE (trOf shopsC (shopsH x.2.2.1 x.2.2.2)) 4 1 = ([[4, 0], [4, 2]], 0) from iq5 _ _] at h; exact h
theorem jj5 (x : Nat × Nat × Nat × Nat) : Meets Tryz.prog F.P2 [.agg #[.slice (some ⟨x.1, 0, none⟩) 4 4, .slice (some ⟨x.2.1, 0, none⟩) 6 6], int 4, int 2] { LI := [Row (some ⟨x.1, 0, none⟩) (rows shopsC), RowsF (some ⟨x.2.1, 0, none⟩) (shopsH x.2.2.1 x.2.2.2) Hd.row], inv := fun y : OutS => lsts y.1 = [[4, 2]], val := fun y => .tuple #[.slice y.2.1 y.1.length y.2.2, int 0], LO := fun y => [Rows2 y.2.1 y.1] } := by
  have h := M6 (A := some ⟨x.1, 0, none⟩) (B := some ⟨x.2.1, 0, none⟩) (ca := 4) (cb := 6) shopsC (shopsH x.2.2.1 x.2.2.2) 4 2 (by decide) (Nat.le_refl 6) (by intro h hh; simp only [shopsH, List.mem_cons, List.not_mem_nil, or_false] at hh; rcases hh with rfl | rfl | rfl | rfl | rfl | rfl <;> first | decide | exact (show 1 ≤ 1000000 by decide)); rw [show joinE (trOf shopsC (shopsH x.2.2.1 x.2.2.2)) 4 2 = ([[4, 2]], 0) from iq4 _ _] at h; exact h
theorem jj8 (x : Nat × Nat × Nat × Nat) : Meets Tryz.prog F.O1 [.agg #[.slice (some ⟨x.1, 0, none⟩) 4 4, .slice (some ⟨x.2.1, 0, none⟩) 6 6]] { LI := [Row (some ⟨x.1, 0, none⟩) (rows shopsC), RowsF (some ⟨x.2.1, 0, none⟩) (shopsH x.2.2.1 x.2.2.2) Hd.row], inv := fun y : OutS => lsts y.1 = [], val := fun y => .tuple #[.slice y.2.1 y.1.length y.2.2, int 0], LO := fun y => [Rows2 y.2.1 y.1] } := by
  have h := aK (A := some ⟨x.1, 0, none⟩) (B := some ⟨x.2.1, 0, none⟩) (ca := 4) (cb := 6) shopsC (shopsH x.2.2.1 x.2.2.2)  (by decide) (Nat.le_refl 6) (by intro h hh; simp only [shopsH, List.mem_cons, List.not_mem_nil, or_false] at hh; rcases hh with rfl | rfl | rfl | rfl | rfl | rfl <;> first | decide | exact (show 1 ≤ 1000000 by decide)); rw [show circlesE (trOf shopsC (shopsH x.2.2.1 x.2.2.2)) = ([], 0) from iq7 _ _] at h; exact h
theorem dz1 (a b : Nat) : meansE (trOf shopsC (shopsH a b)) [98] 1 = (0, 8) := by kernel_rfl
theorem iq3 (a b : Nat) : joinE (trOf shopsC (shopsH a b)) 5 2 = ([], 11) := by kernel_rfl
theorem gq7 (x : Nat × Nat × Nat × Nat) : Meets Tryz.prog F.L8 [.agg #[.slice (some ⟨x.1, 0, none⟩) 4 4, .slice (some ⟨x.2.1, 0, none⟩) 6 6], str [98], int 1] { LI := [Row (some ⟨x.1, 0, none⟩) (rows shopsC), RowsF (some ⟨x.2.1, 0, none⟩) (shopsH x.2.2.1 x.2.2.2) Hd.row], val := fun _ : Unit => .tuple #[int 0, int 8] } := by
  have h := L4 (A := some ⟨x.1, 0, none⟩) (B := some ⟨x.2.1, 0, none⟩) (ca := 4) (cb := 6) shopsC (shopsH x.2.2.1 x.2.2.2) [98] 1 (by decide) (Nat.le_refl 6) (by intro h hh; simp only [shopsH, List.mem_cons, List.not_mem_nil, or_false] at hh; rcases hh with rfl | rfl | rfl | rfl | rfl | rfl <;> first | decide | exact (show 1 ≤ 1000000 by decide)); rw [show meansE (trOf shopsC (shopsH x.2.2.1 x.2.2.2)) [98] 1 = (0, 8) from dz1 _ _] at h; exact h
theorem jj4 (x : Nat × Nat × Nat × Nat) : Meets Tryz.prog F.P2 [.agg #[.slice (some ⟨x.1, 0, none⟩) 4 4, .slice (some ⟨x.2.1, 0, none⟩) 6 6], int 5, int 2] { LI := [Row (some ⟨x.1, 0, none⟩) (rows shopsC), RowsF (some ⟨x.2.1, 0, none⟩) (shopsH x.2.2.1 x.2.2.2) Hd.row], inv := fun y : OutS => lsts y.1 = [], val := fun y => .tuple #[.slice y.2.1 y.1.length y.2.2, int 11], LO := fun y => [Rows2 y.2.1 y.1] } := by
  have h := M6 (A := some ⟨x.1, 0, none⟩) (B := some ⟨x.2.1, 0, none⟩) (ca := 4) (cb := 6) shopsC (shopsH x.2.2.1 x.2.2.2) 5 2 (by decide) (Nat.le_refl 6) (by intro h hh; simp only [shopsH, List.mem_cons, List.not_mem_nil, or_false] at hh; rcases hh with rfl | rfl | rfl | rfl | rfl | rfl <;> first | decide | exact (show 1 ≤ 1000000 by decide)); rw [show joinE (trOf shopsC (shopsH x.2.2.1 x.2.2.2)) 5 2 = ([], 11) from iq3 _ _] at h; exact h
end Go.Proofs.YtfhninnleacgiaaGreat
end
section
namespace Go.Proofs.YtfhninnleacgiaaGreat
open Go Go.W
set_option maxRecDepth 20000
attribute [local irreducible] HL HC HQ HB Row Rows2 Blk Facts
theorem cq2 (a b : Nat) : shH2 a b = [([98, 97, 107, 101, 114], 1, -1, ⟨none, 0, []⟩), ([98, 111, 110, 110, 101, 116, 115], -1, 3, ⟨none, 0, []⟩), ([99, 111, 110, 102, 101, 99, 116, 105, 111, 110, 101, 114], 0, -1, ⟨some ⟨a, 0, none⟩, 1, [0]⟩), ([104, 97, 116, 116, 101, 114], 3, -1, ⟨none, 0, []⟩), ([109, 101, 114, 99, 101, 114], 2, -1, ⟨some ⟨b, 0, none⟩, 1, [3]⟩), ([109, 105, 108, 108, 105, 110, 101, 114], -1, 5, ⟨none, 0, []⟩)] := rfl
theorem shH2_ok (a b : Nat) : ∀ h ∈ shH2 a b, h.2.2.2.l.length ≤ 1000000 := by
  intro h hh; simp only [cq2, List.mem_cons, List.not_mem_nil, or_false] at hh
  rcases hh with rfl | rfl | rfl | rfl | rfl | rfl <;> simp
theorem cq1 (a b : Nat) : shH3 a b = [([98, 97, 107, 101, 114], 1, -1, ⟨none, 0, []⟩), ([98, 111, 110, 110, 101, 116, 115], -1, 3, ⟨none, 0, []⟩), ([99, 111, 110, 102, 101, 99, 116, 105, 111, 110, 101, 114], 0, -1, ⟨some ⟨a, 0, none⟩, 1, [0]⟩), ([109, 101, 114, 99, 101, 114], 2, -1, ⟨none, 0, []⟩), ([104, 97, 116, 116, 101, 114], 3, -1, ⟨none, 0, []⟩), ([109, 105, 108, 108, 105, 110, 101, 114], -1, 1, ⟨none, 0, []⟩)] := rfl
theorem shH3_ok (a b : Nat) : ∀ h ∈ shH3 a b, h.2.2.2.l.length ≤ 1000000 := by
  intro h hh; simp only [cq1, List.mem_cons, List.not_mem_nil, or_false] at hh
  rcases hh with rfl | rfl | rfl | rfl | rfl | rfl <;> simp
theorem cq0 (a b : Nat) : shH4 a b = [([98, 97, 107, 101, 114], 1, -1, ⟨none, 0, []⟩), ([98, 111, 110, 110, 101, 116, 115], 0, 3, ⟨none, 0, []⟩), ([99, 111, 110, 102, 101, 99, 116, 105, 111, 110, 101, 114], 0, -1, ⟨some ⟨a, 0, none⟩, 1, [0]⟩), ([104, 97, 116, 116, 101, 114], 3, -1, ⟨none, 0, []⟩), ([109, 101, 114, 99, 101, 114], 2, -1, ⟨some ⟨b, 0, none⟩, 1, [3]⟩), ([109, 105, 108, 108, 105, 110, 101, 114], -1, 1, ⟨none, 0, []⟩)] := rfl
theorem shH4_ok (a b : Nat) : ∀ h ∈ shH4 a b, h.2.2.2.l.length ≤ 1000000 := by
  intro h hh; simp only [cq0, List.mem_cons, List.not_mem_nil, or_false] at hh
  rcases hh with rfl | rfl | rfl | rfl | rfl | rfl <;> simp
theorem cj9 (a b : Nat) : shH5 a b = [([98, 97, 107, 101, 114], 1, -1, ⟨none, 0, []⟩), ([98, 111, 110, 110, 101, 116, 115], -1, 5, ⟨none, 0, []⟩), ([99, 111, 110, 102, 101, 99, 116, 105, 111, 110, 101, 114], 0, -1, ⟨some ⟨a, 0, none⟩, 1, [0]⟩), ([104, 97, 116, 116, 101, 114], 3, -1, ⟨none, 0, []⟩), ([109, 101, 114, 99, 101, 114], 2, -1, ⟨some ⟨b, 0, none⟩, 1, [3]⟩), ([109, 105, 108, 108, 105, 110, 101, 114], -1, 1, ⟨none, 0, []⟩)] := rfl
theorem cj8 (a b : Nat) : ∀ h ∈ shH5 a b, h.2.2.2.l.length ≤ 1000000 := by
  intro h hh; simp only [cj9, List.mem_cons, List.not_mem_nil, or_false] at hh
  rcases hh with rfl | rfl | rfl | rfl | rfl | rfl <;> simp
theorem kv_chk0 (a b : Nat) : checkT (shX a b) = 0 := by kernel_rfl
theorem kv_fol5 (a b : Nat) : followE (trOf shopsC (shH5 a b)) 5 = (0, 0, 9) := by kernel_rfl
def restP : List PH := [([98, 97, 107, 101, 114], 1, -1, []), ([99, 111, 110, 102, 101, 99, 116, 105, 111, 110, 101, 114], 0, -1, [0]), ([109, 101, 114, 99, 101, 114], 2, -1, [])]
def restH (g : Nat) : List Hd := [([98, 97, 107, 101, 114], 1, -1, ⟨none, 0, []⟩), ([99, 111, 110, 102, 101, 99, 116, 105, 111, 110, 101, 114], 0, -1, ⟨some ⟨g, 0, none⟩, 1, [0]⟩), ([109, 101, 114, 99, 101, 114], 2, -1, ⟨none, 0, []⟩)]
theorem kv_drop (a b : Nat) : dropE (shX a b) 3 = (⟨shopsC, restP⟩, 0) := by kernel_rfl
theorem ex_chk0 (C D a b : Nat) : Meets Tryz.prog F.J7 [.agg #[.slice (b8 C) 4 4, .slice (b8 D) 6 6]] { LI := [Row (b8 C) (rows shopsC), RowsF (b8 D) (shopsH a b) Hd.row], val := fun _ : Unit => int 0 } := by
  have h := I0 (A := some ⟨C, 0, none⟩) (B := some ⟨D, 0, none⟩) (ca := 4) (cb := 6) shopsC (shopsH a b)  (Nat.le_refl 4) (Nat.le_refl 6) (kL a b); rw [show checkT (trOf shopsC (shopsH a b)) = 0 from kv_chk0 a b] at h; exact h
theorem ex_chk1 (C D a b : Nat) : Meets Tryz.prog F.J7 [.agg #[.slice (b8 C) 4 4, .slice (b8 D) 6 6]] { LI := [Row (b8 C) (rows shC1), RowsF (b8 D) (shopsH a b) Hd.row], val := fun _ : Unit => int 5 } := by
  have h := I0 (A := some ⟨C, 0, none⟩) (B := some ⟨D, 0, none⟩) (ca := 4) (cb := 6) shC1 (shopsH a b)  (Nat.le_refl 4) (Nat.le_refl 6) (kL a b); rw [show checkT (trOf shC1 (shopsH a b)) = 5 from kv_chk1 a b] at h; exact h
theorem ex_chk2 (C D a b : Nat) : Meets Tryz.prog F.J7 [.agg #[.slice (b8 C) 4 4, .slice (b8 D) 6 6]] { LI := [Row (b8 C) (rows shopsC), RowsF (b8 D) (shH2 a b) Hd.row], val := fun _ : Unit => int 9 } := by
  have h := I0 (A := some ⟨C, 0, none⟩) (B := some ⟨D, 0, none⟩) (ca := 4) (cb := 6) shopsC (shH2 a b)  (Nat.le_refl 4) (Nat.le_refl 6) (shH2_ok a b); rw [show checkT (trOf shopsC (shH2 a b)) = 9 from kv_chk2 a b] at h; exact h
theorem ex_chk3 (C D a b : Nat) : Meets Tryz.prog F.J7 [.agg #[.slice (b8 C) 4 4, .slice (b8 D) 6 6]] { LI := [Row (b8 C) (rows shopsC), RowsF (b8 D) (shH3 a b) Hd.row], val := fun _ : Unit => int 5 } := by
  have h := I0 (A := some ⟨C, 0, none⟩) (B := some ⟨D, 0, none⟩) (ca := 4) (cb := 6) shopsC (shH3 a b)  (Nat.le_refl 4) (Nat.le_refl 6) (shH3_ok a b); rw [show checkT (trOf shopsC (shH3 a b)) = 5 from kv_chk3 a b] at h; exact h
theorem ex_chk4 (C D a b : Nat) : Meets Tryz.prog F.J7 [.agg #[.slice (b8 C) 4 4, .slice (b8 D) 6 6]] { LI := [Row (b8 C) (rows shopsC), RowsF (b8 D) (shH4 a b) Hd.row], val := fun _ : Unit => int 8 } := by
  have h := I0 (A := some ⟨C, 0, none⟩) (B := some ⟨D, 0, none⟩) (ca := 4) (cb := 6) shopsC (shH4 a b)  (Nat.le_refl 4) (Nat.le_refl 6) (shH4_ok a b); rw [show checkT (trOf shopsC (shH4 a b)) = 8 from kv_chk4 a b] at h; exact h
theorem ex_fol5 (C D a b : Nat) : Meets Tryz.prog F.M7 [.agg #[.slice (b8 C) 4 4, .slice (b8 D) 6 6], int 5] { LI := [Row (b8 C) (rows shopsC), RowsF (b8 D) (shH5 a b) Hd.row], val := fun _ : Unit => .tuple #[int 0, int 0, int 9] } := by
  have h := P3 (A := some ⟨C, 0, none⟩) (B := some ⟨D, 0, none⟩) (ca := 4) (cb := 6) shopsC (shH5 a b) 5 (Nat.le_refl 4) (Nat.le_refl 6) (cj8 a b); rw [show followE (trOf shopsC (shH5 a b)) 5 = (0, 0, 9) from kv_fol5 a b] at h; exact h
theorem jj7 (C D a b : Nat) : Meets Tryz.prog F.O1 [.agg #[.slice (b8 C) 4 4, .slice (b8 D) 6 6]] { LI := [Row (b8 C) (rows shopsC), RowsF (b8 D) (shH5 a b) Hd.row], inv := fun y : OutS => lsts y.1 = [[1, 5]], val := fun y => .tuple #[.slice y.2.1 y.1.length y.2.2, int 0], LO := fun y => [Rows2 y.2.1 y.1] } := by
  have h := aK (A := some ⟨C, 0, none⟩) (B := some ⟨D, 0, none⟩) (ca := 4) (cb := 6) shopsC (shH5 a b)  (Nat.le_refl 4) (Nat.le_refl 6) (cj8 a b); rw [show circlesE (trOf shopsC (shH5 a b)) = ([[1, 5]], 0) from iq6 a b] at h; exact h
theorem ex_drop (C D a b : Nat) : Meets Tryz.prog F.hX [.agg #[.slice (b8 C) 4 4, .slice (b8 D) 6 6], int 3] { LI := [Row (b8 C) (rows shopsC), RowsF (b8 D) (shopsH a b) Hd.row], inv := fun y : OutR => TrIs ⟨shopsC, restP⟩ y, val := fun y => .tuple #[.agg #[.slice y.2.1.1 4 y.2.1.2, .slice y.2.2.1 y.1.length y.2.2.2], int 0], LO := fun y => [Row y.2.1.1 (rows shopsC), RowsF y.2.2.1 y.1 Hd.row] } := by
  have h := rP (A := some ⟨C, 0, none⟩) (B := some ⟨D, 0, none⟩) (ca := 4) (cb := 6) shopsC (shopsH a b) 3 (Nat.le_refl 4) (Nat.le_refl 6) (kL a b); rw [show dropE (trOf shopsC (shopsH a b)) 3 = (⟨shopsC, restP⟩, 0) from kv_drop a b] at h; exact h
theorem lC {A B : Option Addr} {ca cb : Nat} (l : List Int) (hl : l.length ≤ 9223372036854775806) : Meets Tryz.prog F.bP [.slice A l.length ca, .slice B l.length cb] { LI := [Row A (rows l), Row B (rows l)], val := fun _ : Unit => .bool true } := by
  have h := N2 (A := A) (B := B) (ca := ca) (cb := cb) l l hl; rw [decide_eq_true rfl] at h; exact h
theorem bz2 {A B : Option Addr} {ca cb : Nat} {a b : List (Sl Int)} (h : lsts a = lsts b) (hb : b.length ≤ 1000) (hb2 : ∀ p ∈ b, p.l.length ≤ 1000) : Meets Tryz.prog F.Y6 [.slice A a.length ca, .slice B b.length cb] { LI := [Rows2 A a, Rows2 B b], val := fun _ : Unit => .bool true } := by
  have hl : a.length = b.length := by have := congrArg List.length h; rwa [bO, bO] at this
  have h2 := cH (A := A) (B := B) (ca := ca) (cb := cb) a b (by omega) (fun s hs => by
    have hm : s.l ∈ lsts a := List.mem_map.2 ⟨s, hs, rfl⟩; rw [h] at hm; obtain ⟨p, hp, e⟩ := List.mem_map.1 hm; have := hb2 p hp; rw [← e]
    omega)
  rw [decide_eq_true h] at h2; exact h2
theorem ex_req {A B A2 B2 : Option Addr} {ca cb ca2 cb2 : Nat} {hs : List Hd} (g : Nat) (h : hs.map Hd.p = restP) : Meets Tryz.prog F.aP [.agg #[.slice A 4 ca, .slice B hs.length cb], .agg #[.slice A2 4 ca2, .slice B2 3 cb2]] { LI := [Row A (rows shopsC), RowsF B hs Hd.row, Row A2 (rows shopsC), RowsF B2 (restH g) Hd.row], val := fun _ : Unit => .bool true } := by
  have hl : hs.length = 3 := by have := congrArg List.length h; rwa [List.length_map] at this
  exact pB (A := A) (B := B) (A2 := A2) (B2 := B2) (ca := ca) (cb := cb) (ca2 := ca2) (cb2 := cb2) shopsC hs (restH g) h.symm (by decide) (by omega) (fun x hx => by
    have hm : Hd.p x ∈ hs.map Hd.p := List.mem_map.2 ⟨x, hx, rfl⟩; rw [h] at hm; simp only [restP, List.mem_cons, List.not_mem_nil, or_false] at hm; have e : x.2.2.2.l = (Hd.p x).2.2.2 := rfl
    rcases hm with h1 | h1 | h1 <;> rw [e, h1] <;> simp)
def stX (a b c : Nat) : List (Sl Int) := [⟨some ⟨a, 0, none⟩, 6, [-1, -1, -1, 1, 0, -1]⟩, ⟨some ⟨b, 0, none⟩, 6, [-1, 1, -1, 2, -1, 0]⟩, ⟨some ⟨c, 0, none⟩, 6, [1, -1, 0, -1, -1, -1]⟩]
def hdX : List Int := [4, 5, 2]
theorem kv_st (p q a b c k : Nat) (h : k < 3) : stepsE (shX p q) (hdX.getD k default) = (((stX a b c).getD k default).l, 0) := by
  rcases (show k = 0 ∨ k = 1 ∨ k = 2 by omega) with rfl | rfl | rfl <;> kernel_rfl
theorem ex_st (x : Nat × Nat × Nat × Nat) (a b c k : Nat) (h : k < 3) : Meets Tryz.prog F.cD [shV x, int (hdX.getD k default)] { LI := shF x, inv := fun y : OutC => ((stX a b c).getD k default).l.length ≤ y.2, val := fun y => .tuple #[.slice y.1 ((stX a b c).getD k default).l.length y.2, int 0], LO := fun y => [Row y.1 (rows ((stX a b c).getD k default).l)] } := by
  have h2 := qA (A := some ⟨x.1, 0, none⟩) (B := some ⟨x.2.1, 0, none⟩) (ca := 4) (cb := 6) shopsC (shopsH x.2.2.1 x.2.2.2) (hdX.getD k default) (Nat.le_refl 4) (Nat.le_refl 6) (kL _ _); rw [kv_st x.2.2.1 x.2.2.2 a b c k h] at h2; exact h2
def mnX (a b c : Nat) : List (Sl Int) := [⟨some ⟨a, 0, none⟩, 2, [0, 3]⟩, ⟨some ⟨b, 0, none⟩, 1, [3]⟩, ⟨some ⟨c, 0, none⟩, 4, [0, 2, 3, 4]⟩, ⟨none, 0, []⟩]
def bgX : List Str := [[98], [98, 111], [], [120]]
theorem kv_mn (p q a b c k : Nat) (h : k < 4) : mayE (shX p q) (bgX.getD k default) = (((mnX a b c).getD k default).l, 0) := by
  rcases (show k = 0 ∨ k = 1 ∨ k = 2 ∨ k = 3 by omega) with rfl | rfl | rfl | rfl <;> kernel_rfl
theorem ex_mn (x : Nat × Nat × Nat × Nat) (a b c k : Nat) (h : k < 4) : Meets Tryz.prog F.dS [shV x, str (bgX.getD k default)] { LI := shF x, inv := fun y : OutC => ((mnX a b c).getD k default).l.length ≤ y.2, val := fun y => .tuple #[.slice y.1 ((mnX a b c).getD k default).l.length y.2, int 0], LO := fun y => [Row y.1 (rows ((mnX a b c).getD k default).l)] } := by
  have h2 := iV (A := some ⟨x.1, 0, none⟩) (B := some ⟨x.2.1, 0, none⟩) (ca := 4) (cb := 6) shopsC (shopsH x.2.2.1 x.2.2.2) (bgX.getD k default) (Nat.le_refl 4) (Nat.le_refl 6) (kL _ _); rw [kv_mn x.2.2.1 x.2.2.2 a b c k h] at h2; exact h2
set_option maxHeartbeats 1000000 in
theorem bj7 : Meets Tryz.prog F.Y5 [] { val := fun x : Nat × Nat × Nat × Nat => shV x, hpO := fun x => [(x.1, Obj.cells (rows shopsC).toArray T.r5 (0, 0))], LO := fun x => [RowsF (some ⟨x.2.1, 0, none⟩) (shopsH x.2.2.1 x.2.2.2) Hd.row] } := by
 refine i7 F.dF rfl p7 fun w0 => ?_; refine i4 ?_; refine r7 rfl (fun _ => T.v9 _) fun gA => ?_; refine j8 ?_; refine w7 _ rfl rfl (fun _ => T.B4 ..) ?_; refine w7 _ rfl rfl (fun _ => T.bU ..) ?_; refine w7 _ rfl rfl (fun _ => T.B4 ..) ?_; refine w7 _ rfl rfl (fun _ => T.B4 ..) ?_; refine j4 _ rfl rfl (fun _ => T.X2 ..) fun gC => ?_; refine d5 F.u4 rfl rfl (s1 (A := none) (n := 0) (cp := 0) [98, 97, 107, 101, 114] 1) j5 trivial fun _ _ => ?_; refine d5 F.I3 rfl rfl (D0 [98, 111, 110, 110, 101, 116, 115] 3) j5 trivial fun _ _ => ?_; refine j4 _ rfl rfl (fun _ => T.v0 ..) fun g1 => ?_; refine n0 (rows [(0 : Int)]) (List.prefix_refl _) ?_; refine d5 F.u4 rfl rfl (s1 (A := some ⟨g1, 0, none⟩) (n := 1) (cp := 1) [99, 111, 110, 102, 101, 99, 116, 105, 111, 110, 101, 114] 0) j5 trivial fun _ _ => ?_; refine d5 F.u4 rfl rfl (s1 (A := none) (n := 0) (cp := 0) [104, 97, 116, 116, 101, 114] 3) j5 trivial fun _ _ => ?_; refine j4 _ rfl rfl (fun _ => T.v0 ..) fun g2 => ?_; refine n0 (rows [(3 : Int)]) (List.prefix_refl _) ?_; refine d5 F.u4 rfl rfl (s1 (A := some ⟨g2, 0, none⟩) (n := 1) (cp := 1) [109, 101, 114, 99, 101, 114] 2) j5 trivial fun _ _ => ?_; refine d5 F.I3 rfl rfl (D0 [109, 105, 108, 108, 105, 110, 101, 114] 1) j5 trivial fun _ _ => ?_; refine j4 _ rfl rfl (fun _ => T.O7 ..) fun gH => ?_; refine n0 (rows (shopsH g1 g2)) (List.prefix_refl _) ?_; refine w7 _ rfl rfl (fun _ => T.U6 ..) ?_; refine r4 rfl rfl (by first | exact .refl _ | exact perm2 _ _ _ | exact perm3 _ _ _ _ | exact perm4 _ _ _ _ _) T.d4 (by rfl) (by rfl) ?_; refine d9 (k5 ?_); refine A4 (α := Int) ?_; refine O3 (Fs := (shopsH g1 g2).map Hd.row) (by intro F hF; left; simp only [shopsH, List.map_cons, List.map_nil, List.mem_cons, List.not_mem_nil, or_false] at hF; rcases hF with rfl | rfl | rfl | rfl | rfl | rfl <;> repeat constructor) ?_; refine rB (A := some ⟨gH, 0, none⟩) (ps := shopsH g1 g2) (f := Hd.row) mB m0 ?_; refine cF (gC, gH, g1, g2) rfl rfl T.d6 T.d4 rfl m0 rfl rfl trivial (.cons _ (.refl _)) mC
set_option maxHeartbeats 1000000 in
theorem iH : Meets Tryz.prog F.Y5 [] { val := fun x : Nat × Nat × Nat × Nat => shV x, hpO := fun x => [(x.2.1, Obj.cells (rows (shopsH x.2.2.1 x.2.2.2)).toArray T.i8 (0, 0))], LO := fun x => [Row (some ⟨x.1, 0, none⟩) (rows shopsC), Row (some ⟨x.2.2.1, 0, none⟩) (rows [(0 : Int)]), Row (some ⟨x.2.2.2, 0, none⟩) (rows [(3 : Int)])] } := by
 refine i7 F.dF rfl p7 fun w0 => ?_; refine i4 ?_; refine r7 rfl (fun _ => T.v9 _) fun gA => ?_; refine j8 ?_; refine w7 _ rfl rfl (fun _ => T.B4 ..) (w7 _ rfl rfl (fun _ => T.bU ..) (w7 _ rfl rfl (fun _ => T.B4 ..) (w7 _ rfl rfl (fun _ => T.B4 ..) ?_))); refine j4 _ rfl rfl (fun _ => T.X2 ..) fun gC => ?_; refine n0 (rows shopsC) (List.prefix_refl _) ?_; refine d5 F.u4 rfl rfl (s1 (A := none) (n := 0) (cp := 0) [98, 97, 107, 101, 114] 1) j5 trivial fun _ _ => ?_; refine d5 F.I3 rfl rfl (D0 [98, 111, 110, 110, 101, 116, 115] 3) j5 trivial fun _ _ => ?_; refine j4 _ rfl rfl (fun _ => T.v0 ..) fun g1 => ?_; refine n0 (rows [(0 : Int)]) (List.prefix_refl _) ?_; refine d5 F.u4 rfl rfl (s1 (A := some ⟨g1, 0, none⟩) (n := 1) (cp := 1) [99, 111, 110, 102, 101, 99, 116, 105, 111, 110, 101, 114] 0) j5 trivial fun _ _ => ?_; refine d5 F.u4 rfl rfl (s1 (A := none) (n := 0) (cp := 0) [104, 97, 116, 116, 101, 114] 3) j5 trivial fun _ _ => ?_; refine j4 _ rfl rfl (fun _ => T.v0 ..) fun g2 => ?_; refine n0 (rows [(3 : Int)]) (List.prefix_refl _) ?_; refine d5 F.u4 rfl rfl (s1 (A := some ⟨g2, 0, none⟩) (n := 1) (cp := 1) [109, 101, 114, 99, 101, 114] 2) j5 trivial fun _ _ => ?_; refine d5 F.I3 rfl rfl (D0 [109, 105, 108, 108, 105, 110, 101, 114] 1) j5 trivial fun _ _ => ?_; refine j4 _ rfl rfl (fun _ => T.O7 ..) fun gH => ?_; refine w7 _ rfl rfl (fun _ => T.U6 ..) ?_; refine r4 rfl rfl (by first | exact .refl _ | exact perm2 _ _ _ | exact perm3 _ _ _ _ | exact perm4 _ _ _ _ _) T.d4 (by rfl) (by rfl) ?_; refine d9 (k5 ?_); exact cF (gC, gH, g1, g2) rfl rfl T.d6 T.d4 rfl m0 rfl rfl trivial (.cons _ (.refl _)) mC
end Go.Proofs.YtfhninnleacgiaaGreat
end
section
namespace Go.W
open Go Go.RowKit
theorem qJ {α : Type} [El α] (a : α) {c : Cx} {Q : Exit → Act → World → Prop} {fr : Fr} {hp : Hp} {L : List Fact} {ops : Array Oper} {rest : List Oper} {ty : TypeId} {pos : String} {af : Array Edge}
    {t e : TypeId} {x y : Operand} {g q k f : Nat} {l : List α} {v : Value} {hp' : Hp} (hx : ev fr x = some (.pointer (some ⟨g, q, none⟩))) (hq : q = k * El.sz α + f) (hy : ev fr y = some v) (hpp : hp.Perm ((g, .cells (rows l).toArray e (0, 0)) :: hp'))
    (hz : Sz c.P t 1) (hk : k < l.length) (hf : f < El.sz α) (hc : El.cells a = (El.cells (l.getD k default)).set f v) (h1 : v.oneCell' = true)
    (kk : HL c ops Q rest fr ((g, .cells (rows (l.set k a)).toArray e (0, 0)) :: hp') L) : HL c ops Q (⟨none, .store t x y, ty, pos, af, none⟩ :: rest) fr hp L := by
  subst hq
  have hlt : k * El.sz α + f < (rows l).length := by
    rw [I2]; have : (k + 1) * El.sz α ≤ l.length * El.sz α := Nat.mul_le_mul_right _ hk; rw [Nat.add_mul, Nat.one_mul] at this
    omega
  refine z9 (u := (rows l)[k * El.sz α + f]) hx hy hpp hz (by rw [List.getElem?_toArray, List.getElem?_eq_getElem hlt]) h1 ?_
  have e : (rows l).toArray.setIfInBounds (k * El.sz α + f) v = (rows (l.set k a)).toArray := by
    rw [← xE hf hk hc]
    simp
  rw [e]; exact kk
end Go.W
end
