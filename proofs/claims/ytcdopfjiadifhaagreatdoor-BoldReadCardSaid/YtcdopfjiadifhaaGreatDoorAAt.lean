/- Texts of this claim, one behind another. -/
import Derived.Conc.LeavingOf
import Derived.Test.YtcdopfjiadifhaaGreatDoorAAs
import Derived.Test.YtcdopfjiadifhaaGreatDoorAAp
import Derived.Test.YtcdopfjiadifhaaGreatDoorAAa
set_option linter.unusedVariables false
set_option linter.unusedSimpArgs false
section
namespace Go.Proofs.YtcdopfjiadifhaaGreatDoor
open Go Go.W
set_option maxRecDepth 20000
attribute [local irreducible] HL HC HQ HB Row Rows2 Blk Facts
theorem wr_two {c : Ch} {ss : List Int} {xs : List Ad} (h : chkS c ss xs = 0) : (wrB (c, ss, xs)).2 = 0 := by
  rw [wrB, if_pos (show chkT (c, ss, xs) = 0 from h)]
theorem sj6 {c : Ch} {ss : List Int} {xs : List Ad} (h : chkS c ss xs = 0) : (wrB (c, ss, xs)).1.length ≤ 250 := by
  have hs := ij5 h; have h1 := hs.n5; have h2 := hs.x8; rw [wrB, if_pos (show chkT (c, ss, xs) = 0 from h)]; show (accQ (accP c ss.reverse) xs.reverse ++ soW).length ≤ 250; have e1 := mz2 (accP c ss.reverse) xs.reverse; have e2 := mz3 c ss.reverse; have e3 : soW.length = 5 := rfl; rw [List.length_reverse] at e1 e2; rw [List.length_append]
  omega
theorem sz1 (x : Str) : (readB x).1.2.1.length ≤ 250 ∧ (readB x).1.2.2.length ≤ 250 := by
  unfold readB
  split
  · exact ⟨Nat.zero_le _, Nat.zero_le _⟩
  split
  · exact ⟨Nat.zero_le _, Nat.zero_le _⟩
  rename_i s p hp
  have := iq6 hp
  split
  · simp only; omega
  exact ⟨Nat.zero_le _, Nat.zero_le _⟩
set_option maxHeartbeats 2000000 in
theorem qZ {A : Option Addr} {c : Nat} (nums : List Int) (hn : nums.length ≤ 9223372036854775807) (x : Str) : Meets Tryz.prog F.rA [.slice A nums.length c, str x] { LI := [Row A (rows nums), TAB], val := fun _ : Unit => .bool true } := by
 refine i9 F.zR rfl r6 fun w0 => ?_; refine i8 (d5 rfl (d8 (j4 (i8 (c7 rfl ?_))))); refine E6 rfl T.v8 rfl ?_; refine R0 rfl rfl rfl (d8 ?_)
 first | refine m3 rfl (fun hb1 => ?_) (fun hb1 => ?_) | refine j7 rfl (fun hb1 => ?_) (fun hb1 => ?_)
 ·have hb1' := hb1; try simp at hb1'
  refine i8 ?_; refine k5 F.cT rfl rfl (Z0) p6 trivial fun _ _ => ?_; refine d5 rfl (d8 (N4 ?_)); exact ret1 () rfl rfl rfl trivial nil_sb trivial
 have hb1' := hb1; try simp at hb1'
 refine k6 (j6 (i8 (c7 rfl ?_))); refine k5 F.dj3 rfl rfl (xN nums) p6 mC fun g _ => ?_; refine k5 F.dj2 rfl rfl (xM 8 hn (dok0 nums) (by decide)) p6 mC fun xs1 hs1 => ?_; obtain ⟨s1, sz⟩ := xs1; obtain ⟨hs1, hsz⟩ := hs1; simp only at hs1; obtain ⟨c, ps, qs⟩ := sz; have h0 : chkS c ps.l qs.l = 0 := hsz.ok; have hqm : qs.l.length ≤ 8 := hsz.x8; have hpc : ps.l.length ≤ ps.c := hsz.ca; have hqc : qs.l.length ≤ qs.c := hsz.cb; have hsa := ij5 h0; have hn1 := hsa.n1; have hn5 := hsa.n5; have hqx := hsa.x8; have hpl : ps.l.length ≤ 1000000 := by omega
 have hql : qs.l.length ≤ 1000000 := by omega
 clear hsz; refine y9 rfl (fun _ => T.H5 _) fun gS => ?_; refine w4 (cs := saC c ps qs) rfl rfl (.refl _) T.j9 (by rfl) (by rfl) ?_; refine d8 (j4 (Z5 (j8 ?_)))
 first | refine B5 rfl T.k7 T.j9 rfl mB (by rfl) ?_ | refine C1 rfl T.k7 T.j9 rfl mB (by rfl) ?_ | refine u7 rfl T.k7 T.j9 rfl rfl (t5 mB (t9 (by omega))) ?_
 obtain ⟨t, ht⟩ : ∃ t, (wrB (c, ps.l, qs.l)).1 = t := ⟨_, rfl⟩; have hW := lL c ps qs hpl hql; rw [wr_two h0, ht] at hW; have hrd : readB t = ((c, ps.l, qs.l), 0, 0) := by rw [← ht]; exact nq4 h0 (sj6 h0)
 refine k5 F.tX rfl rfl (hW) p6 mC fun _ _ => ?_; refine c7 rfl (p8 rfl rfl rfl (p8 rfl rfl rfl (d5 rfl (d5 rfl (k8 (c7 rfl ?_)))))); have hRd := nW t; rw [hrd] at hRd; refine k5 F.yM rfl rfl (hRd) p6 trivial fun y _ => ?_; refine c7 rfl (p8 rfl rfl rfl (p8 rfl rfl rfl (p8 rfl rfl rfl ?_))); refine y9 rfl (fun _ => T.H5 _) fun gX => ?_; refine w4 (cs := tkC c (y.1, ps.l.length) (y.2, qs.l.length)) rfl rfl (.refl _) T.j9 (by rfl) (by rfl) ?_; refine d5 rfl (d5 rfl (d8 (dq1 (Z5 (j8 (c7 rfl (N5 rfl rfl rfl (c7 rfl ?_)))))))); refine u6 rfl rfl ?_ ?_
 ·intro hg1; have hg1' := hg1; try simp at hg1'
  refine l3 rfl rfl hg1 (c7 rfl (l3 rfl rfl hg1 (N5 rfl rfl rfl ?_))); refine p_f rfl rfl (bf1 hg1) rfl (c7 rfl ?_); refine u6 rfl rfl ?_ ?_
  ·intro hg2; have hg2' := hg2; try simp at hg2'
   refine l3 rfl rfl hg2 (c7 rfl (l3 rfl rfl hg2 (N5 rfl rfl rfl ?_))); refine p_f rfl rfl (bf1 hg2) rfl (c7 rfl ?_); refine u6 rfl rfl ?_ ?_
   ·intro hg3; have hg3' := hg3; try simp at hg3'
    refine l3 rfl rfl hg3 ?_
    first | refine B5 rfl T.k7 T.j9 rfl mB (by rfl) ?_ | refine C1 rfl T.k7 T.j9 rfl mB (by rfl) ?_ | refine u7 rfl T.k7 T.j9 rfl rfl (t5 mB (t9 (by omega))) ?_
    refine l3 rfl rfl hg3 ?_
    first | refine B5 rfl T.k7 T.j9 rfl mB (by rfl) ?_ | refine C1 rfl T.k7 T.j9 rfl mB (by rfl) ?_ | refine u7 rfl T.k7 T.j9 rfl rfl (t5 mB (t9 (by omega))) ?_
    refine l3 rfl rfl hg3 ?_; refine k5 F.dj4 rfl rfl (xO (pA := y.1.1) (qA := y.2.1) (pC := y.1.2) (qC := y.2.2) c ps qs hpl hql) p6 mC fun _ _ => ?_; refine l3 rfl rfl hg3 (M7 rfl rfl ?_); refine p_f rfl rfl (bf1 hg3) rfl ?_; refine d8 ?_
    first | refine m3 rfl (fun hb2 => ?_) (fun hb2 => ?_) | refine j7 rfl (fun hb2 => ?_) (fun hb2 => ?_)
    ·exact absurd hb2 (by decide)
    have hb2' := hb2; try simp at hb2'
    refine k6 (j6 (i8 (c7 rfl ?_))); have hRx := nW x; have hlx := sz1 x; obtain ⟨r2, hr2⟩ : ∃ r, readB x = r := ⟨_, rfl⟩; rw [hr2] at hRx hlx; refine k5 F.yM rfl rfl (hRx) p6 trivial fun y2 _ => ?_; refine c7 rfl (p8 rfl rfl rfl (p8 rfl rfl rfl (p8 rfl rfl rfl ?_))); refine y9 rfl (fun _ => T.H5 _) fun gY => ?_; refine w4 (cs := tkC r2.1.1 (y2.1, r2.1.2.1.length) (y2.2, r2.1.2.2.length)) rfl rfl (.refl _) T.j9 (by rfl) (by rfl) ?_; refine d5 rfl (d5 rfl (d8 (dq1 (Z5 (j8 (c7 rfl (N5 rfl rfl rfl (d8 ?_))))))))
    first | refine m3 rfl (fun hb3 => ?_) (fun hb3 => ?_) | refine j7 rfl (fun hb3 => ?_) (fun hb3 => ?_)
    ·have hb3' := hb3; try simp at hb3'
     refine i8 ?_; refine k5 F.cT rfl rfl (Z0) p6 trivial fun _ _ => ?_; refine d5 rfl (d8 (N4 ?_)); exact ret1 () rfl rfl rfl trivial nil_sb trivial
    have hb3' := hb3; try simp at hb3'
    have hwr2 : wrB r2.1 = (x, 0) := by rw [← hr2]; exact nj0 (by rw [hr2]; first | assumption | exact Classical.not_not.1 hb3)
    refine k6 (j6 (i8 ?_))
    first | refine B5 rfl T.k7 T.j9 rfl mB (by rfl) ?_ | refine C1 rfl T.k7 T.j9 rfl mB (by rfl) ?_ | refine u7 rfl T.k7 T.j9 rfl rfl (t5 mB (t9 (by omega))) ?_
    have hW2 := lL r2.1.1 ⟨y2.1.1, y2.1.2, r2.1.2.1⟩ ⟨y2.2.1, y2.2.2, r2.1.2.2⟩ (by show r2.1.2.1.length ≤ 1000000; omega) (by show r2.1.2.2.length ≤ 1000000; omega); rw [show wrB (r2.1.1, (⟨y2.1.1, y2.1.2, r2.1.2.1⟩ : Sl Int).l, (⟨y2.2.1, y2.2.2, r2.1.2.2⟩ : Sl Ad).l) = (x, 0) from hwr2] at hW2; refine k5 F.tX rfl rfl (hW2) p6 mC fun _ _ => ?_; refine c7 rfl (p8 rfl rfl rfl (p8 rfl rfl rfl (d5 rfl (d5 rfl (k8 (c7 rfl (H0 rfl rfl rfl (c7 rfl ?_)))))))); refine u6 rfl rfl ?_ ?_
    ·intro hg4; have hg4' := hg4; try simp at hg4'
     refine l3 rfl rfl hg4 (c7 rfl (l3 rfl rfl hg4 (c7 rfl (l3 rfl rfl hg4 (hU rfl rfl rfl ?_))))); refine p_t rfl rfl (bt1 hg4) rfl (c7 rfl ?_); refine u6 rfl rfl ?_ ?_
     ·intro hg5; have hg5' := hg5; try simp at hg5'
      refine l3 rfl rfl hg5 ?_; refine k5 F.cT rfl rfl (Z0) p6 trivial fun _ _ => ?_; refine p_t rfl rfl (bt1 hg5) rfl ?_; refine d5 rfl (d8 (l5 ?_)); exact ret1 () rfl rfl rfl trivial nil_sb trivial
     intro hg5; have hg5' := hg5; try simp at hg5'
    intro hg4; have hg4' := hg4; try simp at hg4'
   intro hg3; have hg3' := hg3; try simp at hg3'
  intro hg2; have hg2' := hg2; try simp at hg2'
 intro hg1; have hg1' := hg1; try simp at hg1'
end Go.Proofs.YtcdopfjiadifhaaGreatDoor
end
section
namespace Go.W
open Go Go.Conc
theorem Lv.at {P : Program} {fr : Frame} {w : World} {v : Value} (h : Lv P fr w v) (d : Nat) : Lv P fr (w.at d) v :=
  ⟨h.1, h.2.1, h.2.2.1, h.2.2.2.elim fun fn x => ⟨fn, x.1, fun d' => x.2 d'⟩⟩
theorem run_of {P : Program} {f : FuncId} {fn : Func} {t : Tmp} {args : Array Value} {W : World} {R : Value → World → Prop} (hf : P.funcs[f]? = some fn) (hres : fn.results = #[.tmp t]) (hin : P.inits.idxOf? f = none)
    (h : CallsB P f args W R) (hat : ∀ v w d, R v w → R v (w.at d)) :
    ∃ M last o w' t', runNT P (M + 1) (solo (G (Frame.enter P f args .normal) []) W) #[] = (.ended o w', t') ∧ runN P M (solo (G (Frame.enter P f args .normal) []) W) = .next last ∧ step P last = .ended o w' ∧ Conc.Good P R last o w' t' := by
  have hco := h [] (fun g w => ∃ v fr, g = G fr [] ∧ fr.fn = f ∧ Lv P fr w v ∧ R v w) (fun fr v w' hfr hR hl => co_done fun d => ⟨v, fr, rfl, hfr, hl.at d, hat _ _ _ hR⟩); obtain ⟨N, gs, g, w, sl, t0, q, B, r, h0, hL, hP, v, fr, rfl, hfr, hl, hR⟩ := hco W.drawn #[G (Frame.enter P f args .normal) []] none #[] (fun _ => 0) 0 rfl (leavers_one P _) past_nil
  have hG : Goes P true AtRel (fun _ _ es => ∀ e ∈ es, EvL noS B e) (AtEnd P noS B R) 0 (G fr []) w := by
    rintro w₁ ⟨d, rfl⟩; refine ⟨rfl, v, #[], ?_, by simp, hat _ _ _ hR⟩; obtain ⟨hm, hd, hn, fn', hf', hr⟩ := hl.at d; rw [hfr, hf] at hf'; obtain rfl := Option.some.inj hf'; have hf2 : P.funcs[fr.fn]? = some fn := by rw [hfr]; exact hf
    have hin2 : P.inits.idxOf? fr.fn = none := by rw [hfr]; exact hin
    have he : (results fn fr.tmps).events P (w.at d) #[] = #[] := events_results_tmp hres _ _; have hr0 : (results fn fr.tmps).run P (w.at d) = .ok v (w.at d) := hr d
    simp [G, stepG, unwind, doReturn, hn, hd, hm, hf2, hr0, he, hin2, GStep.after, seen]
  obtain ⟨M, last, o, w', t', e1, e2, e3, e4⟩ := beside_ends (P := P) (Post := R) (sl := sl) (fun _ _ _ h => h) h0 hL hP hG; have hrun : runNT P N (solo (G (Frame.enter P f args .normal) []) W) #[] = (.next (crowd gs w sl), t0) := r; refine ⟨N + M, last, o, w', t', ?_, ?_, e3, e4⟩
  · rw [Nat.add_assoc, ij9 hrun]; exact e1
  rw [runN_add, ← runNT_fst P _ _ #[], hrun]; exact e2
end Go.W
end
