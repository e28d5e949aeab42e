/- Texts. -/
import Derived.ProofKit
import Derived.OpenShut
import Derived.ShutString
import Derived.ChangeOld
import Derived.Below
import Derived.SliceStrings
import Derived.ChangeSlices
import Derived.Deep.Slices
import Derived.Deep.Strs
import Derived.Conc.LeavingOf
import Derived.Test.YtcdopfjiadifhaaGreatDoorBAf
import Derived.Test.YtcdopfjiadifhaaGreatDoorBAs
import Derived.Test.YtcdopfjiadifhaaGreatDoorBAr
import Derived.Test.YtcdopfjiadifhaaGreatDoorBAq
import Derived.Test.YtcdopfjiadifhaaGreatDoorBAn
import Derived.Test.YtcdopfjiadifhaaGreatDoorBAa
set_option linter.unusedVariables false
set_option linter.unusedSimpArgs false
section
namespace Go.W
open Go Go.RowKit Go.ChangeShapes Go.WideShapes
section
variable {H : Type} {enc : TypeId × Value → H} {P : Program} {w : World} {base : Nat} {spare : Nat → Bool} {held : Bool}
theorem row_of {α : Type} [El α] (h1 : El.sz α = 1) {a : Addr} {l : List α} (h : ∀ j (hj : j < l.length), ∃ v, El.cells l[j] = [v] ∧ w.cell? (a.add j) = some v) : (Row (some a) (rows l)).P w := by
  intro j u hu; refine ⟨a, rfl, ?_⟩
  have hj : j < l.length := by
    have := (List.getElem?_eq_some_iff.1 hu).1; rw [Z7, h1, Nat.mul_one] at this; exact this
  obtain ⟨v, hv, hc⟩ := h j hj; have h2 := rows_get (l := l) (i := j) (j := 0) (v := v) hj (by simp [List.getD_eq_getElem?_getD, hj, hv]); rw [h1] at h2; simp only [Nat.mul_one, Nat.add_zero] at h2; rw [hu] at h2
  cases h2
  exact hc
theorem sz3 {t e : TypeId} {A : Option Addr} {n c fuel : Nat} {x : DataW H × List MemPlace} (ht : P.underlying t = some (.slice e)) (he : P.underlying e = some (.int .i64)) (hc : P.cellsOf e = 1)
    (h : DataW.trod enc P w base spare held fuel t [.slice A n c] = some x) : ∃ l : List Int, n = l.length ∧ l.length ≤ c ∧ c ≤ maxLen ∧ (Row A (rows l)).P w ∧ ∀ z ∈ l, I64 z := by
  rcases open_ints ht he hc h with ⟨hcs, _⟩ | ⟨a, len, cap, zs, hcs, _, hl, hm, hlen, _, hcell, hwf⟩
  · simp at hcs
    obtain ⟨rfl, rfl, rfl⟩ := hcs; exact ⟨[], rfl, Nat.le_refl _, by unfold maxLen; omega, Row.nil _ _, by intro z hz; simp at hz⟩
  simp at hcs
  obtain ⟨rfl, rfl, rfl⟩ := hcs; have hle : n ≤ zs.length := by rw [hlen]; split <;> omega
  have hlen2 : (zs.take n).length = n := by rw [List.length_take]; omega
  refine ⟨zs.take n, hlen2.symm, by rw [hlen2]; exact hl, hm, row_of rfl fun j hj => ?_, fun z hz => ?_⟩
  · rw [hlen2] at hj
    refine ⟨int zs[j], by simp [El.cells], ?_⟩; rw [hcell j (by omega)]
    simp [List.getD_eq_getElem?_getD, show j < zs.length by omega]
  have := hwf z (List.mem_of_mem_take hz)
  simp [Lit.wf, IntKind.min, IntKind.max, IntKind.signed, IntKind.bits] at this
  exact ⟨by omega, by omega⟩
theorem uj0 {f : Nat} {args : List Value} {LI : List Fact} (h : Meets P f args ({ LI := LI, val := fun _ : Unit => .bool true } : Con Unit)) (hL : ∀ F ∈ LI, F.P w) : CallsB P f args.toArray w fun v w' => v = .bool true ∧ Below w.heap.size w w' := by
  refine (h w ⟨Ext.refl _ _, by simp, by simp, by simp, hL, by simp, fun F hF k hk => .inr (.inr ⟨F, hF, hk⟩)⟩).mono fun v w' hp => ?_; obtain ⟨_, rfl, _, hwi⟩ := hp; exact ⟨rfl, hwi.ext.below⟩
end
end Go.W
end
section
namespace Go.W
open Go Go.RowKit Go.ChangeShapes Go.WideShapes Go.Deep
section
variable {H : Type} {enc : TypeId × Value → H} {P : Program} {w : World} {base : Nat} {spare : Nat → Bool} {held : Bool}
theorem row_ofN {α : Type} [El α] (h0 : 0 < El.sz α) {a : Addr} {l : List α} (h : ∀ j, j < l.length → ∀ i v, (El.cells (l.getD j default))[i]? = some v → w.cell? (a.add (j * El.sz α + i)) = some v) : (Row (some a) (rows l)).P w := by
  intro k u hu; refine ⟨a, rfl, ?_⟩; have hk := (List.getElem?_eq_some_iff.1 hu).1; rw [Z7] at hk; have hj : k / El.sz α < l.length := Nat.div_lt_of_lt_mul (by rw [Nat.mul_comm]; exact hk); have hd : k / El.sz α * El.sz α + k % El.sz α = k := by rw [Nat.mul_comm]; exact Nat.div_add_mod _ _
  have h2 := rows_get' l (k / El.sz α) (k % El.sz α) hj (Nat.mod_lt _ h0); rw [hd, hu] at h2; have := h _ hj _ _ h2.symm
  rwa [hd] at this
end
end Go.W
end
section
namespace Go.Proofs.YtcdopfjiadifhaaGreatDoor
open Go Go.W Go.RowKit Go.ChangeShapes Go.WideShapes Go.Deep
set_option maxRecDepth 20000
attribute [local irreducible] HL HC HQ HB Row Rows2 Blk Facts
section
variable {H : Type} {enc : TypeId × Value → H} {P : Program} {w : World} {base : Nat} {spare : Nat → Bool} {held : Bool}
theorem in_ads {t e : TypeId} {f0 f1 f2 : Field} {v : Value} {fuel : Nat} {x : DataW H × List MemPlace} (ht : P.underlying t = some (.slice e)) (he : P.underlying e = some (.struct #[f0, f1, f2])) (ce : P.cellsOf e = 3)
    (o0 : f0.offset = 0) (o1 : f1.offset = 1) (o2 : f2.offset = 2) (c0 : P.cellsOf f0.type = 1) (c1 : P.cellsOf f1.type = 1) (c2 : P.cellsOf f2.type = 1) (t0 : P.underlying f0.type = some (.int .i64)) (t1 : P.underlying f1.type = some (.int .i64)) (t2 : P.underlying f2.type = some (.int .i64))
    (h : DataW.trod enc P w base spare held fuel t [v] = some x) : ∃ A c, ∃ l : List Ad, v = .slice A l.length c ∧ l.length ≤ c ∧ c ≤ maxLen ∧ (Row A (rows l)).P w := by
  rcases open_slice ht h with ⟨hcs, _⟩ | ⟨a, len, cap, m, n', D, Pl, hcs, _, hl, hm, hmm, _, hx⟩
  · simp at hcs
    subst hcs; exact ⟨none, 0, [], rfl, Nat.le_refl _, by unfold maxLen; omega, Row.nil _ _⟩
  simp at hcs
  subst hcs; have hlm : len ≤ m := by rw [hmm]; split <;> omega
  have each : ∀ i, i < len → ∃ q : Ad, ∀ k v, (El.cells q)[k]? = some v → w.cell? (a.add (i * 3 + k)) = some v := by
    intro i hi; obtain ⟨cs', h1, h2⟩ := hx i (by omega); rw [ce] at h1; obtain ⟨_, hlen, hcell⟩ := World.cells?_some h1; obtain ⟨y0, y1, y2, k, _, _, g0, g1, g2⟩ := trod_struct3 he h2
    match cs', hlen with
    | [v0, v1, v2], _ =>
      simp [o0, o1, o2, c0, c1, c2] at g0 g1 g2
      obtain ⟨z0, e0, _, _⟩ := DataW.trod_int t0 g0; obtain ⟨z1, e1, _, _⟩ := DataW.trod_int t1 g1; obtain ⟨z2, e2, _, _⟩ := DataW.trod_int t2 g2
      simp at e0 e1 e2
      subst e0 e1 e2; refine ⟨(z0, z1, z2), fun k v hv => ?_⟩; have hk : k < 3 := (List.getElem?_eq_some_iff.1 hv).1; have hc := hcell k hk; rw [add_add] at hc; rw [hc, ← hv]
      rfl
  obtain ⟨q, hq⟩ := choose_lt each; refine ⟨some a, cap, (List.range len).map q, by simp, by simpa using hl, hm, row_ofN (by decide) fun j hj i v hv => ?_⟩
  simp at hj
  refine hq j hj i v ?_; rw [← hv]
  simp [List.getD_eq_getElem?_getD, hj]
theorem trod_ch {e : TypeId} {f0 f1 f2 f3 f4 f5 : Field} {cs : List Value} {fuel : Nat} {x : DataW H × List MemPlace} (he : P.underlying e = some (.struct #[f0, f1, f2, f3, f4, f5])) (ce : P.cellsOf e = 6)
    (o0 : f0.offset = 0) (o1 : f1.offset = 1) (o2 : f2.offset = 2) (o3 : f3.offset = 3) (o4 : f4.offset = 4) (o5 : f5.offset = 5) (c0 : P.cellsOf f0.type = 1) (c1 : P.cellsOf f1.type = 1) (c2 : P.cellsOf f2.type = 1) (c3 : P.cellsOf f3.type = 1) (c4 : P.cellsOf f4.type = 1) (c5 : P.cellsOf f5.type = 1) (t0 : P.underlying f0.type = some (.int .i64)) (t1 : P.underlying f1.type = some (.int .i64)) (t2 : P.underlying f2.type = some (.int .i64)) (t3 : P.underlying f3.type = some (.int .i64)) (t4 : P.underlying f4.type = some (.int .i64)) (t5 : P.underlying f5.type = some (.int .i64))
    (h : DataW.trod enc P w base spare held fuel e cs = some x) : ∃ c : Ch, cs = [int c.1, int c.2.1, int c.2.2.1, int c.2.2.2.1, int c.2.2.2.2.1, int c.2.2.2.2.2] := by
  obtain ⟨xs, n, _, rfl, hl, hlen, hf⟩ := DataW.trod_struct he h; rw [ce] at hl
  match xs, hlen, cs, hl with
  | [y0, y1, y2, y3, y4, y5], _, [v0, v1, v2, v3, v4, v5], _ =>
    have g0 := hf 0 f0 rfl; have g1 := hf 1 f1 rfl; have g2 := hf 2 f2 rfl; have g3 := hf 3 f3 rfl; have g4 := hf 4 f4 rfl; have g5 := hf 5 f5 rfl
    simp [o0, c0, o1, c1, o2, c2, o3, c3, o4, c4, o5, c5] at g0 g1 g2 g3 g4 g5
    obtain ⟨z0, e0, _, _⟩ := DataW.trod_int t0 g0; obtain ⟨z1, e1, _, _⟩ := DataW.trod_int t1 g1; obtain ⟨z2, e2, _, _⟩ := DataW.trod_int t2 g2; obtain ⟨z3, e3, _, _⟩ := DataW.trod_int t3 g3; obtain ⟨z4, e4, _, _⟩ := DataW.trod_int t4 g4; obtain ⟨z5, e5, _, _⟩ := DataW.trod_int t5 g5
    simp at e0 e1 e2 e3 e4 e5
    subst e0 e1 e2 e3 e4 e5; exact ⟨(z0, z1, z2, z3, z4, z5), rfl⟩
end
theorem wx2 {H : Type} {enc : TypeId × Value → H} {w : World} {base : Nat} {spare : Nat → Bool} {held : Bool} {cs : Array Value} (h : ∃ fuel x, DataW.trod enc Tryz.prog w base spare held fuel T.r7 cs.toList = some x) :
    ∃ d : Sx, cs = saC d.1 d.2.1 d.2.2 ∧ (d.2.1.l.length ≤ d.2.1.c ∧ d.2.1.c ≤ maxLen) ∧ (d.2.2.l.length ≤ d.2.2.c ∧ d.2.2.c ≤ maxLen) ∧ (Row d.2.1.a (rows d.2.1.l)).P w ∧ (Row d.2.2.a (rows d.2.2.l)).P w := by
  obtain ⟨fuel, x, h⟩ := h; obtain ⟨y0, y1, y2, n, _, hl, g0, g1, g2⟩ := trod_struct3 Tryz.underlying27 h; have hl2 : cs.toList.length = 8 := hl.trans p9
  obtain ⟨v0, v1, v2, v3, v4, v5, v6, v7, hv⟩ : ∃ v0 v1 v2 v3 v4 v5 v6 v7, cs.toList = [v0, v1, v2, v3, v4, v5, v6, v7] := by
    match hc : cs.toList, hl2 with
    | [v0, v1, v2, v3, v4, v5, v6, v7], _ => exact ⟨v0, v1, v2, v3, v4, v5, v6, v7, rfl⟩
  rw [hv] at g0 g1 g2; have g0' : DataW.trod enc Tryz.prog w base spare held n T.Y0 [v0, v1, v2, v3, v4, v5] = some y0 := g0; have g1' : DataW.trod enc Tryz.prog w base spare held n T.cj1 [v6] = some y1 := g1; have g2' : DataW.trod enc Tryz.prog w base spare held n T.Z6 [v7] = some y2 := g2; obtain ⟨c, hc⟩ := trod_ch Tryz.underlying23 p9 rfl rfl rfl rfl rfl rfl p9 p9 p9 p9 p9 p9 Tryz.underlying3 Tryz.underlying3 Tryz.underlying3 Tryz.underlying3 Tryz.underlying3 Tryz.underlying3 g0'
  obtain ⟨A, n3, c3, hv6⟩ : ∃ A n3 c3, v6 = .slice A n3 c3 := by
    rcases open_slice Tryz.underlying24 g1' with ⟨hcs, _⟩ | ⟨a, len, cap, m, n', D, Pl, hcs, _⟩
    · simp at hcs; exact ⟨_, _, _, hcs⟩
    simp at hcs; exact ⟨_, _, _, hcs⟩
  rw [hv6] at g1'; obtain ⟨l, rfl, k1, k2, k3, _⟩ := sz3 Tryz.underlying24 Tryz.underlying3 p9 g1'; obtain ⟨B, k, m, rfl, h4, h5, h6⟩ := in_ads Tryz.underlying25 Tryz.underlying52 p9 rfl rfl rfl p9 p9 p9 Tryz.underlying3 Tryz.underlying3 Tryz.underlying3 g2'; refine ⟨(c, ⟨A, c3, l⟩, ⟨B, k, m⟩), ?_, ⟨k1, k2⟩, ⟨h4, h5⟩, k3, h6⟩; rw [← Array.toArray_toList (xs := cs), hv, hv6]; simp only [List.cons.injEq, and_true] at hc; obtain ⟨rfl, rfl, rfl, rfl, rfl, rfl⟩ := hc
  rfl
end Go.Proofs.YtcdopfjiadifhaaGreatDoor
end
section
namespace Go.Proofs.YtcdopfjiadifhaaGreatDoor
open Go Go.W Tryz T F
set_option maxRecDepth 20000
attribute [local irreducible] HL HC HQ HB Row Rows2 Blk Facts
theorem uz3 {c : Ch} {ss : List Int} {xs : List Ad} (h : chkS c ss xs = 0) : (wrB (c, ss, xs)).1.length ≤ 250 := by
  have hs := pz7 h; have h1 := hs.n5; have h2 := hs.x8; rw [wrB, if_pos (show chkT (c, ss, xs) = 0 from h)]; show (accQ (accP c ss.reverse) xs.reverse ++ soW).length ≤ 250; have e1 := lx5 (accP c ss.reverse) xs.reverse; have e2 := lx6 c ss.reverse; have e3 : soW.length = 5 := rfl; rw [List.length_reverse] at e1 e2; rw [List.length_append]
  omega
theorem vx5 (x : Str) : (readB x).1.2.1.length ≤ 250 ∧ (readB x).1.2.2.length ≤ 250 := by
  unfold readB
  split
  · exact ⟨Nat.zero_le _, Nat.zero_le _⟩
  split
  · exact ⟨Nat.zero_le _, Nat.zero_le _⟩
  rename_i s p hp
  have := gz0 hp
  split
  · simp only; omega
  exact ⟨Nat.zero_le _, Nat.zero_le _⟩
theorem wrB_len (s : SaT) : (wrB s).1.length ≤ 250 := by
  by_cases h : chkT s = 0
  · exact uz3 h
  rw [wrB, if_neg h]; exact Nat.zero_le _
theorem mz2 {l : List Str} {j : Nat} (h : l.length ≤ j) : l.getD j default = [] := by rw [List.getD_eq_getElem?_getD, List.getElem?_eq_none h]; rfl
theorem pj2 {ts : List Str} {w : Str} (h : ∀ j, 1 ≤ j → (ts.getD j default).length ≤ 250) (hw : w.length ≤ 250) : ∀ j, 1 ≤ j → ((ts ++ [w]).getD j default).length ≤ 250 := fun j hj => by
  by_cases h1 : j < ts.length
  · have h2 := h j hj
    rw [List.getD_eq_getElem?_getD] at h2 ⊢; rw [List.getElem?_append_left h1]; exact h2
  by_cases h2 : j = ts.length
  · subst h2
    rw [List.getD_eq_getElem?_getD, List.getElem?_append_right (Nat.le_refl _), Nat.sub_self]; exact hw
  rw [mz2 (by rw [List.length_append]; simp; omega)]; exact Nat.zero_le _
set_option maxHeartbeats 2000000 in
theorem sU {A : Option Addr} {cn : Nat} (d0 : Sx) (x : Str) (nums : List Int) (hn : nums.length ≤ 9223372036854775807) (at_ how : Int) (by_ : UInt8) : Meets prog jV [saV d0.1 d0.2.1 d0.2.2, str x, .slice A nums.length cn, int at_, int how, .int .u8 by_.toNat] { LI := [Row d0.2.1.a (rows d0.2.1.l), Row d0.2.2.a (rows d0.2.2.l), Row A (rows nums), TAB], val := fun _ : Unit => .bool true } := by
 refine j3 uU rfl t8 fun w0 => d9 (J5 rfl rfl fun gB => ?_); refine c7 rfl (d8 ?_); refine kE ⟨fun _ : Unit => d0.2.1.l.length ≤ 20 ∧ d0.2.2.l.length ≤ 20, fun _ => [(6, .pointer (d6 gB)), (1, str x), (2, .slice A nums.length cn), (3, int at_), (4, int how), (5, .int .u8 by_.toNat)], fun _ => [], fun _ => [Blk gB (.cells (saC d0.1 d0.2.1 d0.2.2) r7 (0, 0)), Row d0.2.1.a (rows d0.2.1.l), Row d0.2.2.a (rows d0.2.2.l), Row A (rows nums), TAB]⟩ ?_ ?_
 ·skip
  refine i7 (Y3 (j0 ?_)); refine R9 rfl l6 j7 rfl mB (by rfl) (j5 dx4 rfl rfl (cz9 d0.1 d0.2.1 d0.2.2) p6 mC fun _ _ => b8 rfl ?_); refine t7 rfl rfl ?_ ?_
  ·intro hg1; have g1 : ¬ (20 < d0.2.1.l.length ∨ 20 < d0.2.2.l.length) := of_decide_eq_false (eq_of_beq hg1); refine l9 hg1 (b8 rfl (l9 hg1 ?_)); refine C7 rfl l5 rfl ?_; refine l9 hg1 (P4 rfl rfl rfl (l9 hg1 (b8 rfl ?_))); refine t7 rfl rfl ?_ ?_
   ·intro hg2; refine l9 hg2 (b8 rfl (l9 hg2 ?_)); refine C7 rfl l5 rfl ?_; refine l9 hg2 (xT rfl rfl rfl (l9 hg1 ?_)); refine p_t rfl rfl (bt1 hg2) rfl (p_f rfl rfl (bf1 hg1) rfl (d8 ?_)); refine m6 rfl (fun hb1 => ?_) (fun hb1 => ?_)
    ·refine d9 (j5 dI rfl rfl (dE) p6 tK fun _ _ => ?_); refine c7 rfl (d8 (J4 ?_)); exact ret1 () rfl rfl rfl tK nK tK
    refine j6 ?_; exact P5 _ () ⟨by omega, by omega⟩ mC (.refl _) mC
   intro hg2; refine q7 hg2 (q7 hg2 (q7 hg2 (l9 hg1 ?_))); refine p_f rfl rfl (bf2 hg2) rfl (p_f rfl rfl (bf1 hg1) rfl ?_); refine d8 (c_f rfl rfl (j6 ?_)); exact P5 _ () ⟨by omega, by omega⟩ mC (.refl _) mC
  intro hg1; refine q7 hg1 (q7 hg1 (q7 hg1 (q7 hg1 (M4 rfl rfl rfl rfl rfl rfl (M4 rfl rfl rfl rfl rfl rfl (M4 rfl rfl rfl rfl rfl rfl (q7 hg1 ?_))))))); refine p_t rfl rfl (bt2 hg1) rfl ?_; refine d8 (c_t rfl rfl (d9 ?_)); refine j5 dI rfl rfl (dE) p6 tK fun _ _ => ?_; refine c7 rfl (d8 (J4 ?_)); exact ret1 () rfl rfl rfl tK nK tK
 intro _ hlen; simp only at hlen; obtain ⟨hlp, hlq⟩ := hlen; refine i7 (Y4 ([]) ([]) (.refl _) 8 [3, 2] mixed (by decide) (by decide) (by decide) rfl rfl rfl (k7 (fun w1 => R9 rfl l6 j7 rfl mB (by rfl) (q_z rfl)) (u4 rfl ?_))); refine kY ⟨Nat, fun _ => True, fun g => .pointer (d6 g), fun _ => [], fun g => [dice g A cn nums (0, 11400714819323198485)]⟩ rfl rfl rfl ?_ ?_
 ·intro w1; refine j5 dx8 rfl rfl (dj4 nums) p6 mC fun g _ => j4 ?_; exact Q3 g tK (fun _ => rfl) (.refl _) tK
 refine kY ⟨Nat × (Int × Int) × Sx, fun x => SOf 8 x.2.2, fun x => saV x.2.2.1 x.2.2.2.1 x.2.2.2.2, fun x => saL x.2.2.2.1 x.2.2.2.2, fun x => [dice x.1 A cn nums x.2.1]⟩ rfl rfl rfl ?_ ?_
 ·intro g _; intro w1; refine j5 dx7 rfl rfl (dj3 8 hn (dok0 nums) (by decide)) p6 mC fun xs1 hs1 => ?_; obtain ⟨s1, sz⟩ := xs1; obtain ⟨hs1, hsz⟩ := hs1; simp only at hs1; refine j4 ?_; exact Q3 (g, s1, sz) hsz (fun _ => rfl) (.refl _) mC
 refine U5 ⟨Nat × Sx, fun y => SOf 8 y.2, fun y => .slice (some ⟨y.1, 0, none⟩) 2 2, fun y => [Row (some ⟨y.1, 0, none⟩) (rows ([d0, y.2] : List Sx)), Row y.2.2.1.a (rows y.2.2.1.l), Row y.2.2.2.a (rows y.2.2.2.l)]⟩ rfl rfl rfl ?_ ?_
 ·intro x3 h3; intro w1; refine p7 _ rfl rfl (fun _ => zK ..) fun gL => j4 (H6 (rows ([d0, x3.2.2] : List Sx)) (List.prefix_refl _) ?_); exact I9 (gL, x3.2.2) h3 rfl ⟨m0, mB, mB, tK⟩
 refine u4 rfl ?_; refine hb_ad ⟨Nat, fun _ => True, fun g => .slice (d6 g) 1 1, fun _ => [], fun g => [(g, Obj.cells #[str x] aD (0, 0))]⟩ rfl rfl rfl ?_ ?_
 ·intro w1; refine p7 _ rfl rfl (fun _ => lF ..) fun gT => j4 ?_; exact Q3 gT tK (fun _ => rfl) (.refl _) tK
 refine U5 ⟨Nat × Sx, fun y => SOf 8 y.2, fun y => .slice (some ⟨y.1, 0, none⟩) 2 2, fun y => [Row (some ⟨y.1, 0, none⟩) (rows ([d0, y.2] : List Sx)), Row y.2.2.1.a (rows y.2.2.1.l), Row y.2.2.2.a (rows y.2.2.2.l)]⟩ rfl rfl rfl ?_ ?_
 ·intro y4 h4; intro w1; refine c7 rfl (j4 ?_); exact I9 y4 h4 rfl mC
 refine E1 ⟨rfl, ?_⟩; intro _ _ _ _ _ _ gT _ y4 hsz; obtain ⟨gL, sz⟩ := y4; simp only at hsz; obtain ⟨c, ps, qs⟩ := sz; have h0 : chkS c ps.l qs.l = 0 := hsz.ok; have hqm : qs.l.length ≤ 8 := hsz.x8; have hpc : ps.l.length ≤ ps.c := hsz.ca; have hqc : qs.l.length ≤ qs.c := hsz.cb; have hsa := pz7 h0; have hn1 := hsa.n1; have hn5 := hsa.n5; have hqx := hsa.x8; have hpl : ps.l.length ≤ 1000000 := by omega
 have hql : qs.l.length ≤ 1000000 := by omega
 clear hsz; refine c7 rfl (d8 (dj7 ?_)); refine hc_dup (F := Row (d6 gL) (rows ([d0, (c, ps, qs)] : List Sx))) mB ?_; refine yB (Fs := [Row d0.2.1.a (rows d0.2.1.l), Row d0.2.2.a (rows d0.2.2.l)]) (by intro F hF; simp only [List.mem_cons, List.not_mem_nil, or_false] at hF; rcases hF with rfl | rfl; exact .inl mB; exact .inl mB) ?_; refine yB (Fs := [Row ps.a (rows ps.l), Row qs.a (rows qs.l)]) (by intro F hF; simp only [List.mem_cons, List.not_mem_nil, or_false] at hF; rcases hF with rfl | rfl; exact .inl mB; exact .inl mB) ?_; refine yB (Fs := ([d0, (c, ps, qs)] : List Sx).map Sx.row) (by intro F hF; simp only [List.map_cons, List.map_nil, List.mem_cons, List.not_mem_nil, or_false] at hF; rcases hF with rfl | rfl <;> exact .inl mB) ?_; refine wx9 (A := (d6 gL)) (ps := ([d0, (c, ps, qs)] : List Sx)) (f := Sx.row) mB mB ?_; obtain ⟨dl, hdl⟩ : ∃ dl : List Sx, dl = ([d0, (c, ps, qs)] : List Sx) := ⟨_, rfl⟩; rw [← hdl]; have hdl3 : dl.length = 2 := by rw [hdl]; rfl
 have hdal : ∀ d ∈ dl, d.2.1.l.length ≤ 1000000 ∧ d.2.2.l.length ≤ 1000000 := by rw [hdl]; intro d hd; simp only [List.mem_cons, List.not_mem_nil, or_false] at hd; rcases hd with rfl | rfl; exact ⟨by omega, by omega⟩; exact ⟨hpl, hql⟩
 refine j0 (c7 rfl (d8 (j8 ?_))); refine y8 (β := Nat × List Str × OutC × Hp) ⟨fun z => z.1 ≤ 2 ∧ z.2.1.length = 1 + z.1 ∧ (∀ j, 1 ≤ j → (z.2.1.getD j default).length ≤ 250) ∧ Grow aD 1 z.2.2.1.1 z.2.1.length z.2.2.1.2 (rows z.2.1) z.2.2.2, fun z => [(3, int at_), (4, int how), (5, .int .u8 by_.toNat), (13, .slice (d6 gL) 2 2), (14, .slice z.2.2.1.1 z.2.1.length z.2.2.1.2), (15, int z.1)], fun z => z.2.2.2, fun _ => [Row (d6 gL) (rows dl), RowsF (d6 gL) dl Sx.row, TAB]⟩ (fun z => 2 - z.1) (0, [x], (some ⟨gT, 0, none⟩, 1), [(gT, Obj.cells #[str x] aD (0, 0))]) ⟨Nat.zero_le _, rfl, fun j hj => by rw [mz2 (by simpa using hj)]; exact Nat.zero_le _, Grow.new (cs := #[str x]) (n := 1) rfl (by decide)⟩ mC (.cons_cons _ nK) mC fun z hz => ?_; obtain ⟨i, ts, ⟨oA, oc⟩, og⟩ := z; obtain ⟨hi2, htl, htb, hG⟩ := hz; simp only at hi2 htl htb hG; refine i7 (d9 (b8 rfl (b8 rfl ?_))); refine l7 rfl iI rfl ?_; refine C4 rfl rfl rfl (d8 ?_); refine m6 rfl (fun hb2 => ?_) (fun hb2 => ?_)
 ·have hi : i < 2 := by omega
  obtain ⟨d, hdd⟩ : ∃ d, d = dl.getD i default := ⟨_, rfl⟩; have hdm : d ∈ dl := by rw [hdd]; exact A3 (by omega)
  obtain ⟨hd1, hd2⟩ := hdal d hdm; refine mz0 (p := d) (f := Sx.row) (ps := dl) mB hdm ?_; refine sz5 (F := Row d.2.1.a (rows d.2.1.l)) (Fs := [Row d.2.1.a (rows d.2.1.l), Row d.2.2.a (rows d.2.2.l)]) mB (by simp) ?_; refine sz5 (F := Row d.2.2.a (rows d.2.2.l)) (Fs := [Row d.2.1.a (rows d.2.1.l), Row d.2.2.a (rows d.2.2.l)]) mB (by simp) ?_; obtain ⟨⟨tx, er⟩, hwr⟩ : ∃ q, wrB (d.1, d.2.1.l, d.2.2.l) = q := ⟨_, rfl⟩; have htx := wrB_len (d.1, d.2.1.l, d.2.2.l); have hBW := iq6 d.1 d.2.1 d.2.2 hd1 hd2; have hRW := cq9 d.1 d.2.1 d.2.2 hd1 hd2; rw [hwr] at htx hBW hRW
  dsimp only at htx hBW hRW
  refine j6 (i8 (i7 (j8 (d9 (b8 rfl (b8 rfl ?_)))))); refine r8 (α := Sx) dl i rfl iI j7 rfl rfl rfl mB hdl3.symm (by omega) (by decide) ?_; refine I0 (cs := El.cells d) rfl l6 j7 rfl rfl (H5 mB (by rw [hdd]; exact K2 (by omega))) ?_; refine j5 ij3 rfl rfl (hBW) (hpR := og) (.refl _) mC fun _ _ => ?_; refine b8 rfl (m4 rfl rfl rfl (m4 rfl rfl rfl (c7 rfl (c7 rfl (k6 (b8 rfl (b8 rfl ?_))))))); refine r8 (α := Sx) dl i rfl iI j7 rfl rfl rfl mB hdl3.symm (by omega) (by decide) ?_; refine I0 (cs := El.cells d) rfl l6 j7 rfl rfl (H5 mB (by rw [hdd]; exact K2 (by omega))) ?_; refine j5 dx0 rfl rfl (hRW) (hpR := og) (.refl _) mC fun _ _ => ?_; refine b8 rfl (m4 rfl rfl rfl (m4 rfl rfl rfl (c7 rfl (c7 rfl (d8 (i7 (d9 (b8 rfl (b8 rfl ?_))))))))); refine qT rfl rfl rfl (b8 rfl ?_); refine t7 rfl rfl ?_ ?_
  ·intro hg3; refine l9 hg3 (b8 rfl (l9 hg3 (b8 rfl (l9 hg3 (P9 rfl rfl rfl ?_))))); refine p_f rfl rfl (bf1 hg3) rfl (d8 ?_); refine m6 rfl (fun hb3 => ?_) (fun hb3 => ?_)
   ·exact absurd hb3 (by simp)
   refine j6 (i8 (j0 (b8 rfl (b8 rfl ?_)))); refine p7 _ rfl rfl (fun _ => lF ..) fun gS => ?_; refine M2 (ts.length + 1) (rows (ts ++ [tx])) tU rfl rfl rfl hG (List.perm_append_comm (l₁ := [_])) (Src.own (cs := #[str tx]) (m := 1) (List.mem_append_right _ m0) rfl rfl) rfl (C9 ts [tx]).symm (by unfold maxLen; omega) (by omega) fun A' c' og' hG' => ?_; refine c7 rfl (j4 (w9 (i8 (j0 (b8 rfl ?_))))); refine v8 _ rfl rfl rfl rfl r6 ?_; refine c7 rfl (j4 ?_); exact again _ (i + 1, ts ++ [tx], (A', c'), og') ⟨by show i + 1 ≤ 2; omega, by show (ts ++ [_]).length = 1 + (i + 1); rw [List.length_append]; simp; omega, pj2 htb htx, by show Grow _ _ _ (ts ++ [_]).length _ _ _; rw [List.length_append]; exact hG'⟩ (C8 (by omega)) ⟨rfl, rfl, rfl, rfl, by rw [List.length_append]; rfl, rfl, tK⟩ (List.sublist_append_left _ _) mC
  intro hg3; have hg3' := hg3; try simp at hg3'
 have hi : i = 2 := by omega
 subst hi; refine w8 (E4 (w6 (i8 (i7 ?_))))
 obtain ⟨gT2, cur, rfl, rfl, hg1, hg2, hg3, hg4⟩ : ∃ g cur, oA = some ⟨g, 0, none⟩ ∧ og = [(g, Obj.cells cur aD (0, 0))] ∧ ts.length ≤ oc ∧ oc ≤ maxLen ∧ cur.size = oc * 1 ∧ cur.toList.take (ts.length * 1) = rows ts := by
   rcases hG.2 with ⟨h, _⟩ | h
   · omega
   obtain ⟨g, cur, h1, h2, h3, h4, h5, h6⟩ := h; exact ⟨g, cur, h1, h2, h3, h4, h5, h6⟩
 have hs3 := htb 2 (by omega); refine j0 (b8 rfl (b8 rfl ?_)); refine B9 2 2 rfl p8 m7 rfl rfl rfl (by simp only; omega) rfl ?_; refine c8 (v := str (ts.getD 2 default)) rfl l3 rfl (m3 m0 (own_f (α := Str) (k := 2) (f := 0) hg4 (by omega) rfl rfl)) ?_; refine b8 rfl (b8 rfl (b8 rfl ?_)); refine j5 dx6 rfl rfl (dj2 (ts.getD 2 default) at_ how by_ (by omega)) (hpR := [_]) (.refl _) tK fun sm hsm => ?_; simp only at hsm; refine b8 rfl (j5 rJ rfl rfl (qV how 2 (by omega)) (hpR := [_]) (.refl _) tK fun zi hzi => ?_); obtain ⟨nz, rfl⟩ : ∃ nz : Nat, zi = nz := ⟨zi.toNat, by have := hzi.1; omega⟩; have hnz : nz < 2 := by have := hzi.2; omega
 refine v8 ((250 + nz : Nat) : Int) rfl rfl rfl (by omega) r6 (kj0 (α := UInt8) (0 : UInt8) (n := 250 + nz) (bytes := 1) (z := .int .u8 0) rfl K7 p9 rfl rfl rfl rfl (by omega) (by omega) fun gz => ?_); refine mO (l := List.replicate (250 + nz) 0) (p := ⟨gz, 0, none⟩) (cap := 250 + nz) rfl K7 aM l5 (by rw [List.length_replicate]; rfl) (lq9 (l := List.replicate (250 + nz) 0) m0) ?_; refine p7 _ rfl rfl (fun _ => cj8 ..) fun gS => ?_; refine M2 (ts.length + 2) (rows (ts ++ [sm, List.replicate (250 + nz) 0])) tU rfl rfl rfl hG (List.perm_append_comm (l₁ := [_, _]) (l₂ := [_])) (Src.own (cs := #[str sm, str (List.replicate (250 + nz) 0)]) (m := 2) (List.mem_append_right [_] m0) rfl rfl) rfl (C9 ts [sm, List.replicate (250 + nz) 0]).symm (by unfold maxLen; omega) (by omega) fun A' c' og' hG' => ?_; refine c7 rfl (d8 (dj7 ?_)); refine yA hG' ?_; have htl2 : (ts ++ [sm, List.replicate (250 + nz) 0]).length = ts.length + 2 := by rw [List.length_append]; rfl
 rw [← htl2] at hG'; have ht6 : (ts ++ [sm, List.replicate (250 + nz) 0]).length = 5 := by omega
 refine j0 (c7 rfl (d8 (j8 ?_))); refine y8 (β := Nat) ⟨fun i => i ≤ 5, fun i => [(14, .slice A' (ts ++ [sm, List.replicate (250 + nz) 0]).length c'), (20, int i)], fun _ => [], fun _ => [Row A' (rows (ts ++ [sm, List.replicate (250 + nz) 0]))]⟩ (fun i => 5 - i) 0 (Nat.zero_le _) ⟨by rw [htl2]; rfl, rfl, tK⟩ nK mC fun i hi => ?_; generalize ts ++ [sm, List.replicate (250 + nz) 0] = ts2 at *; simp only at hi; refine i7 (d9 (b8 rfl (b8 rfl ?_))); refine l7 rfl p8 rfl ?_; refine C4 rfl rfl rfl (d8 ?_); refine m6 rfl (fun hb4 => ?_) (fun hb4 => ?_)
 ·have hi4 : i < ts2.length := by omega
  have hRd := jz3 (ts2.getD i default); have hRf := gx3 (ts2.getD i default); have hlx := vx5 (ts2.getD i default); obtain ⟨r2, hr2⟩ : ∃ r, readB (ts2.getD i default) = r := ⟨_, rfl⟩; rw [hr2] at hRd hRf hlx; refine j6 (i8 (i7 (j8 (d9 (b8 rfl (b8 rfl ?_)))))); refine r8 (α := Str) ts2 i rfl p8 m7 rfl rfl rfl mB rfl (by omega) (by decide) (c8 (v := str (ts2.getD i default)) rfl l3 rfl (k9 mB (j9 (by omega) rfl)) (j5 jx5 rfl rfl (hRd) p6 tK fun y2 _ => ?_)); refine b8 rfl (m4 rfl rfl rfl (m4 rfl rfl rfl (m4 rfl rfl rfl ?_))); refine B3 rfl (fun _ => G5 _) fun gX => t6 (cs := tkC r2.1.1 (y2.1, r2.1.2.1.length) (y2.2, r2.1.2.2.length)) rfl rfl (.refl _) j7 (by rfl) (by rfl) ?_; refine c7 rfl (c7 rfl (d8 (i7 (Y3 (j0 (b8 rfl (b8 rfl ?_))))))); refine r8 (α := Str) ts2 i rfl p8 m7 rfl rfl rfl mB rfl (by omega) (by decide) (c8 (v := str (ts2.getD i default)) rfl l3 rfl (k9 mB (j9 (by omega) rfl)) (j5 hj8 rfl rfl (hRf) p6 tK fun y3 _ => ?_)); refine b8 rfl (m4 rfl rfl rfl (m4 rfl rfl rfl (m4 rfl rfl rfl ?_))); refine B3 rfl (fun _ => G5 _) fun gY => t6 (cs := tkC r2.1.1 (y3.1, r2.1.2.1.length) (y3.2, r2.1.2.2.length)) rfl rfl (.refl _) j7 (by rfl) (by rfl) ?_; refine c7 rfl (c7 rfl (d8 (i7 (Y3 (j0 (b8 rfl (b8 rfl (P9 rfl rfl rfl (b8 rfl ?_))))))))); refine t7 rfl rfl ?_ ?_
  ·intro hg4; refine l9 hg4 (b8 rfl (l9 hg4 (b8 rfl (l9 hg4 (P9 rfl rfl rfl ?_))))); refine p_f rfl rfl (bf1 hg4) rfl (b8 rfl ?_); refine t7 rfl rfl ?_ ?_
   ·intro hg5; refine l9 hg5 (R9 rfl l6 j7 rfl mB (by rfl) (l9 hg5 (R9 rfl l6 j7 rfl mB (by rfl) (l9 hg5 ?_)))); refine j5 dx9 rfl rfl (dj5 (pA := y3.1.1) (qA := y3.2.1) (pC := y3.1.2) (qC := y3.2.2) r2.1.1 ⟨y2.1.1, y2.1.2, r2.1.2.1⟩ ⟨y2.2.1, y2.2.2, r2.1.2.2⟩ (by show r2.1.2.1.length ≤ 1000000; omega) (by show r2.1.2.2.length ≤ 1000000; omega)) p6 mC fun _ _ => ?_; refine l9 hg5 (K6 rfl rfl ?_); refine p_f rfl rfl (bf1 hg5) rfl (d8 ?_); refine D0 rfl (fun hb5 => ?_) (fun hb5 => ?_)
    ·exact absurd hb5 (by decide)
    refine j6 (w9 (i8 (j0 (b8 rfl ?_)))); refine v8 _ rfl rfl rfl rfl r6 ?_; refine c7 rfl (j4 ?_); exact again _ (i + 1) (by show i + 1 ≤ 5; omega) (C8 (by omega)) mC nK mC
   intro hg5; have hg5' := hg5; try simp at hg5'
  intro hg4; have hg4' := hg4; try simp at hg4'
 refine w8 (E4 (w6 (i8 (d9 ?_)))); refine j5 dI rfl rfl (dE) p6 tK fun _ _ => ?_; refine c7 rfl (d8 (k5 ?_)); exact ret1 () rfl rfl rfl tK nK tK
end Go.Proofs.YtcdopfjiadifhaaGreatDoor
end
section
namespace Go.W
open Go Go.Conc
theorem Lv.at {P : Program} {fr : Frame} {w : World} {v : Value} (h : Lv P fr w v) (d : Nat) : Lv P fr (w.at d) v :=
  ⟨h.1, h.2.1, h.2.2.1, h.2.2.2.elim fun fn x => ⟨fn, x.1, fun d' => x.2 d'⟩⟩
theorem run_of {P : Program} {f : FuncId} {fn : Func} {t : Tmp} {args : Array Value} {W : World} {R : Value → World → Prop} (hf : P.funcs[f]? = some fn) (hres : fn.results = #[.tmp t]) (hin : P.inits.idxOf? f = none)
    (h : CallsB P f args W R) (hat : ∀ v w d, R v w → R v (w.at d)) :
    ∃ M last o w' t', runNT P (M + 1) (solo (G (Frame.enter P f args .normal) []) W) #[] = (.ended o w', t') ∧ runN P M (solo (G (Frame.enter P f args .normal) []) W) = .next last ∧ step P last = .ended o w' ∧ Conc.Good P R last o w' t' := by
  have hco := h [] (fun g w => ∃ v fr, g = G fr [] ∧ fr.fn = f ∧ Lv P fr w v ∧ R v w) (fun fr v w' hfr hR hl => co_done fun d => ⟨v, fr, rfl, hfr, hl.at d, hat _ _ _ hR⟩); obtain ⟨N, gs, g, w, sl, t0, q, B, r, h0, hL, hP, v, fr, rfl, hfr, hl, hR⟩ := hco W.drawn #[G (Frame.enter P f args .normal) []] none #[] (fun _ => 0) 0 rfl (leavers_one P _) past_nil
  have hG : Goes P true AtRel (fun _ _ es => ∀ e ∈ es, EvL noS B e) (AtEnd P noS B R) 0 (G fr []) w := by
    rintro w₁ ⟨d, rfl⟩; refine ⟨rfl, v, #[], ?_, by simp, hat _ _ _ hR⟩; obtain ⟨hm, hd, hn, fn', hf', hr⟩ := hl.at d; rw [hfr, hf] at hf'; obtain rfl := Option.some.inj hf'; have hf2 : P.funcs[fr.fn]? = some fn := by rw [hfr]; exact hf
    have hin2 : P.inits.idxOf? fr.fn = none := by rw [hfr]; exact hin
    have he : (results fn fr.tmps).events P (w.at d) #[] = #[] := events_results_tmp hres _ _; have hr0 : (results fn fr.tmps).run P (w.at d) = .ok v (w.at d) := hr d
    simp [G, stepG, unwind, doReturn, hn, hd, hm, hf2, hr0, he, hin2, GStep.after, seen]
  obtain ⟨M, last, o, w', t', e1, e2, e3, e4⟩ := beside_ends (P := P) (Post := R) (sl := sl) (fun _ _ _ h => h) h0 hL hP hG; have hrun : runNT P N (solo (G (Frame.enter P f args .normal) []) W) #[] = (.next (crowd gs w sl), t0) := r; refine ⟨N + M, last, o, w', t', ?_, ?_, e3, e4⟩
  · rw [Nat.add_assoc, mq7 hrun]; exact e1
  rw [runN_add, ← runNT_fst P _ _ #[], hrun]; exact e2
end Go.W
end
