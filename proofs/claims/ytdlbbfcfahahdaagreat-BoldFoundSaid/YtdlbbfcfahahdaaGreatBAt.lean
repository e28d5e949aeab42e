/- Texts of this claim, one behind another. -/

import Derived.Test.YtdlbbfcfahahdaaGreatBAp
import Derived.Test.YtdlbbfcfahahdaaGreatBAs
set_option linter.unusedVariables false
set_option linter.unusedSimpArgs false
section
namespace Go.Proofs.YtdlbbfcfahahdaaGreat
open Go Go.W
set_option maxRecDepth 20000
attribute [local irreducible] HL HC HQ HB Row Rows2 Blk Facts
def SeenC (n m i : Nat) (c : List Int) : Prop := c.Sublist (upI 0 n) ∧ (c.length < m ∨ ∃ j, j < i ∧ j < (combos m (upI 0 n)).length ∧ c = (combos m (upI 0 n)).getD j default)
theorem nx8 {n : Nat} {c : List Int} : ¬ SeenC n 0 0 c := by
  rintro ⟨_, h | ⟨j, h, _⟩⟩
  · exact absurd h (Nat.not_lt_zero _)
  exact absurd h (Nat.not_lt_zero _)
theorem iE {n m i : Nat} (hi : i < (combos m (upI 0 n)).length) (c : List Int) : SeenC n m (i + 1) c ↔ SeenC n m i c ∨ c = (combos m (upI 0 n)).getD i default := by
  constructor
  · rintro ⟨h1, h2 | ⟨j, h3, h5, h4⟩⟩
    · exact .inl ⟨h1, .inl h2⟩
    by_cases e : j = i
    · subst e; exact .inr h4
    exact .inl ⟨h1, .inr ⟨j, by omega, h5, h4⟩⟩
  rintro (⟨h1, h2 | ⟨j, h3, h5, h4⟩⟩ | rfl)
  · exact ⟨h1, .inl h2⟩
  · exact ⟨h1, .inr ⟨j, by omega, h5, h4⟩⟩
  exact ⟨cJ (n0 hi), .inr ⟨i, by omega, hi, rfl⟩⟩
theorem rW {n m : Nat} (c : List Int) : SeenC n (m + 1) 0 c ↔ SeenC n m (combos m (upI 0 n)).length c := by
  constructor
  · rintro ⟨h1, h2 | ⟨j, h3, _⟩⟩
    · refine ⟨h1, ?_⟩
      by_cases e : c.length < m
      · exact .inl e
      have h3 := cx6 h1; rw [show c.length = m by omega] at h3; obtain ⟨j, hj, e2⟩ := List.getElem_of_mem h3; exact .inr ⟨j, hj, hj, by rw [t5 hj, e2]⟩
    exact absurd h3 (Nat.not_lt_zero _)
  rintro ⟨h1, h2 | ⟨j, h3, h5, h4⟩⟩
  · exact ⟨h1, .inl (by omega)⟩
  exact ⟨h1, .inl (by rw [h4, N3 (n0 h5)]; omega)⟩
theorem uP {n : Nat} {c : List Int} : SeenC n (n + 1) 0 c ↔ c.Sublist (upI 0 n) := ⟨fun h => h.1, fun h => ⟨h, .inl (by have := h.length_le; rw [uF] at this; omega)⟩⟩
def FdS (pr : List Int) (ok : List Int → Bool) (P : List Int → Prop) (x : Hn) : Prop := ∃ c, P c ∧ ok c = true ∧ x = fndH pr c
def FdI (n : Nat) (pr : List Int) (ok : List Int → Bool) (m i : Nat) (b : List Int) (l : Int) : Prop := (l = -1 ∧ b = [] ∧ ∀ c, SeenC n m i c → ok c = false) ∨ (0 ≤ l ∧ l = (priP pr b).sum ∧ BestIs ordP (FdS pr ok (SeenC n m i)) (fndH pr b))
section
variable {n m i : Nat} {pr : List Int} {ok : List Int → Bool} {b : List Int} {l : Int}
theorem rz9 : FdI n pr ok 0 0 [] (-1) := .inl ⟨rfl, rfl, fun c h => absurd h nx8⟩
theorem sj0 (h : FdI n pr ok m (combos m (upI 0 n)).length b l) : FdI n pr ok (m + 1) 0 b l := by
  rcases h with ⟨h1, h2, h3⟩ | ⟨h1, h2, ⟨c, h4, h5, h6⟩, h7⟩
  · exact .inl ⟨h1, h2, fun c hc => h3 c ((rW c).1 hc)⟩
  exact .inr ⟨h1, h2, ⟨c, (rW c).2 h4, h5, h6⟩, fun x ⟨d, h8, h9⟩ => h7 x ⟨d, (rW d).1 h8, h9⟩⟩
theorem nj4 (hi : i < (combos m (upI 0 n)).length) (hb : SeenC n m i b) : b.length < m ∨ (b.length = m ∧ cmpIs b ((combos m (upI 0 n)).getD i default) < 0) := by
  rcases hb.2 with h | ⟨j, h1, h2, rfl⟩
  · exact .inl h
  exact .inr ⟨N3 (n0 h2), by rw [t5 h2, t5 hi]; exact List.pairwise_iff_getElem.1 (gD m _ (upI_lt n)) j i h2 hi h1⟩
theorem jz8 (hi : i < (combos m (upI 0 n)).length) (hb : SeenC n m i b) : ordP (fndH pr ((combos m (upI 0 n)).getD i default)) (fndH pr b) < 0 ↔ (priP pr ((combos m (upI 0 n)).getD i default)).sum < (priP pr b).sum := by
  rw [vG]; have h1 := N3 (n0 hi); show ((priP pr ((combos m (upI 0 n)).getD i default)).sum < (priP pr b).sum ∨ ((priP pr ((combos m (upI 0 n)).getD i default)).sum = (priP pr b).sum ∧ (((combos m (upI 0 n)).getD i default).length < b.length ∨ (((combos m (upI 0 n)).getD i default).length = b.length ∧ cmpIs ((combos m (upI 0 n)).getD i default) b < 0)))) ↔ _; rw [h1]
  constructor
  · rintro (h | ⟨h2, h3 | ⟨h3, h4⟩⟩)
    · exact h
    · rcases nj4 hi hb with h5 | ⟨h5, _⟩ <;> omega
    rcases nj4 hi hb with h5 | ⟨h5, h6⟩
    · omega
    exact absurd (pF h6 h4) (yL b)
  exact .inl
theorem nj3 {P : List Int → Prop} (h : FdS pr ok P (fndH pr b)) : P b := by
  obtain ⟨c, h1, _, h2⟩ := h; have h3 : b = c := congrArg (fun x : Hn => x.1) h2; rw [h3]; exact h1
theorem nj2 (hi : i < (combos m (upI 0 n)).length) (h : FdI n pr ok m i b l) (hx : ok ((combos m (upI 0 n)).getD i default) = true) (h0 : 0 ≤ (priP pr ((combos m (upI 0 n)).getD i default)).sum) (hl : l < 0 ∨ (priP pr ((combos m (upI 0 n)).getD i default)).sum < l) : FdI n pr ok m (i + 1) ((combos m (upI 0 n)).getD i default) (priP pr ((combos m (upI 0 n)).getD i default)).sum := by
  refine .inr ⟨h0, rfl, ⟨_, (iE hi _).2 (.inr rfl), hx, rfl⟩, fun y ⟨c, h1, h2, h3⟩ => ?_⟩
  rcases (iE hi c).1 h1 with h1 | e
  · rcases h with ⟨_, _, h⟩ | ⟨h5, h6, h7⟩
    · rw [h c h1] at h2; cases h2
    exact fun h10 => h7.2 y ⟨c, h1, h2, h3⟩ (tot_P.tr h10 ((jz8 hi (nj3 h7.1)).2 (by omega)))
  rw [h3, e]; exact tot_P.ir rfl rfl
theorem nj5 (hi : i < (combos m (upI 0 n)).length) (h : FdI n pr ok m i b l) (hx : ok ((combos m (upI 0 n)).getD i default) = true → ¬ (l < 0 ∨ (priP pr ((combos m (upI 0 n)).getD i default)).sum < l)) : FdI n pr ok m (i + 1) b l := by
  rcases h with ⟨h1, h2, h3⟩ | ⟨h5, h6, h7⟩
  · refine .inl ⟨h1, h2, fun c hc => ((iE hi c).1 hc).elim (h3 c) fun e => ?_⟩
    rw [e]; exact eq_false_of_ne_true fun e => hx e (.inl (by omega))
  have hs := nj3 h7.1; obtain ⟨⟨d, d1, d2, d3⟩, h8⟩ := h7; refine .inr ⟨h5, h6, ⟨d, (iE hi d).2 (.inl d1), d2, d3⟩, fun y ⟨c, c1, c2, c3⟩ => ?_⟩
  rcases (iE hi c).1 c1 with c1 | e
  · exact h8 y ⟨c, c1, c2, c3⟩
  rw [e] at c2 c3; rw [c3, jz8 hi hs, ← h6]; exact fun h => hx c2 (.inr h)
theorem fd_end {t : Tr} {hs : List Hd} {ws : List Int} {p : Int} (h : FdI hs.length pr (fndOK hs (reachK t p hs.length) ws) (hs.length + 1) 0 b l) : (l < 0 ∧ (fndB t hs pr ws p).2 = false) ∨ (0 ≤ l ∧ (fndB t hs pr ws p).2 = true ∧ (fndB t hs pr ws p).1.1 = b ∧ (fndB t hs pr ws p).1.2.2 = l) := by
  rcases nj1 (t := t) (hs := hs) (pr := pr) (ws := ws) (p := p) with ⟨f1, f2⟩ | ⟨f1, f2⟩ <;> rcases h with ⟨h1, h2, h3⟩ | ⟨h5, h6, h7⟩
  · exact .inl ⟨by omega, f1⟩
  · obtain ⟨⟨c, c1, c2, c3⟩, _⟩ := h7
    exact absurd ⟨c, uP.1 c1, c2, rfl⟩ (f2 (fndH pr c))
  · obtain ⟨⟨c, c1, c2, c3⟩, _⟩ := f2
    rw [h3 c (uP.2 c1)] at c2
    cases c2
  have e := qj1 tot_P f2 h7 (fun x => ⟨fun ⟨c, a, b, d⟩ => ⟨c, uP.2 a, b, d⟩, fun ⟨c, a, b, d⟩ => ⟨c, uP.1 a, b, d⟩⟩) (fun x y hx hy h => gz2 hx hy h); exact .inr ⟨h5, f1, by rw [e]; rfl, by rw [e, h6]; rfl⟩
end
theorem nx6 {cs : List Cl} {hs : List Hd} {h : Int} (h0 : checkT (trOf cs hs) = 0) (hh : 0 ≤ h ∧ h < (hs.length : Int)) : stepsE (trOf cs hs) h = (stepsT (trOf cs hs) h, 0) := by
  have hl := E4 cs hs; rw [stepsE, if_neg (not_not_intro (jj9 h0 (by omega)))]
theorem kq8 {cs : List Cl} {hs : List Hd} (h0 : checkT (trOf cs hs) = 0) {i : Nat} (hi : i < hs.length) : -1 ≤ (hs.getD i default).2.1 := by
  have hl := E4 cs hs; have h1 := ((mT h0).h i (by omega)).c.1; rw [show (trOf cs hs).hs.getD i default = (hs.getD i default).p from dX hi] at h1; exact h1
theorem miss_eq {cs : List Cl} {hs : List Hd} {p : Int} {ks : List Int} (h0 : checkT (trOf cs hs) = 0) (hk : ∀ v ∈ ks, 0 ≤ v ∧ v < (hs.length : Int)) {i : Nat} (hi : i < hs.length) : missB (reachK (trOf cs hs) p hs.length) ks i = ks.any (nearB (trOf cs hs) p (i : Int)) := by
  unfold missB; rw [Bool.eq_iff_iff, List.any_eq_true, List.any_eq_true]; refine exists_congr fun v => and_congr_right fun hv => ?_; have h1 := mx9 h0 (p := p) (w := (i : Int)) ⟨by omega, by omega⟩ (hk v hv); rw [Int.toNat_natCast] at h1; rw [h1]
theorem aO {A B : Option Addr} {ca cb : Nat} (cs : List Cl) (hs : List Hd) (m : Nat) (hm2 : m < hs.length) (hc : -1 ≤ (hs.getD m default).2.1) : Meets Tryz.prog F.dO [.agg #[.slice A cs.length ca, .slice B hs.length cb], int m] { LI := [Row A (rows cs), RowsF B hs Hd.row], val := fun _ : Unit => .bool (decide (0 ≤ (hs.getD m default).2.1)) } := by
 refine i9 F.aj0 rfl t4 fun w0 => ?_; refine i5 ?_; refine C0 rfl rfl fun gT => ?_; refine b8 rfl (j8 (bG ?_)); refine a8 ⟨_, 1, none⟩ rfl rfl T.j4 rfl (c9 (v := .slice B hs.length cb) rfl T.j6 rfl (j9 mB rfl) (a9 rfl (yD (A := B) (ps := hs) (f := Hd.row) mB (m7 (α := Hd) hs m rfl T.k9 T.u0 rfl rfl rfl mB rfl hm2 (by decide) (a8 _ rfl rfl T.A8 rfl (c9 (v := int (hs.getD m default).2.1) rfl T.i7 rfl (I6 mB (rows_get hm2 rfl)) ?_)))))); refine H2 rfl rfl rfl (b8 rfl (d6 (j5 ?_))); exact ret1 () rfl (congrArg (fun b => some (Value.bool b)) (by first | exact decide_eq_decide.2 (by omega) | simp; omega)) rfl trivial nil_sb trivial
theorem W8 {A B S : Option Addr} {ca cb sc n : Nat} (cs : List Cl) (hs : List Hd) (h : Int) (ks : List Int) (p : Int) (hhl : hs.length ≤ 1000) (hcl0 : cs.length ≤ 1000) (hwc : ∀ x ∈ cs, x.1.length ≤ 1000) (hwh : ∀ h ∈ hs, h.1.length ≤ 1000) (ha : ∀ h ∈ hs, h.2.2.2.l.length ≤ 1000000) (h0 : checkT (trOf cs hs) = 0) (hh : 0 ≤ h ∧ h < (hs.length : Int)) (hk : ∀ k ∈ ks, 0 ≤ k ∧ k < (hs.length : Int)) (hkl : ks.length ≤ 1000000) (e : ks.length = n) : Meets Tryz.prog F.Z9 [.agg #[.slice A cs.length ca, .slice B hs.length cb], int h, .slice S n sc, int p] { LI := [Row A (rows cs), RowsF B hs Hd.row, Row S (rows ks)], val := fun _ : Unit => .bool (ks.any (nearB (trOf cs hs) p h)) } := by
 subst e; have hln := E4 cs hs; have hsl := hU (trOf cs hs) h; refine i9 F.uS rfl t4 fun w0 => ?_; refine i5 ?_; refine C0 rfl rfl fun gT => ?_; refine b8 rfl (j8 (bG ?_)); refine E0 (cs := #[.slice A cs.length ca, .slice B hs.length cb]) rfl T.m4 T.k8 rfl mB rfl (a9 rfl ?_); have hst := uW (A := A) (B := B) (ca := ca) (cb := cb) cs hs h hhl hcl0 hwc hwh ha; rw [nx6 h0 hh] at hst; refine j0 F.bx5 rfl rfl (hst) l7 mC fun y hy => ?_; obtain ⟨sa, sc1⟩ := y; refine a9 rfl (u5 rfl rfl rfl (u5 rfl rfl rfl (b8 rfl (b8 rfl (d6 (d7 (i5 (b8 rfl (c8 ?_))))))))); refine d8 (i8 ?_); refine p9 (β := Nat) ⟨fun k => k ≤ ks.length ∧ (ks.take k).any (nearB (trOf cs hs) p h) = false, fun k => [(2, .slice S ks.length sc), (3, int p), (9, .slice sa (stepsT (trOf cs hs) h).length sc1), (11, int k)], fun _ => [], fun _ => [Row sa (rows (stepsT (trOf cs hs) h)), Row S (rows ks)]⟩ (fun k => ks.length - k) 0 ⟨Nat.zero_le _, rfl⟩ mC nil_sb mC fun k hkk => ?_; obtain ⟨hkk, hno⟩ := hkk; refine d7 (i5 (a9 rfl (a9 rfl ?_))); refine j3 rfl T.l4 rfl ?_; refine u4 rfl rfl rfl (d6 ?_); refine m3 rfl (fun hb1 => ?_) (fun hb1 => ?_)
 ·have hb1' := hb1; try simp at hb1'
  have hk2 : k < ks.length := by omega
  have hkv := hk _ (n0 hk2); obtain ⟨m, hme⟩ := Int.eq_ofNat_of_zero_le hkv.1; have hm2 : m < (stepsT (trOf cs hs) h).length := by omega
  have hcut := any_cut (p := nearB (trOf cs hs) p h) hk2; rw [hno, Bool.false_or] at hcut; have hnr : nearB (trOf cs hs) p h (ks.getD k default) = decide (0 ≤ (stepsT (trOf cs hs) h).getD m default ∧ (stepsT (trOf cs hs) h).getD m default ≤ p) := by unfold nearB; rw [hme, Int.toNat_natCast]
  refine i6 (d8 (d7 (i8 (i5 (a9 rfl (a9 rfl (a9 rfl ?_))))))); refine m7 (α := Int) ks k rfl T.l4 T.q7 rfl rfl rfl mB rfl (hk2) (by decide) ?_; refine c9 (v := int ((m : Int))) rfl T.i7 rfl (l8 mB (by rw [← hme]; exact k6 (hk2) rfl)) ?_; refine m7 (α := Int) (stepsT (trOf cs hs) h) m rfl T.l4 T.q7 rfl rfl rfl mB rfl (hm2) (by decide) (c9 (v := int ((stepsT (trOf cs hs) h).getD m default)) rfl T.i7 rfl (l8 mB (k6 (hm2) rfl)) ?_); refine R2 rfl rfl rfl (a9 rfl ?_); refine t7 rfl rfl ?_ ?_
  ·intro hg1; have hg1' := hg1; try simp at hg1'
   have q1 : 0 ≤ (stepsT (trOf cs hs) h).getD m default := of_decide_eq_true (eq_of_beq hg1); refine i3 rfl rfl hg1 (a9 rfl (i3 rfl rfl hg1 (a9 rfl (i3 rfl rfl hg1 (a9 rfl (i3 rfl rfl hg1 ?_)))))); refine m7 (α := Int) ks k rfl T.l4 T.q7 rfl rfl rfl mB rfl (hk2) (by decide) (i3 rfl rfl hg1 ?_); refine c9 (v := int ((m : Int))) rfl T.i7 rfl (l8 mB (by rw [← hme]; exact k6 (hk2) rfl)) ?_; refine i3 rfl rfl hg1 (m7 (α := Int) (stepsT (trOf cs hs) h) m rfl T.l4 T.q7 rfl rfl rfl mB rfl (hm2) (by decide) (i3 rfl rfl hg1 (c9 (v := int ((stepsT (trOf cs hs) h).getD m default)) rfl T.i7 rfl (l8 mB (k6 (hm2) rfl)) ?_))); refine i3 rfl rfl hg1 (a9 rfl (i3 rfl rfl hg1 (nK rfl rfl rfl ?_))); refine p_t rfl rfl (bt1 hg1) rfl ?_; refine d6 ?_; refine m3 rfl (fun hb2 => ?_) (fun hb2 => ?_)
   ·have hb2' := hb2; try simp at hb2'
    refine i5 (b8 rfl (d6 (j5 (w8 (r6 (w8 ?_)))))); exact ret1 () rfl (congrArg (fun b => some (Value.bool b)) (show ks.any (nearB (trOf cs hs) p h) = true from sx9 hk2 (by rw [hnr]; exact decide_eq_true ⟨q1, hb2⟩)).symm) rfl trivial nil_sb trivial
   have hb2' := hb2; try simp at hb2'
   refine i6 (t6 (d8 (d9 (a9 rfl ?_)))); refine r7 _ rfl rfl rfl rfl m6 ?_; refine b8 rfl (c8 ?_); exact again _ (k + 1) ⟨by show k + 1 ≤ ks.length; omega, by rw [hcut, hnr]; exact decide_eq_false fun e => hb2 e.2⟩ (u2 (by omega)) mC (.refl _) mC
  intro hg1; have hg1' := hg1; try simp at hg1'
  have q1 : ¬ 0 ≤ (stepsT (trOf cs hs) h).getD m default := of_decide_eq_false (bf2 hg1); refine k4 rfl rfl rfl rfl rfl hg1 (k4 rfl rfl rfl rfl rfl hg1 (k4 rfl rfl rfl rfl rfl hg1 (k4 rfl rfl rfl rfl rfl hg1 (k4 rfl rfl rfl rfl rfl hg1 (k4 rfl rfl rfl rfl rfl hg1 (k4 rfl rfl rfl rfl rfl hg1 (k4 rfl rfl rfl rfl rfl hg1 (k4 rfl rfl rfl rfl rfl hg1 ?_)))))))); refine p_f rfl rfl (bf2 hg1) rfl ?_; refine d6 (c_f rfl rfl (i6 (t6 (d8 (d9 (a9 rfl ?_)))))); refine r7 _ rfl rfl rfl rfl m6 ?_; refine b8 rfl (c8 ?_); exact again _ (k + 1) ⟨by show k + 1 ≤ ks.length; omega, by rw [hcut, hnr]; exact decide_eq_false fun e => q1 e.1⟩ (u2 (by omega)) mC (.refl _) mC
 have hb1' := hb1; try simp at hb1'
 obtain rfl : k = ks.length := by omega
 rw [List.take_length] at hno; refine p8 (v8 (p7 (d8 (i5 (b8 rfl (d6 (j5 ?_))))))); exact ret1 () rfl (congrArg (fun b => some (Value.bool b)) (show ks.any (nearB (trOf cs hs) p h) = false from hno).symm) rfl trivial nil_sb trivial
set_option maxHeartbeats 1000000 in
theorem uR {A B PA WA : Option Addr} {ca cb pc wc : Nat} (cs : List Cl) (hs : List Hd) (pr ws : List Int) (p : Int) (hhl : hs.length ≤ 1000) (hcl0 : cs.length ≤ 1000) (hwc : ∀ x ∈ cs, x.1.length ≤ 1000) (hwh : ∀ h ∈ hs, h.1.length ≤ 1000) (ha : ∀ h ∈ hs, h.2.2.2.l.length ≤ 1000000) (hpn : pr.length ≤ 1000000) (hwn : ws.length ≤ 1000000) : Meets Tryz.prog F.nE [.agg #[.slice A cs.length ca, .slice B hs.length cb], .slice PA pr.length pc, .slice WA ws.length wc, int p] { LI := [Row A (rows cs), RowsF B hs Hd.row, Row PA (rows pr), Row WA (rows ws)], inv := fun _ : OutC => (foundE cs hs pr ws p).1.length ≤ 1000000, val := fun x => .tuple #[.slice x.1 (foundE cs hs pr ws p).1.length x.2, int (foundE cs hs pr ws p).2.1, int (foundE cs hs pr ws p).2.2], LO := fun x => [Row x.1 (rows (foundE cs hs pr ws p).1)] } := by
 refine i9 F.dq2 rfl t4 fun w0 => ?_; refine i5 ?_; refine C0 rfl rfl fun gT => ?_; refine b8 rfl (b8 rfl (b8 rfl (d6 (d7 (i5 (bG ?_)))))); refine E0 (cs := #[.slice A cs.length ca, .slice B hs.length cb]) rfl T.m4 T.k8 rfl mB rfl ?_; refine j0 F.bU rfl rfl (V6 cs hs hhl hcl0 hwc hwh ha) l7 mC fun _ _ => ?_; refine b8 rfl (j8 (a9 rfl (H2 rfl rfl rfl (d6 ?_)))); refine m3 rfl (fun hb1 => ?_) (fun hb1 => ?_)
 ·have hb1' := hb1; try simp at hb1'
  refine i5 (a9 rfl (b8 rfl (b8 rfl (b8 rfl (d6 (G0 ?_)))))); have hE : foundE cs hs pr ws p = ([], 0, checkT (trOf cs hs)) := by rw [foundE, if_pos hb1]
  refine z9 (α := Int) ?_; exact ret3 (none, 0) rfl rfl rfl rfl (by show Value.tuple #[.slice (none) (foundE cs hs pr ws p).1.length (0), int (foundE cs hs pr ws p).2.1, int (foundE cs hs pr ws p).2.2] = _; rw [hE] <;> rfl) rfl (by show (foundE cs hs pr ws p).1.length ≤ 1000000; rw [hE]; first | exact Nat.zero_le _ | (show b.length ≤ 1000000; omega)) nil_sb (by show LSub _ [Row (none) (rows (foundE cs hs pr ws p).1)]; rw [hE]; exact mC)
 have hb1' := hb1; try simp at hb1'
 have h0 : checkT (trOf cs hs) = 0 := Classical.not_not.1 hb1; have hok := mT h0; have hn6 := hok.h6; rw [E4] at hn6; refine i6 (d8 (d7 (i5 (a9 rfl ?_)))); refine j3 rfl T.l4 rfl (a8 ⟨_, 1, none⟩ rfl rfl T.j4 rfl (c9 (v := .slice B hs.length cb) rfl T.j6 rfl (j9 mB rfl) (j3 rfl T.k9 rfl ?_))); refine u4 rfl rfl rfl (d6 ?_); refine m3 rfl (fun hb2 => ?_) (fun hb2 => ?_)
 ·have hb2' := hb2; try simp at hb2'
  have h2 : pr.length < hs.length := by omega
  refine i5 (b8 rfl (b8 rfl (b8 rfl (d6 (G0 ?_))))); have hE : foundE cs hs pr ws p = ([], 0, 7) := by rw [foundE, if_neg (Classical.not_not.2 h0), if_pos h2]
  refine z9 (α := Int) ?_; exact ret3 (none, 0) rfl rfl rfl rfl (by show Value.tuple #[.slice (none) (foundE cs hs pr ws p).1.length (0), int (foundE cs hs pr ws p).2.1, int (foundE cs hs pr ws p).2.2] = _; rw [hE] <;> rfl) rfl (by show (foundE cs hs pr ws p).1.length ≤ 1000000; rw [hE]; first | exact Nat.zero_le _ | (show b.length ≤ 1000000; omega)) nil_sb (by show LSub _ [Row (none) (rows (foundE cs hs pr ws p).1)]; rw [hE]; exact mC)
 have hb2' := hb2; try simp at hb2'
 have h2 : ¬ pr.length < hs.length := by omega
 refine i6 (d8 (d7 (i5 (a9 rfl ?_)))); refine j3 rfl T.l4 rfl (a8 ⟨_, 1, none⟩ rfl rfl T.j4 rfl (c9 (v := .slice B hs.length cb) rfl T.j6 rfl (j9 mB rfl) (j3 rfl T.k9 rfl ?_))); refine H5 rfl rfl rfl (d6 ?_); refine m3 rfl (fun hb3 => ?_) (fun hb3 => ?_)
 ·have hb3' := hb3; try simp at hb3'
  have h3 : hs.length < pr.length := by omega
  refine i5 (b8 rfl (b8 rfl (b8 rfl (d6 (G0 ?_))))); have hE : foundE cs hs pr ws p = ([], 0, 6) := by rw [foundE, if_neg (Classical.not_not.2 h0), if_neg h2, if_pos h3]
  refine z9 (α := Int) ?_; exact ret3 (none, 0) rfl rfl rfl rfl (by show Value.tuple #[.slice (none) (foundE cs hs pr ws p).1.length (0), int (foundE cs hs pr ws p).2.1, int (foundE cs hs pr ws p).2.2] = _; rw [hE] <;> rfl) rfl (by show (foundE cs hs pr ws p).1.length ≤ 1000000; rw [hE]; first | exact Nat.zero_le _ | (show b.length ≤ 1000000; omega)) nil_sb (by show LSub _ [Row (none) (rows (foundE cs hs pr ws p).1)]; rw [hE]; exact mC)
 have hb3' := hb3; try simp at hb3'
 have h3 : ¬ hs.length < pr.length := by omega
 have hpl0 : pr.length = hs.length := by omega
 refine i6 (d8 (d7 (i5 (b8 rfl (d6 (i8 ?_)))))); refine p9 (β := Nat) ⟨fun k => k ≤ pr.length ∧ ∀ j, j < k → prB (pr.getD j default), fun k => [(1, .slice PA pr.length pc), (2, .slice WA ws.length wc), (3, int p), (4, .pointer (b4 gT)), (12, int k)], fun _ => [], fun _ => [Blk gT (Obj.cells #[.slice A cs.length ca, .slice B hs.length cb] T.k7 (0, 0)), Row A (rows cs), RowsF B hs Hd.row, Row PA (rows pr), Row WA (rows ws)]⟩ (fun k => pr.length - k) 0 ⟨Nat.zero_le _, fun j hj => absurd hj (Nat.not_lt_zero j)⟩ mC nil_sb mC fun k hk => ?_; obtain ⟨hk, hq⟩ := hk; refine d7 (i5 (a9 rfl (a9 rfl ?_))); refine j3 rfl T.l4 rfl ?_; refine u4 rfl rfl rfl (d6 ?_); refine m3 rfl (fun hb4 => ?_) (fun hb4 => ?_)
 ·have hb4' := hb4; try simp at hb4'
  have hk2 : k < pr.length := by omega
  refine i6 (d8 (d7 (i8 (i5 (a9 rfl (a9 rfl ?_)))))); refine m7 (α := Int) pr k rfl T.l4 T.q7 rfl rfl rfl mB rfl (hk2) (by decide) (c9 (v := int (pr.getD k default)) rfl T.i7 rfl (l8 mB (k6 (hk2) rfl)) ?_); refine j0 F.N9 rfl rfl (K1 _ _ _) l7 trivial fun _ _ => ?_; refine E9 rfl rfl (d6 ?_); refine w6 rfl (fun hb5 => ?_) (fun hb5 => ?_)
  ·have hb5' := hb5; try simp at hb5'
   refine i5 (b8 rfl (b8 rfl (b8 rfl (d6 (j5 (w8 (r6 (V9 ?_)))))))); refine r6 ?_; have hE : foundE cs hs pr ws p = ([], 0, 1) := by rw [foundE, if_neg (Classical.not_not.2 h0), if_neg h2, if_neg h3, if_pos (cX (p := prB) hk2 (nbt hb5))]
   refine z9 (α := Int) ?_; exact ret3 (none, 0) rfl rfl rfl rfl (by show Value.tuple #[.slice (none) (foundE cs hs pr ws p).1.length (0), int (foundE cs hs pr ws p).2.1, int (foundE cs hs pr ws p).2.2] = _; rw [hE] <;> rfl) rfl (by show (foundE cs hs pr ws p).1.length ≤ 1000000; rw [hE]; first | exact Nat.zero_le _ | (show b.length ≤ 1000000; omega)) nil_sb (by show LSub _ [Row (none) (rows (foundE cs hs pr ws p).1)]; rw [hE]; exact mC)
  have hb5' := hb5; try simp at hb5'
  refine i6 (t6 (d8 (d9 (a9 rfl ?_)))); refine r7 _ rfl rfl rfl rfl m6 ?_; refine b8 rfl (c8 ?_); exact again _ (k + 1) ⟨by show k + 1 ≤ pr.length; omega, fun j hj => (Nat.lt_succ_iff_lt_or_eq.1 hj).elim (hq j) fun e => by subst e; exact nbf hb5⟩ (u2 (by omega)) mC nil_sb mC
 have hb4' := hb4; try simp at hb4'
 have hk2 : k = pr.length := by omega
 rw [hk2] at hq; have hq1 := W7 (l := pr) (p := prB) hq; refine p8 (v8 (p7 (d8 (d7 (i5 (b8 rfl (d6 (i8 ?_)))))))); refine p9 (β := Nat) ⟨fun k => k ≤ ws.length ∧ ∀ j, j < k → (0 ≤ ws.getD j default ∧ ws.getD j default ≤ (hs.length : Int) - 1), fun k => [(1, .slice PA pr.length pc), (2, .slice WA ws.length wc), (3, int p), (4, .pointer (b4 gT)), (13, int k)], fun _ => [], fun _ => [Blk gT (Obj.cells #[.slice A cs.length ca, .slice B hs.length cb] T.k7 (0, 0)), Row A (rows cs), RowsF B hs Hd.row, Row PA (rows pr), Row WA (rows ws)]⟩ (fun k => ws.length - k) 0 ⟨Nat.zero_le _, fun j hj => absurd hj (Nat.not_lt_zero j)⟩ mC nil_sb mC fun k hk => ?_; obtain ⟨hk, hq⟩ := hk; refine d7 (i5 (a9 rfl (a9 rfl ?_))); refine j3 rfl T.l4 rfl ?_; refine u4 rfl rfl rfl (d6 ?_); refine m3 rfl (fun hb6 => ?_) (fun hb6 => ?_)
 ·have hb6' := hb6; try simp at hb6'
  have hk2 : k < ws.length := by omega
  refine i6 (d8 (d7 (i8 (d7 ?_)))); refine A6 8 mixed (by decide) (by decide) rfl rfl (i4 (fun w1 => a9 rfl (q_z rfl)) (i4 (fun w1 => a9 rfl (q_z rfl)) (i4 (fun w1 => m7 (α := Int) ws k rfl T.l4 T.q7 rfl rfl rfl mB rfl (hk2) (by decide) (q_z rfl)) (i4 (fun w1 => c9 (v := int (ws.getD k default)) rfl T.i7 rfl (l8 mB (k6 (hk2) rfl)) (q_z rfl)) (i4 (fun w1 => a8 ⟨_, 1, none⟩ rfl rfl T.j4 rfl (q_z rfl)) (i4 (fun w1 => c9 (v := .slice B hs.length cb) rfl T.j6 rfl (j9 mB rfl) (q_z rfl)) (i4 (fun w1 => j3 rfl T.k9 rfl (q_z rfl)) ?_))))))); refine i4 (fun w1 => K2 _ rfl rfl rfl rfl m6 (q_z rfl)) ?_; refine v9 ⟨rfl, ?_⟩; refine j0 F.N9 rfl rfl (K1 _ _ _) l7 trivial fun _ _ => ?_; refine E9 rfl rfl (d6 ?_); refine w6 rfl (fun hb7 => ?_) (fun hb7 => ?_)
  ·have hb7' := hb7; try simp at hb7'
   refine i5 (b8 rfl (b8 rfl (b8 rfl (d6 (j5 (w8 (r6 (V9 ?_)))))))); refine r6 ?_; have hE : foundE cs hs pr ws p = ([], 0, 3) := by rw [foundE, if_neg (Classical.not_not.2 h0), if_neg h2, if_neg h3, if_neg (Classical.not_not.2 hq1), if_pos (cX (p := fun w => 0 ≤ w ∧ w ≤ (hs.length : Int) - 1) hk2 (nbt hb7))]
   refine z9 (α := Int) ?_; exact ret3 (none, 0) rfl rfl rfl rfl (by show Value.tuple #[.slice (none) (foundE cs hs pr ws p).1.length (0), int (foundE cs hs pr ws p).2.1, int (foundE cs hs pr ws p).2.2] = _; rw [hE] <;> rfl) rfl (by show (foundE cs hs pr ws p).1.length ≤ 1000000; rw [hE]; first | exact Nat.zero_le _ | (show b.length ≤ 1000000; omega)) nil_sb (by show LSub _ [Row (none) (rows (foundE cs hs pr ws p).1)]; rw [hE]; exact mC)
  have hb7' := hb7; try simp at hb7'
  refine i6 (t6 (d8 (d9 (a9 rfl ?_)))); refine r7 _ rfl rfl rfl rfl m6 ?_; refine b8 rfl (c8 ?_); exact again _ (k + 1) ⟨by show k + 1 ≤ ws.length; omega, fun j hj => (Nat.lt_succ_iff_lt_or_eq.1 hj).elim (hq j) fun e => by subst e; exact nbf hb7⟩ (u2 (by omega)) mC nil_sb mC
 have hb6' := hb6; try simp at hb6'
 have hk2 : k = ws.length := by omega
 rw [hk2] at hq; have hq2 := W7 (l := ws) (p := fun w => 0 ≤ w ∧ w ≤ (hs.length : Int) - 1) hq; have hwb : ∀ w ∈ ws, 0 ≤ w ∧ w < (hs.length : Int) := fun w hw => by have := hq2 w hw; omega
 refine p8 (v8 (p7 (d8 (d7 (i5 (a9 rfl ?_)))))); refine j0 F.N9 rfl rfl (K1 _ _ _) l7 trivial fun _ _ => ?_; refine E9 rfl rfl (d6 ?_); refine w6 rfl (fun hb8 => ?_) (fun hb8 => ?_)
 ·have hb8' := hb8; try simp at hb8'
  have h8 := nbt hb8; refine i5 (b8 rfl (b8 rfl (b8 rfl (d6 (G0 ?_))))); have hE : foundE cs hs pr ws p = ([], 0, 1) := by rw [foundE, if_neg (Classical.not_not.2 h0), if_neg h2, if_neg h3, if_neg (Classical.not_not.2 hq1), if_neg (Classical.not_not.2 hq2), if_pos h8]
  refine z9 (α := Int) ?_; exact ret3 (none, 0) rfl rfl rfl rfl (by show Value.tuple #[.slice (none) (foundE cs hs pr ws p).1.length (0), int (foundE cs hs pr ws p).2.1, int (foundE cs hs pr ws p).2.2] = _; rw [hE] <;> rfl) rfl (by show (foundE cs hs pr ws p).1.length ≤ 1000000; rw [hE]; first | exact Nat.zero_le _ | (show b.length ≤ 1000000; omega)) nil_sb (by show LSub _ [Row (none) (rows (foundE cs hs pr ws p).1)]; rw [hE]; exact mC)
 have hb8' := hb8; try simp at hb8'
 have h8 := nbf hb8; refine i6 (d8 (i5 (b8 rfl (j8 (b8 rfl (d6 ?_)))))); refine d7 (i5 (b8 rfl (d6 (i8 ?_)))); refine pq6 (α := Int) ?_; refine p9 (β := Nat × OutC × List Int × Int) ⟨fun x => x.1 ≤ hs.length + 1 ∧ FdI hs.length pr (fndOK hs (reachK (trOf cs hs) p hs.length) ws) x.1 0 x.2.2.1 x.2.2.2 ∧ x.2.2.1.length ≤ 6, fun x => [(1, .slice PA pr.length pc), (2, .slice WA ws.length wc), (3, int p), (4, .pointer (b4 gT)), (14, .slice x.2.1.1 x.2.2.1.length x.2.1.2), (15, int x.2.2.2), (16, int x.1)], fun _ => [], fun x => [Row x.2.1.1 (rows x.2.2.1), Blk gT (Obj.cells #[.slice A cs.length ca, .slice B hs.length cb] T.k7 (0, 0)), Row A (rows cs), RowsF B hs Hd.row, Row PA (rows pr), Row WA (rows ws)]⟩ (fun x => hs.length + 1 - x.1) (0, (none, 0), [], -1) ⟨Nat.zero_le _, rz9, Nat.zero_le _⟩ mC nil_sb mC fun x hx => ?_; obtain ⟨m, o, b, l⟩ := x; obtain ⟨hm, hI, hbl⟩ := hx; simp only at hm hI hbl; refine d7 (i5 (a9 rfl ?_)); refine a8 ⟨_, 1, none⟩ rfl rfl T.j4 rfl (c9 (v := .slice B hs.length cb) rfl T.j6 rfl (j9 mB rfl) (j3 rfl T.k9 rfl ?_)); refine nK rfl rfl rfl (d6 ?_); refine m3 rfl (fun hb9 => ?_) (fun hb9 => ?_)
 ·have hb9' := hb9; try simp at hb9'
  have hm2 : m ≤ hs.length := by omega
  refine i6 (d8 (d7 (i8 (i5 ?_)))); refine a8 ⟨_, 1, none⟩ rfl rfl T.j4 rfl (c9 (v := .slice B hs.length cb) rfl T.j6 rfl (j9 mB rfl) (j3 rfl T.k9 rfl (a9 rfl ?_))); refine j0 F.nB rfl rfl (uQ hs.length (by omega) m 0 (by omega) (by omega)) l7 trivial fun y hz => ?_; obtain ⟨zp, ZA, zc⟩ := y; change lsts zp = _ at hz; have hzl : zp.length = (combos m (upI 0 hs.length)).length := by rw [← bz7, hz]
  have hzb : zp.length ≤ 64 := by have h9 := kI (upI 0 hs.length) m; rw [uF] at h9; have h8 : 2 ^ (hs.length - 0) ≤ 2 ^ 6 := Nat.pow_le_pow_right (by decide) (by omega); omega
  refine b8 rfl (j8 (b8 rfl (d6 (i8 ?_)))); refine p9 (β := Nat × OutC × List Int × Int) ⟨fun x => x.1 ≤ zp.length ∧ FdI hs.length pr (fndOK hs (reachK (trOf cs hs) p hs.length) ws) m x.1 x.2.2.1 x.2.2.2 ∧ x.2.2.1.length ≤ 6, fun x => [(1, .slice PA pr.length pc), (2, .slice WA ws.length wc), (3, int p), (4, .pointer (b4 gT)), (14, .slice x.2.1.1 x.2.2.1.length x.2.1.2), (15, int x.2.2.2), (16, int m), (17, .slice ZA zp.length zc), (18, int x.1)], fun _ => [], fun x => [Row x.2.1.1 (rows x.2.2.1), Rows2 ZA zp, Blk gT (Obj.cells #[.slice A cs.length ca, .slice B hs.length cb] T.k7 (0, 0)), Row A (rows cs), RowsF B hs Hd.row, Row PA (rows pr), Row WA (rows ws)]⟩ (fun x => zp.length - x.1) (0, o, b, l) ⟨Nat.zero_le _, hI, hbl⟩ mC (.refl _) mC fun x hx => ?_; clear hI hbl; obtain ⟨i, o, b, l⟩ := x; obtain ⟨hi, hI, hbl⟩ := hx; simp only at hi hI hbl; refine d7 (i5 (a9 rfl (a9 rfl ?_))); refine j3 rfl T.L4 rfl ?_; refine u4 rfl rfl rfl (d6 ?_); refine m3 rfl (fun hb10 => ?_) (fun hb10 => ?_)
  ·have hb10' := hb10; try simp at hb10'
   have hi2 : i < zp.length := by omega
   have hcl : i < (combos m (upI 0 hs.length)).length := by omega
   have hpl : (zp.getD i default).l = (combos m (upI 0 hs.length)).getD i default := by rw [← mz3 zp hi2, hz]; rfl
   have hpc : (zp.getD i default).l ∈ (combos m (upI 0 hs.length)) := by rw [hpl]; exact n0 hcl
   have hps := cJ hpc; have hpm : (zp.getD i default).l.length = m := N3 hpc; have hpb : ∀ v ∈ (zp.getD i default).l, 0 ≤ v ∧ v < (hs.length : Int) := fun v hv => by have := upI_mem (hps.subset hv); omega
   have hpbd := fun k => mV (mx7 (s := (zp.getD i default).l) hq1 (by rw [hpl0]; exact hpb)) k; have hok := rz7 (cs := cs) (hs := hs) (p := p) (ws := ws) (s := (zp.getD i default).l) h0 hwb hpb; refine rz0 (A := ZA) (ps := zp) mB (wD (A := ZA) (ps := zp) (p := (zp.getD i default)) mB (n0 hi2) ?_); refine i6 (d8 (d7 (i8 (i5 (b8 rfl (b8 rfl (d6 (dV ?_)))))))); refine d9 (b8 rfl (d6 (i8 ?_))); refine p9 (β := Nat) ⟨fun k => k ≤ m, fun k => [(1, .slice PA pr.length pc), (2, .slice WA ws.length wc), (3, int p), (4, .pointer (b4 gT)), (14, .slice o.1 b.length o.2), (15, int l), (16, int m), (17, .slice ZA zp.length zc), (18, int i), (19, int ((priP pr (zp.getD i default).l).take k).sum), (20, .bool (((zp.getD i default).l.take k).all (fun v : Int => decide (0 ≤ (hs.getD v.toNat default).2.1)))), (21, int k)], fun _ => [], fun _ => [Row o.1 (rows b), Row (zp.getD i default).a (rows (zp.getD i default).l), Row ZA (rows zp), Rows2 ZA zp, Blk gT (Obj.cells #[.slice A cs.length ca, .slice B hs.length cb] T.k7 (0, 0)), Row A (rows cs), RowsF B hs Hd.row, Row PA (rows pr), Row WA (rows ws)]⟩ (fun k => m - k) 0 (Nat.zero_le _) mC (.refl _) mC fun k hk => ?_; simp only at hk; have hbk := hpbd k; refine d7 (i5 (a9 rfl (a9 rfl (u4 rfl rfl rfl (d6 ?_))))); refine m3 rfl (fun hb11 => ?_) (fun hb11 => ?_)
   ·have hb11' := hb11; try simp at hb11'
    have hk2 : k < (zp.getD i default).l.length := by omega
    have hkv := hpb _ (n0 hk2); obtain ⟨v, hve⟩ := Int.eq_ofNat_of_zero_le hkv.1; have hv2 : v < hs.length := by omega
    have hv3 : v < pr.length := by omega
    have hpv := hq1 _ (n0 hv3); have hpv1 := hpv.1; have hpv2 := hpv.2; have hsum : ((priP pr (zp.getD i default).l).take (k + 1)).sum = ((priP pr (zp.getD i default).l).take k).sum + pr.getD v default := by rw [hQ (by rw [vE]; exact hk2), mx8 hk2, hve, Int.toNat_natCast]
    have hall : (((zp.getD i default).l.take (k + 1)).all (fun v : Int => decide (0 ≤ (hs.getD v.toNat default).2.1))) = ((((zp.getD i default).l.take k).all (fun v : Int => decide (0 ≤ (hs.getD v.toNat default).2.1))) && decide (0 ≤ (hs.getD v default).2.1)) := by rw [nq4 hk2, hve]; rfl
    refine i6 (d8 (d7 (i8 ?_))); refine A6 25 mixed (by decide) (by decide) rfl rfl (i4 (fun w1 => a9 rfl (q_z rfl)) (i4 (fun w1 => a9 rfl (q_z rfl)) (i4 (fun w1 => a9 rfl (q_z rfl)) (i4 (fun w1 => a9 rfl (q_z rfl)) (i4 (fun w1 => m7 (α := Sl Int) zp i rfl T.L4 T.K8 rfl rfl rfl mB rfl hi2 (by decide) (q_z rfl)) (i4 (fun w1 => c9 (v := .slice (zp.getD i default).a (zp.getD i default).l.length (zp.getD i default).c) rfl T.m8 rfl (l8 mB (k6 hi2 rfl)) (q_z rfl)) (i4 (fun w1 => a9 rfl (q_z rfl)) ?_))))))); refine i4 (fun w1 => m7 (α := Int) (zp.getD i default).l k rfl T.l4 T.q7 rfl rfl rfl mB rfl (hk2) (by decide) (q_z rfl)) ?_; refine i4 (fun w1 => c9 (v := int ((v : Int))) rfl T.i7 rfl (l8 mB (by rw [← hve]; exact k6 (hk2) rfl)) (q_z rfl)) ?_; refine i4 (fun w1 => m7 (α := Int) pr v rfl T.l4 T.q7 rfl rfl rfl mB rfl (hv3) (by decide) (q_z rfl)) (i4 (fun w1 => c9 (v := int (pr.getD v default)) rfl T.i7 rfl (l8 mB (k6 (hv3) rfl)) (q_z rfl)) ?_); refine i4 (fun w1 => r7 ((priP pr (zp.getD i default).l).take (k + 1)).sum rfl rfl rfl hsum.symm (by rw [hsum]; unfold I64; omega) (q_z rfl)) ?_; refine i4 (fun w1 => a9 rfl (q_z rfl)) (i4 (fun w1 => a9 rfl (q_z rfl)) ?_); refine I0 (t := 107) (want := true) rfl ?_ ?_
    ·intro hg1; have hg1' := hg1; try simp at hg1'
     have qa : (((zp.getD i default).l.take k).all (fun v : Int => decide (0 ≤ (hs.getD v.toNat default).2.1))) = true := eq_of_beq hg1
     apply q6 _ rfl rfl rfl
     ·intro w1; refine i3 rfl rfl hg1 (E0 (cs := #[.slice A cs.length ca, .slice B hs.length cb]) rfl T.m4 T.k8 rfl mB rfl ?_); refine c8 ?_; exact j7 rfl
     apply q6 _ rfl rfl rfl
     ·intro w1; refine i3 rfl rfl hg1 (a9 rfl (c8 ?_)); exact j7 rfl
     apply q6 _ rfl rfl rfl
     ·intro w1; refine i3 rfl rfl hg1 (a9 rfl (c8 ?_)); exact j7 rfl
     apply q6 _ rfl rfl rfl
     ·intro w1; refine i3 rfl rfl hg1 (m7 (α := Sl Int) zp i rfl T.L4 T.K8 rfl rfl rfl mB rfl hi2 (by decide) ?_); refine c8 ?_; exact j7 rfl
     apply q6 _ rfl rfl rfl
     ·intro w1; refine i3 rfl rfl hg1 (c9 (v := .slice (zp.getD i default).a (zp.getD i default).l.length (zp.getD i default).c) rfl T.m8 rfl (l8 mB (k6 hi2 rfl)) ?_); refine c8 ?_; exact j7 rfl
     apply q6 _ rfl rfl rfl
     ·intro w1; refine i3 rfl rfl hg1 (a9 rfl (c8 ?_)); exact j7 rfl
     apply q6 _ rfl rfl rfl
     ·intro w1; refine i3 rfl rfl hg1 (m7 (α := Int) (zp.getD i default).l k rfl T.l4 T.q7 rfl rfl rfl mB rfl (hk2) (by decide) ?_); refine c8 ?_; exact j7 rfl
     apply q6 _ rfl rfl rfl
     ·intro w1; refine i3 rfl rfl hg1 ?_; refine c9 (v := int ((v : Int))) rfl T.i7 rfl (l8 mB (by rw [← hve]; exact k6 (hk2) rfl)) ?_; refine c8 ?_; exact j7 rfl
     apply q6 _ rfl rfl rfl
     ·intro w1; refine i3 rfl rfl hg1 ?_; refine j0 F.iG rfl rfl (aO cs hs v hv2 (kq8 h0 hv2)) l7 mC fun _ _ => ?_; refine c8 ?_; exact j7 rfl
     refine i4 (fun w1 => p_t rfl rfl (bt1 hg1) rfl (q_z rfl)) (i4 (fun w1 => b8 rfl (q_z rfl)) ?_); refine v9 ⟨rfl, ?_⟩; refine b8 rfl (c8 (t6 (d8 (d9 (a9 rfl ?_))))); refine r7 _ rfl rfl rfl rfl m6 ?_; refine b8 rfl (c8 ?_); exact again _ (k + 1) (by show k + 1 ≤ m; omega) (u2 (by omega)) ⟨rfl, rfl, rfl, rfl, rfl, rfl, rfl, rfl, rfl, rfl, congrArg (fun b => some (Value.bool b)) (by rw [hall, qa, Bool.true_and]), rfl, trivial⟩ (.refl _) mC
    intro hg1; have hg1' := hg1; try simp at hg1'
    have qa : (((zp.getD i default).l.take k).all (fun v : Int => decide (0 ≤ (hs.getD v.toNat default).2.1))) = false := bf2 hg1; refine i4 (fun w1 => k4 rfl rfl rfl rfl rfl hg1 (q_z rfl)) (i4 (fun w1 => k4 rfl rfl rfl rfl rfl hg1 (q_z rfl)) (i4 (fun w1 => k4 rfl rfl rfl rfl rfl hg1 (q_z rfl)) (i4 (fun w1 => k4 rfl rfl rfl rfl rfl hg1 (q_z rfl)) (i4 (fun w1 => k4 rfl rfl rfl rfl rfl hg1 (q_z rfl)) (i4 (fun w1 => k4 rfl rfl rfl rfl rfl hg1 (q_z rfl)) (i4 (fun w1 => k4 rfl rfl rfl rfl rfl hg1 (q_z rfl)) (i4 (fun w1 => k4 rfl rfl rfl rfl rfl hg1 (q_z rfl)) ?_))))))); refine i4 (fun w1 => k4 rfl rfl rfl rfl rfl hg1 (q_z rfl)) (i4 (fun w1 => p_f rfl rfl (bf2 hg1) rfl (q_z rfl)) (i4 (fun w1 => b8 rfl (q_z rfl)) ?_)); refine v9 ⟨rfl, ?_⟩; refine b8 rfl (c8 (t6 (d8 (d9 (a9 rfl ?_))))); refine r7 _ rfl rfl rfl rfl m6 ?_; refine b8 rfl (c8 ?_); exact again _ (k + 1) (by show k + 1 ≤ m; omega) (u2 (by omega)) ⟨rfl, rfl, rfl, rfl, rfl, rfl, rfl, rfl, rfl, rfl, congrArg (fun b => some (Value.bool b)) (by rw [hall, qa, Bool.false_and]), rfl, trivial⟩ (.refl _) mC
   have hb11' := hb11; try simp at hb11'
   obtain rfl : k = (zp.getD i default).l.length := by omega
   have hSM : ((priP pr (zp.getD i default).l).take (zp.getD i default).l.length).sum = (priP pr (zp.getD i default).l).sum := by rw [List.take_of_length_le (by rw [vE]; omega)]
   have hSM0 : 0 ≤ (priP pr (zp.getD i default).l).sum := by rw [← hSM]; exact hbk.1
   refine p8 (v8 (p7 (d8 (d7 (i5 (b8 rfl (d6 (i8 ?_)))))))); refine p9 (β := Nat) ⟨fun j => j ≤ ws.length, fun j => [(1, .slice PA pr.length pc), (2, .slice WA ws.length wc), (3, int p), (4, .pointer (b4 gT)), (14, .slice o.1 b.length o.2), (15, int l), (16, int m), (17, .slice ZA zp.length zc), (18, int i), (19, int ((priP pr (zp.getD i default).l).take (zp.getD i default).l.length).sum), (20, .bool ((((zp.getD i default).l.take (zp.getD i default).l.length).all (fun v : Int => decide (0 ≤ (hs.getD v.toNat default).2.1))) && ((ws.take j).all fun w => ((zp.getD i default).l.any (nearB (trOf cs hs) p w))))), (22, int j)], fun _ => [], fun _ => [Row o.1 (rows b), Row (zp.getD i default).a (rows (zp.getD i default).l), Row ZA (rows zp), Rows2 ZA zp, Blk gT (Obj.cells #[.slice A cs.length ca, .slice B hs.length cb] T.k7 (0, 0)), Row A (rows cs), RowsF B hs Hd.row, Row PA (rows pr), Row WA (rows ws)]⟩ (fun j => ws.length - j) 0 (Nat.zero_le _) ⟨rfl, rfl, rfl, rfl, rfl, rfl, rfl, rfl, rfl, rfl, congrArg (fun b => some (Value.bool b)) ((Bool.and_true _).symm), rfl, trivial⟩ (.refl _) mC fun j hj => ?_; simp only at hj; refine d7 (i5 (a9 rfl (a9 rfl ?_))); refine j3 rfl T.l4 rfl ?_; refine u4 rfl rfl rfl (d6 ?_); refine m3 rfl (fun hb12 => ?_) (fun hb12 => ?_)
   ·have hb12' := hb12; try simp at hb12'
    have hj2 : j < ws.length := by omega
    have hwj := hwb _ (n0 hj2); obtain ⟨u, hue⟩ := Int.eq_ofNat_of_zero_le hwj.1; have hwal : ((ws.take (j + 1)).all fun w => ((zp.getD i default).l.any (nearB (trOf cs hs) p w))) = (((ws.take j).all fun w => ((zp.getD i default).l.any (nearB (trOf cs hs) p w))) && ((zp.getD i default).l.any (nearB (trOf cs hs) p (ws.getD j default)))) := nq4 (p := fun w => ((zp.getD i default).l.any (nearB (trOf cs hs) p w))) hj2; refine i6 (d8 (d7 (i8 ?_))); refine A6 12 mixed (by decide) (by decide) rfl rfl (i4 (fun w1 => a9 rfl (q_z rfl)) (i4 (fun w1 => a9 rfl (q_z rfl)) ?_)); refine I0 (t := 125) (want := true) rfl ?_ ?_
    ·intro hg2; have hg2' := hg2; try simp at hg2'
     have qa : ((((zp.getD i default).l.take (zp.getD i default).l.length).all (fun v : Int => decide (0 ≤ (hs.getD v.toNat default).2.1))) && ((ws.take j).all fun w => ((zp.getD i default).l.any (nearB (trOf cs hs) p w)))) = true := eq_of_beq hg2
     apply q6 _ rfl rfl rfl
     ·intro w1; refine i3 rfl rfl hg2 (E0 (cs := #[.slice A cs.length ca, .slice B hs.length cb]) rfl T.m4 T.k8 rfl mB rfl ?_); refine c8 ?_; exact j7 rfl
     apply q6 _ rfl rfl rfl
     ·intro w1; refine i3 rfl rfl hg2 (a9 rfl (c8 ?_)); exact j7 rfl
     apply q6 _ rfl rfl rfl
     ·intro w1; refine i3 rfl rfl hg2 (a9 rfl (c8 ?_)); exact j7 rfl
     apply q6 _ rfl rfl rfl
     ·intro w1; refine i3 rfl rfl hg2 (m7 (α := Int) ws j rfl T.l4 T.q7 rfl rfl rfl mB rfl (hj2) (by decide) ?_); refine c8 ?_; exact j7 rfl
     apply q6 _ rfl rfl rfl
     ·intro w1; refine i3 rfl rfl hg2 (c9 (v := int (ws.getD j default)) rfl T.i7 rfl (l8 mB (k6 (hj2) rfl)) ?_); refine c8 ?_; exact j7 rfl
     apply q6 _ rfl rfl rfl
     ·intro w1; refine i3 rfl rfl hg2 (a9 rfl (c8 ?_)); exact j7 rfl
     apply q6 _ rfl rfl rfl
     ·intro w1; refine i3 rfl rfl hg2 (a9 rfl (c8 ?_)); exact j7 rfl
     apply q6 _ rfl rfl rfl
     ·intro w1; refine i3 rfl rfl hg2 (m7 (α := Sl Int) zp i rfl T.L4 T.K8 rfl rfl rfl mB rfl hi2 (by decide) ?_); refine c8 ?_; exact j7 rfl
     apply q6 _ rfl rfl rfl
     ·intro w1; refine i3 rfl rfl hg2 (c9 (v := .slice (zp.getD i default).a (zp.getD i default).l.length (zp.getD i default).c) rfl T.m8 rfl (l8 mB (k6 hi2 rfl)) ?_); refine c8 ?_; exact j7 rfl
     apply q6 _ rfl rfl rfl
     ·intro w1; refine i3 rfl rfl hg2 (a9 rfl (c8 ?_)); exact j7 rfl
     refine v9 ⟨rfl, ?_⟩; refine i3 rfl rfl hg2 ?_; refine j0 F.bT rfl rfl (W8 cs hs (ws.getD j default) (zp.getD i default).l p hhl hcl0 hwc hwh ha h0 hwj hpb (by omega) rfl) l7 mC fun _ _ => ?_; refine p_t rfl rfl (bt1 hg2) rfl ?_; refine b8 rfl (c8 (t6 (d8 (d9 (a9 rfl ?_))))); refine r7 _ rfl rfl rfl rfl m6 ?_; refine b8 rfl (c8 ?_); exact again _ (j + 1) (by show j + 1 ≤ ws.length; omega) (u2 (by omega)) ⟨rfl, rfl, rfl, rfl, rfl, rfl, rfl, rfl, rfl, rfl, congrArg (fun b => some (Value.bool b)) (by rw [hwal, ← Bool.and_assoc, qa, Bool.true_and]), rfl, trivial⟩ (.refl _) mC
    intro hg2; have hg2' := hg2; try simp at hg2'
    have qa : ((((zp.getD i default).l.take (zp.getD i default).l.length).all (fun v : Int => decide (0 ≤ (hs.getD v.toNat default).2.1))) && ((ws.take j).all fun w => ((zp.getD i default).l.any (nearB (trOf cs hs) p w)))) = false := bf2 hg2; refine i4 (fun w1 => k4 rfl rfl rfl rfl rfl hg2 (q_z rfl)) (i4 (fun w1 => k4 rfl rfl rfl rfl rfl hg2 (q_z rfl)) (i4 (fun w1 => k4 rfl rfl rfl rfl rfl hg2 (q_z rfl)) (i4 (fun w1 => k4 rfl rfl rfl rfl rfl hg2 (q_z rfl)) (i4 (fun w1 => k4 rfl rfl rfl rfl rfl hg2 (q_z rfl)) (i4 (fun w1 => k4 rfl rfl rfl rfl rfl hg2 (q_z rfl)) (i4 (fun w1 => k4 rfl rfl rfl rfl rfl hg2 (q_z rfl)) (i4 (fun w1 => k4 rfl rfl rfl rfl rfl hg2 (q_z rfl)) ?_))))))); refine i4 (fun w1 => k4 rfl rfl rfl rfl rfl hg2 (q_z rfl)) (i4 (fun w1 => k4 rfl rfl rfl rfl rfl hg2 (q_z rfl)) ?_); refine v9 ⟨rfl, ?_⟩; refine k4 rfl rfl rfl rfl rfl hg2 (p_f rfl rfl (bf2 hg2) rfl ?_); refine b8 rfl (c8 (t6 (d8 (d9 (a9 rfl ?_))))); refine r7 _ rfl rfl rfl rfl m6 ?_; refine b8 rfl (c8 ?_); exact again _ (j + 1) (by show j + 1 ≤ ws.length; omega) (u2 (by omega)) ⟨rfl, rfl, rfl, rfl, rfl, rfl, rfl, rfl, rfl, rfl, congrArg (fun b => some (Value.bool b)) (by rw [hwal, ← Bool.and_assoc, qa, Bool.false_and]), rfl, trivial⟩ (.refl _) mC
   have hb12' := hb12; try simp at hb12'
   obtain rfl : j = ws.length := by omega
   have hok9 : (fndOK hs (reachK (trOf cs hs) p hs.length) ws) (zp.getD i default).l = ((((zp.getD i default).l.take (zp.getD i default).l.length).all (fun v : Int => decide (0 ≤ (hs.getD v.toNat default).2.1))) && ((ws.take ws.length).all fun w => ((zp.getD i default).l.any (nearB (trOf cs hs) p w)))) := by rw [List.take_length, List.take_length]; exact hok
   refine p8 (v8 (p7 (d8 (i5 (a9 rfl (a9 rfl ?_)))))); refine t7 rfl rfl ?_ ?_
   ·intro hg3; have hg3' := hg3; try simp at hg3'
    have q38 : ((((zp.getD i default).l.take (zp.getD i default).l.length).all (fun v : Int => decide (0 ≤ (hs.getD v.toNat default).2.1))) && ((ws.take ws.length).all fun w => ((zp.getD i default).l.any (nearB (trOf cs hs) p w)))) = true := eq_of_beq hg3; refine i3 rfl rfl hg3 (a9 rfl (i3 rfl rfl hg3 (u4 rfl rfl rfl (i3 rfl rfl hg3 (a9 rfl ?_))))); refine t7 rfl rfl ?_ ?_
    ·intro hg4; have hg4' := hg4; try simp at hg4'
     have ql : ¬ l < 0 := of_decide_eq_false (eq_of_beq hg4); refine i3 rfl rfl hg4 (a9 rfl (i3 rfl rfl hg4 (a9 rfl (i3 rfl rfl hg4 (u4 rfl rfl rfl (i3 rfl rfl hg3 ?_)))))); refine p_f rfl rfl (bf1 hg4) rfl (p_t rfl rfl (bt1 hg3) rfl ?_); refine d6 ?_; refine m3 rfl (fun hb13 => ?_) (fun hb13 => ?_)
     ·have hb13' := hb13; try simp at hb13'
      refine d9 (a9 rfl (a9 rfl ?_)); refine m7 (α := Sl Int) zp i rfl T.L4 T.K8 rfl rfl rfl mB rfl hi2 (by decide) (c9 (v := .slice (zp.getD i default).a (zp.getD i default).l.length (zp.getD i default).c) rfl T.m8 rfl (l8 mB (k6 hi2 rfl)) ?_); refine a9 rfl (b8 rfl (b8 rfl (c8 (t6 (d8 (d9 (a9 rfl ?_))))))); refine r7 _ rfl rfl rfl rfl m6 ?_; refine b8 rfl (c8 ?_); exact again _ (i + 1, ((zp.getD i default).a, (zp.getD i default).c), (zp.getD i default).l, ((priP pr (zp.getD i default).l).take (zp.getD i default).l.length).sum) ⟨by show i + 1 ≤ zp.length; omega, by show FdI _ _ _ _ (i + 1) (zp.getD i default).l ((priP pr (zp.getD i default).l).take (zp.getD i default).l.length).sum ∧ (zp.getD i default).l.length ≤ 6; rw [hSM]; have h9 := nj2 hcl hI (by rw [← hpl, hok9]; exact q38) (by rw [← hpl]; exact hSM0) (by rw [← hpl, ← hSM]; exact .inr hb13); rw [← hpl] at h9; exact ⟨h9, by omega⟩⟩ (u2 (by omega)) mC (.refl _) mC
     have hb13' := hb13; try simp at hb13'
     refine i6 (t6 (d8 (d9 (a9 rfl ?_)))); refine r7 _ rfl rfl rfl rfl m6 ?_; refine b8 rfl (c8 ?_); exact again _ (i + 1, o, b, l) ⟨by show i + 1 ≤ zp.length; omega, by show FdI _ _ _ _ (i + 1) b l ∧ b.length ≤ 6; exact ⟨nj5 hcl hI (by rw [← hpl]; rw [← hSM]; exact fun _ h => h.elim ql hb13), hbl⟩⟩ (u2 (by omega)) mC (.refl _) mC
    intro hg4; have hg4' := hg4; try simp at hg4'
    have ql : l < 0 := Classical.byContradiction (fun e => by rw [decide_eq_false e] at hg4; cases hg4); refine k4 rfl rfl rfl rfl rfl hg4 (k4 rfl rfl rfl rfl rfl hg4 (k4 rfl rfl rfl rfl rfl hg4 (i3 rfl rfl hg3 ?_))); refine p_t rfl rfl (bt2 hg4) rfl (p_t rfl rfl (bt1 hg3) rfl ?_); refine d6 (c_t rfl rfl (d9 (a9 rfl (a9 rfl ?_)))); refine m7 (α := Sl Int) zp i rfl T.L4 T.K8 rfl rfl rfl mB rfl hi2 (by decide) (c9 (v := .slice (zp.getD i default).a (zp.getD i default).l.length (zp.getD i default).c) rfl T.m8 rfl (l8 mB (k6 hi2 rfl)) ?_); refine a9 rfl (b8 rfl (b8 rfl (c8 (t6 (d8 (d9 (a9 rfl ?_))))))); refine r7 _ rfl rfl rfl rfl m6 ?_; refine b8 rfl (c8 ?_); exact again _ (i + 1, ((zp.getD i default).a, (zp.getD i default).c), (zp.getD i default).l, ((priP pr (zp.getD i default).l).take (zp.getD i default).l.length).sum) ⟨by show i + 1 ≤ zp.length; omega, by show FdI _ _ _ _ (i + 1) (zp.getD i default).l ((priP pr (zp.getD i default).l).take (zp.getD i default).l.length).sum ∧ (zp.getD i default).l.length ≤ 6; rw [hSM]; have h9 := nj2 hcl hI (by rw [← hpl, hok9]; exact q38) (by rw [← hpl]; exact hSM0) (by rw [← hpl, ← hSM]; exact .inl ql); rw [← hpl] at h9; exact ⟨h9, by omega⟩⟩ (u2 (by omega)) mC (.refl _) mC
   intro hg3; have hg3' := hg3; try simp at hg3'
   have q38 : ((((zp.getD i default).l.take (zp.getD i default).l.length).all (fun v : Int => decide (0 ≤ (hs.getD v.toNat default).2.1))) && ((ws.take ws.length).all fun w => ((zp.getD i default).l.any (nearB (trOf cs hs) p w)))) = false := bf2 hg3; refine k4 rfl rfl rfl rfl rfl hg3 (k4 rfl rfl rfl rfl rfl hg3 (k4 rfl rfl rfl rfl rfl hg3 (P5 rfl rfl rfl rfl rfl rfl (P5 rfl rfl rfl rfl rfl rfl (P5 rfl rfl rfl rfl rfl rfl (k4 rfl rfl rfl rfl rfl hg3 ?_)))))); refine p_f rfl rfl (bf2 hg3) rfl ?_; refine d6 (c_f rfl rfl (i6 (t6 (d8 (d9 (a9 rfl ?_)))))); refine r7 _ rfl rfl rfl rfl m6 ?_; refine b8 rfl (c8 ?_); exact again _ (i + 1, o, b, l) ⟨by show i + 1 ≤ zp.length; omega, by show FdI _ _ _ _ (i + 1) b l ∧ b.length ≤ 6; exact ⟨nj5 hcl hI (by rw [← hpl]; rw [hok9, q38]; exact fun h => by cases h), hbl⟩⟩ (u2 (by omega)) mC (.refl _) mC
  have hb10' := hb10; try simp at hb10'
  obtain rfl : i = zp.length := by omega
  refine p8 (v8 (p7 (t6 (d8 (d9 (a9 rfl ?_)))))); refine r7 _ rfl rfl rfl rfl m6 ?_; refine b8 rfl (c8 ?_); exact again _ (m + 1, o, b, l) ⟨by show m + 1 ≤ hs.length + 1; omega, by show FdI _ _ _ (m + 1) 0 b l; rw [hzl] at hI; exact sj0 hI, hbl⟩ (u2 (by omega)) mC (.refl _) mC
 have hb9' := hb9; try simp at hb9'
 obtain rfl : m = hs.length + 1 := by omega
 have hfin := fd_end hI; refine p8 (v8 (p7 (d8 (d7 (i5 (a9 rfl (u4 rfl rfl rfl (d6 ?_)))))))); refine m3 rfl (fun hb14 => ?_) (fun hb14 => ?_)
 ·have hb14' := hb14; try simp at hb14'
  refine i5 (b8 rfl (b8 rfl (b8 rfl (d6 (G0 ?_))))); have hE : foundE cs hs pr ws p = ([], 0, 11) := by rw [foundE, if_neg (Classical.not_not.2 h0), if_neg h2, if_neg h3, if_neg (Classical.not_not.2 hq1), if_neg (Classical.not_not.2 hq2), if_neg (Classical.not_not.2 h8)]; exact if_pos (hfin.elim (fun h => h.2) fun h => absurd h.1 (by omega))
  refine z9 (α := Int) ?_; exact ret3 (none, 0) rfl rfl rfl rfl (by show Value.tuple #[.slice (none) (foundE cs hs pr ws p).1.length (0), int (foundE cs hs pr ws p).2.1, int (foundE cs hs pr ws p).2.2] = _; rw [hE] <;> rfl) rfl (by show (foundE cs hs pr ws p).1.length ≤ 1000000; rw [hE]; first | exact Nat.zero_le _ | (show b.length ≤ 1000000; omega)) nil_sb (by show LSub _ [Row (none) (rows (foundE cs hs pr ws p).1)]; rw [hE]; exact mC)
 have hb14' := hb14; try simp at hb14'
 refine i6 (d8 (i5 (a9 rfl (a9 rfl (b8 rfl (b8 rfl (b8 rfl (d6 (j5 ?_))))))))); have hfx : 0 ≤ l ∧ _ := hfin.elim (fun h => absurd h.1 hb14) id; have hE : foundE cs hs pr ws p = (b, l, 0) := by rw [foundE, if_neg (Classical.not_not.2 h0), if_neg h2, if_neg h3, if_neg (Classical.not_not.2 hq1), if_neg (Classical.not_not.2 hq2), if_neg (Classical.not_not.2 h8), hfx.2.1, if_neg (by decide), hfx.2.2.1, hfx.2.2.2]
 exact ret3 (o.1, o.2) rfl rfl rfl rfl (by show Value.tuple #[.slice (o.1) (foundE cs hs pr ws p).1.length (o.2), int (foundE cs hs pr ws p).2.1, int (foundE cs hs pr ws p).2.2] = _; rw [hE] <;> rfl) rfl (by show (foundE cs hs pr ws p).1.length ≤ 1000000; rw [hE]; first | exact Nat.zero_le _ | (show b.length ≤ 1000000; omega)) nil_sb (by show LSub _ [Row (o.1) (rows (foundE cs hs pr ws p).1)]; rw [hE]; exact mC)
set_option maxHeartbeats 1000000 in
theorem rY {A B S : Option Addr} {ca cb sc : Nat} (cs : List Cl) (hs : List Hd) (ks : List Int) (p : Int) (hhl : hs.length ≤ 1000) (hcl0 : cs.length ≤ 1000) (hwc : ∀ x ∈ cs, x.1.length ≤ 1000) (hwh : ∀ h ∈ hs, h.1.length ≤ 1000) (ha : ∀ h ∈ hs, h.2.2.2.l.length ≤ 1000000) (hkl : ks.length ≤ 1000000) : Meets Tryz.prog F.jN [.agg #[.slice A cs.length ca, .slice B hs.length cb], .slice S ks.length sc, int p] { LI := [Row A (rows cs), RowsF B hs Hd.row, Row S (rows ks)], inv := fun x : OutC => (missE cs hs ks p).1.length ≤ x.2, val := fun x => .tuple #[.slice x.1 (missE cs hs ks p).1.length x.2, int (missE cs hs ks p).2], LO := fun x => [Row x.1 (rows (missE cs hs ks p).1)] } := by
 refine i9 F.bx0 rfl t4 fun w0 => ?_; refine i5 ?_; refine C0 rfl rfl fun gT => ?_; refine b8 rfl (b8 rfl (d6 (d7 (i5 (bG ?_))))); refine E0 (cs := #[.slice A cs.length ca, .slice B hs.length cb]) rfl T.m4 T.k8 rfl mB rfl ?_; refine j0 F.bU rfl rfl (V6 cs hs hhl hcl0 hwc hwh ha) l7 mC fun _ _ => ?_; refine b8 rfl (j8 (a9 rfl (H2 rfl rfl rfl (d6 ?_)))); refine m3 rfl (fun hb1 => ?_) (fun hb1 => ?_)
 ·have hb1' := hb1; try simp at hb1'
  refine i5 (a9 rfl (b8 rfl (b8 rfl (d6 (G0 ?_))))); refine z9 (α := Int) ?_; have hE : (missE cs hs ks p) = ([], checkT (trOf cs hs)) := by rw [missE, if_pos hb1]
  exact ret2 (none, 0) rfl rfl rfl (by show Value.tuple #[.slice none (missE cs hs ks p).1.length 0, int (missE cs hs ks p).2] = _; rw [hE]; rfl) rfl (by show (missE cs hs ks p).1.length ≤ 0; rw [hE]; exact Nat.le_refl _) nil_sb (by show LSub _ [Row none (rows (missE cs hs ks p).1)]; rw [hE]; exact ⟨m0, trivial⟩)
 have hb1' := hb1; try simp at hb1'
 have h0 : checkT (trOf cs hs) = 0 := Classical.not_not.1 hb1; have hok := mT h0; have hn6 := hok.h6; rw [E4] at hn6; refine i6 (d8 (d7 (i5 (b8 rfl (d6 (i8 ?_)))))); refine p9 (β := Nat) ⟨fun k => k ≤ ks.length ∧ placeE hs ks = placeE hs (ks.drop k), fun k => [(1, .slice S ks.length sc), (2, int p), (3, .pointer (b4 gT)), (9, int k)], fun _ => [], fun _ => [Blk gT (Obj.cells #[.slice A cs.length ca, .slice B hs.length cb] T.k7 (0, 0)), Row A (rows cs), RowsF B hs Hd.row, Row S (rows ks)]⟩ (fun k => ks.length - k) 0 ⟨Nat.zero_le _, rfl⟩ mC nil_sb mC fun k hk => ?_; obtain ⟨hk, hpe⟩ := hk; refine d7 (i5 (a9 rfl (a9 rfl ?_))); refine j3 rfl T.l4 rfl ?_; refine u4 rfl rfl rfl (d6 ?_); refine m3 rfl (fun hb2 => ?_) (fun hb2 => ?_)
 ·have hb2' := hb2; try simp at hb2'
  have hk2 : k < ks.length := by omega
  rw [zL hs hk2] at hpe; refine i6 (d8 (d7 (i8 (dV ?_)))); refine A6 8 mixed (by decide) (by decide) rfl rfl (i4 (fun w1 => a9 rfl (q_z rfl)) (i4 (fun w1 => a9 rfl (q_z rfl)) (i4 (fun w1 => m7 (α := Int) ks k rfl T.l4 T.q7 rfl rfl rfl mB rfl (hk2) (by decide) (q_z rfl)) (i4 (fun w1 => c9 (v := int ((ks.getD k default))) rfl T.i7 rfl (l8 mB (k6 (hk2) rfl)) (q_z rfl)) (i4 (fun w1 => a8 ⟨_, 1, none⟩ rfl rfl T.j4 rfl (q_z rfl)) (i4 (fun w1 => c9 (v := .slice B hs.length cb) rfl T.j6 rfl (j9 mB rfl) (q_z rfl)) (i4 (fun w1 => j3 rfl T.k9 rfl (q_z rfl)) ?_))))))); refine i4 (fun w1 => K2 _ rfl rfl rfl rfl m6 (q_z rfl)) ?_; refine v9 ⟨rfl, ?_⟩; refine j0 F.N9 rfl rfl (K1 _ _ _) l7 trivial fun _ _ => ?_; refine E9 rfl rfl (d6 ?_); refine w6 rfl (fun hb3 => ?_) (fun hb3 => ?_)
  ·have hb3' := hb3; try simp at hb3'
   rw [if_pos (nbt hb3)] at hpe; refine i5 (b8 rfl (b8 rfl (d6 (G0 (w8 (r6 (V9 ?_))))))); refine r6 ?_; refine z9 (α := Int) ?_; have hE : (missE cs hs ks p) = ([], 3) := by rw [missE, if_neg (Classical.not_not.2 h0), if_pos (by rw [hpe]; decide), hpe]
   exact ret2 (none, 0) rfl rfl rfl (by show Value.tuple #[.slice none (missE cs hs ks p).1.length 0, int (missE cs hs ks p).2] = _; rw [hE]; rfl) rfl (by show (missE cs hs ks p).1.length ≤ 0; rw [hE]; exact Nat.le_refl _) nil_sb (by show LSub _ [Row none (rows (missE cs hs ks p).1)]; rw [hE]; exact ⟨m0, trivial⟩)
  have hb3' := hb3; try simp at hb3'
  have hkv := nbf hb3; rw [if_neg (Classical.not_not.2 hkv)] at hpe; obtain ⟨m, hme⟩ := Int.eq_ofNat_of_zero_le hkv.1; have hm2 : m < hs.length := by omega
  rw [hme, Int.toNat_natCast] at hpe; refine i6 (d8 (d7 ?_)); refine A6 5 mixed (by decide) (by decide) rfl rfl (i4 (fun w1 => E0 (cs := #[.slice A cs.length ca, .slice B hs.length cb]) rfl T.m4 T.k8 rfl mB rfl (q_z rfl)) (i4 (fun w1 => a9 rfl (q_z rfl)) (i4 (fun w1 => a9 rfl (q_z rfl)) (i4 (fun w1 => m7 (α := Int) ks k rfl T.l4 T.q7 rfl rfl rfl mB rfl (hk2) (by decide) (q_z rfl)) ?_)))); refine i4 (fun w1 => c9 (v := int ((m : Int))) rfl T.i7 rfl (l8 mB (by rw [← hme]; exact k6 (hk2) rfl)) (q_z rfl)) ?_; refine v9 ⟨rfl, ?_⟩; refine j0 F.iG rfl rfl (aO cs hs m hm2 (kq8 h0 hm2)) l7 mC fun _ _ => ?_; refine E9 rfl rfl (d6 ?_); refine w6 rfl (fun hb4 => ?_) (fun hb4 => ?_)
  ·have hb4' := hb4; try simp at hb4'
   have hc4 : (hs.getD m default).2.1 < 0 := by first | exact Int.not_le.1 (nbt hb4) | (have := nbt hb4; omega)
   rw [if_pos hc4] at hpe; refine i5 (b8 rfl (b8 rfl (d6 (j5 (w8 (r6 (w8 ?_))))))); refine z9 (α := Int) ?_; have hE : (missE cs hs ks p) = ([], 8) := by rw [missE, if_neg (Classical.not_not.2 h0), if_pos (by rw [hpe]; decide), hpe]
   exact ret2 (none, 0) rfl rfl rfl (by show Value.tuple #[.slice none (missE cs hs ks p).1.length 0, int (missE cs hs ks p).2] = _; rw [hE]; rfl) rfl (by show (missE cs hs ks p).1.length ≤ 0; rw [hE]; exact Nat.le_refl _) nil_sb (by show LSub _ [Row none (rows (missE cs hs ks p).1)]; rw [hE]; exact ⟨m0, trivial⟩)
  have hb4' := hb4; try simp at hb4'
  have hc4 : ¬ (hs.getD m default).2.1 < 0 := by have := nbf hb4; omega
  rw [if_neg hc4] at hpe; refine i6 (t6 (d8 (d9 (a9 rfl ?_)))); refine r7 _ rfl rfl rfl rfl m6 ?_; refine b8 rfl (c8 ?_); exact again _ (k + 1) ⟨by show k + 1 ≤ ks.length; omega, hpe⟩ (u2 (by omega)) mC (.refl _) mC
 have hb2' := hb2; try simp at hb2'
 obtain rfl : k = ks.length := by omega
 rw [List.drop_length, placeE] at hpe; refine p8 (v8 (p7 (d8 (d7 (i5 (a9 rfl ?_)))))); refine j0 F.N9 rfl rfl (K1 _ _ _) l7 trivial fun _ _ => ?_; refine E9 rfl rfl (d6 ?_); refine w6 rfl (fun hb5 => ?_) (fun hb5 => ?_)
 ·have hb5' := hb5; try simp at hb5'
  refine i5 (b8 rfl (b8 rfl (d6 (G0 ?_)))); refine z9 (α := Int) ?_; have hE : (missE cs hs ks p) = ([], 1) := by rw [missE, if_neg (Classical.not_not.2 h0), if_neg (Classical.not_not.2 hpe), if_pos (nbt hb5)]
  exact ret2 (none, 0) rfl rfl rfl (by show Value.tuple #[.slice none (missE cs hs ks p).1.length 0, int (missE cs hs ks p).2] = _; rw [hE]; rfl) rfl (by show (missE cs hs ks p).1.length ≤ 0; rw [hE]; exact Nat.le_refl _) nil_sb (by show LSub _ [Row none (rows (missE cs hs ks p).1)]; rw [hE]; exact ⟨m0, trivial⟩)
 have hb5' := hb5; try simp at hb5'
 have h5 := nbf hb5; have hkin := bz0 hpe; refine i6 (d8 (i5 (b8 rfl (d6 (d7 (i5 (b8 rfl (c8 ?_)))))))); refine d8 (i8 ?_); refine p9 (β := Nat × OutC × Hp) ⟨fun x => x.1 ≤ hs.length ∧ Grow T.int 1 x.2.1.1 (missK (reachK (trOf cs hs) p hs.length) ks x.1).length x.2.1.2 (rows (missK (reachK (trOf cs hs) p hs.length) ks x.1)) x.2.2, fun x => [(1, .slice S ks.length sc), (2, int p), (3, .pointer (b4 gT)), (10, .slice x.2.1.1 (missK (reachK (trOf cs hs) p hs.length) ks x.1).length x.2.1.2), (11, int x.1)], fun x => x.2.2, fun _ => [Blk gT (Obj.cells #[.slice A cs.length ca, .slice B hs.length cb] T.k7 (0, 0)), Row A (rows cs), RowsF B hs Hd.row, Row S (rows ks)]⟩ (fun x => hs.length - x.1) (0, (none, 0), []) ⟨Nat.zero_le _, Grow.nil _ _⟩ mC nil_sb mC fun x hx => ?_; obtain ⟨k, ⟨na, nc⟩, og⟩ := x; obtain ⟨hk, hG⟩ := hx; simp only at hk hG; have hml := xU (reachK (trOf cs hs) p hs.length) ks k; refine d7 (i5 (a9 rfl ?_)); refine a8 ⟨_, 1, none⟩ rfl rfl T.j4 rfl (c9 (v := .slice B hs.length cb) rfl T.j6 rfl (j9 mB rfl) (j3 rfl T.k9 rfl ?_)); refine u4 rfl rfl rfl (d6 ?_); refine m3 rfl (fun hb6 => ?_) (fun hb6 => ?_)
 ·have hb6' := hb6; try simp at hb6'
  have hk2 : k < hs.length := by omega
  have hme := miss_eq (p := p) h0 hkin hk2; refine i6 (d8 (d7 (i8 (i5 ?_)))); refine E0 (cs := #[.slice A cs.length ca, .slice B hs.length cb]) rfl T.m4 T.k8 rfl mB rfl ?_; refine a9 rfl (a9 rfl (a9 rfl ?_)); refine j0 F.bT rfl rfl (W8 cs hs (k : Int) ks p hhl hcl0 hwc hwh ha h0 (by omega) hkin hkl rfl) (hpR := og) (by rw [List.nil_append]) mC fun _ _ => ?_; refine E9 rfl rfl (d6 ?_); refine w6 rfl (fun hb7 => ?_) (fun hb7 => ?_)
  ·have hb7' := hb7; try simp at hb7'
   have hmb : ¬ missB (reachK (trOf cs hs) p hs.length) ks k = true := by rw [hme]; simpa using hb7
   have hms : (missK (reachK (trOf cs hs) p hs.length) ks (k + 1)) = (missK (reachK (trOf cs hs) p hs.length) ks k) ++ [(k : Int)] := by rw [jT, if_neg hmb]
   refine d9 (a9 rfl (a9 rfl ?_)); refine l6 _ rfl rfl (fun _ => T.H1 ..) fun gS => ?_; refine w7 (rows [(k : Int)]) (List.prefix_refl _) ?_; refine G2 (hp' := []) ((missK (reachK (trOf cs hs) p hs.length) ks k).length + 1) (rows ((missK (reachK (trOf cs hs) p hs.length) ks k) ++ [(k : Int)])) T.S3 rfl rfl rfl hG (show List.Perm og (og ++ []) from by rw [List.append_nil]) (Src.row (news := rows [(k : Int)]) (m := 1) mB rfl (D0 _) (by decide)) rfl (y6 _ _).symm (by unfold maxLen; omega) (by omega) fun A' c' og' hG' => ?_; refine b8 rfl (c8 (t6 (d8 (d9 (a9 rfl ?_))))); refine r7 _ rfl rfl rfl rfl m6 ?_; refine b8 rfl (c8 ?_); have hms2 : (missK (reachK (trOf cs hs) p hs.length) ks (k + 1)).length = (missK (reachK (trOf cs hs) p hs.length) ks k).length + 1 := by rw [hms, List.length_append]; rfl
   refine P4 (hp' := og') (show List.Perm (og' ++ []) og' from by rw [List.append_nil]) ?_; exact again _ (k + 1, (A', c'), og') ⟨by show k + 1 ≤ hs.length; omega, by show Grow _ _ _ (missK (reachK (trOf cs hs) p hs.length) ks (k + 1)).length _ (rows (missK (reachK (trOf cs hs) p hs.length) ks (k + 1))) _; rw [hms2, hms]; exact hG'⟩ (u2 (by omega)) ⟨rfl, rfl, rfl, congrArg (fun n => some (Value.slice A' n c')) hms2.symm, rfl, trivial⟩ (.refl _) mC
  have hb7' := hb7; try simp at hb7'
  have hmb : missB (reachK (trOf cs hs) p hs.length) ks k = true := by rw [hme]; simpa using hb7
  have hms : (missK (reachK (trOf cs hs) p hs.length) ks (k + 1)) = (missK (reachK (trOf cs hs) p hs.length) ks k) := by rw [jT, if_pos hmb]
  refine i6 (t6 (d8 (d9 (a9 rfl ?_)))); refine r7 _ rfl rfl rfl rfl m6 ?_; refine b8 rfl (c8 ?_); exact again _ (k + 1, (na, nc), og) ⟨by show k + 1 ≤ hs.length; omega, by show Grow _ _ _ (missK (reachK (trOf cs hs) p hs.length) ks (k + 1)).length _ (rows (missK (reachK (trOf cs hs) p hs.length) ks (k + 1))) _; rw [hms]; exact hG⟩ (u2 (by omega)) ⟨rfl, rfl, rfl, congrArg (fun l : List Int => some (Value.slice na l.length nc)) hms.symm, rfl, trivial⟩ (.refl _) mC
 have hb6' := hb6; try simp at hb6'
 obtain rfl : k = hs.length := by omega
 refine p8 (v8 (p7 (d8 (i5 (a9 rfl (b8 rfl (b8 rfl (d6 ?_)))))))); refine j5 ?_; have hE : (missE cs hs ks p) = ((missK (reachK (trOf cs hs) p hs.length) ks hs.length), 0) := by rw [missE, if_neg (Classical.not_not.2 h0), if_neg (Classical.not_not.2 hpe), if_neg (Classical.not_not.2 h5)]
 refine qB hG ?_; exact ret2 (na, nc) rfl rfl rfl (by show Value.tuple #[.slice na (missE cs hs ks p).1.length nc, int (missE cs hs ks p).2] = _; rw [hE]) rfl (by show (missE cs hs ks p).1.length ≤ nc; rw [hE]; exact hG.le) nil_sb (by show LSub _ [Row na (rows (missE cs hs ks p).1)]; rw [hE]; exact mC)
end Go.Proofs.YtdlbbfcfahahdaaGreat
end
