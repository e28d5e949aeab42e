/- Texts. -/
import Derived.ProofKit
import Derived.OpenShut
import Derived.ShutString
import Derived.ChangeOld
import Derived.Below
import Derived.SliceStrings
import Derived.ChangeSlices
import Derived.Deep.Slices
import Derived.Test.YtpihanmcnmlodaaGreatDoorAAj
import Derived.Test.YtpihanmcnmlodaaGreatDoorAAi
import Derived.Test.YtpihanmcnmlodaaGreatDoorAAe
set_option linter.unusedVariables false
set_option linter.unusedSimpArgs false
section
namespace Go.Proofs.YtpihanmcnmlodaaGreatDoor
open Go Go.W Tryz T F
set_option maxRecDepth 20000
attribute [local irreducible] HL HC HQ HB Row Rows2 Blk Facts
abbrev KS : KeyC prog y6 str := KeyC.str n8
theorem sV (w : World) : (zeroValue E2).run prog w = .ok (int 0) w := u3
theorem bq4 {p : List Str} {k : Nat} (h : k < p.length) (s : Str) : updF (countN (p.take k)) (p.getD k default) (countN (p.take k) (p.getD k default) + 1) s = countN (p.take (k + 1)) s := by
  rw [gC h]; unfold updF
  by_cases e : s = p.getD k default
  · subst e; rw [if_pos rfl, if_pos rfl]
  rw [if_neg e, if_neg (fun e2 => e e2.symm)]; omega
theorem iC {B : Option Addr} {cb : Nat} (p : List Str) (hl : p.length ≤ 1000000) : Meets prog V2 [.slice B p.length cb] { LI := [Row B (rows p)], inv := fun x : Nat × List (Ment Str) × Nat => MapIs x.2.1 x.2.2 (countN p), val := fun x => .map (some x.1), hpO := fun x => [(x.1, mapO str x.2.1 x.2.2)] } := by
 refine d5 kP rfl r4 fun w0 => ?_; refine c5 (b7 rfl (l7 ?_)); refine cD str rfl fun gm => ?_; refine b7 rfl (b5 (c6 (c5 (b3 rfl ?_)))); refine i7 rfl j7 rfl ?_; refine b3 rfl (b5 (i5 ?_)); refine v6 (β := Nat × List (Ment Str) × Nat) ⟨fun x => x.1 ≤ p.length ∧ MapIs x.2.1 x.2.2 (countN (p.take x.1)), fun x => [(3, .map (some gm)), (7, .slice B p.length cb), (8, int p.length), (9, int x.1)], fun x => [(gm, mapO str x.2.1 x.2.2)], fun _ => [Row B (rows p)]⟩ (fun x => p.length - x.1) (0, [], 0) ⟨Nat.zero_le _, MapIs.nil.congr fun s => rfl⟩ mC (.refl _) ⟨m0, tK⟩ fun x hx => ?_; obtain ⟨k, l, clk⟩ := x; obtain ⟨hk, hM⟩ := hx; simp only at hk hM; refine c5 (y5 rfl rfl rfl (b5 (c6 ?_)))
 first | refine i6 rfl (fun hb1 => ?_) (fun hb1 => ?_) | refine c8 rfl (fun hb1 => ?_) (fun hb1 => ?_)
 ·have hb1' := hb1; try simp at hb1'
  have hk2 : k < p.length := by omega
  have hcl := nA (p.take k) (p.getD k default); rw [List.length_take] at hcl; refine c4 (c3 (c6 (i5 (c5 ?_)))); refine u6 (α := Str) _ _ rfl j7 q7 rfl rfl rfl mB rfl (by omega) (by decide) (a7 rfl d6 rfl (b9 mB (b4 (by omega) rfl)) ?_); refine b7 rfl (b5 (c7 (b3 rfl (b3 rfl ?_)))); refine pT (k := (p.getD k default)) KS rfl v7 rfl rfl (P1 m0) sV hM ?_; refine w5 (((countN (p.take k) (p.getD k default)) + 1 : Nat) : Int) rfl rfl rfl (by show (((countN (p.take k) (p.getD k default)) : Nat) : Int) + 1 = (((countN (p.take k) (p.getD k default)) + 1 : Nat) : Int); omega) q8 ?_; refine X2 (k := (p.getD k default)) (v := int (((countN (p.take k) (p.getD k default)) + 1 : Nat) : Int)) KS (.inl rfl) v7 rfl rfl rfl p9 ?_; refine b6 (u4 (c3 (c7 ?_))); refine w5 _ rfl rfl rfl rfl q8 ?_; refine b3 rfl (b6 ?_); exact again _ (k + 1, putM l (p.getD k default) (int (((countN (p.take k) (p.getD k default)) + 1 : Nat) : Int)) clk, clkM l (p.getD k default) clk) ⟨by show k + 1 ≤ p.length; omega, (hM.put (p.getD k default) (Nat.succ_pos _)).congr (bq4 hk2)⟩ (C5 (by omega)) mC (.refl _) ⟨m0, tK⟩
 have hb1' := hb1; try simp at hb1'
 have hk2 : k = p.length := by omega
 subst hk2; rw [List.take_length] at hM; refine r9 (B2 (r8 (c3 (c5 (b3 rfl (b7 rfl (b5 (i8 ?_)))))))); exact ret1 (gm, l, clk) rfl rfl rfl hM (.refl _) tK
-- the stock while a page is gone through
def stV (f c : Str → Nat) (vis : List (Ment Str)) (s : Str) : Nat := if s ∈ vis.map (·.1) then max (f s) (c s) else f s
theorem stV_nil (f c : Str → Nat) (s : Str) : f s = stV f c [] s := by unfold stV; rw [if_neg (by simp)]
theorem stV_new {f c : Str → Nat} {vis : List (Ment Str)} {s : Str} (h : s ∉ vis.map (·.1)) : stV f c vis s = f s := by unfold stV; rw [if_neg h]
theorem stV_up {f c : Str → Nat} {vis : List (Ment Str)} {q : Ment Str} (h : q.1 ∉ vis.map (·.1)) (s : Str) : updF (stV f c vis) q.1 (max (f q.1) (c q.1)) s = stV f c (vis ++ [q]) s := by
  unfold updF stV; rw [List.map_append]
  by_cases e : s = q.1
  · subst e; rw [if_pos rfl, if_pos (by simp)]
  rw [if_neg e]
  by_cases h2 : s ∈ vis.map (·.1)
  · rw [if_pos h2, if_pos (List.mem_append_left _ h2)]
  rw [if_neg h2, if_neg (by rw [List.mem_append, not_or]; exact ⟨h2, by simpa using e⟩)]
theorem stV_end {f c : Str → Nat} {vis : List (Ment Str)} (h : ∀ s, 0 < c s → s ∈ vis.map (·.1)) (s : Str) : stV f c vis s = max (f s) (c s) := by
  unfold stV
  by_cases h2 : s ∈ vis.map (·.1)
  · rw [if_pos h2]
  rw [if_neg h2]
  have : c s = 0 := by
    rcases Nat.eq_zero_or_pos (c s) with h3 | h3
    · exact h3
    exact absurd (h s h3) h2
  omega
theorem jP {A : Option Addr} {c : Nat} (ps : List (Sl Str)) (hl : ps.length ≤ 1000000) (hp : ∀ p ∈ ps, p.l.length ≤ 1000000) : Meets prog X6 [.slice A ps.length c] { LI := [Rows2 A ps], inv := fun x : Nat × List (Ment Str) × Nat => MapIs x.2.1 x.2.2 (stockN ps), val := fun x => .map (some x.1), hpO := fun x => [(x.1, mapO str x.2.1 x.2.2)] } := by
 refine d5 mH rfl r4 fun w0 => ?_; refine c5 (b7 rfl (l7 ?_)); refine cD str rfl fun gm => ?_; refine b7 rfl (b5 (cH ?_)); refine kJ (A := A) (ps := ps) mB ?_; refine c7 (b3 rfl ?_); refine i7 rfl E1 rfl ?_; refine b3 rfl (b5 (i5 ?_)); refine v6 (β := Nat × List (Ment Str) × Nat) ⟨fun x => x.1 ≤ ps.length ∧ MapIs x.2.1 x.2.2 (stockN (ps.take x.1)), fun x => [(3, .map (some gm)), (9, .slice A ps.length c), (10, int ps.length), (11, int x.1)], fun x => [(gm, mapO str x.2.1 x.2.2)], fun _ => [Row A (rows ps), Rows2 A ps]⟩ (fun x => ps.length - x.1) (0, [], 0) ⟨Nat.zero_le _, MapIs.nil.congr fun s => rfl⟩ mC (.refl _) mC fun x hx => ?_; obtain ⟨k, l, clk⟩ := x; obtain ⟨hk, hM⟩ := hx; simp only at hk hM; refine c5 (y5 rfl rfl rfl (b5 (c6 ?_)))
 first | refine i6 rfl (fun hb1 => ?_) (fun hb1 => ?_) | refine c8 rfl (fun hb1 => ?_) (fun hb1 => ?_)
 ·have hb1' := hb1; try simp at hb1'
  have hk2 : k < ps.length := by omega
  have hpk := hp _ (r7 hk2); refine c4 (c3 (c6 (i5 (c5 ?_)))); refine u6 (α := (Sl Str)) _ _ rfl E1 J1 rfl rfl rfl mB rfl (by omega) (by decide) (a7 rfl c9 rfl (b9 mB (b4 (by omega) rfl)) ?_); refine b7 rfl (l7 (b3 rfl ?_)); refine kI (A := A) (ps := ps) (p := (ps.getD k default)) mB (r7 hk2) (h8 iQ rfl rfl (iC (ps.getD k default).l hpk) (hpR := [_]) p9 mC fun x2 hx2 => ?_); obtain ⟨g2, l2, clk2⟩ := x2; have hM2 : MapIs l2 clk2 (countN (ps.getD k default).l) := hx2; clear hx2; refine cx2 rfl v7 rfl (P1 m0) fun gi => ?_; refine b5 (i5 ?_); refine v6 (β := List (Ment Str) × List (Ment Str) × Nat) ⟨fun x => Vis l2 x.1 ∧ MapIs x.2.1 x.2.2 (stV (stockN (ps.take k)) (countN (ps.getD k default).l) x.1), fun x => [(3, .map (some gm)), (9, .slice A ps.length c), (10, int ps.length), (11, int k), (17, .pointer (n9 gi))], fun x => [(gi, iterM g2 clk2 x.1), (g2, mapO str l2 clk2), (gm, mapO str x.2.1 x.2.2)], fun _ => [Row A (rows ps), Rows2 A ps]⟩ (fun x => l2.length - x.1.length) ([], l, clk) ⟨Vis.nil _, hM.congr (stV_nil _ _)⟩ mC (.refl _) mC fun x hx => ?_; clear hM; obtain ⟨vis, l, clk⟩ := x; obtain ⟨hV, hM⟩ := hx; simp only at hV hM; refine c5 (r_nextM (enc := str) rfl rfl (P1 m1) hM2.lt p9 fun x hx0 hx1 => r_mext0 (enc := str) rfl rfl ?_); refine b5 (c6 ?_)
  first | refine i6 rfl (fun hb2 => ?_) (fun hb2 => ?_) | refine c8 rfl (fun hb2 => ?_) (fun hb2 => ?_)
  ·have hb2' := hb2; try simp at hb2'
   obtain ⟨q, rfl⟩ := Option.isSome_iff_exists.1 hb2; obtain ⟨hq1, hq2⟩ := hx1 q rfl; have hqk := hM2.newKey hV hq1 hq2; have hqv := hM2.vl q hq1; have hlt := hV.lt hq1 hq2; obtain ⟨s, v, b⟩ := q; simp only at hqk hqv; obtain ⟨rfl, hqp⟩ := hqv; have hsv : stV (stockN (ps.take k)) (countN (ps.getD k default).l) vis s = (stockN (ps.take k)) s := stV_new hqk; refine c4 (c3 (i5 (c5 ?_))); refine r_entry (p := (s, int (((countN (ps.getD k default).l) s : Nat) : Int), b)) rfl rfl (P1 m1) (P1 m0) hq1 hM2.bs ?_; refine l4 rfl rfl rfl (l4 rfl rfl rfl (b7 rfl (b7 rfl (b5 (c7 (b3 rfl (b3 rfl (b3 rfl (b3 rfl ?_))))))))); refine pT (k := s) KS rfl v7 rfl rfl (P1 m2) sV hM ?_; rw [hsv]; refine b3 rfl ?_; refine cx6 (((max ((stockN (ps.take k)) s) ((countN (ps.getD k default).l) s)) : Nat) : Int) rfl rfl rfl (by split <;> omega) ?_; refine X2 (k := s) (v := int (((max ((stockN (ps.take k)) s) ((countN (ps.getD k default).l) s)) : Nat) : Int)) KS (.inl rfl) v7 rfl rfl rfl (l := l) (clk := clk) (hp' := [(gi, iterM g2 clk2 (vis ++ [(s, int ((((countN (ps.getD k default).l) s : Nat)) : Int), b)])), (g2, mapO str l2 clk2)]) (E7 fun q => by simp only [List.countP_cons, List.countP_nil, Option.toList_some]; omega) ?_; refine b6 (u4 ?_); refine zW (hp' := [(gi, iterM g2 clk2 (vis ++ [(s, int ((((countN (ps.getD k default).l) s : Nat)) : Int), b)])), (g2, mapO str l2 clk2), (gm, mapO str (putM l s (int (((max ((stockN (ps.take k)) s) ((countN (ps.getD k default).l) s)) : Nat) : Int)) clk) (clkM l s clk))]) (E7 fun q => by simp only [List.countP_cons, List.countP_nil, Option.toList_some]; omega) ?_; exact again _ (vis ++ [(s, int ((((countN (ps.getD k default).l) s : Nat)) : Int), b)], putM l s (int ((((max ((stockN (ps.take k)) s) ((countN (ps.getD k default).l) s)) : Nat)) : Int)) clk, clkM l s clk) ⟨hV.snoc hq1 hq2, (hM.put s (Nat.lt_of_lt_of_le hqp (Nat.le_max_right ..))).congr (stV_up (q := (s, int ((((countN (ps.getD k default).l) s : Nat)) : Int), b)) hqk)⟩ (by show l2.length - (vis ++ [_]).length < l2.length - vis.length; rw [List.length_append, List.length_singleton]; omega) mC (.refl _) mC
  have hb2' := hb2; try simp at hb2'
  have hx : x = none := by cases x with | none => rfl | some q => simp at hb2
  subst hx; refine r9 (B2 (r8 (u4 (c3 (c7 ?_))))); refine w5 _ rfl rfl rfl rfl q8 ?_; refine b3 rfl (b6 ?_); exact again _ (k + 1, l, clk) ⟨by show k + 1 ≤ ps.length; omega, hM.congr fun s => by rw [vA hk2]; exact stV_end (fun s hs => hM2.allVis hV (hx0 rfl) hs) s⟩ (C5 (by omega)) mC (.cons _ (.cons _ (.refl _))) mC
 have hb1' := hb1; try simp at hb1'
 have hk2 : k = ps.length := by omega
 subst hk2; rw [List.take_length] at hM; refine r9 (B2 (r8 (c3 (c5 (b3 rfl (b7 rfl (b5 (i8 ?_)))))))); exact ret1 (gm, l, clk) rfl rfl rfl hM (.refl _) tK
theorem yL {f : Str → Nat} {p : List Str} {k : Nat} (h : k < p.length) : freshN f (p.drop k) = if f (p.getD k default) = 0 then 1 + freshN f (p.drop (k + 1)) else freshN (updF f (p.getD k default) (f (p.getD k default) - 1)) (p.drop (k + 1)) := by
  rw [gP h, freshN]
theorem cq3 {m : Nat} {ps : List (Sl Str)} (h : ∀ p ∈ ps, p.l.length ≤ m) (s : Str) : stockN ps s ≤ m := by
  have h1 : ∀ (l : List (Sl Str)) (n : Nat), (∀ p ∈ l, p.l.length ≤ m) → n ≤ m → l.foldl (fun n p => max n (countN p.l s)) n ≤ m := by
    intro l
    induction l with
    | nil => intro n _ hn; exact hn
    | cons p l ih =>
      intro n hl hn; have h2 := hl p List.mem_cons_self; have h3 := nA p.l s; exact ih _ (fun q hq => hl q (List.mem_cons_of_mem _ hq)) (Nat.max_le.2 ⟨hn, by omega⟩)
  exact h1 ps 0 h (Nat.zero_le _)
theorem zJ {f : Str → Nat} {m n : Nat} (h : ∀ s, f s ≤ m) (hn : n ≤ m) (k s : Str) : updF f k n s ≤ m := by
  unfold updF
  split
  · exact hn
  exact h s
def freshE (ps : List (Sl Str)) (p : List Str) : Nat := if askedErr (years ps) p = 0 then freshN (stockN ps) p else 0
theorem jT {A B : Option Addr} {ca cb : Nat} (ps : List (Sl Str)) (p : List Str) : Meets prog Y0 [.slice A ps.length ca, .slice B p.length cb] { LI := [Rows2 A ps, Row B (rows p)], val := fun _ : Unit => .tuple #[int (freshE ps p : Nat), int (askedErr (years ps) p)] } := by
 refine d5 mM rfl r4 fun w0 => ?_; refine c5 (b7 rfl (b7 rfl (b5 (c6 (c5 (b3 rfl (b3 rfl ?_))))))); refine h8 kQ rfl rfl (jS ps p) p9 mC fun _ _ => ?_; refine b7 rfl (l7 (b3 rfl (w7 rfl rfl rfl (b5 ?_))))
 first | refine i6 rfl (fun hb1 => ?_) (fun hb1 => ?_) | refine c8 rfl (fun hb1 => ?_) (fun hb1 => ?_)
 ·have hb1' := hb1; try simp at hb1'
  refine c5 (b3 rfl (b7 rfl (b7 rfl (b5 (C6 ?_))))); exact ret2 () rfl rfl rfl (by show Value.tuple #[int (freshE ps p : Nat), _] = _; rw [freshE, if_neg hb1]; rfl) rfl tK (.refl _) tK
 have hb1' := hb1; try simp at hb1'
 have hq0 := Classical.not_not.1 hb1; obtain ⟨hy0, hp0⟩ := rW hq0; obtain ⟨hy4, hy6⟩ := hB hy0; have hp6 := G1 hp0; refine c4 (c3 (c5 (b3 rfl ?_))); refine h8 kK rfl rfl (jP ps (by omega) (fun q hq => by have := hy6 q hq; omega)) p9 mC fun x hx => ?_; obtain ⟨gm, l0, clk0⟩ := x; have hM0 : MapIs l0 clk0 (stockN ps) := hx; clear hx; refine b7 rfl (b7 rfl (b5 (c6 (c5 (b3 rfl ?_))))); refine i7 rfl j7 rfl ?_; refine b3 rfl (b5 (i5 ?_)); refine v6 (β := Nat × Nat × List (Ment Str) × Nat × (Str → Nat)) ⟨fun x => x.1 ≤ p.length ∧ MapIs x.2.2.1 x.2.2.2.1 x.2.2.2.2 ∧ freshN (stockN ps) p = x.2.1 + freshN x.2.2.2.2 (p.drop x.1) ∧ x.2.1 ≤ x.1 ∧ ∀ s, x.2.2.2.2 s ≤ 6, fun x => [(7, int (x.2.1 : Nat)), (8, .map (some gm)), (19, .slice B p.length cb), (20, int p.length), (21, int x.1)], fun x => [(gm, mapO str x.2.2.1 x.2.2.2.1)], fun _ => [Rows2 A ps, Row B (rows p)]⟩ (fun x => p.length - x.1) (0, 0, l0, clk0, stockN ps) ⟨Nat.zero_le _, hM0, by show _ = 0 + freshN _ p; rw [Nat.zero_add], Nat.le_refl _, cq3 hy6⟩ mC (.refl _) mC fun x hx => ?_; clear hM0; obtain ⟨k, n, l, clk, f⟩ := x; obtain ⟨hk, hM, hfr, hnk, hfb⟩ := hx; simp only at hk hM hfr hnk hfb; refine c5 (y5 rfl rfl rfl (b5 (c6 ?_)))
 first | refine i6 rfl (fun hb2 => ?_) (fun hb2 => ?_) | refine c8 rfl (fun hb2 => ?_) (fun hb2 => ?_)
 ·have hb2' := hb2; try simp at hb2'
  have hk2 : k < p.length := by omega
  rw [yL hk2] at hfr; refine c4 (c3 (c6 (i5 (c5 ?_)))); refine u6 (α := Str) _ _ rfl j7 q7 rfl rfl rfl mB rfl (by omega) (by decide) (a7 rfl d6 rfl (b9 mB (b4 (by omega) rfl)) ?_); refine b7 rfl (l7 (b3 rfl (b3 rfl ?_))); refine pT (k := (p.getD k default)) KS rfl v7 rfl rfl (P1 m0) sV hM ?_; refine b5 (i5 (c5 (D9 rfl rfl rfl (b7 rfl (b5 ?_)))))
  first | refine i6 rfl (fun hb3 => ?_) (fun hb3 => ?_) | refine c8 rfl (fun hb3 => ?_) (fun hb3 => ?_)
  ·have hb3' := hb3; try simp at hb3'
   have h0 : (f (p.getD k default)) = 0 := by omega
   rw [if_pos h0] at hfr; refine c7 (b3 rfl ?_); refine w5 ((n + 1 : Nat) : Int) rfl rfl rfl (by show (n : Int) + 1 = ((n + 1 : Nat) : Int); omega) q8 ?_; refine b7 rfl (b6 (u4 (u4 (c3 (c7 ?_))))); refine w5 _ rfl rfl rfl rfl q8 ?_; refine b3 rfl (b6 ?_); exact again _ (k + 1, (n + 1), l, clk, f) ⟨by show k + 1 ≤ p.length; omega, hM, by show freshN (stockN ps) p = (n + 1) + freshN f (p.drop (k + 1)); omega, by show (n + 1) ≤ k + 1; omega, hfb⟩ (C5 (by omega)) mC (.refl _) mC
  have hb3' := hb3; try simp at hb3'
  have h0 : ¬ (f (p.getD k default)) = 0 := by omega
  rw [if_neg h0] at hfr; refine c5 (D9 rfl rfl rfl (b7 rfl (b5 ?_)))
  first | refine i6 rfl (fun hb4 => ?_) (fun hb4 => ?_) | refine c8 rfl (fun hb4 => ?_) (fun hb4 => ?_)
  ·have hb4' := hb4; try simp at hb4'
   have h1 : (f (p.getD k default)) = 1 := by omega
   rw [h1] at hfr; refine c7 (b3 rfl (b3 rfl ?_)); refine cx9 (k := (p.getD k default)) KS v7 rfl rfl p9 ?_; refine b6 (u4 (u4 (c3 (c7 ?_)))); refine w5 _ rfl rfl rfl rfl q8 ?_; refine b3 rfl (b6 ?_); exact again _ (k + 1, n, (delM l (p.getD k default)), clk, (updF f (p.getD k default) 0)) ⟨by show k + 1 ≤ p.length; omega, hM.del (p.getD k default), by show freshN (stockN ps) p = n + freshN (updF f (p.getD k default) 0) (p.drop (k + 1)); exact hfr, by show n ≤ k + 1; omega, zJ hfb (Nat.zero_le _) _⟩ (C5 (by omega)) mC (.refl _) mC
  have hb4' := hb4; try simp at hb4'
  have h1 : ¬ (f (p.getD k default)) = 1 := by omega
  refine c7 (b3 rfl (b3 rfl ?_)); refine pT (k := (p.getD k default)) KS rfl v7 rfl rfl (P1 m0) sV hM ?_; refine J4 (((f (p.getD k default)) - 1 : Nat) : Int) rfl rfl rfl (by show (((f (p.getD k default)) : Nat) : Int) - 1 = (((f (p.getD k default)) - 1 : Nat) : Int); omega) (by have hb := hfb (p.getD k default); unfold I64; omega) ?_; refine X2 (k := (p.getD k default)) (v := int (((f (p.getD k default)) - 1 : Nat) : Int)) KS (.inl rfl) v7 rfl rfl rfl p9 ?_; refine b6 (u4 (u4 (c3 (c7 ?_)))); refine w5 _ rfl rfl rfl rfl q8 ?_; refine b3 rfl (b6 ?_); exact again _ (k + 1, n, (putM l (p.getD k default) (int (((f (p.getD k default)) - 1 : Nat) : Int)) clk), (clkM l (p.getD k default) clk), (updF f (p.getD k default) ((f (p.getD k default)) - 1))) ⟨by show k + 1 ≤ p.length; omega, hM.put (p.getD k default) (by omega), by show freshN (stockN ps) p = n + freshN (updF f (p.getD k default) ((f (p.getD k default)) - 1)) (p.drop (k + 1)); exact hfr, by show n ≤ k + 1; omega, zJ hfb (by have := hfb (p.getD k default); omega) _⟩ (C5 (by omega)) mC (.refl _) mC
 have hb2' := hb2; try simp at hb2'
 have hk2 : k = p.length := by omega
 subst hk2; rw [List.drop_length] at hfr; refine r9 (B2 (r8 (c3 (c5 (b3 rfl (b7 rfl (b7 rfl (b5 ?_)))))))); refine i8 ?_; exact ret2 () rfl rfl rfl (by show Value.tuple #[int (freshE ps p : Nat), int (askedErr (years ps) p)] = Value.tuple #[int (n : Nat), int 0]; rw [freshE, if_pos hq0, hq0, hfr]; rfl) rfl tK nK tK
end Go.Proofs.YtpihanmcnmlodaaGreatDoor
end
section
namespace Go.Proofs.YtpihanmcnmlodaaGreatDoor
open Go Go.W Tryz T F
theorem LCS.symm {α : Type} {a b : List α} {n : Nat} (h : LCS a b n) : LCS b a n := by
  obtain ⟨s, s1, s2, s3⟩ := h.ex; exact ⟨⟨s, s2, s1, s3⟩, fun t t1 t2 => h.le t t2 t1⟩
end Go.Proofs.YtpihanmcnmlodaaGreatDoor
end
section
namespace Go.Proofs.YtpihanmcnmlodaaGreatDoor
open Go Go.W Tryz T F
set_option maxRecDepth 20000
attribute [local irreducible] HL HC HQ HB Row Rows2 Blk Facts
/-! ### Keys -/
theorem aq7 : ∀ b : UInt8, ¬ kindN b = 0 → ∀ x ∈ soundB b, 97 ≤ x.toNat ∧ x.toNat ≤ 122 := by
  intro b hb; have h : ∀ i : Fin 256, ¬ kindN (UInt8.ofNat i.val) = 0 → ∀ x ∈ soundB (UInt8.ofNat i.val), 97 ≤ x.toNat ∧ x.toNat ≤ 122 := by decide +kernel
  have e : UInt8.ofNat b.toNat = b := by simp
  have := h ⟨b.toNat, b.toNat_lt⟩ (by rw [e]; exact hb)
  rwa [e] at this
def Low (s : Str) : Prop := ∀ x ∈ s, 97 ≤ x.toNat ∧ x.toNat ≤ 122
theorem vn_kind {s : Str} (h : nameErr s = 0) : ∀ b ∈ s, ¬ kindN b = 0 := fun b hb e => by
  have := List.all_eq_true.1 (K7 h).2.2 b hb; rw [Bool.and_eq_true, decide_eq_true_eq, decide_eq_true_eq] at this; exact this.2 e
theorem az5 {s : Str} (h : nameErr s = 0) : Low (keyOf s) := by
  intro x hx; unfold keyOf at hx; rw [List.mem_flatten] at hx; obtain ⟨t, ht, hx⟩ := hx; obtain ⟨b, hb, rfl⟩ := List.mem_map.1 ht; exact aq7 b (vn_kind h b hb) x hx
theorem az4 : ∀ {s : Str}, 0 < s.length → 0 < (keyOf s).length
  | [], h => by simp at h
  | b :: s, _ => by
    have h1 := aq6 b; unfold keyOf; simp only [List.map_cons, List.flatten_cons, List.length_append]
    omega
theorem xP {b : UInt8} (h : 97 ≤ b.toNat ∧ b.toNat ≤ 122) : soundB b = [b] := by
  have hh : ∀ i : Fin 256, 97 ≤ i.val ∧ i.val ≤ 122 → soundB (UInt8.ofNat i.val) = [UInt8.ofNat i.val] := by decide +kernel
  have e : UInt8.ofNat b.toNat = b := by simp
  have := hh ⟨b.toNat, b.toNat_lt⟩ h
  rwa [e] at this
theorem iI : ∀ {s : Str}, Low s → keyOf s = s
  | [], _ => rfl
  | b :: s, h => by
    have h1 := iI (s := s) fun x hx => h x (List.mem_cons_of_mem _ hx); have h2 := xP (h b (List.mem_cons_self ..)); unfold keyOf at h1 ⊢; rw [List.map_cons, List.flatten_cons, h1, h2]
    rfl
theorem kG {b : UInt8} (h : 97 ≤ b.toNat ∧ b.toNat ≤ 122) : kindN b = 1 := by rw [kindN, if_pos h]
theorem az0 {s : Str} (h : Low s) : okS s = true := by
  refine tQ fun j hj => ?_; rw [kG (h _ (r7 hj)), kG (h _ (r7 (show 0 < s.length by omega)))]; exact ⟨rfl, by decide⟩
structure KeyL (s : Str) : Prop where
  low : Low s
  pos : 0 < s.length
  len : s.length ≤ 10
theorem KeyL.line {s : Str} (h : KeyL s) : lineErr s = 0 := by
  have hp := h.pos; have hl := h.len
  have hb : s.any lineBad = false := by
    rw [List.any_eq_false]; intro x hx; have := h.low x hx; unfold lineBad
    simp
    omega
  have h1 : ¬ s.take 1 = [32] := fun e => by
    have := h.low 32 (List.take_subset 1 _ (by rw [e]; simp)); have e2 : (32 : UInt8).toNat = 32 := rfl
    omega
  have h2 : ¬ s.drop (s.length - 1) = [32] := fun e => by
    have := h.low 32 (List.drop_subset (s.length - 1) _ (by rw [e]; simp)); have e2 : (32 : UInt8).toNat = 32 := rfl
    omega
  rw [lineErr, if_neg (by omega), if_neg (by omega), if_neg (by rw [hb]; simp), if_neg (by rintro (h | h); exact h1 h; exact h2 h)]
theorem KeyL.asc {s : Str} (h : KeyL s) : Asc7 s := fun b hb => by have := h.low b hb; omega
theorem dj0 {s : Str} (h : NmOK s) : KeyL (keyOf s) := ⟨az5 h.err, az4 h.1, by have := lX s; have := h.2.1; omega⟩
theorem key_err {s : Str} (h : KeyL s) : nameErr s = 0 ∨ nameErr s = 10 := by
  have := h.pos; unfold nameErr; rw [if_neg (by omega)]
  split
  · exact .inr rfl
  rw [if_pos (az0 h.low)]; exact .inl rfl
theorem bj9 {l : List Str} (h : ∀ s ∈ l, nameErr s = 0 ∨ nameErr s = 10) : firstErr nameErr l = 0 ∨ firstErr nameErr l = 10 := by
  induction l with
  | nil => exact .inl rfl
  | cons s l ih =>
    rw [firstErr]
    split
    · exact ih fun t ht => h t (List.mem_cons_of_mem _ ht)
    rename_i hn
    exact (h s (List.mem_cons_self ..)).elim (fun e => absurd e hn) .inr
theorem dj5 {l : List Str} (h6 : l.length ≤ 6) (h : ∀ s ∈ l, KeyL s) : listErr l = 0 ∨ listErr l = 10 := by
  rw [listErr, if_neg (by omega)]; exact bj9 fun s hs => key_err (h s hs)
theorem sH {l : List Str} (h6 : l.length ≤ 6) (h : ∀ s ∈ l, KeyL s) : pageErr l = 0 := by
  rw [pageErr, if_neg (by omega)]; exact L3 fun s hs => (h s hs).line
theorem vM {l : List Str} (h : ∀ s ∈ l, KeyL s) (ho : l.Pairwise fun a b => ¬ b < a) : sortedN l := by
  intro k hk hlt; rw [lG] at hlt; have m1 := r7 (l := l) (k := k + 1) hk; have m0 := r7 (l := l) (k := k) (by omega); rw [iI (h _ m1).low, iI (h _ m0).low] at hlt
  rcases hlt with hlt | ⟨_, hlt⟩
  · have := List.pairwise_iff_getElem.1 ho k (k + 1) (by omega) hk (by omega)
    rw [z8 hk, z8 (show k < l.length by omega)] at hlt; exact this hlt
  rw [kG ((h _ m1).low _ (r7 (h _ m1).pos)), kG ((h _ m0).low _ (r7 (h _ m0).pos))] at hlt
  omega
/-! ### One key more -/
theorem sC : ∀ {a b : List Str}, a.Pairwise (fun x y => ¬ y < x) → b.Pairwise (fun x y => ¬ y < x) → a.Perm b → a = b
  | [], b, _, _, h => (List.Perm.nil_eq h)
  | x :: a, [], _, _, h => absurd h.length_eq (by simp)
  | x :: a, y :: b, ha, hb, h => by
    rw [List.pairwise_cons] at ha hb
    have hxy : ¬ y < x := by
      have : y ∈ x :: a := h.symm.subset (List.mem_cons_self ..)
      rcases List.mem_cons.1 this with e | hm
      · rw [e]; exact W5 _
      exact ha.1 y hm
    have hyx : ¬ x < y := by
      have : x ∈ y :: b := h.subset (List.mem_cons_self ..)
      rcases List.mem_cons.1 this with e | hm
      · rw [e]; exact W5 _
      exact hb.1 x hm
    have e : x = y := tM hyx hxy; subst e; rw [sC ha.2 hb.2 (List.Perm.cons_inv h)]
theorem qZ (k : Str) : ∀ {l : List Str}, l.Pairwise (fun x y => ¬ y < x) → ∃ a b, l = a ++ b ∧ (a ++ k :: b).Pairwise (fun x y => ¬ y < x)
  | [], _ => ⟨[], [], rfl, by simp⟩
  | x :: l, h => by
    rw [List.pairwise_cons] at h
    rcases Classical.em (k < x) with hk | hk
    · refine ⟨[], x :: l, rfl, ?_⟩
      rw [List.nil_append, List.pairwise_cons]; refine ⟨fun y hy hlt => ?_, by rw [List.pairwise_cons]; exact h⟩
      rcases List.mem_cons.1 hy with rfl | hy
      · exact List.lt_asymm hk hlt
      exact h.1 y hy (List.lt_trans hlt hk)
    obtain ⟨a, b, e, hp⟩ := qZ k h.2; refine ⟨x :: a, b, by rw [e]; rfl, ?_⟩; rw [List.cons_append, List.pairwise_cons]; refine ⟨fun y hy => ?_, hp⟩
    rcases List.mem_append.1 hy with hy | hy
    · exact h.1 y (by rw [e]; exact List.mem_append_left _ hy)
    rcases List.mem_cons.1 hy with rfl | hy
    · exact hk
    exact h.1 y (by rw [e]; exact List.mem_append_right _ hy)
structure More (K K' : List Str) (k : Str) : Prop where
  perm : K'.Perm (k :: K)
  sub : K.Sublist K'
theorem more_of {l : List Str} {c : Str} {K K' : List Str} (h : KeyedOK l K) (h' : KeyedOK (l ++ [c]) K') : More K K' (keyOf c) := by
  have hp : K'.Perm (keyOf c :: K) := by
    refine h'.perm.trans ?_; rw [List.map_append]; exact (List.perm_append_comm (l₁ := l.map keyOf) (l₂ := [keyOf c])).trans (h.perm.symm.cons _)
  obtain ⟨a, b, e, hs⟩ := qZ (keyOf c) h.ord
  have he : K' = a ++ keyOf c :: b := by
    refine sC h'.ord hs (hp.trans ?_); rw [e]; exact List.perm_middle.symm
  refine ⟨hp, ?_⟩; rw [he, e]; exact (List.Sublist.refl a).append (.cons _ (.refl b))
theorem More.len {K K' : List Str} {k : Str} (h : More K K' k) : K'.length = K.length + 1 := by rw [h.perm.length_eq]; rfl
theorem More.lcs {K K' : List Str} {k : Str} (h : More K K' k) : LCS K K' K.length := ⟨⟨K, .refl _, h.sub, rfl⟩, fun s hs _ => hs.length_le⟩
theorem dj2 (l : List Mk) (h : ∀ m ∈ l, 1 ≤ m.1 ∧ m.1 ≤ 3) : l.length = costM l + outsM l := by
  induction l with
  | nil => rfl
  | cons m l ih =>
    have ih := ih fun x hx => h x (List.mem_cons_of_mem _ hx); unfold costM outsM at *
    by_cases h3 : m.1 = 3
    · rw [List.filter_cons_of_neg (by simpa using h3), List.filter_cons_of_pos (by simpa using h3), List.length_cons, List.length_cons]; omega
    rw [List.filter_cons_of_pos (by simpa using h3), List.filter_cons_of_neg (by simpa using h3), List.length_cons, List.length_cons]; omega
theorem rM {a b : List Str} {n : Nat} (ha : pageErr a = 0) (hb : pageErr b = 0) (hl : LCS a b n) :
    diffE a b (diffP a b 0 0).2 = ((diffP a b 0 0).2, 0) ∧ checkErr a (diffP a b 0 0).2 = 0 ∧ (costM (diffP a b 0 0).2 : Int) = (b.length : Int) - n ∧ madeP a (diffP a b 0 0).2 = b ∧ b.length + outsM (diffP a b 0 0).2 = a.length + insM (diffP a b 0 0).2 ∧ (diffP a b 0 0).2.length = costM (diffP a b 0 0).2 + outsM (diffP a b 0 0).2 := by
  have hap := zA ha hb (ax6 hb); have h2 := wR (p := a) (l := (diffP a b 0 0).2) (by rw [hap]); obtain ⟨hck, hap2, _⟩ := h2; have hm : madeP a (diffP a b 0 0).2 = b := congrArg Prod.fst (hap2.symm.trans hap); obtain ⟨hp6, hl12, hV⟩ := U1 hck; have hA := ax8 (wN hck).2; have e2 := zU a hA hV; have e3 := zT a _ 0 hA hV (from0 hV) (Nat.zero_le _); have hpd := zB a b _ 0 0 (Nat.le_refl _); unfold PaidOK at hpd; refine ⟨wM _ ha hb, hck, by rw [← hpd]; exact yZ hl, hm, ?_, dj2 _ fun m h => ⟨(hV m h).1, (hV m h).2.1⟩⟩; rw [← e2, hm] at e3
  omega
theorem vG {l : List Mk} (h : l.length = 1) : l = [l.getD 0 default] := by
  match l, h with
  | [m], _ => rfl
theorem nU {a b : List Str} (h : a.Perm b) (s : Str) : countN a s = countN b s := (h.filter _).length_eq
structure TopC (K K' : List Str) (k : Str) : Prop where
  p : pageErr K = 0
  p' : pageErr K' = 0
  d1 : ∃ j : Int, diffE K K' (diffP K K' 0 0).2 = ([(1, j, k)], 0) ∧ costR K [(1, j, k)] = (1, 0)
  d2 : ∃ (j : Int) (t : Str), diffE K' K (diffP K' K 0 0).2 = ([(3, j, t)], 0) ∧ costR K' [(3, j, t)] = (0, 0)
theorem top_c {K K' : List Str} {k : Str} (h : More K K' k) (h6 : K'.length ≤ 6) (hK : ∀ s ∈ K', KeyL s) : TopC K K' k := by
  have hlen := h.len; have hp' := sH h6 hK; have hp := sH (l := K) (by omega) fun s hs => hK s (h.sub.subset hs); refine ⟨hp, hp', ?_, ?_⟩
  · obtain ⟨q1, q2, q3, q4, q5, q6⟩ := rM hp hp' h.lcs
    have ic := vO (diffP K K' 0 0).2; generalize (diffP K K' 0 0).2 = D at *; have hD := vG (l := D) (by omega); obtain ⟨hp6, hl12, hV⟩ := U1 q2; generalize D.getD 0 default = m at *; subst hD; obtain ⟨mk, mj, mt⟩ := m; have hm := hV _ (List.mem_singleton.2 rfl)
    have hk1 : mk = 1 := by
      by_cases e : mk = 1
      · exact e
      have : insM [((mk, mj, mt) : Mk)] = 0 := by unfold insM; rw [List.filter_cons_of_neg (by simpa using e)]; rfl
      omega
    subst hk1
    have hmt : mt = k := by
      have e2 := zU K (l := [((1, mj, mt) : Mk)]) ⟨fun b hb => by simp at hb, tK⟩ hV; rw [q4, mk2, mk2, if_neg (show ¬ (1 : Int) = 3 by decide), if_pos rfl, List.drop_zero] at e2
      have e3 : K'.Perm (mt :: K) := by
        rw [e2]; refine List.perm_middle.trans ?_; show (mt :: (K.take mj.toNat ++ K.drop mj.toNat)).Perm (mt :: K); rw [List.take_append_drop]
      have e4 := nU (e3.symm.trans h.perm) k
      by_cases hne : mt = k
      · exact hne
      unfold countN at e4; rw [List.filter_cons_of_neg (by simpa using hne), List.filter_cons_of_pos (by simp), List.length_cons] at e4
      omega
    subst hmt; refine ⟨mj, q1, ?_⟩; rw [costR, if_neg (not_not_intro q2)]; have : costM [((1, mj, mt) : Mk)] = 1 := rfl; rw [this]; rfl
  obtain ⟨q1, q2, q3, q4, q5, q6⟩ := rM hp' hp h.lcs.symm; have ic := vO (diffP K' K 0 0).2; generalize (diffP K' K 0 0).2 = D at *; have hD := vG (l := D) (by omega); generalize D.getD 0 default = m at *; subst hD; obtain ⟨mk, mj, mt⟩ := m
  have hk3 : mk = 3 := by
    by_cases e : mk = 3
    · exact e
    have : outsM [((mk, mj, mt) : Mk)] = 0 := by unfold outsM; rw [List.filter_cons_of_neg (by simpa using e)]; rfl
    omega
  subst hk3; refine ⟨mj, mt, q1, ?_⟩; rw [costR, if_neg (not_not_intro q2)]; have : costM [((3, mj, mt) : Mk)] = 0 := rfl; rw [this]; rfl
theorem cG {K K' : List Str} {k : Str} (h : More K K' k) (s : Str) : countN K' s = countN K s + (if k = s then 1 else 0) := by
  rw [nU h.perm, aC]
  omega
theorem wK : ∀ l : List Str, ∃ U : List Str, U.Nodup ∧ ∀ s ∈ l, s ∈ U
  | [] => ⟨[], List.nodup_nil, fun s h => by cases h⟩
  | x :: l => by
    obtain ⟨U, h1, h2⟩ := wK l
    by_cases hx : x ∈ U
    · exact ⟨U, h1, fun s h => by rcases List.mem_cons.1 h with rfl | h; exact hx; exact h2 s h⟩
    exact ⟨x :: U, List.nodup_cons.2 ⟨hx, h1⟩, fun s h => by rcases List.mem_cons.1 h with rfl | h; exact List.mem_cons_self ..; exact List.mem_cons_of_mem _ (h2 s h)⟩
theorem yB {K K' : List Str} {k : Str} (h : More K K' k) : freshN (countN K) K' = 1 := by
  obtain ⟨U, h1, h2⟩ := wK K'; rw [mE h1 K' (countN K) h2]; have := qI h1 (s := k) (h2 k (h.perm.symm.subset (List.mem_cons_self ..))) (g := fun s => countN K' s - countN K s) (h := fun _ => 0) (by show countN K' k - countN K k = 1 + 0; rw [cG h, if_pos rfl]; omega) (fun x hx => by show countN K' x - countN K x = 0; rw [cG h, if_neg (fun e => hx e.symm)]; omega); rw [this, sA]
theorem aq5 (A : Option Addr) (c : Nat) (K : List Str) (s : Str) : stockN [⟨A, c, K⟩] s = countN K s := by
  unfold stockN; simp
theorem aq3 {K K' : List Str} {k : Str} (h : More K K' k) (p : pageErr K = 0) (p' : pageErr K' = 0) (A : Option Addr) (c : Nat) : freshE [⟨A, c, K⟩] K' = 1 ∧ askedErr (years [⟨A, c, K⟩]) K' = 0 := by
  have h0 : askedErr (years [(⟨A, c, K⟩ : Sl Str)]) K' = 0 := by
    have : yearsErr [K] = 0 := by rw [yearsErr, if_neg (by simp)]; exact L3 (by simpa using p)
    show askedErr [K] K' = 0; rw [askedErr, if_pos this]; exact p'
  refine ⟨?_, h0⟩; rw [freshE, if_pos h0, vT (aq5 A c K), yB h]
theorem rY {K K' : List Str} (p : pageErr K = 0) (p' : pageErr K' = 0) : yearsErr [K, K'] = 0 := by
  rw [yearsErr, if_neg (by simp)]; exact L3 (by simp [p, p'])
theorem rN {K : List Str} (p : pageErr K = 0) : applyP K [] = (K, 0) := by
  have hck : checkErr K [] = 0 := by rw [checkErr, if_pos p]; rfl
  have h6 := G1 p; have hm : madeP K [] = K := rfl; rw [applyP, if_neg (not_not_intro hck), hm, if_neg (by omega)]
theorem sR {a b : List Str} {l r : List Mk} {e : Int} (h : diffE a b l = (r, e)) (ha : pageErr a = 0) (hb : pageErr b = 0) : l = r := by
  rw [wM l ha hb] at h; exact congrArg Prod.fst h
theorem cq1 {K K' : List Str} {k : Str} (h : More K K' k) (t : TopC K K' k) (A B : Option Addr) (c d : Nat) : ∃ j : Int, lookP [⟨A, c, K'⟩, ⟨B, d, K⟩] [] K' = ((if countN K' k = 1 then 2 else 3, j), 0) := by
  obtain ⟨j, hd, _⟩ := t.d1; have hD := sR hd t.p t.p'; refine ⟨j, ?_⟩; have ha : applyP (lastP [(⟨A, c, K'⟩ : Sl Str), ⟨B, d, K⟩]).l [] = (K, 0) := rN t.p; have hy : yearsErr (years [(⟨A, c, K'⟩ : Sl Str), ⟨B, d, K⟩]) = 0 := rY t.p' t.p; rw [qW hy (by simp) (by rw [ha]) t.p', ha]; show (flawV _ K K', (0 : Int)) = _; rw [flawV, hD, if_neg (by simp)]; show (flawP _ K (1, j, k), (0 : Int)) = _; unfold flawP; have hm := cG h k; rw [if_pos rfl] at hm
  have hor : 0 ≤ originN [(⟨A, c, K'⟩ : Sl Str), ⟨B, d, K⟩] k 1 := by
    have hk : k ∈ K' := h.perm.symm.subset (List.mem_cons_self ..); rw [nN (by decide)]; rw [if_pos (show k ∈ ([(⟨A, c, K'⟩ : Sl Str), ⟨B, d, K⟩].getD (1 - 1) default).l from hk)]
    decide
  have hz := zC (l := K) (s := k); rw [if_neg (show ¬ (1 : Int) = 3 by decide)]
  by_cases hin : k ∈ K
  · have : ¬ countN K k = 0 := fun e => hz.1 e hin
    rw [if_neg (fun q => q.1 hin), if_neg (by omega)]
  have : countN K k = 0 := hz.2 hin; rw [if_pos ⟨hin, hor⟩, if_pos (by omega)]
theorem aq2 {K K' : List Str} {k : Str} (t : TopC K K' k) (A B : Option Addr) (c d : Nat) : ∃ j : Int, lookP [⟨A, c, K⟩, ⟨B, d, K'⟩] [] K = ((1, j), 0) := by
  obtain ⟨j, s, hd, _⟩ := t.d2; have hD := sR hd t.p' t.p; refine ⟨j, ?_⟩; have ha : applyP (lastP [(⟨A, c, K⟩ : Sl Str), ⟨B, d, K'⟩]).l [] = (K', 0) := rN t.p'; have hy : yearsErr (years [(⟨A, c, K⟩ : Sl Str), ⟨B, d, K'⟩]) = 0 := rY t.p t.p'; rw [qW hy (by simp) (by rw [ha]) t.p, ha]; show (flawV _ K' K, (0 : Int)) = _; rw [flawV, hD, if_neg (by simp)]
  rfl
abbrev sChad : Str := [99, 104, 97, 100]
abbrev sCad : Str := [67, 65, 68]
abbrev sBenU : Str := [66, 69, 78]
abbrev fourN : List Str := [sChad, sCad, sAnna, sBenU]
theorem dx7 : ∀ s ∈ fourN, Asc7 s := by decide +kernel
theorem dx6 : listErr fourN = 0 := by decide +kernel
theorem dx5 : ∀ a ∈ idxL 4, ∀ b ∈ idxL 4, ¬ cmpAt fourN b a < 0 → ¬ cmpAt fourN a b < 0 → a = b := by decide +kernel
theorem yV : [(2 : Int), 3, 0, 1].Pairwise fun a b => ¬ cmpAt fourN b a < 0 := by decide +kernel
theorem four_perm : [(2 : Int), 3, 0, 1].Perm (idxL 4) := by decide +kernel
theorem bj8 {z : List Int} (h : Srtd (cmpAt fourN) (idxL 4) z) : z = [2, 3, 0, 1] :=
  List.Perm.eq_of_pairwise (le := fun a b => ¬ cmpAt fourN b a < 0) (fun a b ha hb h1 h2 => dx5 a (h.1.subset ha) b (four_perm.subset hb) h1 h2) (nG (h.2 (cz4 fourN))) yV (h.1.trans four_perm.symm)
abbrev abOne : List Str := [[97], [98]]
abbrev cOne : List Str := [[99]]
abbrev abM : List Mk := [(2, 0, [99]), (3, 1, [])]
theorem ab_diff : diffE abOne cOne (diffP abOne cOne 0 0).2 = (abM, 0) := by rw [← wL abOne cOne 10 0 0 (by decide)]; decide +kernel
theorem rX {A B : Option Addr} {ca cb : Nat} : Meets prog U0 [.slice A 2 ca, .slice B 1 cb] { outE (abM, (0 : Int)) with LI := [Row A (rows abOne), Row B (rows cOne)] } := by
  have h := Q8 (A := A) (B := B) (ca := ca) (cb := cb) abOne cOne; rw [ab_diff] at h; exact h
theorem cj2 (a b : Option Addr) : lookP [⟨a, 2, [sAnna, sBen]⟩, ⟨b, 2, [sAnna, sCyd]⟩] [] folkL = ((2, 1), 0) := by
  have e1 : yearsErr (years [⟨a, 2, [sAnna, sBen]⟩, ⟨b, 2, [sAnna, sCyd]⟩]) = 0 := by show yearsErr [[sAnna, sBen], [sAnna, sCyd]] = 0; decide +kernel
  have e2 : (lastP [⟨a, 2, [sAnna, sBen]⟩, ⟨b, 2, [sAnna, sCyd]⟩]).l = [sAnna, sCyd] := rfl; have e3 : applyP [sAnna, sCyd] [] = ([sAnna, sCyd], 0) := by decide +kernel
  have e4 : pageErr folkL = 0 := by decide +kernel
  have e5 : (diffP [sAnna, sCyd] folkL 0 0).2 = [(1, 1, sBen)] := by rw [← wL _ _ 10 0 0 (by decide)]; decide +kernel
  unfold lookP; rw [e1, e2, e3, e4, e5]
  rfl
theorem qD {A C : Option Addr} {a b : Addr} {cc : Nat} : Meets prog S9 [.slice A 2 2, .slice none 0 0, .slice C 3 cc] { LI := [Rows2 A [(⟨some a, 2, [sAnna, sBen]⟩ : Sl Str), ⟨some b, 2, [sAnna, sCyd]⟩], Row none (rows ([] : List Mk)), Row C (rows folkL)], val := fun _ : Unit => .tuple #[.agg #[int 2, int 1], int 0] } := by
  have h := Q7 (A := A) (B := none) (C := C) (ca := 2) (cb := 0) (cc := cc) [(⟨some a, 2, [sAnna, sBen]⟩ : Sl Str), ⟨some b, 2, [sAnna, sCyd]⟩] [] folkL (Nat.le_refl _) (by intro q hq; simp at hq; rcases hq with rfl | rfl <;> simp); rw [cj2] at h; exact h
set_option maxHeartbeats 1000000 in
theorem aF : Meets prog I4 [] { val := fun _ : Unit => .bool true } := by
 refine d5 bN rfl r4 fun w0 => ?_; refine c5 (b7 rfl (l7 ?_)); refine j8 _ rfl rfl (fun _ => tA ..) fun g1 => ?_; refine B5 (rows fourN) (List.prefix_refl _) ?_; refine h8 dA rfl rfl (cX (A := some ⟨g1, 0, none⟩) (c := 4) fourN (by decide) dx7) p9 mC fun x1 hx1 => ?_; obtain ⟨⟨z, e1⟩, oz⟩ := x1; obtain ⟨he1, hz⟩ := (show SortOK fourN (z, e1) from hx1).ok dx6; have hzz := bj8 hz; clear hz; simp only at he1 hzz; subst he1; subst hzz; refine b3 rfl (l4 rfl rfl rfl (l4 rfl rfl rfl (b7 rfl (b7 rfl (l7 ?_))))); refine j8 _ rfl rfl (fun _ => cB ..) fun g2 => ?_; refine B5 (rows abOne) (List.prefix_refl _) ?_; refine j8 _ rfl rfl (fun _ => E9 ..) fun g3 => ?_; refine B5 (rows cOne) (List.prefix_refl _) ?_; refine h8 R8 rfl rfl (rX) p9 mC fun x2 _ => ?_; refine b3 rfl (l4 rfl rfl rfl (l4 rfl rfl rfl (b7 rfl (b7 rfl (l7 ?_))))); refine j8 _ rfl rfl (fun _ => cB ..) fun g4 => ?_; refine j8 _ rfl rfl (fun _ => cB ..) fun g5 => ?_; refine j8 _ rfl rfl (fun _ => aD ..) fun g6 => ?_; refine j8 _ rfl rfl (fun _ => tB ..) fun g7 => ?_; refine B5 (rows folkL) (List.prefix_refl _) ?_; refine B5 (rows [(⟨some ⟨g4, 0, none⟩, 2, [sAnna, sBen]⟩ : Sl Str), ⟨some ⟨g5, 0, none⟩, 2, [sAnna, sCyd]⟩]) (List.prefix_refl _) ?_; refine B5 (rows [sAnna, sCyd]) (List.prefix_refl _) ?_; refine B5 (rows [sAnna, sBen]) (List.prefix_refl _) ?_; refine kH (A := some ⟨g6, 0, none⟩) (ps := [(⟨some ⟨g4, 0, none⟩, 2, [sAnna, sBen]⟩ : Sl Str), ⟨some ⟨g5, 0, none⟩, 2, [sAnna, sCyd]⟩]) mB (by intro p hp; simp at hp; rcases hp with rfl | rfl <;> exact mB) ?_; refine lZ (α := Mk) ?_; refine h8 (vs := [.slice (n9 g6) 2 2, .slice none 0 0, .slice (n9 g7) 3 3]) R7 rfl rfl (qD (A := some ⟨g6, 0, none⟩) (C := some ⟨g7, 0, none⟩) (a := ⟨g4, 0, none⟩) (b := ⟨g5, 0, none⟩)) p9 mC fun _ _ => ?_; refine b3 rfl (l4 rfl rfl rfl (l4 rfl rfl rfl ?_)); refine A5 rfl (fun _ => O5 _) fun gA => ?_; refine u2 rfl rfl J0 l5 (by rfl) (by rfl) ?_; refine b7 rfl (l7 (b3 rfl (D9 rfl rfl rfl (b3 rfl ?_)))); refine l8 rfl rfl ?_ ?_
 ·intro hg1; have hg1' := hg1; try simp at hg1'
  refine j0 hg1 (b3 rfl (j0 hg1 (D9 rfl rfl rfl ?_))); refine p_t rfl rfl (bt1 hg1) rfl (b3 rfl ?_); refine l8 rfl rfl ?_ ?_
  ·intro hg2; have hg2' := hg2; try simp at hg2'
   refine j0 hg2 (b3 rfl (j0 hg2 (D9 rfl rfl rfl ?_))); refine p_t rfl rfl (bt1 hg2) rfl (b3 rfl ?_); refine l8 rfl rfl ?_ ?_
   ·intro hg3; have hg3' := hg3; try simp at hg3'
    refine j0 hg3 ?_
    first | refine D6 rfl w4 l5 rfl mB (by rfl) ?_ | refine D5 rfl w4 l5 rfl mB (by rfl) ?_ | refine v8 rfl w4 l5 rfl rfl (q9 mB (u1 (by omega))) ?_
    refine j0 hg3 (C9 _ rfl rfl (fun _ => E5 ..) (j0 hg3 (I0 _ rfl rfl rfl (fun _ => pA ..) (fun _ => nW ..) (p_t rfl rfl (bt1 hg3) rfl (b3 rfl ?_))))); refine l8 rfl rfl ?_ ?_
    ·intro hg4; have hg4' := hg4; try simp at hg4'
     refine j0 hg4 (b3 rfl (j0 hg4 ?_)); refine j8 _ rfl rfl (fun _ => tC ..) fun g8 => B5 (rows ([2, 3, 0, 1] : List Int)) (List.prefix_refl _) (j0 hg4 (h8 mW rfl rfl (lW [2, 3, 0, 1] [2, 3, 0, 1] (by decide)) p9 mC fun _ _ => p_t rfl rfl (bt1 hg4) rfl (b3 rfl ?_))); refine l8 rfl rfl ?_ ?_
     ·intro hg5; have hg5' := hg5; try simp at hg5'
      refine j0 hg5 (b3 rfl (j0 hg5 ?_)); refine C9 _ rfl rfl (fun _ => hX ..) (j0 hg5 (C9 _ rfl rfl (fun _ => X0 ..) (j0 hg5 (j8 _ rfl rfl (fun _ => hQ ..) fun g9 => B5 (rows abM) (List.prefix_refl _) (j0 hg5 (h8 lA rfl rfl (kF abM abM (by decide)) p9 mC fun _ _ => p_t rfl rfl (bt1 hg5) rfl ?_)))))); refine b7 rfl (b5 (i8 ?_)); exact ret1 () rfl rfl rfl tK nK tK
     intro hg5; have hg5' := hg5; try simp at hg5'
    intro hg4; have hg4' := hg4; try simp at hg4'
   intro hg3; have hg3' := hg3; try simp at hg3'
  intro hg2; have hg2' := hg2; try simp at hg2'
 intro hg1; have hg1' := hg1; try simp at hg1'
structure TopF (K K' : List Str) (k : Str) (A B : Option Addr) (c d : Nat) : Prop where
  key : ∀ s ∈ K', KeyL s
  l6 : K'.length ≤ 6
  l1 : K'.length = K.length + 1
  e1 : ∃ j : Int, diffE K K' (diffP K K' 0 0).2 = ([(1, j, k)], 0) ∧ costR K [(1, j, k)] = (1, 0)
  e2 : ∃ (j : Int) (t : Str), diffE K' K (diffP K' K 0 0).2 = ([(3, j, t)], 0) ∧ costR K' [(3, j, t)] = (0, 0)
  fr : freshE [⟨A, c, K⟩] K' = 1 ∧ askedErr (years [⟨A, c, K⟩]) K' = 0
  er : listErr K' = 0 ∨ listErr K' = 10
  so : sortedN K'
  ct : 1 ≤ countN K' k
  lk : ∃ j : Int, lookP [⟨B, d, K'⟩, ⟨A, c, K⟩] [] K' = ((if countN K' k = 1 then 2 else 3, j), 0)
  lk2 : ∃ j : Int, lookP [⟨A, c, K⟩, ⟨B, d, K'⟩] [] K = ((1, j), 0)
theorem top_f {l K K' : List Str} {c : Str} (hK : KeyedOK l K) (hK' : KeyedOK (l ++ [c]) K') (hl : ∀ w ∈ l, NmOK w) (hc : NmOK c) (h5 : l.length ≤ 5) (A B : Option Addr) (ca d : Nat) : TopF K K' (keyOf c) A B ca d := by
  have hM := more_of hK hK'
  have hkey : ∀ s ∈ K', KeyL s := by
    intro s hs; obtain ⟨w, hw, rfl⟩ := List.mem_map.1 (hK'.perm.subset hs)
    rcases List.mem_append.1 hw with hw | hw
    · exact dj0 (hl w hw)
    rw [List.mem_singleton.1 hw]; exact dj0 hc
  have h6 : K'.length ≤ 6 := by
    rw [hK'.perm.length_eq, List.length_map, List.length_append]; simp only [List.length_cons, List.length_nil]; omega
  have ht := top_c hM h6 hkey; exact ⟨hkey, h6, hM.len, ht.d1, ht.d2, aq3 hM ht.p ht.p' _ _, dj5 h6 hkey, vM hkey hK'.ord, by rw [cG hM, if_pos rfl]; omega, cq1 hM ht _ _ _ _, aq2 ht _ _ _ _⟩
theorem dj1 {l : List Str} {b : Str} (hl : ∀ w ∈ l, NmOK w) (hb : NmOK b) : ∀ w ∈ l ++ [b], NmOK w := by
  intro w hw
  rcases List.mem_append.1 hw with hw | hw
  · exact hl w hw
  rw [List.mem_singleton.1 hw]; exact hb
theorem nm_vn {l : List Str} (hl : ∀ w ∈ l, NmOK w) : ∀ w ∈ l, VN w := fun w hw => ⟨(hl w hw).asc, (hl w hw).err⟩
set_option maxHeartbeats 2000000 in
theorem cC {N : Option Addr} {cn : Nat} (nums : List Int) (hn : nums.length ≤ 9223372036854775807) : Meets prog V8 [.slice N nums.length cn] { LI := [Row N (rows nums)], val := fun _ : Unit => .bool true } := by
 refine d5 dB rfl r4 fun w0 => ?_; refine c5 (b7 rfl (l7 (b3 rfl ?_))); refine h8 kY rfl rfl (kD nums) p9 mC fun gd _ => ?_; refine b7 rfl (l7 (b3 rfl ?_)); refine h8 kZ rfl rfl (kE hn (dok0 nums)) (.refl _) mC fun r hr => ?_; obtain ⟨s1, L0, o0, og0⟩ := r; obtain ⟨hs1, hl0, hw0, hG0⟩ := hr; simp only at hs1 hl0 hw0 hG0; refine gN (hp' := dice gd N cn nums s1 :: og0) (E7 fun p => by show List.countP p ((og0 ++ [dice gd N cn nums s1]) ++ []) = List.countP p (dice gd N cn nums s1 :: og0); simp only [List.countP_append, List.countP_cons, List.countP_nil]; omega) ?_; refine b3 rfl (h8 R9 rfl rfl (R2 hn hs1) (hpR := og0) (.refl _) mC fun r hr => ?_); obtain ⟨s2, b⟩ := r; obtain ⟨hs2, hb⟩ := hr; simp only at hs2 hb; refine j8 _ rfl rfl (fun _ => E9 ..) fun gS => ?_; refine E6 (hp' := [dice gd N cn nums s2, (gS, Obj.cells #[str b] y6 (0, 0))]) (L0.length + 1) (rows (L0 ++ [b])) H6 rfl rfl rfl hG0 (E7 fun p => by show List.countP p ((gS, Obj.cells #[str b] y6 (0, 0)) :: ([dice gd N cn nums s2] ++ og0)) = List.countP p (og0 ++ [dice gd N cn nums s2, (gS, Obj.cells #[str b] y6 (0, 0))]); simp only [List.countP_append, List.countP_cons, List.countP_nil]; omega) (Src.own (g := gS) (cs := #[str b]) (m := 1) (List.mem_append_right _ mB) rfl rfl) rfl (y4 L0 [b]).symm (by unfold maxLen; omega) (by omega) fun A1 c1 og1 hG1 => ?_; have hc1 := hG1.le; refine dq1 hG1 (b7 rfl (b5 (c6 ?_))); have hnm := dj1 hw0 hb; have hkd := nO (A := A1) (c := c1) (L0 ++ [b]) (by rw [w8]; omega) (nm_vn hnm); rw [w8] at hkd; refine c7 (b3 rfl ?_); refine h8 cY rfl rfl (hkd) (hpR := [_, _]) (.refl _) mC fun x hx => ?_; obtain ⟨K, oK⟩ := x; obtain ⟨hK, hKc⟩ := hx; simp only at hK hKc; refine b3 rfl (l4 rfl rfl rfl (l4 rfl rfl rfl (b7 rfl (b7 rfl (b5 (c6 ?_)))))); refine J6 ([dice gd N cn nums s2]) ([_]) (.refl _) 15 [7] mixed (by decide) (by decide) (by decide) rfl rfl rfl (p8 rfl (p8 rfl (s7 (fun w1 => i7 rfl j7 rfl (q_z rfl)) (p8 rfl (s7 (fun w1 => i7 rfl j7 rfl (q_z rfl)) (s7 (fun w1 => xU (L0.length + 1) (L0.length + 1) rfl j7 q7 rfl rfl rfl rfl rfl (Nat.le_refl _) hc1 (q_z rfl)) (p8 rfl ?_))))))); refine rB ⟨(Int × Int) × Str, fun x => DOK nums x.1 ∧ NmOK x.2, fun x => str x.2, fun _ => [], fun x => [dice gd N cn nums x.1]⟩ rfl rfl rfl ?_ ?_
 ·intro w1; refine h8 R9 rfl rfl (R2 hn hs2) (hpR := []) (.refl _) mC fun r hr => b6 ?_; exact W6 r hr (fun _ => rfl) (.refl _) tK
 refine V7 ⟨Nat × Str, fun x => NmOK x.2, fun x => .slice (some ⟨x.1, 0, none⟩) 1 1, fun x => [Row (some ⟨x.1, 0, none⟩) (rows [x.2])]⟩ rfl rfl rfl ?_ ?_
 ·intro x7 hx7; intro w1; refine j8 _ rfl rfl (fun _ => E9 ..) fun gS => b6 (bM (rows [x7.2]) (List.prefix_refl _) ?_); exact G5 (gS, x7.2) hx7.2 rfl ⟨m0, tK⟩
 refine V7 ⟨OutC × Str, fun x => NmOK x.2, fun x => .slice x.1.1 (L0.length + 1 + 1) x.1.2, fun x => [Row x.1.1 (rows (L0 ++ [b] ++ [x.2]))]⟩ rfl rfl rfl ?_ ?_
 ·intro x8 hx8; intro w1; refine hC (L0.length + 1 + 1) (rows (L0 ++ [b] ++ [x8.2])) H6 rfl rfl rfl mB (by rw [O8, w8]; rfl) (Src.row (news := rows [x8.2]) (m := 1) mB rfl (U5 _) (by decide)) rfl (y4 (L0 ++ [b]) [x8.2]).symm (by unfold maxLen; omega) (by omega) fun A2 c2 hc2 => ?_; refine b6 ?_; exact G5 ((A2, c2), x8.2) hx8 rfl ⟨m0, tK⟩
 refine V7 ⟨List Str × OutC × Str, fun x => KeyedOK (L0 ++ [b] ++ [x.2.2]) x.1 ∧ NmOK x.2.2 ∧ x.1.length ≤ x.2.1.2, fun x => .tuple #[.slice x.2.1.1 x.1.length x.2.1.2, .bool true], fun x => [Row x.2.1.1 (rows x.1)]⟩ rfl rfl rfl ?_ ?_
 ·intro x9 hx9; intro w1; have hk2 := nO (A := x9.1.1) (c := x9.1.2) (L0 ++ [b] ++ [x9.2]) (by rw [w8, w8]; omega) (nm_vn (dj1 hnm hx9)); rw [w8, w8] at hk2; refine h8 cY rfl rfl (hk2) p9 mC fun r hr => b6 ?_; exact G5 (r.1, r.2, x9.2) ⟨hr.1, hx9, hr.2⟩ rfl ⟨m0, tK⟩
 refine V7 ⟨List Str × OutC × Str, fun x => KeyedOK (L0 ++ [b] ++ [x.2.2]) x.1 ∧ NmOK x.2.2 ∧ x.1.length ≤ x.2.1.2, fun x => .tuple #[.slice x.2.1.1 x.1.length x.2.1.2, .bool true], fun x => [Row x.2.1.1 (rows x.1)]⟩ rfl rfl rfl ?_ ?_
 ·intro x10 hx10; intro w1; refine b3 rfl (b6 ?_); exact G5 x10 hx10 rfl ⟨m0, tK⟩
 refine V7 ⟨List Str × OutC × Str, fun x => KeyedOK (L0 ++ [b] ++ [x.2.2]) x.1 ∧ NmOK x.2.2 ∧ x.1.length ≤ x.2.1.2, fun x => .slice x.2.1.1 x.1.length x.2.1.2, fun x => [Row x.2.1.1 (rows x.1)]⟩ rfl rfl rfl ?_ ?_
 ·intro x11 hx11; intro w1; refine l4 rfl rfl rfl (b6 ?_); exact G5 x11 hx11 rfl ⟨m0, tK⟩
 apply k9 _ rfl rfl rfl
 ·intro x11 hx11; intro w1; refine l4 rfl rfl rfl (b6 ?_); exact h9 rfl
 refine V7 ⟨List Str × OutC × Str, fun x => KeyedOK (L0 ++ [b] ++ [x.2.2]) x.1 ∧ NmOK x.2.2 ∧ x.1.length ≤ x.2.1.2, fun x => .slice x.2.1.1 x.1.length x.2.1.2, fun x => [Row x.2.1.1 (rows x.1)]⟩ rfl rfl rfl ?_ ?_
 ·intro x12 hx12; intro w1; refine b7 rfl (b6 ?_); exact G5 x12 hx12 rfl ⟨m0, tK⟩
 refine A9 ⟨rfl, ?_⟩; intro x7 hx7 x8 hx8 x9 hx9 x10 hx10 x11 hx11 x12 hx12 x14 hx14; obtain ⟨P, oP, c⟩ := x14; obtain ⟨hP, hc, hPc⟩ := hx14; simp only at hP hc hPc; refine b7 rfl (b5 (c6 (c5 (b3 rfl (qP rfl rfl (b3 rfl ?_)))))); refine l8 rfl rfl ?_ ?_
 ·intro hg1; have hg1' := hg1; try simp at hg1'
  refine j0 hg1 (b3 rfl (j0 hg1 (qP rfl rfl ?_))); refine p_f rfl rfl (bf1 hg1) rfl (b5 ?_)
  first | refine i6 rfl (fun hb1 => ?_) (fun hb1 => ?_) | refine c8 rfl (fun hb1 => ?_) (fun hb1 => ?_)
  ·have hb1' := hb1; try simp at hb1'
  have hb1' := hb1; try simp at hb1'
  refine c4 (c3 (cH ?_)); have hF := top_f hK hP hnm hc (by rw [w8]; omega) oK.1 oP.1 oK.2 oP.2; have h6 := hF.l6; have h1 := hF.l1; obtain ⟨j1, hd1, hc1'⟩ := hF.e1; obtain ⟨j2, t2, hd2, hc2'⟩ := hF.e2; obtain ⟨hf1, hf2⟩ := hF.fr; obtain ⟨j3, hk3⟩ := hF.lk; obtain ⟨j4, hk4⟩ := hF.lk2; have hct := hF.ct; generalize hkc : keyOf c = kc at *; refine c7 (b7 rfl (b5 (i5 ?_))); refine v6 (β := Nat) ⟨fun k => k ≤ P.length, fun k => [(5, .slice oK.1 K.length oK.2), (7, .slice oP.1 P.length oP.2), (9, int k)], fun _ => [], fun _ => [Row oK.1 (rows K), Row oP.1 (rows P)]⟩ (fun k => P.length - k) 0 (Nat.zero_le _) mC nK mC fun k hk => ?_; simp only at hk; refine c6 (c5 (b3 rfl (b3 rfl ?_))); refine i7 rfl j7 rfl ?_; refine y5 rfl rfl rfl (b5 ?_)
  first | refine i6 rfl (fun hb2 => ?_) (fun hb2 => ?_) | refine c8 rfl (fun hb2 => ?_) (fun hb2 => ?_)
  ·have hb2' := hb2; try simp at hb2'
   have hk2 : k < P.length := by omega
   refine c4 (c3 (c6 (i5 (c5 (b3 rfl (b3 rfl ?_)))))); refine u6 (α := Str) P k rfl j7 q7 rfl rfl rfl mB rfl hk2 (by decide) (a7 (v := str (P.getD k default)) rfl d6 rfl (b9 mB (b4 hk2 rfl)) (B9 rfl n8 rfl ?_)); refine G6 rfl rfl rfl (b5 ?_)
   first | refine i6 rfl (fun hb3 => ?_) (fun hb3 => ?_) | refine c8 rfl (fun hb3 => ?_) (fun hb3 => ?_)
   ·exact absurd hb3 (by have := (hF.key _ (r7 hk2)).len; omega)
   have hb3' := hb3; try simp at hb3'
   refine c4 (u4 (c3 (c7 (b3 rfl ?_)))); refine w5 _ rfl rfl rfl rfl q8 ?_; refine b7 rfl (b6 ?_); exact again _ (k + 1) (by show k + 1 ≤ P.length; omega) (C5 (by omega)) mC nK mC
  have hb2' := hb2; try simp at hb2'
  refine r9 (B2 (r8 (c3 (c6 ?_)))); have hdf := Q8 (A := oK.1) (B := oP.1) (ca := oK.2) (cb := oP.2) K P; rw [hd1] at hdf; refine c7 (b3 rfl (b3 rfl ?_)); refine h8 R8 rfl rfl (hdf) p9 mC fun od _ => ?_; refine b3 rfl (l4 rfl rfl rfl (l4 rfl rfl rfl (b7 rfl (b7 rfl (b5 (c6 ?_)))))); have hcf := bH (A := oK.1) (B := od.1) (ca := oK.2) (cb := od.2) K [(1, j1, kc)]; rw [hc1'] at hcf; refine c7 (b3 rfl (b3 rfl ?_)); refine h8 bV rfl rfl (hcf) p9 mC fun _ _ => ?_; refine b3 rfl (l4 rfl rfl rfl (l4 rfl rfl rfl (b7 rfl (b7 rfl (l7 (b3 rfl ?_)))))); refine j8 _ rfl rfl (fun _ => rR ..) fun g14 => ?_; refine B5 (rows [(⟨oK.1, oK.2, K⟩ : Sl Str)]) (List.prefix_refl _) ?_; refine kH (A := some ⟨g14, 0, none⟩) (ps := [(⟨oK.1, oK.2, K⟩ : Sl Str)]) mB (by intro p hp; simp only [List.mem_cons, List.not_mem_nil, or_false] at hp; rcases hp with rfl <;> repeat constructor) ?_; refine b3 rfl ?_; have hff := jT (A := some ⟨g14, 0, none⟩) (ca := 1) (B := oP.1) (cb := oP.2) [(⟨oK.1, oK.2, K⟩ : Sl Str)] P; rw [hf1, hf2] at hff; refine h8 kR rfl rfl (hff) p9 mC fun _ _ => ?_; refine b3 rfl (l4 rfl rfl rfl (l4 rfl rfl rfl (b7 rfl (b7 rfl (b5 (c6 ?_)))))); have hdb := Q8 (A := oP.1) (B := oK.1) (ca := oP.2) (cb := oK.2) P K; rw [hd2] at hdb; refine c7 (b3 rfl (b3 rfl ?_)); refine h8 R8 rfl rfl (hdb) p9 mC fun oe _ => ?_; refine b3 rfl (l4 rfl rfl rfl (l4 rfl rfl rfl (b7 rfl (b7 rfl (b5 (c6 ?_)))))); have hcb := bH (A := oP.1) (B := oe.1) (ca := oP.2) (cb := oe.2) P [(3, j2, t2)]; rw [hc2'] at hcb; refine c7 (b3 rfl (b3 rfl ?_)); refine h8 bV rfl rfl (hcb) p9 mC fun _ _ => ?_; refine b3 rfl (l4 rfl rfl rfl (l4 rfl rfl rfl (b7 rfl (b7 rfl (b5 (c6 (c5 (b3 rfl (w7 rfl rfl rfl ?_))))))))); refine b3 rfl ?_; refine l8 rfl rfl ?_ ?_
  ·intro hg2; have hg2' := hg2; try simp at hg2'
   refine j0 hg2 (b3 rfl (j0 hg2 (w7 rfl rfl rfl ?_))); refine p_f rfl rfl (bf1 hg2) rfl (b3 rfl ?_); refine l8 rfl rfl ?_ ?_
   ·intro hg3; have hg3' := hg3; try simp at hg3'
    refine j0 hg3 (b3 rfl (j0 hg3 (w7 rfl rfl rfl ?_))); refine p_f rfl rfl (bf1 hg3) rfl (b3 rfl ?_); refine l8 rfl rfl ?_ ?_
    ·intro hg4; have hg4' := hg4; try simp at hg4'
     refine j0 hg4 (b3 rfl (j0 hg4 (w7 rfl rfl rfl ?_))); refine p_f rfl rfl (bf1 hg4) rfl (b3 rfl ?_); refine l8 rfl rfl ?_ ?_
     ·intro hg5; have hg5' := hg5; try simp at hg5'
      refine j0 hg5 (b3 rfl (j0 hg5 (w7 rfl rfl rfl ?_))); refine p_f rfl rfl (bf1 hg5) rfl (b3 rfl ?_); refine l8 rfl rfl ?_ ?_
      ·intro hg6; have hg6' := hg6; try simp at hg6'
       refine j0 hg6 (b3 rfl (j0 hg6 (w7 rfl rfl rfl ?_))); refine p_f rfl rfl (bf1 hg6) rfl (b3 rfl ?_); refine l8 rfl rfl ?_ ?_
       ·intro hg7; have hg7' := hg7; try simp at hg7'
        refine j0 hg7 (b3 rfl (j0 hg7 ?_)); refine i7 rfl j6 rfl ?_; refine j0 hg7 (w7 rfl rfl rfl ?_); refine p_f rfl rfl (bf1 hg7) rfl (b3 rfl ?_); refine l8 rfl rfl ?_ ?_
        ·intro hg8; have hg8' := hg8; try simp at hg8'
         refine j0 hg8 (b3 rfl (j0 hg8 (w7 rfl rfl rfl ?_))); refine p_f rfl rfl (bf1 hg8) rfl (b3 rfl ?_); refine l8 rfl rfl ?_ ?_
         ·intro hg9; have hg9' := hg9; try simp at hg9'
          refine j0 hg9 (b3 rfl (j0 hg9 (w7 rfl rfl rfl ?_))); refine p_f rfl rfl (bf1 hg9) rfl (b3 rfl ?_); refine l8 rfl rfl ?_ ?_
          ·intro hg10; have hg10' := hg10; try simp at hg10'
           refine j0 hg10 (b3 rfl (j0 hg10 ?_)); refine i7 rfl j6 rfl ?_; refine j0 hg10 (w7 rfl rfl rfl ?_); refine p_f rfl rfl (bf1 hg10) rfl (b5 ?_)
           first | refine i6 rfl (fun hb4 => ?_) (fun hb4 => ?_) | refine c8 rfl (fun hb4 => ?_) (fun hb4 => ?_)
           ·have hb4' := hb4; try simp at hb4'
           have hb4' := hb4; try simp at hb4'
           refine c4 (c3 ?_); refine X4 ⟨fun _ : Unit => True, fun _ => [(5, .slice oK.1 K.length oK.2), (7, .slice oP.1 P.length oP.2), (10, .slice od.1 1 od.2)], fun _ => [], fun _ => [Row oK.1 (rows K), Row oP.1 (rows P), Row od.1 (rows [((1, j1, kc) : Mk)])]⟩ ?_ ?_
           ·skip
            refine c5 (b3 rfl ?_); refine h8 mR rfl rfl (lU P (by omega) (fun s hs => (hF.key s hs).asc) hF.so) p9 mC fun _ _ => ?_; have her := hF.er; generalize listErr P = e at *; refine b3 rfl (l4 rfl rfl rfl (l4 rfl rfl rfl (b7 rfl (b7 rfl (l7 (b3 rfl (w7 rfl rfl rfl (b3 rfl ?_)))))))); refine l8 rfl rfl ?_ ?_
            ·intro hg11; have hg11' := hg11; try simp at hg11'
             refine j0 hg11 (b3 rfl (j0 hg11 (w7 rfl rfl rfl ?_))); refine p_t rfl rfl (bt1 hg11) rfl (b3 rfl ?_); refine l8 rfl rfl ?_ ?_
             ·intro hg12; have hg12' := hg12; try simp at hg12'
              refine j0 hg12 (b3 rfl (j0 hg12 (D9 rfl rfl rfl (j0 hg12 (b3 rfl ?_))))); refine l8 rfl rfl ?_ ?_
              ·intro hg13; have hg13' := hg13; try simp at hg13'
               refine j0 hg13 (b3 rfl (j0 hg13 ?_)); refine i7 rfl r5 rfl ?_; refine j0 hg13 (G6 rfl rfl rfl (j0 hg12 ?_)); refine p_t rfl rfl (bt1 hg13) rfl (p_f rfl rfl (bf1 hg12) rfl (b5 ?_))
               first | refine i6 rfl (fun hb5 => ?_) (fun hb5 => ?_) | refine c8 rfl (fun hb5 => ?_) (fun hb5 => ?_)
               ·have hb5' := hb5; try simp at hb5'
               have hb5' := hb5; try simp at hb5'
               refine c4 ?_; exact H4 _ () tK mC nK mC
              intro hg13; have hg13' := hg13; try simp at hg13'
              refine p6 hg13 (p6 hg13 (p6 hg13 (j0 hg12 ?_))); refine p_f rfl rfl (bf2 hg13) rfl (p_f rfl rfl (bf1 hg12) rfl ?_); refine b5 (c_f rfl rfl (c4 ?_)); exact H4 _ () tK mC nK mC
             intro hg12; have hg12' := hg12; try simp at hg12'
             all_goals (have h := of_decide_eq_true (bt2 hg12); omega)
            intro hg11; have hg11' := hg11; try simp at hg11'
            refine p6 hg11 (p6 hg11 ?_); refine p_f rfl rfl (bf2 hg11) rfl ?_; refine b3 rfl (N9 rfl rfl rfl (b3 rfl (N9 rfl rfl rfl (D9 rfl rfl rfl (N9 rfl rfl rfl (b3 rfl ?_)))))); refine l8 rfl rfl ?_ ?_
            ·intro hg14; have hg14' := hg14; try simp at hg14'
             refine j0 hg14 (b3 rfl (j0 hg14 ?_)); refine i7 rfl r5 rfl ?_; refine j0 hg14 (G6 rfl rfl rfl (N9 rfl rfl rfl ?_)); refine p_t rfl rfl (bt1 hg14) rfl ?_; refine p_f rfl rfl rfl rfl (b5 ?_)
             first | refine i6 rfl (fun hb5 => ?_) (fun hb5 => ?_) | refine c8 rfl (fun hb5 => ?_) (fun hb5 => ?_)
             ·have hb5' := hb5; try simp at hb5'
             have hb5' := hb5; try simp at hb5'
             refine c4 ?_; exact H4 _ () tK mC nK mC
            intro hg14; have hg14' := hg14; try simp at hg14'
            refine p6 hg14 (p6 hg14 (p6 hg14 (N9 rfl rfl rfl ?_))); refine p_f rfl rfl (bf2 hg14) rfl ?_; refine p_f rfl rfl rfl rfl (b5 (c_f rfl rfl (c4 ?_))); exact H4 _ () tK mC nK mC
           intro _ _; refine c5 (b3 rfl ?_); refine u6 (α := Mk) [(1, j1, kc)] 0 rfl j6 g0 rfl rfl rfl mB rfl (Nat.zero_lt_one) (by decide) ?_
           first | refine a8 ⟨_, 2, none⟩ rfl rfl n5 rfl ?_ | refine a8 _ rfl rfl n5 rfl ?_
           refine a7 (v := str kc) rfl d6 rfl (b8 mB (rows_get (l := [((1, j1, kc) : Mk)]) (i := 0) Nat.zero_lt_one rfl)) ?_; refine b7 rfl (b7 rfl (b5 (c6 (c5 (b7 rfl (b5 (i5 ?_))))))); refine v6 (β := Nat) ⟨fun k => k ≤ P.length, fun k => [(5, .slice oK.1 K.length oK.2), (7, .slice oP.1 P.length oP.2), (22, str kc), (23, int (countN (P.take k) kc)), (24, int k)], fun _ => [], fun _ => [Row oK.1 (rows K), Row oP.1 (rows P)]⟩ (fun k => P.length - k) 0 (Nat.zero_le _) mC nK mC fun k hk => ?_; simp only at hk; refine c6 (c5 (b3 rfl (b3 rfl ?_))); refine i7 rfl j7 rfl ?_; refine y5 rfl rfl rfl (b5 ?_)
           first | refine i6 rfl (fun hb6 => ?_) (fun hb6 => ?_) | refine c8 rfl (fun hb6 => ?_) (fun hb6 => ?_)
           ·have hb6' := hb6; try simp at hb6'
            have hk2 : k < P.length := by omega
            have hcl := nA (P.take k) kc; have htl : (P.take k).length ≤ 6 := by rw [List.length_take]; omega
            refine c4 (c3 (c6 (i5 (c5 (b3 rfl (b3 rfl ?_)))))); refine u6 (α := Str) P k rfl j7 q7 rfl rfl rfl mB rfl hk2 (by decide) (a7 (v := str (P.getD k default)) rfl d6 rfl (b9 mB (b4 hk2 rfl)) ?_); refine b3 rfl (lQ rfl rfl rfl (b5 ?_))
            first | refine i6 rfl (fun hb7 => ?_) (fun hb7 => ?_) | refine c8 rfl (fun hb7 => ?_) (fun hb7 => ?_)
            ·have hb7' := hb7; try simp at hb7'
             have hcn : countN (P.take (k + 1)) kc = countN (P.take k) kc + 1 := by rw [gC hk2, if_pos hb7]
             refine c7 (b3 rfl ?_); refine w5 ((countN (P.take (k + 1)) kc : Nat) : Int) rfl rfl rfl (by rw [hcn]; rfl) (by rw [hcn]; unfold I64; omega) ?_; refine b7 rfl (b6 (u4 (c3 (c7 (b3 rfl ?_))))); refine w5 _ rfl rfl rfl rfl q8 ?_; refine b7 rfl (b6 ?_); exact again _ (k + 1) (by show k + 1 ≤ P.length; omega) (C5 (by omega)) mC nK mC
            have hb7' := hb7; try simp at hb7'
            have hcn : countN (P.take (k + 1)) kc = countN (P.take k) kc := by rw [gC hk2, if_neg hb7, Nat.add_zero]
            refine c4 (u4 (c3 (c7 (b3 rfl ?_)))); refine w5 _ rfl rfl rfl rfl q8 ?_; refine b7 rfl (b6 ?_); exact again _ (k + 1) (by show k + 1 ≤ P.length; omega) (C5 (by omega)) ⟨rfl, rfl, rfl, by rw [hcn]; rfl, rfl, tK⟩ nK mC
           have hb6' := hb6; try simp at hb6'
           obtain rfl : k = P.length := by omega
           have hn3 : countN P kc = countN (P.take P.length) kc := by rw [List.take_length]
           rw [hn3] at hk3 hct; obtain ⟨f, hfe⟩ : ∃ f : Int, f = if countN (P.take P.length) kc = 1 then 2 else 3 := ⟨_, rfl⟩; rw [← hfe] at hk3; have hfa : countN (P.take P.length) kc = 1 → f = 2 := fun h => by rw [hfe, if_pos h]
           have hfb : ¬ countN (P.take P.length) kc = 1 → f = 3 := fun h => by rw [hfe, if_neg h]
           refine r9 (B2 (r8 (c3 (c5 (b3 rfl (b3 rfl ?_)))))); refine j8 _ rfl rfl (fun _ => aD ..) fun g28 => ?_; refine B5 (rows [(⟨oP.1, oP.2, P⟩ : Sl Str), ⟨oK.1, oK.2, K⟩]) (List.prefix_refl _) ?_; refine kH (A := some ⟨g28, 0, none⟩) (ps := [(⟨oP.1, oP.2, P⟩ : Sl Str), ⟨oK.1, oK.2, K⟩]) mB (by intro p hp; simp only [List.mem_cons, List.not_mem_nil, or_false] at hp; rcases hp with rfl | rfl <;> repeat constructor) ?_; refine b3 rfl ?_; refine lZ (α := Mk) ?_; have hlkg28 := Q7 (A := some ⟨g28, 0, none⟩) (ca := 2) (B := none) (cb := 0) (C := oP.1) (cc := oP.2) [(⟨oP.1, oP.2, P⟩ : Sl Str), ⟨oK.1, oK.2, K⟩] [] P (Nat.le_refl _) (by intro q hq; simp only [List.mem_cons, List.not_mem_nil, or_false] at hq; rcases hq with rfl | rfl <;> assumption); rw [hk3] at hlkg28; refine h8 (vs := [.slice (n9 g28) 2 2, .slice none 0 0, .slice oP.1 P.length oP.2]) R7 rfl rfl (hlkg28) p9 mC fun _ _ => ?_; refine b3 rfl (l4 rfl rfl rfl (l4 rfl rfl rfl ?_)); refine A5 rfl (fun _ => O5 _) fun gA => ?_; refine u2 rfl rfl J0 l5 (by rfl) (by rfl) ?_; refine b7 rfl (b5 ?_); refine X4 ⟨fun _ : Unit => True, fun _ => [(5, .slice oK.1 K.length oK.2), (7, .slice oP.1 P.length oP.2)], fun _ => [], fun _ => [Row oK.1 (rows K), Row oP.1 (rows P)]⟩ ?_ ?_
           ·skip
            refine c5 (b3 rfl (w7 rfl rfl rfl (b3 rfl ?_))); refine l8 rfl rfl ?_ ?_
            ·intro hg15; have hg15' := hg15; try simp at hg15'
             refine j0 hg15 (b3 rfl (j0 hg15 (D9 rfl rfl rfl (j0 hg15 (b3 rfl ?_))))); refine l8 rfl rfl ?_ ?_
             ·intro hg16; have hg16' := hg16; try simp at hg16'
              refine j0 hg16 ?_
              first | refine a8 ⟨_, 0, none⟩ rfl rfl A4 rfl ?_ | refine a8 _ rfl rfl A4 rfl ?_
              refine j0 hg16 ?_
              first | refine a7 rfl a6 rfl (d9 mB rfl) ?_ | refine a7 rfl a6 rfl (d4 mB rfl) ?_ | refine a7 rfl a6 rfl (b9 mB (b4 (by omega) rfl)) ?_ | refine a7 rfl a6 rfl (b8 mB (rows_get (by omega) rfl)) ?_
              refine j0 hg16 (w7 rfl rfl rfl (j0 hg15 ?_)); refine p_t rfl rfl (bt1 hg16) rfl (p_f rfl rfl (bf1 hg15) rfl (b3 rfl ?_)); refine l8 rfl rfl ?_ ?_
              ·intro hg17; have hg17' := hg17; try simp at hg17'
               refine j0 hg17 (b3 rfl (j0 hg17 (G6 rfl rfl rfl (j0 hg17 (b3 rfl ?_))))); refine l8 rfl rfl ?_ ?_
               ·intro hg18; have hg18' := hg18; try simp at hg18'
                refine j0 hg18 ?_
                first | refine a8 ⟨_, 0, none⟩ rfl rfl A4 rfl ?_ | refine a8 _ rfl rfl A4 rfl ?_
                refine j0 hg18 ?_
                first | refine a7 rfl a6 rfl (d9 mB rfl) ?_ | refine a7 rfl a6 rfl (d4 mB rfl) ?_ | refine a7 rfl a6 rfl (b9 mB (b4 (by omega) rfl)) ?_ | refine a7 rfl a6 rfl (b8 mB (rows_get (by omega) rfl)) ?_
                refine j0 hg18 (w7 rfl rfl rfl (j0 hg17 ?_)); refine p_t rfl rfl (bt1 hg18) rfl (p_f rfl rfl (bf1 hg17) rfl (b5 ?_))
                first | refine i6 rfl (fun hb8 => ?_) (fun hb8 => ?_) | refine c8 rfl (fun hb8 => ?_) (fun hb8 => ?_)
                ·all_goals (exfalso; have q1 : ((f, j3), (0 : Int)).1.1 = f := rfl; omega)
                have hb8' := hb8; try simp at hb8'
                refine c4 ?_; exact H4 _ () tK mC nK mC
               intro hg18; have hg18' := hg18; try simp at hg18'
               refine p6 hg18 (p6 hg18 (p6 hg18 (j0 hg17 ?_))); refine p_f rfl rfl (bf2 hg18) rfl (p_f rfl rfl (bf1 hg17) rfl ?_); refine b5 (c_f rfl rfl (c4 ?_)); exact H4 _ () tK mC nK mC
              intro hg17; have hg17' := hg17; try simp at hg17'
              all_goals (exfalso; have q1 : ((f, j3), (0 : Int)).1.1 = f := rfl; omega)
             intro hg16; have hg16' := hg16; try simp at hg16'
             refine p6 hg16 (p6 hg16 (p6 hg16 (j0 hg15 ?_))); refine p_f rfl rfl (bf2 hg16) rfl (p_f rfl rfl (bf1 hg15) rfl ?_); refine b3 rfl (N9 rfl rfl rfl (b3 rfl (N9 rfl rfl rfl (G6 rfl rfl rfl (N9 rfl rfl rfl (b3 rfl ?_)))))); refine l8 rfl rfl ?_ ?_
             ·intro hg19; have hg19' := hg19; try simp at hg19'
              refine j0 hg19 ?_
              first | refine a8 ⟨_, 0, none⟩ rfl rfl A4 rfl ?_ | refine a8 _ rfl rfl A4 rfl ?_
              refine j0 hg19 ?_
              first | refine a7 rfl a6 rfl (d9 mB rfl) ?_ | refine a7 rfl a6 rfl (d4 mB rfl) ?_ | refine a7 rfl a6 rfl (b9 mB (b4 (by omega) rfl)) ?_ | refine a7 rfl a6 rfl (b8 mB (rows_get (by omega) rfl)) ?_
              refine j0 hg19 (w7 rfl rfl rfl (N9 rfl rfl rfl ?_)); refine p_t rfl rfl (bt1 hg19) rfl ?_; refine p_f rfl rfl rfl rfl (b5 ?_)
              first | refine i6 rfl (fun hb8 => ?_) (fun hb8 => ?_) | refine c8 rfl (fun hb8 => ?_) (fun hb8 => ?_)
              ·all_goals (exfalso; have q1 : ((f, j3), (0 : Int)).1.1 = f := rfl; omega)
              have hb8' := hb8; try simp at hb8'
              refine c4 ?_; exact H4 _ () tK mC nK mC
             intro hg19; have hg19' := hg19; try simp at hg19'
             refine p6 hg19 (p6 hg19 (p6 hg19 (N9 rfl rfl rfl ?_))); refine p_f rfl rfl (bf2 hg19) rfl ?_; refine p_f rfl rfl rfl rfl (b5 (c_f rfl rfl (c4 ?_))); exact H4 _ () tK mC nK mC
            intro hg15; have hg15' := hg15; try simp at hg15'
           intro _ _; refine c5 (b3 rfl (b3 rfl ?_)); refine j8 _ rfl rfl (fun _ => aD ..) fun g31 => ?_; refine B5 (rows [(⟨oK.1, oK.2, K⟩ : Sl Str), ⟨oP.1, oP.2, P⟩]) (List.prefix_refl _) ?_; refine kH (A := some ⟨g31, 0, none⟩) (ps := [(⟨oK.1, oK.2, K⟩ : Sl Str), ⟨oP.1, oP.2, P⟩]) mB (by intro p hp; simp only [List.mem_cons, List.not_mem_nil, or_false] at hp; rcases hp with rfl | rfl <;> repeat constructor) ?_; refine b3 rfl ?_; refine lZ (α := Mk) ?_; have hlkg31 := Q7 (A := some ⟨g31, 0, none⟩) (ca := 2) (B := none) (cb := 0) (C := oK.1) (cc := oK.2) [(⟨oK.1, oK.2, K⟩ : Sl Str), ⟨oP.1, oP.2, P⟩] [] K (Nat.le_refl _) (by intro q hq; simp only [List.mem_cons, List.not_mem_nil, or_false] at hq; rcases hq with rfl | rfl <;> assumption); rw [hk4] at hlkg31; refine h8 (vs := [.slice (n9 g31) 2 2, .slice none 0 0, .slice oK.1 K.length oK.2]) R7 rfl rfl (hlkg31) p9 mC fun _ _ => ?_; refine b3 rfl (l4 rfl rfl rfl (l4 rfl rfl rfl ?_)); refine A5 rfl (fun _ => O5 _) fun gA => ?_; refine u2 rfl rfl J0 l5 (by rfl) (by rfl) ?_; refine b7 rfl (l7 (b3 rfl (D9 rfl rfl rfl (b3 rfl ?_)))); refine l8 rfl rfl ?_ ?_
           ·intro hg20; have hg20' := hg20; try simp at hg20'
            refine j0 hg20 ?_
            first | refine a8 ⟨_, 0, none⟩ rfl rfl A4 rfl ?_ | refine a8 _ rfl rfl A4 rfl ?_
            refine j0 hg20 ?_
            first | refine a7 rfl a6 rfl (d9 mB rfl) ?_ | refine a7 rfl a6 rfl (d4 mB rfl) ?_ | refine a7 rfl a6 rfl (b9 mB (b4 (by omega) rfl)) ?_ | refine a7 rfl a6 rfl (b8 mB (rows_get (by omega) rfl)) ?_
            refine j0 hg20 (D9 rfl rfl rfl ?_); refine p_t rfl rfl (bt1 hg20) rfl (b3 rfl ?_); refine l8 rfl rfl ?_ ?_
            ·intro hg21; have hg21' := hg21; try simp at hg21'
             refine j0 hg21 (h8 aL rfl rfl (aF) p9 tK fun _ _ => p_t rfl rfl (bt1 hg21) rfl ?_); refine b7 rfl (b5 (i8 ?_)); exact ret1 () rfl rfl rfl tK nK tK
            intro hg21; have hg21' := hg21; try simp at hg21'
           intro hg20; have hg20' := hg20; try simp at hg20'
          intro hg10; have hg10' := hg10; try simp at hg10'
         intro hg9; have hg9' := hg9; try simp at hg9'
        intro hg8; have hg8' := hg8; try simp at hg8'
       intro hg7; have hg7' := hg7; try simp at hg7'
      intro hg6; have hg6' := hg6; try simp at hg6'
     intro hg5; have hg5' := hg5; try simp at hg5'
    intro hg4; have hg4' := hg4; try simp at hg4'
   intro hg3; have hg3' := hg3; try simp at hg3'
  intro hg2; have hg2' := hg2; try simp at hg2'
 intro hg1; have hg1' := hg1; try simp at hg1'
end Go.Proofs.YtpihanmcnmlodaaGreatDoor
end
section
namespace Go.W
open Go Go.RowKit Go.ChangeShapes Go.WideShapes
section
variable {H : Type} {enc : TypeId × Value → H} {P : Program} {w : World} {base : Nat} {spare : Nat → Bool} {held : Bool}
theorem row_of {α : Type} [El α] (h1 : El.sz α = 1) {a : Addr} {l : List α} (h : ∀ j (hj : j < l.length), ∃ v, El.cells l[j] = [v] ∧ w.cell? (a.add j) = some v) : (Row (some a) (rows l)).P w := by
  intro j u hu; refine ⟨a, rfl, ?_⟩
  have hj : j < l.length := by
    have := (List.getElem?_eq_some_iff.1 hu).1; rw [O8, h1, Nat.mul_one] at this; exact this
  obtain ⟨v, hv, hc⟩ := h j hj; have h2 := rows_get (l := l) (i := j) (j := 0) (v := v) hj (by simp [List.getD_eq_getElem?_getD, hj, hv]); rw [h1] at h2; simp only [Nat.mul_one, Nat.add_zero] at h2; rw [hu] at h2
  cases h2
  exact hc
theorem in_ints {t e : TypeId} {A : Option Addr} {n c fuel : Nat} {x : DataW H × List MemPlace} (ht : P.underlying t = some (.slice e)) (he : P.underlying e = some (.int .i64)) (hc : P.cellsOf e = 1)
    (h : DataW.trod enc P w base spare held fuel t [.slice A n c] = some x) : ∃ l : List Int, n = l.length ∧ l.length ≤ c ∧ c ≤ maxLen ∧ (Row A (rows l)).P w ∧ ∀ z ∈ l, I64 z := by
  rcases open_ints ht he hc h with ⟨hcs, _⟩ | ⟨a, len, cap, zs, hcs, _, hl, hm, hlen, _, hcell, hwf⟩
  · simp at hcs
    obtain ⟨rfl, rfl, rfl⟩ := hcs; exact ⟨[], rfl, Nat.le_refl _, by unfold maxLen; omega, Row.nil _ _, by intro z hz; simp at hz⟩
  simp at hcs
  obtain ⟨rfl, rfl, rfl⟩ := hcs; have hle : n ≤ zs.length := by rw [hlen]; split <;> omega
  have hlen2 : (zs.take n).length = n := by rw [List.length_take]; omega
  refine ⟨zs.take n, hlen2.symm, by rw [hlen2]; exact hl, hm, row_of rfl fun j hj => ?_, fun z hz => ?_⟩
  · rw [hlen2] at hj
    refine ⟨int zs[j], by simp [El.cells], ?_⟩; rw [hcell j (by omega)]
    simp [List.getD_eq_getElem?_getD, show j < zs.length by omega]
  have := hwf z (List.mem_of_mem_take hz)
  simp [Lit.wf, IntKind.min, IntKind.max, IntKind.signed, IntKind.bits] at this
  exact ⟨by omega, by omega⟩
theorem az3 {f : Nat} {args : List Value} {LI : List Fact} (h : Meets P f args ({ LI := LI, val := fun _ : Unit => .bool true } : Con Unit)) (hL : ∀ F ∈ LI, F.P w) : Calls P f args.toArray w fun e w' => e = .returned (.bool true) ∧ Below w.heap.size w w' := by
  refine (h w ⟨Ext.refl _ _, by simp, by simp, by simp, hL, by simp, fun F hF k hk => .inr (.inr ⟨F, hF, hk⟩)⟩).mono fun e w' hp => ?_; obtain ⟨_, rfl, _, hwi⟩ := hp; exact ⟨rfl, hwi.ext.below⟩
end
end Go.W
end
