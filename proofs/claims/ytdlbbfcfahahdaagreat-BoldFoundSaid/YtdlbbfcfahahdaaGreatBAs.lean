/- Texts of this claim, one behind another. -/

import Derived.Test.YtdlbbfcfahahdaaGreatBAr
import Derived.Test.YtdlbbfcfahahdaaGreatBAi
set_option linter.unusedVariables false
set_option linter.unusedSimpArgs false
section
namespace Go.Proofs.YtdlbbfcfahahdaaGreat
open Go Go.W
set_option maxRecDepth 20000
attribute [local irreducible] HL HC HQ HB Row Rows2 Blk Facts
theorem dist_hi {n : Nat} {e : Edges} {h i : Nat} : -1 ≤ distI n e h i ∧ distI n e h i ≤ (n : Int) := by
  unfold distI
  cases hd : distB n e h i with
  | none => simp only; omega
  | some s => have := (yJ.1 hd).1; simp only; omega
theorem px7 {n : Nat} {e : Edges} {h : Nat} (hh : h < n) : distI n e h h = 0 := by
  have h1 := (kF (e := e) hh hh 0).2 (by rw [reachB]; simp)
  omega
section
variable {n : Nat} {e : Edges} {h : Nat}
theorem px6 {i : Nat} (hh : h < n) (hi : i < n) (h0 : distI n e h i = 0) : i = h := by
  have h1 := (kF (e := e) hh hi 0).1 ⟨by omega, by omega⟩; rw [reachB] at h1; exact of_decide_eq_true h1
theorem gz6 {p m : Nat} (hh : h < n) (hp : p < n) (hm : m < n) (h0 : 0 ≤ distI n e h p) (he : e p m = true) : 0 ≤ distI n e h m ∧ distI n e h m ≤ distI n e h p + 1 := by
  obtain ⟨d, hd⟩ := Int.eq_ofNat_of_zero_le h0; have h1 := (kF (e := e) hh hp d).1 ⟨h0, by omega⟩; have h2 := (kF (e := e) hh hm (d + 1)).2 (S9.2 (.inr ⟨p, hp, h1, he⟩)); rw [hd]; exact ⟨h2.1, by have := h2.2; omega⟩
theorem px8 {m : Nat} (hh : h < n) (hm : m < n) (h0 : 0 < distI n e h m) : ∃ p, p < n ∧ 0 ≤ distI n e h p ∧ distI n e h p + 1 ≤ distI n e h m ∧ e p m = true := by
  obtain ⟨d, hd⟩ := Int.eq_ofNat_of_zero_le (Int.le_of_lt h0); obtain ⟨d, rfl⟩ : ∃ d', d = d' + 1 := ⟨d - 1, by omega⟩; have h1 := (kF (e := e) hh hm (d + 1)).1 ⟨by omega, by omega⟩
  rcases S9.1 h1 with h2 | ⟨p, hp, h2, h3⟩
  · have h4 := (kF (e := e) hh hm d).2 h2
    omega
  have h4 := (kF (e := e) hh hp d).2 h2; exact ⟨p, hp, h4.1, by omega, h3⟩
structure Lv (n : Nat) (e : Edges) (h k i j : Nat) (ds : List Int) : Prop where
  len : ds.length = n
  old : ∀ m, m < n → 0 ≤ distI n e h m → distI n e h m ≤ (k : Int) → dAt ds m = distI n e h m
  new : ∀ m, m < n → ¬ (0 ≤ distI n e h m ∧ distI n e h m ≤ (k : Int)) → dAt ds m = -1 ∨ (dAt ds m = (k : Int) + 1 ∧ distI n e h m = (k : Int) + 1)
  seen : ∀ p m, p < n → m < n → (p < i ∨ (p = i ∧ m < j)) → 0 ≤ distI n e h p → distI n e h p ≤ (k : Int) → e p m = true → 0 ≤ dAt ds m
theorem lv_at {k i j : Nat} {ds : List Int} (H : Lv n e h k i j ds) (hi : i < n) (hd : dAt ds i = (k : Int)) : distI n e h i = (k : Int) := by
  by_cases h1 : 0 ≤ distI n e h i ∧ distI n e h i ≤ (k : Int)
  · rw [← H.old i hi h1.1 h1.2]; exact hd
  rcases H.new i hi h1 with h2 | h2 <;> omega
theorem lv_hit {k i j : Nat} {ds : List Int} (hh : h < n) (H : Lv n e h k i j ds) (hi : i < n) (hj : j < n) (hd : dAt ds i = (k : Int)) (he : e i j = true) (hn : dAt ds j < 0) : Lv n e h k i (j + 1) (ds.set j ((k : Int) + 1)) := by
  have hD := lv_at H hi hd; have hjl : j < ds.length := by rw [H.len]; exact hj
  have hg : ∀ m, dAt (ds.set j ((k : Int) + 1)) m = if m = j then (k : Int) + 1 else dAt ds m := fun m => kH hjl; have h1 := gz6 hh hi hj (by omega) he; have h2 : ¬ (0 ≤ distI n e h j ∧ distI n e h j ≤ (k : Int)) := fun h2 => by have := H.old j hj h2.1 h2.2; omega
  refine ⟨by rw [List.length_set]; exact H.len, fun m hm h3 h4 => ?_, fun m hm h3 => ?_, fun p m hp hm hs h3 h4 h5 => ?_⟩
  · rw [hg, if_neg (fun e1 => by subst e1; exact h2 ⟨h3, h4⟩)]
    exact H.old m hm h3 h4
  · rw [hg]
    by_cases e1 : m = j
    · subst e1; rw [if_pos rfl]; exact .inr ⟨rfl, by omega⟩
    rw [if_neg e1]; exact H.new m hm h3
  rw [hg]
  by_cases e1 : m = j
  · rw [if_pos e1]; omega
  rw [if_neg e1]; exact H.seen p m hp hm (by omega) h3 h4 h5
theorem mz2 {k i j : Nat} {ds : List Int} (H : Lv n e h k i j ds) (hn : e i j = true → 0 ≤ dAt ds j) : Lv n e h k i (j + 1) ds :=
  ⟨H.len, H.old, H.new, fun p m hp hm hs h3 h4 h5 => by
    by_cases e1 : p = i ∧ m = j
    · obtain ⟨e1, e2⟩ := e1; subst e1; subst e2; exact hn h5
    exact H.seen p m hp hm (by omega) h3 h4 h5⟩
theorem rq4 {k i j : Nat} {ds : List Int} (hh : h < n) (H : Lv n e h k i j ds) (hi : i < n) (hn : j = n ∨ ¬ dAt ds i = (k : Int)) : Lv n e h k (i + 1) 0 ds :=
  ⟨H.len, H.old, H.new, fun p m hp hm hs h3 h4 h5 => by
    by_cases e1 : p = i
    · subst e1
      rcases hn with hn | hn
      · exact H.seen p m hp hm (by omega) h3 h4 h5
      rw [H.old p hi h3 h4] at hn; have h6 := gz6 hh hp hm h3 h5; rw [H.old m hm h6.1 (by omega)]; exact h6.1
    exact H.seen p m hp hm (by omega) h3 h4 h5⟩
theorem lv_lev {k : Nat} {ds : List Int} (hh : h < n) (H : Lv n e h k n 0 ds) : Lv n e h (k + 1) 0 0 ds := by
  refine ⟨H.len, fun m hm h1 h2 => ?_, fun m hm h1 => ?_, fun p m hp hm hs => by omega⟩
  · by_cases h3 : distI n e h m ≤ (k : Int)
    · exact H.old m hm h1 h3
    rcases H.new m hm (fun h4 => h3 h4.2) with h4 | h4
    · obtain ⟨p, hp, h5, h6, h7⟩ := px8 hh hm (show 0 < distI n e h m by omega)
      have := H.seen p m hp hm (.inl hp) h5 (by omega) h7
      omega
    omega
  rcases H.new m hm (fun h4 => h1 ⟨h4.1, by omega⟩) with h4 | h4
  · exact .inl h4
  exact absurd ⟨by omega, by omega⟩ h1
theorem rq3 (hh : h < n) : Lv n e h 0 0 0 ((List.replicate n (-1 : Int)).set h 0) := by
  have hg : ∀ j, dAt ((List.replicate n (-1 : Int)).set h 0) j = if j = h then 0 else dAt (List.replicate n (-1 : Int)) j := fun j => kH (by rw [List.length_replicate]; exact hh); have hs := px7 (e := e) hh; refine ⟨by simp, fun m hm h1 h2 => ?_, fun m hm h1 => .inl ?_, fun p m hp hm hx => by omega⟩
  · have h3 := px6 (e := e) hh hm (by omega)
    rw [hg, if_pos h3, h3, hs]
  rw [hg, if_neg (fun e1 => by subst e1; omega)]; unfold dAt; rw [List.getD_eq_getElem?_getD, List.getElem?_replicate, if_pos hm]
  rfl
theorem lv_end {ds : List Int} (H : Lv n e h n 0 0 ds) : ds = (List.range n).map fun i => distI n e h i := by
  refine List.ext_getElem (by rw [H.len, List.length_map, List.length_range]) fun i hi hi2 => ?_; rw [H.len] at hi; rw [List.getElem_map, List.getElem_range, ← t5]; have h1 := dist_hi (n := n) (e := e) (h := h) (i := i)
  by_cases h2 : 0 ≤ distI n e h i
  · exact H.old i hi h2 h1.2
  rcases H.new i hi (fun h3 => h2 h3.1) with h3 | h3
  · show dAt ds i = _; omega
  omega
end
theorem rZ {A B : Option Addr} {ca cb : Nat} (cs : List Cl) (hs : List Hd) (i k : Nat) (hi : i < hs.length) (ha : ∀ h ∈ hs, h.2.2.2.l.length ≤ 1000000) : Meets Tryz.prog F.jO [.agg #[.slice A cs.length ca, .slice B hs.length cb], int i, int k] { LI := [RowsF B hs Hd.row], val := fun _ : Unit => .bool (nextB (trOf cs hs) i k) } := by
 refine i9 F.bx3 rfl t4 fun w0 => ?_; refine i5 ?_; refine C0 rfl rfl fun gB => ?_; refine b8 rfl (d6 (d7 ?_))
 have hnx : nextB (trOf cs hs) i k = (decide ((hs.getD i default).2.2.1 = (k : Int)) || decide ((k : Int) ∈ (hs.getD i default).2.2.2.l)) := by
   unfold nextB; rw [show (trOf cs hs).hs.getD i default = (hs.getD i default).p from dX hi]
   rfl
 have hal := ha _ (n0 hi); refine Q7 (ps := hs) (A := B) (f := Hd.row) mB ?_; refine d9 ?_; refine a8 ⟨_, 1, none⟩ rfl rfl T.j4 rfl (c9 rfl T.j6 rfl (l9 mB rfl) (a9 rfl (m7 (α := Hd) hs i rfl T.k9 T.u0 rfl rfl rfl mB rfl hi (by decide) (a8 _ rfl rfl T.B8 rfl (c9 (v := int (hs.getD i default).2.2.1) rfl T.i7 rfl (I6 mB (rows_get hi rfl)) ?_))))); refine a9 rfl (I3 rfl rfl rfl (a9 rfl ?_)); refine t7 rfl rfl ?_ ?_
 ·intro hg1; have hg1' := hg1; try simp at hg1'
  have hA : ¬ (hs.getD i default).2.2.1 = (k : Int) := of_decide_eq_false (eq_of_beq hg1); refine i3 rfl rfl hg1 (a8 ⟨_, 1, none⟩ rfl rfl T.j4 rfl (i3 rfl rfl hg1 (c9 rfl T.j6 rfl (l9 mB rfl) ?_))); refine i3 rfl rfl hg1 (a9 rfl (i3 rfl rfl hg1 ?_)); refine m7 (α := Hd) hs i rfl T.k9 T.u0 rfl rfl rfl mB rfl hi (by decide) ?_; refine i3 rfl rfl hg1 (a8 _ rfl rfl T.u9 rfl (i3 rfl rfl hg1 ?_)); refine c9 (v := .slice (hs.getD i default).2.2.2.a (hs.getD i default).2.2.2.l.length (hs.getD i default).2.2.2.c) rfl T.m8 rfl (I6 mB (rows_get hi rfl)) ?_; refine i3 rfl rfl hg1 (a9 rfl ?_); refine yE (p := hs.getD i default) (f := Hd.row) (ps := hs) mB (n0 hi) (i3 rfl rfl hg1 ?_); refine j0 F.iq1 rfl rfl (aj3 (hs.getD i default).2.2.2.l (k : Int) hal) (hpR := [_]) l7 mC fun z hz => ?_; refine i3 rfl rfl hg1 (R2 rfl rfl rfl ?_); refine p_f rfl rfl (bf1 hg1) rfl ?_; refine b8 rfl (d6 (j5 ?_)); exact ret1 () rfl (congrArg (fun b => some (Value.bool b)) (by rw [hnx, decide_eq_false hA, Bool.false_or]; exact decide_eq_decide.2 hz.1)) rfl trivial nil_sb trivial
 intro hg1; have hg1' := hg1; try simp at hg1'
 have hA : (hs.getD i default).2.2.1 = (k : Int) := Classical.byContradiction fun e => by rw [decide_eq_false e] at hg1; cases hg1
 refine k4 rfl rfl rfl rfl rfl hg1 (k4 rfl rfl rfl rfl rfl hg1 (k4 rfl rfl rfl rfl rfl hg1 (k4 rfl rfl rfl rfl rfl hg1 (k4 rfl rfl rfl rfl rfl hg1 (k4 rfl rfl rfl rfl rfl hg1 (k4 rfl rfl rfl rfl rfl hg1 ?_)))))); refine yE (p := hs.getD i default) (f := Hd.row) (ps := hs) mB (n0 hi) ?_; refine k4 rfl rfl rfl rfl rfl hg1 (k4 rfl rfl rfl rfl rfl hg1 ?_); refine p_t rfl rfl (bt2 hg1) rfl ?_; refine b8 rfl (d6 (j5 ?_)); exact ret1 () rfl (congrArg (fun b => some (Value.bool b)) (by rw [hnx, decide_eq_true hA, Bool.true_or])) rfl trivial nil_sb trivial
set_option maxHeartbeats 1000000 in
theorem uT {A B : Option Addr} {ca cb : Nat} (cs : List Cl) (hs : List Hd) (h : Nat) (hok : TrOK (trOf cs hs)) (hh : h < hs.length) (ha : ∀ h ∈ hs, h.2.2.2.l.length ≤ 1000000) : Meets Tryz.prog F.nF [.agg #[.slice A cs.length ca, .slice B hs.length cb], int h] { LI := [RowsF B hs Hd.row], inv := fun x : OutC => (stepsT (trOf cs hs) (h : Int)).length ≤ x.2, val := fun x => .slice x.1 (stepsT (trOf cs hs) (h : Int)).length x.2, LO := fun x => [Row x.1 (rows (stepsT (trOf cs hs) (h : Int)))] } := by
 refine i9 F.dq3 rfl t4 fun w0 => ?_; refine i5 ?_; refine C0 rfl rfl fun gB => ?_; refine b8 rfl (d6 (d7 ?_)); have h6h := hok.h6; have hln := E4 cs hs; rw [hln] at h6h; refine Q8 ?_; refine Q7 (ps := hs) (A := B) (f := Hd.row) mB ?_; refine d9 (b8 rfl (d6 (d7 (i5 (b8 rfl (d6 (i8 ?_))))))); refine p9 (β := Nat × OutC × Hp) ⟨fun x => x.1 ≤ hs.length ∧ Grow T.int 1 x.2.1.1 x.1 x.2.1.2 (rows (List.replicate x.1 (-1 : Int))) x.2.2, fun x => [(1, int h), (2, .pointer (b4 gB)), (5, .slice x.2.1.1 x.1 x.2.1.2), (6, int x.1)], fun x => x.2.2, fun _ => [Row B (rows hs), Blk gB (.cells #[.slice A cs.length ca, .slice B hs.length cb] T.k7 (0, 0)), RowsF B hs Hd.row]⟩ (fun x => hs.length - x.1) (0, (none, 0), []) ⟨Nat.zero_le _, Grow.nil _ _⟩ mC nil_sb mC fun x hx => ?_; obtain ⟨k, ⟨da, dc⟩, og⟩ := x; obtain ⟨hk, hG⟩ := hx; simp only at hk hG; refine d7 (i5 (a9 rfl ?_)); refine a8 ⟨_, 1, none⟩ rfl rfl T.j4 rfl (c9 rfl T.j6 rfl (j9 mB rfl) (j3 rfl T.k9 rfl ?_)); refine u4 rfl rfl rfl (d6 ?_); refine m3 rfl (fun hb1 => ?_) (fun hb1 => ?_)
 ·have hb1' := hb1; try simp at hb1'
  have hk2 : k < hs.length := by omega
  refine i6 (d8 (d7 (i8 (d9 (a9 rfl ?_))))); refine l6 _ rfl rfl (fun _ => T.H1 ..) fun gS => ?_; refine w7 (rows [(-1 : Int)]) (List.prefix_refl _) ?_; refine G2 (k + 1) (rows (List.replicate (k + 1) (-1 : Int))) T.S3 rfl rfl rfl hG (hp' := []) (show List.Perm og (og ++ []) from by rw [List.append_nil]) (Src.row (news := rows [(-1 : Int)]) (m := 1) m0 rfl (D0 _) (by decide)) rfl (by rw [← y6, ← List.replicate_succ']) (by unfold maxLen; omega) (by omega) fun A' c' og' hG' => ?_; refine b8 rfl (c8 (t6 (d8 (d9 (a9 rfl ?_))))); refine r7 _ rfl rfl rfl rfl m6 ?_; refine b8 rfl (c8 ?_); exact again _ (k + 1, (A', c'), og') ⟨by show k + 1 ≤ hs.length; omega, hG'⟩ (u2 (by omega)) mC (List.sublist_append_left _ _) mC
 have hb1' := hb1; try simp at hb1'
 obtain rfl : k = hs.length := by omega
 rcases hG.2 with ⟨_, hz, _⟩ | ⟨g5, cur, e1, e2, hnc, hcm, hcs, hct⟩
 ·omega
 subst e1; subst e2; have hct : cur.toList.take ((List.replicate hs.length (-1 : Int)).length * 1) = rows (List.replicate hs.length (-1 : Int)) := by rw [List.length_replicate]; exact hct
 refine p8 (v8 (p7 (d8 (i5 (a9 rfl (a9 rfl ?_)))))); refine u1 (h) (h) rfl T.l4 T.q7 rfl rfl rfl hh (by omega) ?_; refine z8 rfl rfl (.refl _) T.q7 (nQ rfl hct (by rw [List.length_replicate]; exact hh) rfl rfl) (by rfl) ?_; have hct1 := gq5 (α := Int) (k := h) (a := (0 : Int)) rfl rfl hct; refine d6 (d7 (i5 (b8 rfl (d6 (i8 ?_))))); refine p9 (β := Nat × List Int × Array Value) ⟨fun x => x.1 ≤ hs.length ∧ Lv hs.length (nextB (trOf cs hs)) h x.1 0 0 x.2.1 ∧ x.2.2.toList.take (x.2.1.length * 1) = rows x.2.1, fun x => [(2, .pointer (b4 gB)), (5, .slice (b4 g5) hs.length dc), (7, int x.1)], fun x => [(g5, Obj.cells x.2.2 T.int (0, 0))], fun _ => [Row B (rows hs), Blk gB (.cells #[.slice A cs.length ca, .slice B hs.length cb] T.k7 (0, 0)), RowsF B hs Hd.row]⟩ (fun x => hs.length - x.1) (0, _, _) ⟨Nat.zero_le _, rq3 hh, hct1⟩ mC (List.Sublist.refl _) mC fun x hx => ?_; clear hct hct1 hG hcs; obtain ⟨k, ds, cur⟩ := x; obtain ⟨hk, hV, hct⟩ := hx; simp only at hk hV hct; refine d7 (i5 (a9 rfl ?_)); refine a8 ⟨_, 1, none⟩ rfl rfl T.j4 rfl (c9 rfl T.j6 rfl (j9 mB rfl) (j3 rfl T.k9 rfl ?_)); refine u4 rfl rfl rfl (d6 ?_); refine m3 rfl (fun hb2 => ?_) (fun hb2 => ?_)
 ·have hb2' := hb2; try simp at hb2'
  have hk2 : k < hs.length := by omega
  refine i6 (d8 (d7 (i8 (i5 (b8 rfl (d6 (i8 ?_))))))); refine p9 (β := Nat × List Int × Array Value) ⟨fun x => x.1 ≤ hs.length ∧ Lv hs.length (nextB (trOf cs hs)) h k x.1 0 x.2.1 ∧ x.2.2.toList.take (x.2.1.length * 1) = rows x.2.1, fun x => [(2, .pointer (b4 gB)), (5, .slice (b4 g5) hs.length dc), (7, int k), (8, int x.1)], fun x => [(g5, Obj.cells x.2.2 T.int (0, 0))], fun _ => [Row B (rows hs), Blk gB (.cells #[.slice A cs.length ca, .slice B hs.length cb] T.k7 (0, 0)), RowsF B hs Hd.row]⟩ (fun x => hs.length - x.1) (0, ds, cur) ⟨Nat.zero_le _, hV, hct⟩ mC (List.Sublist.refl _) mC fun x hx => ?_; clear hct hV; obtain ⟨i, ds, cur⟩ := x; obtain ⟨hi, hV, hct⟩ := hx; simp only at hi hV hct; refine d7 (i5 (a9 rfl ?_)); refine a8 ⟨_, 1, none⟩ rfl rfl T.j4 rfl (c9 rfl T.j6 rfl (j9 mB rfl) (j3 rfl T.k9 rfl ?_)); refine u4 rfl rfl rfl (d6 ?_); refine m3 rfl (fun hb3 => ?_) (fun hb3 => ?_)
  ·have hb3' := hb3; try simp at hb3'
   have hi2 : i < hs.length := by omega
   refine i6 (d8 (d7 (i8 (i5 (b8 rfl (d6 (i8 ?_))))))); refine p9 (β := Nat × List Int × Array Value) ⟨fun x => x.1 ≤ hs.length ∧ Lv hs.length (nextB (trOf cs hs)) h k i x.1 x.2.1 ∧ x.2.2.toList.take (x.2.1.length * 1) = rows x.2.1, fun x => [(2, .pointer (b4 gB)), (5, .slice (b4 g5) hs.length dc), (7, int k), (8, int i), (9, int x.1)], fun x => [(g5, Obj.cells x.2.2 T.int (0, 0))], fun _ => [Row B (rows hs), Blk gB (.cells #[.slice A cs.length ca, .slice B hs.length cb] T.k7 (0, 0)), RowsF B hs Hd.row]⟩ (fun x => hs.length - x.1) (0, ds, cur) ⟨Nat.zero_le _, hV, hct⟩ mC (List.Sublist.refl _) mC fun x hx => ?_; clear hct hV; obtain ⟨j, ds, cur⟩ := x; obtain ⟨hj, hV, hct⟩ := hx; simp only at hj hV hct; have hdl := hV.len; refine d7 (i5 (a9 rfl ?_)); refine a8 ⟨_, 1, none⟩ rfl rfl T.j4 rfl (c9 rfl T.j6 rfl (j9 mB rfl) (j3 rfl T.k9 rfl ?_)); refine u4 rfl rfl rfl (a9 rfl ?_); refine t7 rfl rfl ?_ ?_
   ·intro hg1; have hg1' := hg1; try simp at hg1'
    have g14_6 : (j : Int) < hs.length := of_decide_eq_true (eq_of_beq hg1); refine i3 rfl rfl hg1 (a9 rfl (i3 rfl rfl hg1 (a9 rfl (i3 rfl rfl hg1 ?_)))); refine u1 (i) (i) rfl T.l4 T.q7 rfl rfl rfl hi2 (by omega) (i3 rfl rfl hg1 ?_); refine c9 (v := int (dAt ds i)) rfl T.i7 rfl (l9 mB (nQ rfl hct (by rw [hdl]; exact hi2) (by omega) rfl)) ?_; refine i3 rfl rfl hg1 (a9 rfl (i3 rfl rfl hg1 (I3 rfl rfl rfl ?_))); refine p_t rfl rfl (bt1 hg1) rfl ?_; refine d6 ?_; refine m3 rfl (fun hb4 => ?_) (fun hb4 => ?_)
    ·have hb4' := hb4; try simp at hb4'
     have hj2 : j < hs.length := by omega
     refine i6 (d8 (d7 (i8 (i5 ?_)))); refine E0 rfl T.m4 T.k8 rfl mB (by rfl) ?_; refine a9 rfl (a9 rfl ?_); refine j0 F.aj2 rfl rfl (rZ cs hs i j hi2 ha) (hpR := [(g5, Obj.cells cur T.int (0, 0))]) l7 mC fun _ _ => ?_; refine a9 rfl ?_; refine t7 rfl rfl ?_ ?_
     ·intro hg2; have hg2' := hg2; try simp at hg2'
      have g16 : nextB (trOf cs hs) i j = true := by simpa using hg2
      refine i3 rfl rfl hg2 (a9 rfl (i3 rfl rfl hg2 (a9 rfl (i3 rfl rfl hg2 ?_)))); refine u1 (j) (j) rfl T.l4 T.q7 rfl rfl rfl hj2 (by omega) (i3 rfl rfl hg2 ?_); refine c9 (v := int (dAt ds j)) rfl T.i7 rfl (l9 mB (nQ rfl hct (by rw [hdl]; exact hj2) (by omega) rfl)) ?_; refine i3 rfl rfl hg2 (u4 rfl rfl rfl ?_); refine p_t rfl rfl (bt1 hg2) rfl ?_; refine d6 ?_; refine m3 rfl (fun hb5 => ?_) (fun hb5 => ?_)
      ·have hb5' := hb5; try simp at hb5'
       have hV2 := lv_hit hh hV hi2 hj2 hb4 g16 hb5; refine d9 (a9 rfl (a9 rfl (a9 rfl ?_))); refine r7 _ rfl rfl rfl rfl m6 (u1 (j) (j) rfl T.l4 T.q7 rfl rfl rfl hj2 (by omega) ?_); refine z8 rfl rfl (.refl _) T.q7 (nQ rfl hct (by rw [hdl]; exact hj2) rfl rfl) (by rfl) ?_; have hct1 := gq5 (α := Int) (k := j) (a := (k : Int) + 1) rfl rfl hct; refine c8 (t6 (d8 (d9 (a9 rfl ?_)))); refine r7 _ rfl rfl rfl rfl m6 ?_; refine b8 rfl (c8 ?_); exact again _ (j + 1, ds.set j ((k : Int) + 1), cur.setIfInBounds j (int ((k : Int) + 1))) ⟨by show j + 1 ≤ hs.length; omega, hV2, hct1⟩ (u2 (by omega)) mC (List.Sublist.refl _) mC
      have hb5' := hb5; try simp at hb5'
      have hV2 := mz2 hV (fun _ => Int.not_lt.1 hb5); refine i6 (t6 (d8 (d9 (a9 rfl ?_)))); refine r7 _ rfl rfl rfl rfl m6 ?_; refine b8 rfl (c8 ?_); exact again _ (j + 1, ds, cur) ⟨by show j + 1 ≤ hs.length; omega, hV2, hct⟩ (u2 (by omega)) mC (List.Sublist.refl _) mC
     intro hg2; have hg2' := hg2; try simp at hg2'
     have g16 : ¬ nextB (trOf cs hs) i j = true := by simpa using hg2
     have hV2 := mz2 hV (fun e1 => absurd e1 g16); refine k4 rfl rfl rfl rfl rfl hg2 (k4 rfl rfl rfl rfl rfl hg2 (k4 rfl rfl rfl rfl rfl hg2 (k4 rfl rfl rfl rfl rfl hg2 (k4 rfl rfl rfl rfl rfl hg2 ?_)))); refine p_f rfl rfl (bf2 hg2) rfl ?_; refine d6 (c_f rfl rfl (i6 (t6 (d8 (d9 (a9 rfl ?_)))))); refine r7 _ rfl rfl rfl rfl m6 ?_; refine b8 rfl (c8 ?_); exact again _ (j + 1, ds, cur) ⟨by show j + 1 ≤ hs.length; omega, hV2, hct⟩ (u2 (by omega)) mC (List.Sublist.refl _) mC
    have hb4' := hb4; try simp at hb4'
    have hV2 := rq4 hh hV hi2 (.inr hb4); refine p8 (v8 (p7 (t6 (d8 (d9 (a9 rfl ?_)))))); refine r7 _ rfl rfl rfl rfl m6 ?_; refine b8 rfl (c8 ?_); exact again _ (i + 1, ds, cur) ⟨by show i + 1 ≤ hs.length; omega, hV2, hct⟩ (u2 (by omega)) mC (List.Sublist.refl _) mC
   intro hg1; have hg1' := hg1; try simp at hg1'
   have g14_6 : ¬ (j : Int) < hs.length := of_decide_eq_false (bf2 hg1); refine k4 rfl rfl rfl rfl rfl hg1 (k4 rfl rfl rfl rfl rfl hg1 (k4 rfl rfl rfl rfl rfl hg1 (k4 rfl rfl rfl rfl rfl hg1 (k4 rfl rfl rfl rfl rfl hg1 (k4 rfl rfl rfl rfl rfl hg1 ?_))))); refine p_f rfl rfl (bf2 hg1) rfl ?_; refine d6 (c_f rfl rfl (p8 (v8 (p7 (t6 (d8 (d9 (a9 rfl ?_)))))))); refine r7 _ rfl rfl rfl rfl m6 ?_; refine b8 rfl (c8 ?_); exact again _ (i + 1, ds, cur) ⟨by show i + 1 ≤ hs.length; omega, rq4 hh hV hi2 (.inl (by omega)), hct⟩ (u2 (by omega)) mC (List.Sublist.refl _) mC
  have hb3' := hb3; try simp at hb3'
  obtain rfl : i = hs.length := by omega
  have hV2 := lv_lev hh hV; refine p8 (v8 (p7 (t6 (d8 (d9 (a9 rfl ?_)))))); refine r7 _ rfl rfl rfl rfl m6 ?_; refine b8 rfl (c8 ?_); exact again _ (k + 1, ds, cur) ⟨by show k + 1 ≤ hs.length; omega, hV2, hct⟩ (u2 (by omega)) mC (List.Sublist.refl _) mC
 have hb2' := hb2; try simp at hb2'
 obtain rfl : k = hs.length := by omega
 have hE := lv_end hV; have hE2 : ds = (stepsT (trOf cs hs) (h : Int)) := by rw [hE]; unfold stepsT; rw [hln]; try rfl
 subst hE2; refine p8 (v8 (p7 (d8 (i5 (a9 rfl (b8 rfl (d6 (j5 ?_)))))))); have hle : (stepsT (trOf cs hs) (h : Int)).length = hs.length := by rw [hU, hln]
 have hpf : rows (stepsT (trOf cs hs) (h : Int)) <+: cur.toList := by rw [← hct]; exact List.take_prefix _ _
 refine C3 (rows (stepsT (trOf cs hs) (h : Int))) hpf ?_; exact ret1 (some ⟨g5, 0, none⟩, dc) rfl (by show some (Value.slice _ hs.length dc) = some (Value.slice _ (stepsT (trOf cs hs) (h : Int)).length dc); rw [hle]) rfl (by show (stepsT (trOf cs hs) (h : Int)).length ≤ dc; rw [hle]; exact hnc) nil_sb ⟨m0, trivial⟩
theorem uW {A B : Option Addr} {ca cb : Nat} (cs : List Cl) (hs : List Hd) (h : Int) (hhl : hs.length ≤ 1000) (hcl0 : cs.length ≤ 1000) (hwc : ∀ x ∈ cs, x.1.length ≤ 1000) (hwh : ∀ h ∈ hs, h.1.length ≤ 1000) (ha : ∀ h ∈ hs, h.2.2.2.l.length ≤ 1000000) : Meets Tryz.prog F.nH [.agg #[.slice A cs.length ca, .slice B hs.length cb], int h] { LI := [Row A (rows cs), RowsF B hs Hd.row], inv := fun x : OutC => (stepsE (trOf cs hs) h).1.length ≤ x.2, val := fun x => .tuple #[.slice x.1 (stepsE (trOf cs hs) h).1.length x.2, int (stepsE (trOf cs hs) h).2], LO := fun x => [Row x.1 (rows (stepsE (trOf cs hs) h).1)] } := by
 refine i9 F.dq5 rfl t4 fun w0 => ?_; refine i5 ?_; refine C0 rfl rfl fun gB => ?_; refine b8 rfl (b8 rfl (d6 (d7 (i5 ?_)))); refine D4 rfl T.m4 T.k8 rfl mB (by rfl) (a9 rfl ?_); refine l6 _ rfl rfl (fun _ => T.H1 ..) fun gS => ?_; refine w7 (rows [h]) (List.prefix_refl _) (qC (α := Int) ?_); refine j0 F.bx4 rfl rfl (uV (C1 := none) (c1 := 0) cs hs ([] : List Int) [h] (by simp) (by simp) hhl hcl0 hwc hwh ha) l7 mC fun _ _ => ?_; refine b8 rfl (j8 (a9 rfl (H2 rfl rfl rfl (d6 ?_)))); refine m3 rfl (fun hb1 => ?_) (fun hb1 => ?_)
 ·have hb1' := hb1; try simp at hb1'
  rw [mj5] at hb1; have hE : (stepsE (trOf cs hs) h) = ([], askdE (trOf cs hs) [] [h]) := by rw [stepsE, mj5, if_pos hb1]
  refine i5 (a9 rfl (b8 rfl (b8 rfl (d6 (G0 ?_))))); refine z9 (α := Int) ?_; exact ret2 (none, 0) rfl rfl rfl (by show Value.tuple #[.slice none (stepsE (trOf cs hs) h).1.length 0, int (stepsE (trOf cs hs) h).2] = _; rw [hE]; rfl) rfl (by show (stepsE (trOf cs hs) h).1.length ≤ 0; rw [hE]; exact Nat.le_refl _) nil_sb (by show LSub _ [Row none (rows (stepsE (trOf cs hs) h).1)]; rw [hE]; exact ⟨m0, trivial⟩)
 have hb1' := hb1; try simp at hb1'
 rw [mj5] at hb1; have h0 := Classical.not_not.1 hb1; have hch := zC h0; have hin := sx6 h0 (List.mem_singleton.2 rfl); rw [E4] at hin; have hok := mT hch; have h6 : cs.length ≤ 6 := hok.c6; have h6h := hok.h6; rw [E4] at h6h; have hcl : ∀ i, i < cs.length → ClsOK cs i := hok.c; have hln := E4 cs hs; have hS := sees_ok hok; obtain ⟨i, hi⟩ := Int.eq_ofNat_of_zero_le hin.1; subst hi; have hE : (stepsE (trOf cs hs) (i : Int)) = (stepsT (trOf cs hs) (i : Int), 0) := by rw [stepsE, if_neg hb1]
 refine i6 (d8 (i5 ?_)); refine D4 rfl T.m4 T.k8 rfl mB (by rfl) (a9 rfl ?_); refine j0 F.bx2 rfl rfl (uT cs hs i hok (by omega) ha) l7 mC fun y hy => ?_; refine b8 rfl (b8 rfl (d6 (j5 ?_))); exact ret2 y rfl rfl rfl (by show Value.tuple #[.slice y.1 (stepsE (trOf cs hs) (i : Int)).1.length y.2, int (stepsE (trOf cs hs) (i : Int)).2] = _; rw [hE]) rfl (by show (stepsE (trOf cs hs) (i : Int)).1.length ≤ y.2; rw [hE]; exact hy) nil_sb (by show LSub _ [Row y.1 (rows (stepsE (trOf cs hs) (i : Int)).1)]; rw [hE]; exact mC)
end Go.Proofs.YtdlbbfcfahahdaaGreat
end
