/- Texts. -/

import Derived.Test.YtpihanmcnmlodaaGreatDoorBAi
import Derived.Test.YtpihanmcnmlodaaGreatDoorBAm
import Derived.Test.YtpihanmcnmlodaaGreatDoorBAl
import Derived.Test.YtpihanmcnmlodaaGreatDoorBAh
import Derived.Test.YtpihanmcnmlodaaGreatDoorBAe
set_option linter.unusedVariables false
set_option linter.unusedSimpArgs false
section
namespace Go.Proofs.YtpihanmcnmlodaaGreatDoor
open Go Go.W Tryz T F
set_option maxRecDepth 20000
attribute [local irreducible] HL HC HQ HB Row Rows2 Blk Facts
def pathE (t : Tr) (c : Int) : List Int × Int := if ¬ checkT t = 0 then ([], checkT t) else if 0 ≤ c ∧ c ≤ (t.cs.length : Int) - 1 then (pathT t.cs c, 0) else ([], 3)
def underE (t : Tr) (c : Int) : List Int × Int := if ¬ checkT t = 0 then ([], checkT t) else if 0 ≤ c ∧ c ≤ (t.cs.length : Int) - 1 then (underT t c, 0) else ([], 3)
def uB (t : Tr) (c : Int) (i : Nat) : Bool := decide (¬ (t.hs.getD i default).2.1 = -1) && decide (c ∈ pathT t.cs (t.hs.getD i default).2.1)
def underK (t : Tr) (c : Int) (k : Nat) : List Int := ((List.range k).filter (uB t c)).map fun i : Nat => (i : Int)
theorem yX (t : Tr) (c : Int) : underK t c t.hs.length = underT t c := rfl
theorem cz7 (t : Tr) (c : Int) (k : Nat) : underK t c (k + 1) = if uB t c k = true then underK t c k ++ [(k : Int)] else underK t c k := by
  unfold underK; rw [List.range_succ, List.filter_append, List.map_append, List.filter_cons, List.filter_nil]
  by_cases h : uB t c k = true
  · rw [if_pos h, if_pos h]; rfl
  rw [if_neg h, if_neg h]; simp
theorem gx6 (t : Tr) (c : Int) (k : Nat) : (underK t c k).length ≤ k := by
  unfold underK; rw [List.length_map]; exact Nat.le_trans (List.length_filter_le _ _) (by simp)
theorem cls_in {cs : List Cl} {hs : List Hd} (hok : TrOK (trOf cs hs)) {i : Nat} (hi : i < hs.length) : -1 ≤ (hs.getD i default).2.1 ∧ (hs.getD i default).2.1 < (cs.length : Int) := by
  have hc := (hok.h i (by rw [y6]; exact hi)).c; rw [show (trOf cs hs).hs.getD i default = (hs.getD i default).p from Q5 hi] at hc; exact hc
theorem art_is {cs : List Cl} {hs : List Hd} (hok : TrOK (trOf cs hs)) {i : Nat} (hi : i < hs.length) : (kindOf (hs.getD i default)).isA = decide (¬ (hs.getD i default).2.1 = -1) := by
  rw [hq9]
  by_cases h : (hs.getD i default).2.1 = -1
  · rw [decide_eq_false (not_not_intro h), Bool.and_false]
  have hk := (hok.h i (by rw [y6]; exact hi)).kinds; rw [show (trOf cs hs).hs.getD i default = (hs.getD i default).p from Q5 hi] at hk
  have h1 : (hs.getD i default).2.2.1 = -1 := by
    rcases hk with ⟨_, h1, _⟩ | ⟨h1, _⟩ | ⟨h1, _⟩
    · exact absurd h1 h
    · exact h1
    exact h1
  rw [decide_eq_true h1, Bool.true_and]
theorem art_cls {h : Hd} (hA : (kindOf h).isA = true) : (kindOf h).cls = h.2.1 := by
  rw [hq9, Bool.and_eq_true, decide_eq_true_eq, decide_eq_true_eq] at hA; unfold kindOf; rw [if_neg (not_not_intro hA.1), if_pos hA.2]
  rfl
theorem uB_at {cs : List Cl} {hs : List Hd} (c : Int) {i : Nat} (hi : i < hs.length) : uB (trOf cs hs) c i = (decide (¬ (hs.getD i default).2.1 = -1) && decide (c ∈ pathT cs (hs.getD i default).2.1)) := by
  unfold uB; rw [show (trOf cs hs).hs.getD i default = (hs.getD i default).p from Q5 hi]
  rfl
set_option maxHeartbeats 1000000 in
theorem sZ {A B : Option Addr} {ca cb : Nat} (cs : List Cl) (hs : List Hd) (c : Int) (hca : cs.length ≤ ca) (hcb : hs.length ≤ cb) (ha : ∀ h ∈ hs, h.2.2.2.l.length ≤ 1000000) : Meets prog W9 [.agg #[.slice A cs.length ca, .slice B hs.length cb], int c] { LI := [Row A (rows cs), RowsF B hs Hd.row], inv := fun x : OutC => (underE (trOf cs hs) c).1.length ≤ x.2, val := fun x => .tuple #[.slice x.1 (underE (trOf cs hs) c).1.length x.2, int (underE (trOf cs hs) c).2], LO := fun x => [Row x.1 (rows (underE (trOf cs hs) c).1)] } := by
 refine d3 wF rfl n2 fun w0 => d4 (B7 rfl rfl fun gB => ?_); refine b6 rfl (b6 rfl (c3 ?_)); refine M6 ⟨fun _ : Nat × OutC × OutC => True, fun x => [(1, int c), (2, .pointer (i7 gB)), (6, if checkT (trOf cs hs) = 0 then .pointer (some ⟨x.1, 0, none⟩) else .pointer none), (7, int (checkT (trOf cs hs)))], fun _ => [(gB, .cells #[.slice A cs.length ca, .slice B hs.length cb] m5 (0, 0))], fun x => (if checkT (trOf cs hs) = 0 then beginL cs hs A ca B cb x else []) ++ [Row A (rows cs), RowsF B hs Hd.row]⟩ ?_ ?_
 ·skip
  refine c9 ?_
  first | refine J5 rfl i9 j0 rfl mB (by rfl) ?_ | refine w7 rfl i9 j0 rfl mB (by rfl) ?_ | refine y9 rfl i9 j0 rfl rfl (w5 mB (z6 (by omega))) ?_
  refine i5 W8 rfl rfl (V7 cs hs hca hcb ha) k8 mC fun x _ => ?_; refine b4 rfl (k4 rfl rfl rfl (k4 rfl rfl rfl (b6 rfl (b6 rfl (b7 ?_))))); exact E3 _ x tK mC (List.Sublist.refl _) (LSub.of_mem fun F h => h)
 refine fun x _ => ?_
 dsimp only
 refine d1 (i8 (d4 (b4 rfl (B9 rfl rfl rfl (b6 rfl (c3 ?_))))))
 first | refine j9 rfl (fun hb1 => ?_) (fun hb1 => ?_) | refine d6 rfl (fun hb1 => ?_) (fun hb1 => ?_)
 ·have hb1' := hb1; try simp at hb1'
  have hE : underE (trOf cs hs) c = ([], checkT (trOf cs hs)) := by rw [underE, if_pos hb1]
  refine d4 (b4 rfl (b6 rfl (b6 rfl (c3 (j6 (A1 ?_)))))); refine D4 (α := Int) ?_; exact ret2 (none, 0) rfl rfl rfl (by show Value.tuple #[.slice none (underE (trOf cs hs) c).1.length 0, int (underE (trOf cs hs) c).2] = _; rw [hE]; rfl) rfl (by show (underE (trOf cs hs) c).1.length ≤ 0; rw [hE]; exact Nat.le_refl _) nK (by show LSub _ [Row none (rows (underE (trOf cs hs) c).1)]; rw [hE]; exact ⟨m0, tK⟩)
 have hb1' := hb1; try simp at hb1'
 have h0 := Classical.not_not.1 hb1; rw [if_pos h0, if_pos h0]; have hok := gL h0; have h6 : cs.length ≤ 6 := hok.c6; have h6h := hok.h6; rw [y6] at h6h; have hcl : ∀ i, i < cs.length → ClsOK cs i := hok.c; obtain ⟨gl, ⟨oa, oc⟩, ⟨ka, kc⟩⟩ := x; show HC _ _ _ _ _ [Row (i7 gl) [.slice A cs.length ca, .slice B hs.length cb, .slice oa cs.length oc, .slice ka hs.length kc], Row oa (rows (masksN cs cs.length)), Row ka (rows (kindsN hs hs.length)), Row A (rows cs), RowsF B hs Hd.row]; refine d4 (b4 rfl ?_)
 first | refine b2 ⟨_, 0, none⟩ rfl rfl m3 rfl ?_ | refine b2 _ rfl rfl m3 rfl ?_
 first | refine b3 rfl i2 rfl (j3 mB rfl) ?_ | refine b3 rfl i2 rfl (d5 mB rfl) ?_ | refine b3 rfl i2 rfl (i1 mB (c5 (by omega) rfl)) ?_ | refine b3 rfl i2 rfl (i3 mB (rows_get (by omega) rfl)) ?_ | refine b3 rfl i2 rfl (j8 mB rfl) ?_
 refine k5 rfl u1 rfl (H3 _ rfl rfl rfl rfl m7 (i5 D5 rfl rfl (D2 _ _ _) k8 tK fun _ _ => ?_)); refine I6 rfl rfl (b6 rfl (c3 ?_))
 first | refine j9 rfl (fun hb2 => ?_) (fun hb2 => ?_) | refine d6 rfl (fun hb2 => ?_) (fun hb2 => ?_)
 ·have hb2' := hb2; try simp at hb2'
  have hE : underE (trOf cs hs) c = ([], 3) := by rw [underE, if_neg hb1, if_neg (nbw hb2)]
  refine d4 (b6 rfl (b6 rfl (c3 (j6 (A1 ?_))))); refine D4 (α := Int) ?_; exact ret2 (none, 0) rfl rfl rfl (by show Value.tuple #[.slice none (underE (trOf cs hs) c).1.length 0, int (underE (trOf cs hs) c).2] = _; rw [hE]; rfl) rfl (by show (underE (trOf cs hs) c).1.length ≤ 0; rw [hE]; exact Nat.le_refl _) nK (by show LSub _ [Row none (rows (underE (trOf cs hs) c).1)]; rw [hE]; exact ⟨m0, tK⟩)
 have hb2' := hb2; try simp at hb2'
 have hin : 0 ≤ c ∧ c ≤ (cs.length : Int) - 1 := bw hb2; have hE : underE (trOf cs hs) c = (underT (trOf cs hs) c, 0) := by rw [underE, if_neg hb1]; exact if_pos hin
 have hln := y6 cs hs; refine i4 (q8 (c7 (d4 (b6 rfl (c3 (d1 (d4 (b4 rfl ?_)))))))); refine l7 rfl rfl ?_
 first | refine b2 ⟨_, 3, none⟩ rfl rfl l3 rfl ?_ | refine b2 _ rfl rfl l3 rfl ?_
 first | refine b3 rfl d7 rfl (j3 mB rfl) ?_ | refine b3 rfl d7 rfl (d5 mB rfl) ?_ | refine b3 rfl d7 rfl (i1 mB (c5 (by omega) rfl)) ?_ | refine b3 rfl d7 rfl (i3 mB (rows_get (by omega) rfl)) ?_ | refine b3 rfl d7 rfl (j8 mB rfl) ?_
 refine k5 rfl B4 rfl ?_; refine b4 rfl (c3 (i8 ?_)); refine p6 (β := Nat × OutC × Hp) ⟨fun x => x.1 ≤ hs.length ∧ Grow y2 1 x.2.1.1 (underK (trOf cs hs) c x.1).length x.2.1.2 (rows (underK (trOf cs hs) c x.1)) x.2.2, fun x => [(1, int c), (6, .pointer (i7 gl)), (8, .slice x.2.1.1 (underK (trOf cs hs) c x.1).length x.2.1.2), (33, .slice ka hs.length kc), (34, int hs.length), (35, int x.1)], fun x => x.2.2, fun _ => [Row (i7 gl) [.slice A cs.length ca, .slice B hs.length cb, .slice oa cs.length oc, .slice ka hs.length kc], Row oa (rows (masksN cs cs.length)), Row ka (rows (kindsN hs hs.length))]⟩ (fun x => hs.length - x.1) (0, (none, 0), []) ⟨Nat.zero_le _, Grow.nil _ _⟩ mC nK mC fun x hx => ?_; obtain ⟨k, ⟨na, nc⟩, og⟩ := x; obtain ⟨hk, hG⟩ := hx; simp only at hk hG; refine d4 (u7 rfl rfl rfl (c3 (d1 ?_)))
 first | refine j9 rfl (fun hb3 => ?_) (fun hb3 => ?_) | refine d6 rfl (fun hb3 => ?_) (fun hb3 => ?_)
 ·have hb3' := hb3; try simp at hb3'
  have hk2 : k < hs.length := by omega
  have hul := gx6 (trOf cs hs) c k; have huc := cz7 (trOf cs hs) c k; have hua := uB_at (cs := cs) c hk2; have hia := art_is hok hk2; have hcc := cls_in hok hk2; have hac := art_cls (h := hs.getD k default); refine i4 (c7 (d1 (i8 (d4 (b4 rfl ?_))))); refine p8 (α := Kd) (kindsN hs hs.length) k rfl B4 P0 rfl rfl rfl mB (I4 (Nat.le_refl _)).symm (by rw [I4 (Nat.le_refl _)]; exact hk2) (by decide) ?_; refine b3 (v := (kindOf (hs.getD k default)).v) rfl L7 rfl (i1 mB (c5 (by rw [I4 (Nat.le_refl _)]; exact hk2) (by rw [tX hk2]; rfl))) ?_; refine b6 rfl (b6 rfl (j4 (b4 rfl ?_))); refine r_asA (kd := (kindOf (hs.getD k default))) rfl rfl rfl ?_; refine b4 rfl (k4 rfl rfl rfl (k4 rfl rfl rfl ?_)); refine B2 rfl (fun _ => bR _) fun gA => E0 (cs := #[int (kindOf (hs.getD k default)).cls, .slice (kindOf (hs.getD k default)).als.a (kindOf (hs.getD k default)).als.l.length (kindOf (hs.getD k default)).als.c]) rfl rfl (.refl _) bN (by rfl) (by rfl) ?_; refine b6 rfl (c3 ?_); refine M6 ⟨fun _ : Unit => True, fun _ => [(1, int c), (6, .pointer (i7 gl)), (8, .slice (na, nc).1 (underK (trOf cs hs) c k).length (na, nc).2), (33, .slice ka hs.length kc), (34, int hs.length), (35, int k), (9, int k), (57, .bool (uB (trOf cs hs) c k))], fun _ => og, fun _ => [Row (i7 gl) [.slice A cs.length ca, .slice B hs.length cb, .slice oa cs.length oc, .slice ka hs.length kc], Row oa (rows (masksN cs cs.length)), Row ka (rows (kindsN hs hs.length))]⟩ ?_ ?_
  ·skip
   refine v7 ?_; refine I7 (og) ([]) (by first | (rw [List.append_nil]; done) | (rw [List.append_nil]; exact List.Perm.refl _)) 11 [] mixed (by decide) (by decide) (by decide) rfl rfl rfl ?_; refine p9 rfl (p9 rfl ?_); refine jO (t := 46) (want := true) rfl ?_ ?_
   ·intro hg1; have hg1' := hg1; try simp at hg1'
    have hA : (kindOf (hs.getD k default)).isA = true := by simpa using hg1
    have hcl2 := hac hA; rw [hia, decide_eq_true_eq] at hA; have hnn : 0 ≤ (hs.getD k default).2.1 := by omega
    apply k9 _ rfl rfl rfl
    ·intro w1; refine k7 hg1 (b4 rfl (b7 ?_)); exact i6 rfl
    apply k9 _ rfl rfl rfl
    ·intro w1; refine k7 hg1 (l7 rfl rfl (b7 ?_)); exact i6 rfl
    apply k9 _ rfl rfl rfl
    ·intro w1; refine k7 hg1 ?_
     first | refine b2 ⟨_, 2, none⟩ rfl rfl A3 rfl ?_ | refine b2 _ rfl rfl A3 rfl ?_
     refine b7 ?_; exact i6 rfl
    apply k9 _ rfl rfl rfl
    ·intro w1; refine k7 hg1 ?_
     first | refine b3 rfl m9 rfl (d5 mB rfl) ?_ | refine b3 rfl m9 rfl (j3 mB rfl) ?_ | refine b3 rfl m9 rfl (i1 mB (c5 (by omega) rfl)) ?_ | refine b3 rfl m9 rfl (i3 mB (rows_get (by omega) rfl)) ?_ | refine b3 rfl m9 rfl (j8 mB rfl) ?_
     refine b7 ?_; exact i6 rfl
    apply k9 _ rfl rfl rfl
    ·intro w1; refine k7 hg1 ?_
     first | refine b2 ⟨_, 0, none⟩ rfl rfl Y2 rfl ?_ | refine b2 _ rfl rfl Y2 rfl ?_
     refine b7 ?_; exact i6 rfl
    apply k9 _ rfl rfl rfl
    ·intro w1; refine k7 hg1 ?_
     first | refine b3 rfl b5 rfl (d5 mB rfl) ?_ | refine b3 rfl b5 rfl (j3 mB rfl) ?_ | refine b3 rfl b5 rfl (i1 mB (c5 (by omega) rfl)) ?_ | refine b3 rfl b5 rfl (i3 mB (rows_get (by omega) rfl)) ?_ | refine b3 rfl b5 rfl (j8 mB rfl) ?_
     refine b7 ?_; exact i6 rfl
    apply k9 _ rfl rfl rfl
    ·intro w1; refine k7 hg1 ?_; refine p8 (α := Nat) (masksN cs cs.length) (hs.getD k default).2.1.toNat rfl aI bM rfl rfl (by rw [hcl2]; exact (Int.toNat_of_nonneg hnn).symm) mB (jL _ _).symm (by rw [jL]; omega) (by decide) ?_; refine b7 ?_; exact i6 rfl
    apply k9 _ rfl rfl rfl
    ·intro w1; refine k7 hg1 ?_; refine b3 (v := u8 (maskOf (pathT cs (hs.getD k default).2.1))) rfl Y3 rfl (i1 mB (c5 (by rw [jL]; omega) (by rw [bj3 (by omega), Int.toNat_of_nonneg hnn]; rfl))) ?_; refine b7 ?_; exact i6 rfl
    apply k9 _ rfl rfl rfl
    ·intro w1; refine k7 hg1 (b4 rfl (b7 ?_)); exact i6 rfl
    refine y8 ⟨rfl, ?_⟩; refine k7 hg1 ?_; refine i5 (vs := [u8 (maskOf (pathT cs (hs.getD k default).2.1)), int (c.toNat : Int)]) jT rfl (by rw [Int.toNat_of_nonneg hin.1]; rfl) (iW (maskOf (pathT cs (hs.getD k default).2.1)) c.toNat (bj5 h6 hcl hcc.2) (by omega)) k8 tK fun _ _ => ?_; refine p_t rfl rfl (bt1 hg1) rfl (b7 ?_); exact E3 _ () tK ⟨rfl, rfl, rfl, rfl, rfl, rfl, rfl, congrArg (fun b => some (Value.bool b)) (by rw [hua, decide_eq_true hA, Bool.true_and, jq5 (fun x hx => ((zM cs hcl (hs.getD k default).2.1.toNat _ (Nat.le_refl _) hcc.2).2 x hx).1), Int.toNat_of_nonneg hin.1]), tK⟩ (by first | (rw [List.append_nil]; exact List.Sublist.refl _) | (show List.Sublist og (og ++ []); rw [List.append_nil]; exact List.Sublist.refl _)) mC
   intro hg1; have hg1' := hg1; try simp at hg1'
   have hA : (kindOf (hs.getD k default)).isA = false := by simpa using hg1
   rw [hia] at hA; refine m6 (fun w1 => n4 hg1 (q_z rfl)) (m6 (fun w1 => n4 hg1 (q_z rfl)) (m6 (fun w1 => n4 hg1 (q_z rfl)) (m6 (fun w1 => n4 hg1 (q_z rfl)) (m6 (fun w1 => n4 hg1 (q_z rfl)) (m6 (fun w1 => n4 hg1 (q_z rfl)) (m6 (fun w1 => n4 hg1 (q_z rfl)) (m6 (fun w1 => n4 hg1 (q_z rfl)) (m6 (fun w1 => n4 hg1 (q_z rfl)) ?_)))))))); refine y8 ⟨rfl, ?_⟩; refine n4 hg1 (p_f rfl rfl (bf2 hg1) rfl (b7 ?_)); exact E3 _ () tK ⟨rfl, rfl, rfl, rfl, rfl, rfl, rfl, congrArg (fun b => some (Value.bool b)) (by rw [hua, hA, Bool.false_and]), tK⟩ (by first | (rw [List.append_nil]; exact List.Sublist.refl _) | (show List.Sublist og (og ++ []); rw [List.append_nil]; exact List.Sublist.refl _)) mC
  refine fun _ _ => ?_
  first | refine j9 rfl (fun hb4 => ?_) (fun hb4 => ?_) | refine d6 rfl (fun hb4 => ?_) (fun hb4 => ?_)
  ·have hb4' := hb4; try simp at hb4'
   rw [if_pos hb4] at huc; refine c9 (b4 rfl (b4 rfl ?_)); refine l5 _ rfl rfl (fun _ => w6 ..) fun gS => v8 (rows [(k : Int)]) (List.prefix_refl _) ?_; refine C0 ((underK (trOf cs hs) c k).length + 1) (rows ((underK (trOf cs hs) c k) ++ [(k : Int)])) I5 rfl rfl rfl hG (hp' := []) (by first | (rw [List.append_nil]; done) | (rw [List.append_nil]; exact List.Perm.refl _)) (Src.row (news := rows [(k : Int)]) (m := 1) m0 rfl (D0 _) (by decide)) rfl (r8 _ _).symm (by unfold maxLen; omega) (by omega) fun A' c' og' hG' => ?_; refine b6 rfl (b7 (q8 (c7 (c9 ?_)))); refine r4 _ rfl rfl rfl rfl m7 ?_; refine b4 rfl (b7 ?_); exact again _ (k + 1, (A', c'), og') ⟨by show k + 1 ≤ hs.length; omega, by show Grow _ _ _ (underK (trOf cs hs) c (k + 1)).length _ (rows (underK (trOf cs hs) c (k + 1))) _; rw [huc, List.length_append]; exact hG'⟩ (r9 (by omega)) ⟨rfl, rfl, by show some (Value.slice A' ((underK (trOf cs hs) c k).length + 1) c') = some (Value.slice A' (underK (trOf cs hs) c (k + 1)).length c'); rw [huc, List.length_append]; rfl, rfl, rfl, rfl, tK⟩ (List.sublist_append_left _ _) mC
  have hb4' := hb4; try simp at hb4'
  rw [if_neg (by rw [hb4]; decide)] at huc; refine i4 (q8 (c7 (c9 ?_))); refine r4 _ rfl rfl rfl rfl m7 ?_; refine b4 rfl (b7 ?_); exact again _ (k + 1, (na, nc), og) ⟨by show k + 1 ≤ hs.length; omega, by show Grow _ _ _ (underK (trOf cs hs) c (k + 1)).length _ (rows (underK (trOf cs hs) c (k + 1))) _; rw [huc]; exact hG⟩ (r9 (by omega)) ⟨rfl, rfl, by show some (Value.slice na (underK (trOf cs hs) c k).length nc) = some (Value.slice na (underK (trOf cs hs) c (k + 1)).length nc); rw [huc], rfl, rfl, rfl, tK⟩ (List.Sublist.refl _) mC
 have hb3' := hb3; try simp at hb3'
 obtain rfl : k = hs.length := by omega
 have hG2 := hG; rw [show (underK (trOf cs hs) c hs.length) = underT (trOf cs hs) c from by rw [← yX, hln]] at hG2; refine m4 (v6 (l9 (c7 (d4 (b4 rfl (b6 rfl (b6 rfl (c3 ?_)))))))); refine j6 (jN hG2 ?_); exact ret2 (na, nc) rfl rfl rfl (by show Value.tuple #[.slice na (underE (trOf cs hs) c).1.length nc, int (underE (trOf cs hs) c).2] = Value.tuple #[.slice na (underK (trOf cs hs) c hs.length).length nc, int 0]; rw [hE, show (underK (trOf cs hs) c hs.length) = underT (trOf cs hs) c from by rw [← yX, hln]]) rfl (by show (underE (trOf cs hs) c).1.length ≤ nc; rw [hE]; exact hG2.le) nK (by show LSub _ [Row na (rows (underE (trOf cs hs) c).1)]; rw [hE]; exact ⟨m0, tK⟩)
theorem kx2 {A B : Option Addr} {ca cb : Nat} (cs : List Cl) (hs : List Hd) (c : Int) (hca : cs.length ≤ ca) (hcb : hs.length ≤ cb) (ha : ∀ h ∈ hs, h.2.2.2.l.length ≤ 1000000) (h0 : checkT (trOf cs hs) = 0) (hc : 0 ≤ c ∧ c ≤ (cs.length : Int) - 1) : Meets prog W9 [.agg #[.slice A cs.length ca, .slice B hs.length cb], int c] { LI := [Row A (rows cs), RowsF B hs Hd.row], inv := fun x : OutC => (underT (trOf cs hs) c).length ≤ x.2, val := fun x => .tuple #[.slice x.1 (underT (trOf cs hs) c).length x.2, int 0], LO := fun x => [Row x.1 (rows (underT (trOf cs hs) c))] } := by
  have h := sZ (A := A) (B := B) (ca := ca) (cb := cb) cs hs c hca hcb ha; rw [show underE (trOf cs hs) c = (underT (trOf cs hs) c, 0) by rw [underE, if_neg (not_not_intro h0)]; exact if_pos hc] at h; exact h
abbrev sAnn : Str := [97, 110, 110, 97]
abbrev Pn := Str × Int × Int × Int × Bool
instance : El Pn where
  default := ([], 0, 0, 0, false)
  cells m := [str m.1, int m.2.1, int m.2.2.1, int m.2.2.2.1, .bool m.2.2.2.2]
  sz := 5
  len _ := rfl
  one a u h := by simp at h; rcases h with h | h | h | h | h <;> subst h <;> rfl
structure POK (hs : List Hd) (p : Pn) : Prop where
  n : p.1 = sAnn
  r : p.2.1 = 0
  w : 1 ≤ p.2.2.1 ∧ p.2.2.1 ≤ 40
  h : 0 ≤ p.2.2.2.1 ∧ p.2.2.2.1 < (hs.length : Int)
  c : 0 ≤ (hs.getD p.2.2.2.1.toNat default).2.1
theorem E8 (n lo hi : Int) : Meets prog aY [int n, int lo, int hi] { val := fun _ : Unit => .bool (decide (lo ≤ n ∧ n ≤ hi)) } := by
 refine d3 uF rfl n2 fun w0 => ?_; refine d4 (b6 rfl (j4 (b4 rfl (b4 rfl (nY rfl rfl rfl (b4 rfl ?_)))))); refine q6 rfl rfl ?_ ?_
 ·intro hg1; have hg1' := hg1; try simp at hg1'
  refine k7 hg1 (b4 rfl (k7 hg1 (b4 rfl (k7 hg1 (nY rfl rfl rfl ?_))))); refine p_t rfl rfl (bt1 hg1) rfl ?_; refine b6 rfl (c3 (j6 ?_)); exact ret1 () rfl (congrArg (fun b => some (Value.bool b)) (by simp [hg1'])) rfl tK nK tK
 intro hg1; have hg1' := hg1; try simp at hg1'
 refine n4 hg1 (n4 hg1 (n4 hg1 ?_)); refine p_f rfl rfl (bf2 hg1) rfl ?_; refine b6 rfl (c3 (j6 ?_)); exact ret1 () rfl (congrArg (fun b => some (Value.bool b)) (by simp [Int.not_le.2 hg1'])) rfl tK nK tK
theorem kZ {A B PA : Option Addr} {ca cb pc : Nat} (cs : List Cl) (hs : List Hd) (ps : List Pn) (p : Pn) (hp : POK hs p) (hn : hs.length ≤ 1000) : Meets prog R3 [.agg #[int 1, int 6, int 4, .slice A cs.length ca, .slice B hs.length cb, .slice none 0 0, .slice PA ps.length pc], .agg #[str p.1, int p.2.1, int p.2.2.1, int p.2.2.2.1, .bool p.2.2.2.2]] { LI := [RowsF B hs Hd.row], val := fun _ : Unit => int 0 } := by
 refine d3 nI rfl n2 fun w0 => d4 (B7 rfl rfl fun g2 => B7 rfl rfl fun g3 => ?_); refine b6 rfl (c3 (cW (v7 (v7 ?_)))); have hr := hp.r; have hw := hp.w; have hh := hp.h; have hcc := hp.c; have hnm := hp.n; refine c9 ?_
 first | refine b2 ⟨_, 0, none⟩ rfl rfl A5 rfl ?_ | refine b2 _ rfl rfl A5 rfl ?_
 refine b3 (v := str p.1) rfl j7 rfl (d5 mB rfl) ?_; have hck := jK p.1 (by rw [hnm]; decide +kernel); rw [show nameErr p.1 = 0 by rw [hnm]; decide +kernel] at hck; refine i5 kG rfl rfl (hck) k8 tK fun _ _ => ?_; refine b6 rfl (j4 (b4 rfl (B9 rfl rfl rfl (c3 ?_))))
 first | refine j9 rfl (fun hb1 => ?_) (fun hb1 => ?_) | refine d6 rfl (fun hb1 => ?_) (fun hb1 => ?_)
 ·have hb1' := hb1; try simp at hb1'
 have hb1' := hb1; try simp at hb1'
 refine i4 (c7 (d1 (i8 (d4 ?_))))
 first | refine b2 ⟨_, 1, none⟩ rfl rfl E7 rfl ?_ | refine b2 _ rfl rfl E7 rfl ?_
 refine b3 (v := int p.2.1) rfl b5 rfl (d5 mB rfl) ?_
 first | refine b2 ⟨_, 0, none⟩ rfl rfl L6 rfl ?_ | refine b2 _ rfl rfl L6 rfl ?_
 refine b3 (v := int 1) rfl b5 rfl (d5 mB rfl) (H3 0 rfl rfl rfl (by rfl) m7 (i5 E9 rfl rfl (E8 p.2.1 0 0) k8 tK fun _ _ => ?_)); refine I6 rfl rfl (b6 rfl (c3 ?_))
 first | refine j9 rfl (fun hb2 => ?_) (fun hb2 => ?_) | refine d6 rfl (fun hb2 => ?_) (fun hb2 => ?_)
 ·simp [hr] at hb2
 have hb2' := hb2; try simp at hb2'
 refine d4 ?_
 first | refine b2 ⟨_, 2, none⟩ rfl rfl E6 rfl ?_ | refine b2 _ rfl rfl E6 rfl ?_
 refine b3 (v := int p.2.2.1) rfl b5 rfl (d5 mB rfl) (i5 E9 rfl rfl (E8 p.2.2.1 1 40) k8 tK fun _ _ => ?_); refine I6 rfl rfl (b6 rfl (c3 ?_))
 first | refine j9 rfl (fun hb3 => ?_) (fun hb3 => ?_) | refine d6 rfl (fun hb3 => ?_) (fun hb3 => ?_)
 ·simp [hw.1, hw.2] at hb3
 have hb3' := hb3; try simp at hb3'
 refine d4 ?_
 first | refine b2 ⟨_, 3, none⟩ rfl rfl r5 rfl ?_ | refine b2 _ rfl rfl r5 rfl ?_
 refine b3 (v := int p.2.2.2.1) rfl b5 rfl (d5 mB rfl) ?_
 first | refine b2 ⟨_, 3, none⟩ rfl rfl y0 rfl ?_ | refine b2 _ rfl rfl y0 rfl ?_
 first | refine b2 ⟨_, 1, none⟩ rfl rfl d8 rfl ?_ | refine b2 _ rfl rfl d8 rfl ?_
 refine b3 (v := .slice B hs.length cb) rfl b8 rfl (d5 mB rfl) (k5 rfl l4 rfl (H3 ((hs.length : Int) - 1) rfl rfl rfl (by rfl) m7 (i5 E9 rfl rfl (E8 p.2.2.2.1 (-1) ((hs.length : Int) - 1)) k8 tK fun _ _ => ?_))); refine I6 rfl rfl (b6 rfl (c3 ?_))
 first | refine j9 rfl (fun hb4 => ?_) (fun hb4 => ?_) | refine d6 rfl (fun hb4 => ?_) (fun hb4 => ?_)
 ·exfalso; simp at hb4; omega
 have hb4' := hb4; try simp at hb4'
 refine d4 ?_
 first | refine b2 ⟨_, 3, none⟩ rfl rfl r5 rfl ?_ | refine b2 _ rfl rfl r5 rfl ?_
 refine b3 (v := int p.2.2.2.1) rfl b5 rfl (d5 mB rfl) ?_; refine cT rfl rfl rfl (b4 rfl ?_); refine q6 rfl rfl ?_ ?_
 ·intro hg1; have hg1' := hg1; try simp at hg1'
  refine k7 hg1 ?_
  first | refine b2 ⟨_, 3, none⟩ rfl rfl y0 rfl ?_ | refine b2 _ rfl rfl y0 rfl ?_
  refine k7 hg1 ?_
  first | refine b2 ⟨_, 1, none⟩ rfl rfl d8 rfl ?_ | refine b2 _ rfl rfl d8 rfl ?_
  refine k7 hg1 (b3 (v := .slice B hs.length cb) rfl b8 rfl (d5 mB rfl) (k7 hg1 ?_))
  first | refine b2 ⟨_, 3, none⟩ rfl rfl r5 rfl ?_ | refine b2 _ rfl rfl r5 rfl ?_
  refine k7 hg1 (b3 (v := int p.2.2.2.1) rfl b5 rfl (d5 mB rfl) (k7 hg1 (P9 (A := B) (ps := hs) (f := Hd.row) mB (p8 (α := Hd) hs p.2.2.2.1.toNat rfl l4 m8 rfl rfl (by omega) mB rfl (by omega) (by decide) (k7 hg1 ?_)))))
  first | refine b2 ⟨_, 1, none⟩ rfl rfl l6 rfl ?_ | refine b2 _ rfl rfl l6 rfl ?_
  refine k7 hg1 (b3 (v := int (hs.getD p.2.2.2.1.toNat default).2.1) rfl b5 rfl (i3 mB (rows_get (by omega) (j := 1) rfl)) ?_); refine k7 hg1 (I2 rfl rfl rfl ?_); refine p_t rfl rfl (bt1 hg1) rfl ?_; refine b6 rfl (c3 ?_)
  first | refine j9 rfl (fun hb5 => ?_) (fun hb5 => ?_) | refine d6 rfl (fun hb5 => ?_) (fun hb5 => ?_)
  ·exfalso; omega
  have hb5' := hb5; try simp at hb5'
  refine i4 (q8 (c7 (d4 (b6 rfl (c3 (j6 ?_)))))); exact ret1 () rfl rfl rfl tK nK tK
 intro hg1; have hg1' := hg1; try simp at hg1'
 exfalso; simp at hg1; omega
theorem vG {cs : Array Value} {o : Nat} {v1 v2 : Value} (h1 : cs[o]? = some v1) (h2 : cs[o + 1]? = some v2) : ∀ i u, ([v1, v2] : List Value)[i]? = some u → cs[o + i]? = some u
  | 0, u, h => by simp at h; subst h; exact h1
  | 1, u, h => by simp at h; subst h; exact h2
  | i + 2, u, h => by simp at h
def nmP (ps : List Pn) : List Str := ps.map fun p => p.1
theorem lq2 {ps : List Pn} {k : Nat} (h : k < ps.length) : nmP (ps.take (k + 1)) = nmP (ps.take k) ++ [(ps.getD k default).1] := by
  rw [A6 ps k h]; simp [nmP]
set_option maxHeartbeats 1000000 in
theorem jJ {A B PA : Option Addr} {ca cb pc : Nat} (cs : List Cl) (hs : List Hd) (ps : List Pn) (hca : cs.length ≤ ca) (hcb : hs.length ≤ cb) (ha : ∀ h ∈ hs, h.2.2.2.l.length ≤ 1000000) (h0 : checkT (trOf cs hs) = 0) (hn : hs.length ≤ 1000) (h6 : ps.length ≤ 6) (hp : ∀ p ∈ ps, POK hs p) : Meets prog iL [.agg #[int 1, int 6, int 4, .slice A cs.length ca, .slice B hs.length cb, .slice none 0 0, .slice PA ps.length pc]] { LI := [Row A (rows cs), RowsF B hs Hd.row, Row PA (rows ps)], val := fun x : Nat × OutC => .tuple #[.pointer (some ⟨x.1, 0, none⟩), int 0], LO := fun x => [Blk x.1 (.cells #[int 1, int 6, int 4, .slice A cs.length ca, .slice B hs.length cb, .slice none 0 0, .slice PA ps.length pc, .slice x.2.1 ps.length x.2.2] G3 (0, 0))] } := by
 refine d3 xW rfl n2 fun w0 => d4 (B7 rfl rfl fun g1 => ?_); refine b6 rfl (b6 rfl (c3 (cW (v7 (c9 ?_)))))
 first | refine b2 ⟨_, 0, none⟩ rfl rfl L6 rfl ?_ | refine b2 _ rfl rfl L6 rfl ?_
 refine b3 (v := int 1) rfl b5 rfl (d5 mB rfl) (i5 E9 rfl rfl (E8 1 1 3) k8 tK fun _ _ => ?_); refine I6 rfl rfl (b4 rfl ?_); refine q6 rfl rfl ?_ ?_
 ·intro hg1; have hg1' := hg1; try simp at hg1'
  refine k7 hg1 ?_
  first | refine b2 ⟨_, 1, none⟩ rfl rfl cL rfl ?_ | refine b2 _ rfl rfl cL rfl ?_
  refine k7 hg1 (b3 (v := int 6) rfl b5 rfl (d5 mB rfl) (k7 hg1 (i5 E9 rfl rfl (E8 6 1 13) k8 tK fun _ _ => ?_))); refine k7 hg1 (I6 rfl rfl ?_); refine p_f rfl rfl (bf1 hg1) rfl (b4 rfl ?_); refine q6 rfl rfl ?_ ?_
  ·intro hg2; have hg2' := hg2; try simp at hg2'
   refine k7 hg2 ?_
   first | refine b2 ⟨_, 2, none⟩ rfl rfl cK rfl ?_ | refine b2 _ rfl rfl cK rfl ?_
   refine k7 hg2 (b3 (v := int 4) rfl b5 rfl (d5 mB rfl) (k7 hg2 (i5 E9 rfl rfl (E8 4 3 8) k8 tK fun _ _ => ?_))); refine k7 hg2 (I6 rfl rfl ?_); refine p_f rfl rfl (bf1 hg2) rfl (c3 ?_)
   first | refine j9 rfl (fun hb1 => ?_) (fun hb1 => ?_) | refine d6 rfl (fun hb1 => ?_) (fun hb1 => ?_)
   ·have hb1' := hb1; try simp at hb1'
   have hb1' := hb1; try simp at hb1'
   refine i4 (c7 (d1 (d4 ?_)))
   first | refine b2 ⟨_, 3, none⟩ rfl rfl y0 rfl ?_ | refine b2 _ rfl rfl y0 rfl ?_
   refine y9 (cs := [.slice A cs.length ca, .slice B hs.length cb]) rfl i9 j0 rfl rfl (kN mB (vG rfl rfl)) ?_; have hck := V8 (A := A) (B := B) (ca := ca) (cb := cb) cs hs hca hcb ha; rw [h0] at hck; refine i5 X0 rfl rfl (hck) k8 mC fun _ _ => ?_; refine b6 rfl (j4 (b4 rfl (B9 rfl rfl rfl (c3 ?_))))
   first | refine j9 rfl (fun hb2 => ?_) (fun hb2 => ?_) | refine d6 rfl (fun hb2 => ?_) (fun hb2 => ?_)
   ·have hb2' := hb2; try simp at hb2'
   have hb2' := hb2; try simp at hb2'
   refine i4 (c7 (d1 (d4 ?_)))
   first | refine b2 ⟨_, 5, none⟩ rfl rfl cJ rfl ?_ | refine b2 _ rfl rfl cJ rfl ?_
   refine b3 (v := .slice none 0 0) rfl qY rfl (d5 mB rfl) (i5 sB rfl rfl (yI) k8 tK fun _ _ => ?_); refine b4 rfl (k4 rfl rfl rfl (k4 rfl rfl rfl (b6 rfl (b6 rfl (j4 (b4 rfl (B9 rfl rfl rfl (b7 ?_)))))))); refine c7 ?_
   first | refine j9 rfl (fun hb3 => ?_) (fun hb3 => ?_) | refine d6 rfl (fun hb3 => ?_) (fun hb3 => ?_)
   ·have hb3' := hb3; try simp at hb3'
   have hb3' := hb3; try simp at hb3'
   refine i4 (c7 (d1 (d4 ?_)))
   first | refine b2 ⟨_, 6, none⟩ rfl rfl u5 rfl ?_ | refine b2 _ rfl rfl u5 rfl ?_
   refine b3 (v := .slice PA ps.length pc) rfl y7 rfl (d5 mB rfl) (k5 rfl B5 rfl ?_); refine K5 rfl rfl rfl (c3 ?_)
   first | refine j9 rfl (fun hb4 => ?_) (fun hb4 => ?_) | refine d6 rfl (fun hb4 => ?_) (fun hb4 => ?_)
   ·exact absurd hb4 (by omega)
   have hb4' := hb4; try simp at hb4'
   refine i4 (c7 (d4 ?_)); refine w7 (cs := #[int 1, int 6, int 4, .slice A cs.length ca, .slice B hs.length cb, .slice none 0 0, .slice PA ps.length pc]) rfl C9 B0 rfl mB rfl (H6 _ rfl rfl (fun _ => qG ..) (B7 rfl rfl fun gV => P8 (hp' := [(gV, .cells #[int 1, int 6, int 4, .slice A cs.length ca, .slice B hs.length cb, .slice none 0 0, .slice PA ps.length pc, .slice none 0 0] G3 (0, 0))]) (.refl _) ?_)); refine b6 rfl (c3 (d1 (d4 ?_)))
   first | refine b2 ⟨_, 6, none⟩ rfl rfl u5 rfl ?_ | refine b2 _ rfl rfl u5 rfl ?_
   refine b3 (v := .slice PA ps.length pc) rfl y7 rfl (d5 mB rfl) (k5 rfl B5 rfl ?_); refine b4 rfl (c3 (i8 ?_)); refine p6 (β := Nat × OutC × Hp) ⟨fun x => x.1 ≤ ps.length ∧ Grow J1 1 x.2.1.1 x.1 x.2.1.2 (rows (nmP (ps.take x.1))) x.2.2, fun x => [(1, .pointer (i7 g1)), (7, .pointer (i7 gV)), (50, .slice PA ps.length pc), (51, int ps.length), (52, int x.1)], fun x => (gV, .cells #[int 1, int 6, int 4, .slice A cs.length ca, .slice B hs.length cb, .slice none 0 0, .slice PA ps.length pc, .slice x.2.1.1 x.1 x.2.1.2] G3 (0, 0)) :: x.2.2, fun _ => [Blk g1 (.cells #[int 1, int 6, int 4, .slice A cs.length ca, .slice B hs.length cb, .slice none 0 0, .slice PA ps.length pc] C8 (0, 0)), Row A (rows cs), RowsF B hs Hd.row, Row PA (rows ps)]⟩ (fun x => ps.length - x.1) (0, (none, 0), []) ⟨Nat.zero_le _, Grow.nil _ _⟩ mC (.refl _) mC fun x hx => ?_; obtain ⟨k, ⟨oA, oc⟩, og⟩ := x; obtain ⟨hk, hG⟩ := hx; simp only at hk hG; refine d4 (u7 rfl rfl rfl (c3 (d1 ?_)))
   first | refine j9 rfl (fun hb5 => ?_) (fun hb5 => ?_) | refine d6 rfl (fun hb5 => ?_) (fun hb5 => ?_)
   ·have hb5' := hb5; try simp at hb5'
    have hk2 : k < ps.length := by omega
    have hpk := hp _ (n7 hk2); refine i4 (c7 (d1 (i8 (d4 ?_)))); refine p8 (α := Pn) ps k rfl B5 q9 rfl rfl rfl mB rfl hk2 (by decide) (y9 (cs := El.cells (ps.getD k default)) rfl y4 q9 rfl rfl (w5 mB (z6 hk2)) (B2 rfl (fun _ => jE _) fun g9 => E0 (cs := #[str (ps.getD k default).1, int (ps.getD k default).2.1, int (ps.getD k default).2.2.1, int (ps.getD k default).2.2.2.1, .bool (ps.getD k default).2.2.2.2]) rfl rfl (.refl _) q9 (by rfl) (by rfl) (P8 (hp' := (g9, .cells #[str (ps.getD k default).1, int (ps.getD k default).2.1, int (ps.getD k default).2.2.1, int (ps.getD k default).2.2.2.1, .bool (ps.getD k default).2.2.2.2] I1 (0, 0)) :: (gV, .cells #[int 1, int 6, int 4, .slice A cs.length ca, .slice B hs.length cb, .slice none 0 0, .slice PA ps.length pc, .slice oA k oc] G3 (0, 0)) :: og) (.refl _) ?_))); refine c3 (d1 (d4 ?_)); refine w7 (cs := #[int 1, int 6, int 4, .slice A cs.length ca, .slice B hs.length cb, .slice none 0 0, .slice PA ps.length pc]) rfl C9 B0 rfl mB rfl (J5 rfl y4 q9 rfl (cs := #[str (ps.getD k default).1, int (ps.getD k default).2.1, int (ps.getD k default).2.2.1, int (ps.getD k default).2.2.2.1, .bool (ps.getD k default).2.2.2.2]) mB rfl ?_); refine i5 lR rfl rfl (kZ (A := A) (B := B) (PA := PA) (ca := ca) (cb := cb) (pc := pc) cs hs ps (ps.getD k default) hpk hn) (hpR := _) (.refl _) mC fun _ _ => ?_; refine b6 rfl (j4 (b4 rfl (B9 rfl rfl rfl (c3 ?_))))
    first | refine j9 rfl (fun hb6 => ?_) (fun hb6 => ?_) | refine d6 rfl (fun hb6 => ?_) (fun hb6 => ?_)
    ·have hb6' := hb6; try simp at hb6'
    have hb6' := hb6; try simp at hb6'
    refine i4 (c7 ?_); refine I7 (og) ([_, _]) (List.perm_append_comm (l₁ := [_, _])) 9 [8] mixed (by decide) (by decide) (by decide) rfl rfl rfl (p9 rfl (p9 rfl (m6 (fun w1 => l7 rfl rfl (q_z rfl)) ?_)))
    apply k9 _ rfl rfl rfl
    ·intro w1
     first | refine b2 ⟨_, 7, none⟩ rfl rfl K1 rfl ?_ | refine b2 _ rfl rfl K1 rfl ?_
     refine b7 ?_; exact i6 rfl
    refine m6 (fun w1 => b3 (v := .slice oA k oc) rfl L8 rfl (d5 mB rfl) (q_z rfl)) ?_
    apply k9 _ rfl rfl rfl
    ·intro w1
     first | refine b2 ⟨_, 0, none⟩ rfl rfl A5 rfl ?_ | refine b2 _ rfl rfl A5 rfl ?_
     refine b7 ?_; exact i6 rfl
    refine m6 (fun w1 => b3 (v := str (ps.getD k default).1) rfl j7 rfl (d5 mB rfl) (q_z rfl)) ?_; refine N6 ⟨Nat, fun _ => True, fun g => .slice (i7 g) 1 1, fun g => [Row (i7 g) (rows [(ps.getD k default).1])]⟩ rfl rfl rfl ?_ ?_
    ·intro w1; refine l5 _ rfl rfl (fun _ => tF ..) fun gS => b7 (J7 (rows [(ps.getD k default).1]) (List.prefix_refl _) ?_); exact D1 gS tK rfl ⟨m0, tK⟩
    refine qU ⟨OutC × Hp, fun x => Grow J1 1 x.1.1 (k + 1) x.1.2 (rows (nmP (ps.take (k + 1)))) x.2, fun x => .slice x.1.1 (k + 1) x.1.2, fun _ => [], fun x => x.2⟩ rfl rfl rfl ?_ ?_
    ·intro g7 _; intro w1; refine C0 (k + 1) (rows (nmP (ps.take (k + 1)))) zC rfl rfl rfl hG (hp' := []) (by rw [List.append_nil]) (Src.row (news := rows [(ps.getD k default).1]) (m := 1) mB rfl (D0 _) (by decide)) rfl (by rw [lq2 hk2]; exact (r8 _ _).symm) (by unfold maxLen; omega) (by omega) fun A' c' og' hG' => ?_; refine b7 ?_; exact P5 ((A', c'), og') hG' (fun _ => rfl) (List.sublist_append_left _ _) tK
    refine y8 ⟨rfl, ?_⟩; intro g7 _ x8 hx8; obtain ⟨⟨A8, c8⟩, og8⟩ := x8; simp only at hx8; refine l7 rfl rfl ?_
    first | refine b2 ⟨_, 7, none⟩ rfl rfl K1 rfl ?_ | refine b2 _ rfl rfl K1 rfl ?_
    refine P8 (hp' := (gV, .cells #[int 1, int 6, int 4, .slice A cs.length ca, .slice B hs.length cb, .slice none 0 0, .slice PA ps.length pc, .slice oA k oc] G3 (0, 0)) :: (og8 ++ [(g9, .cells #[str (ps.getD k default).1, int (ps.getD k default).2.1, int (ps.getD k default).2.2.1, int (ps.getD k default).2.2.2.1, .bool (ps.getD k default).2.2.2.2] I1 (0, 0))])) (C6 fun q => by simp only [List.countP_append, List.countP_cons, List.countP_nil]; omega) ?_; refine u9 rfl rfl (.refl _) qV (by rfl) (by rfl) (P8 (hp' := (gV, .cells #[int 1, int 6, int 4, .slice A cs.length ca, .slice B hs.length cb, .slice none 0 0, .slice PA ps.length pc, .slice A8 (k + 1) c8] G3 (0, 0)) :: (og8 ++ [(g9, .cells #[str (ps.getD k default).1, int (ps.getD k default).2.1, int (ps.getD k default).2.2.1, int (ps.getD k default).2.2.2.1, .bool (ps.getD k default).2.2.2.2] I1 (0, 0))])) (.refl _) ?_); refine b7 (q8 (c7 (c9 ?_))); refine r4 _ rfl rfl rfl rfl m7 ?_; refine b4 rfl (b7 ?_); exact again _ (k + 1, (A8, c8), og8) ⟨by show k + 1 ≤ ps.length; omega, hx8⟩ (r9 (by omega)) mC ((List.sublist_append_left og8 _).cons_cons _) mC
   have hb5' := hb5; try simp at hb5'
   have hk2 : k = ps.length := by omega
   subst hk2; refine m4 (v6 (l9 (c7 (d4 (b4 rfl (b6 rfl (b6 rfl (c3 ?_)))))))); refine j6 (jx1 ?_); exact ret2 (gV, (oA, oc)) rfl rfl rfl rfl rfl tK nK mC
  intro hg2; have hg2' := hg2; try simp at hg2'
 intro hg1; have hg1' := hg1; try simp at hg1'
end Go.Proofs.YtpihanmcnmlodaaGreatDoor
end
section
namespace Go.W
open Go Go.RowKit
section
variable {c : Cx} {Q : Exit → Act → World → Prop} {fr : Fr} {hp : Hp} {L : List Fact} {ops : Array Oper} {rest : List Oper} {d : Tmp} {ty : TypeId} {pos : String} {af : Array Edge}
theorem zT {f : Nat} {x : Operand} {xs : Array Operand} {ats : Array TypeId} {t : TypeId} {v v' : Value} {vs : List Value} {name : String} {β : Type} {k : Con β} {hpR : Hp} (hcb : Callable c.P f) (hd : Nat.blt d c.n = true) (hx : ev fr x = some (.iface t v)) (has : xs.toList.mapM (ev fr) = some vs)
    (hmt : ∀ w, (method (c.P.types.size + Made.depth) t v name).run c.P w = .ok (f, v') w)
    (hm : Meets c.P f (v' :: vs) k) (h1 : hp.Perm (k.hpI ++ hpR)) (h2 : LSub L k.LI) (kk : ∀ x, k.inv x → HL c ops Q rest ((d, k.val x) :: fr) (k.hpO x ++ hpR) (k.LO x ++ L)) :
    HL c ops Q (⟨some d, .call ⟨.invoke x name, xs, ats⟩, ty, pos, af, none⟩ :: rest) fr hp L := by
  intro a w ha hw; refine cD rfl fun K hK => ?_; unfold Oper.wp; have e1 : xs.map a.eval = vs.toArray := by apply Array.ext'; simpa using evals ha _ _ has
  have e2 : (execOp a.eval (⟨some d, .call ⟨.invoke x name, xs, ats⟩, ty, pos, af, none⟩ : Oper)).run c.P w = .ok (.enter f (v' :: vs).toArray) w := by
    show ((do let dd ← resolve a.eval ⟨.invoke x name, xs, ats⟩ ty; invoke dd.target dd.args) : Sem Next).run c.P w = _; have e3 : (#[Value.iface t v] ++ vs.toArray : Array Value)[0]? = some (.iface t v) := by simp
    have e4 : (#[Value.iface t v] ++ vs.toArray : Array Value).extract 1 (#[Value.iface t v] ++ vs.toArray : Array Value).size = vs.toArray := by
      apply Array.ext'; simp
    simp only [resolve, ha.ev hx, Sem.run_bind, Sem.run_pure, Result.andThen_ok, invoke, e1, e3, e4]; have e5 : (#[v'] ++ vs.toArray : Array Value) = (v' :: vs).toArray := by apply Array.ext'; simp
    simp only [callMethod, Sem.run_bind, Sem.run_pure, run_program, Result.andThen_ok, hmt, e5]; exact hcb.run _ _
  rw [e2, Oper.upon_enter]; refine (hm w (hw.entry h1 h2.mem)).mono fun e w' hp => ?_; obtain ⟨x, rfl, hi, hwi⟩ := hp; exact hK _ _ (kk x hi _ _ (ha.put (by simpa using hd) _) (hw.back h1 h2.mem hwi))
theorem dq5 {x : Operand} {name : String} {t : TypeId} {v : Value} {cap : Array Value} (hd : Nat.blt d c.n = true) (hx : ev fr x = some (.func (.method name) #[.iface t v] cap))
    (hna : ∀ w, (nilAhead (c.P.types.size + Made.depth) t v name).run c.P w = .ok (some false) w)
    (k : HL c ops Q rest ((d, .func (.method name) #[.iface t v] cap) :: fr) hp L) : HL c ops Q (⟨some d, .nilCheck x, ty, pos, af, none⟩ :: rest) fr hp L :=
  y3 _ rfl rfl hd (fun a w ha _ => by simp only [execOp]; rw [ha.ev hx]; simp [Sem.run_bind, run_program, hna]) k
end
end Go.W
end
section
namespace Go.Proofs.YtpihanmcnmlodaaGreatDoor
open Go Go.W Tryz T F
set_option maxRecDepth 20000
attribute [local irreducible] HL HC HQ HB Row Rows2 Blk Facts
abbrev byT : Value := .iface J2 (.agg #[])
theorem hq3 (w : World) : (method (prog.types.size + Made.depth) J2 (.agg #[]) "wayzgoose/part.compare").run prog w = .ok (H0, .agg #[]) w := n9
theorem jq2 (w : World) : (method (prog.types.size + Made.depth) J2 (.agg #[]) "wayzgoose/part.stands").run prog w = .ok (I0, .agg #[]) w := n9
theorem hj9 (w : World) : (nilAhead (prog.types.size + Made.depth) J2 (.agg #[]) "wayzgoose/part.compare").run prog w = .ok (some false) w := n9
def bolN (p : Pn) : Int := if p.2.2.2.2 = true then 1 else 0
def cmpP (p q : Pn) : Int := orL [p.2.2.2.1 - q.2.2.2.1, 0, p.2.1 - q.2.1, p.2.2.1 - q.2.2.1, bolN p - bolN q]
theorem mq8 (p : Pn) : 0 ≤ bolN p ∧ bolN p ≤ 1 := by unfold bolN; split <;> omega
def idxP (n : Nat) : List Int := (List.range n).map fun i : Nat => (i : Int)
theorem aQ (n : Nat) : (idxP n).length = n := by simp [idxP]
theorem jx0 (n : Nat) : idxP (n + 1) = idxP n ++ [(n : Int)] := by simp [idxP, List.range_succ]
theorem tP {n : Nat} {x : Int} : x ∈ idxP n ↔ ∃ i : Nat, i < n ∧ x = (i : Int) := by
  simp only [idxP, List.mem_map, List.mem_range]
  constructor
  · rintro ⟨i, h, e⟩; exact ⟨i, h, e.symm⟩
  rintro ⟨i, h, e⟩; exact ⟨i, h, e.symm⟩
theorem xN {A : Option Addr} {c : Nat} (l : List Int) (hl : l.length ≤ 1000) : Meets prog lQ [.slice A l.length c] { LI := [Row A (rows l)], val := fun _ : Unit => int (orL l) } := by
 refine d3 zY rfl n2 fun w0 => ?_; refine d4 (b6 rfl (c3 (d1 (d4 (b4 rfl ?_))))); refine k5 rfl j2 rfl ?_; refine b4 rfl (c3 (i8 ?_)); refine p6 (β := Nat) ⟨fun k => k ≤ l.length ∧ orL l = orL (l.drop k), fun k => [(5, .slice A l.length c), (6, int l.length), (7, int k)], fun _ => [], fun _ => [Row A (rows l)]⟩ (fun k => l.length - k) 0 ⟨Nat.zero_le _, rfl⟩ mC (.refl _) mC fun k hk => ?_; obtain ⟨hk, ht⟩ := hk; refine d4 (u7 rfl rfl rfl (c3 (d1 ?_)))
 first | refine j9 rfl (fun hb1 => ?_) (fun hb1 => ?_) | refine d6 rfl (fun hb1 => ?_) (fun hb1 => ?_)
 ·have hb1' := hb1; try simp at hb1'
  have hk2 : k < l.length := by omega
  rw [kL hk2, orL] at ht; refine i4 (c7 (d1 (i8 (d4 ?_)))); refine p8 (α := Int) l k rfl j2 k6 rfl rfl rfl mB rfl hk2 (by decide) (b3 (v := int (l.getD k default)) rfl b5 rfl (i1 mB (c5 hk2 rfl)) ?_); refine b6 rfl (j4 (b4 rfl (B9 rfl rfl rfl (c3 ?_))))
  first | refine j9 rfl (fun hb2 => ?_) (fun hb2 => ?_) | refine d6 rfl (fun hb2 => ?_) (fun hb2 => ?_)
  ·have hb2' := hb2; try simp at hb2'
   rw [if_pos hb2] at ht; refine d4 (b4 rfl (b6 rfl (c3 (j6 (A1 (u4 (A1 ?_))))))); exact ret1 () rfl (congrArg (fun z => some (int z)) ht.symm) rfl tK nK tK
  have hb2' := hb2; try simp at hb2'
  rw [if_neg hb2] at ht; refine i4 (q8 (c7 (c9 ?_))); refine r4 _ rfl rfl rfl rfl m7 ?_; refine b4 rfl (b7 ?_); exact again _ (k + 1) ⟨by omega, ht⟩ (r9 (by omega)) mC nK mC
 have hb1' := hb1; try simp at hb1'
 have hk2 : k = l.length := by omega
 rw [hk2, List.drop_length] at ht; refine m4 (v6 (l9 (c7 (d4 (b6 rfl (c3 (j6 ?_))))))); exact ret1 () rfl (congrArg (fun z => some (int z)) ht.symm) rfl tK nK tK
theorem vE : Meets prog bC [str sAnn, str sAnn] { val := fun _ : Unit => .tuple #[int 0, int 0] } := by
 refine d3 uJ rfl n2 fun w0 => ?_; refine d4 (b6 rfl (b6 rfl (c3 (d1 (d4 (b4 rfl (b4 rfl ?_))))))); refine l5 _ rfl rfl (fun _ => tE ..) fun g4 => v8 (rows [sAnn, sAnn]) (List.prefix_refl _) ?_; have hck := cU (A := some ⟨g4, 0, none⟩) (c := 2) [sAnn, sAnn] (by decide) (by decide +kernel); rw [show firstErr nameErr [sAnn, sAnn] = 0 by decide +kernel] at hck; refine i5 dK rfl rfl (hck) k8 mC fun _ _ => ?_; refine b6 rfl (j4 (b4 rfl (B9 rfl rfl rfl (c3 ?_))))
 first | refine j9 rfl (fun hb1 => ?_) (fun hb1 => ?_) | refine d6 rfl (fun hb1 => ?_) (fun hb1 => ?_)
 ·have hb1' := hb1; try simp at hb1'
 have hb1' := hb1; try simp at hb1'
 refine i4 (c7 (d4 (b4 rfl (b4 rfl ?_)))); have hcm := rG sAnn sAnn (by decide +kernel) (by decide +kernel) (by decide) (by decide) (by decide) (by decide); rw [show cmpN sAnn sAnn = 0 by decide +kernel] at hcm; refine i5 sA rfl rfl (hcm) k8 tK fun _ _ => ?_; refine b6 rfl (b6 rfl (c3 (j6 ?_))); exact ret2 () rfl rfl rfl rfl rfl tK nK tK
theorem vS (p q : Pn) (hp : p.1 = sAnn) (hq : q.1 = sAnn) : Meets prog iJ [.agg #[str p.1, int p.2.1, int p.2.2.1, int p.2.2.2.1, .bool p.2.2.2.2], .agg #[str q.1, int q.2.1, int q.2.2.1, int q.2.2.2.1, .bool q.2.2.2.2]] { val := fun _ : Unit => int 0 } := by
 refine d3 xV rfl n2 fun w0 => d4 (B7 rfl rfl fun g2 => B7 rfl rfl fun g3 => ?_); refine b6 rfl (c3 (d1 (v7 (v7 (c9 ?_)))))
 first | refine b2 ⟨_, 0, none⟩ rfl rfl A5 rfl ?_ | refine b2 _ rfl rfl A5 rfl ?_
 refine b3 (v := str p.1) rfl j7 rfl (d5 mB rfl) ?_
 first | refine b2 ⟨_, 0, none⟩ rfl rfl A5 rfl ?_ | refine b2 _ rfl rfl A5 rfl ?_
 refine b3 (v := str q.1) rfl j7 rfl (d5 mB rfl) ?_; rw [hp, hq]; refine i5 sC rfl rfl (vE) k8 tK fun _ _ => ?_; refine b4 rfl (k4 rfl rfl rfl (k4 rfl rfl rfl (b6 rfl (b6 rfl (j4 (b4 rfl (b6 rfl (b7 ?_)))))))); refine c7 (j6 ?_); exact ret1 () rfl rfl rfl tK nK tK
theorem mJ (p : Pn) : Meets prog lS [.agg #[str p.1, int p.2.1, int p.2.2.1, int p.2.2.2.1, .bool p.2.2.2.2]] { val := fun _ : Unit => int (bolN p) } := by
 refine d3 zZ rfl n2 fun w0 => d4 (B7 rfl rfl fun g2 => ?_); refine b6 rfl (c3 (cW (v7 (c9 ?_))))
 first | refine b2 ⟨_, 4, none⟩ rfl rfl cM rfl ?_ | refine b2 _ rfl rfl cM rfl ?_
 refine b3 (v := .bool p.2.2.2.2) rfl C2 rfl (d5 mB rfl) (c3 ?_)
 first | refine j9 rfl (fun hb1 => ?_) (fun hb1 => ?_) | refine d6 rfl (fun hb1 => ?_) (fun hb1 => ?_)
 ·have hb1' := hb1; try simp at hb1'
  have e : bolN p = 1 := if_pos hb1; refine d4 (b6 rfl (c3 (M2 ?_))); exact ret1 () rfl (congrArg (fun z => some (int z)) e.symm) rfl tK nK tK
 have hb1' := hb1; try simp at hb1'
 have e : bolN p = 0 := if_neg (by rw [hb1]; decide); refine i4 (c7 (d4 (b6 rfl (c3 (j6 ?_))))); exact ret1 () rfl (congrArg (fun z => some (int z)) e.symm) rfl tK nK tK
theorem nO (hs : List Hd) (p q : Pn) (hp : POK hs p) (hq : POK hs q) (hn : hs.length ≤ 1000) : Meets prog H0 [.agg #[], .agg #[str p.1, int p.2.1, int p.2.2.1, int p.2.2.2.1, .bool p.2.2.2.2], .agg #[str q.1, int q.2.1, int q.2.2.1, int q.2.2.2.1, .bool q.2.2.2.2]] { val := fun _ : Unit => int (cmpP p q) } := by
 refine d3 gF rfl n2 fun w0 => d4 (B7 rfl rfl fun g2 => B7 rfl rfl fun g3 => B7 rfl rfl fun g4 => ?_); refine b6 rfl (c3 (d1 (v7 (v7 (v7 ?_))))); have a1 := hp.h; have a2 := hq.h; have a3 := hp.w; have a4 := hq.w; have a5 := hp.r; have a6 := hq.r; have a7 := mq8 p; have a8 := mq8 q; refine G9 23 mixed (by decide) (by decide) rfl rfl ?_
 apply k9 _ rfl rfl rfl
 ·intro w1
  first | refine b2 ⟨_, 3, none⟩ rfl rfl r5 rfl ?_ | refine b2 _ rfl rfl r5 rfl ?_
  refine b7 ?_; exact i6 rfl
 refine m6 (fun w1 => b3 (v := int p.2.2.2.1) rfl b5 rfl (d5 mB rfl) (q_z rfl)) ?_
 apply k9 _ rfl rfl rfl
 ·intro w1
  first | refine b2 ⟨_, 3, none⟩ rfl rfl r5 rfl ?_ | refine b2 _ rfl rfl r5 rfl ?_
  refine b7 ?_; exact i6 rfl
 refine m6 (fun w1 => b3 (v := int q.2.2.2.1) rfl b5 rfl (d5 mB rfl) (q_z rfl)) (m6 (fun w1 => H3 (p.2.2.2.1 - q.2.2.2.1) rfl rfl rfl rfl m7 (q_z rfl)) (m6 (fun w1 => w7 (cs := #[str p.1, int p.2.1, int p.2.2.1, int p.2.2.2.1, .bool p.2.2.2.2]) rfl y4 q9 rfl mB rfl (q_z rfl)) (m6 (fun w1 => w7 (cs := #[str q.1, int q.2.1, int q.2.2.1, int q.2.2.2.1, .bool q.2.2.2.2]) rfl y4 q9 rfl mB rfl (q_z rfl)) ?_))); refine m6 (fun w1 => i5 wL rfl rfl (vS p q hp.n hq.n) k8 tK fun _ _ => (q_z rfl)) ?_
 apply k9 _ rfl rfl rfl
 ·intro w1
  first | refine b2 ⟨_, 1, none⟩ rfl rfl E7 rfl ?_ | refine b2 _ rfl rfl E7 rfl ?_
  refine b7 ?_; exact i6 rfl
 refine m6 (fun w1 => b3 (v := int p.2.1) rfl b5 rfl (d5 mB rfl) (q_z rfl)) ?_
 apply k9 _ rfl rfl rfl
 ·intro w1
  first | refine b2 ⟨_, 1, none⟩ rfl rfl E7 rfl ?_ | refine b2 _ rfl rfl E7 rfl ?_
  refine b7 ?_; exact i6 rfl
 refine m6 (fun w1 => b3 (v := int q.2.1) rfl b5 rfl (d5 mB rfl) (q_z rfl)) (m6 (fun w1 => H3 (p.2.1 - q.2.1) rfl rfl rfl rfl m7 (q_z rfl)) ?_)
 apply k9 _ rfl rfl rfl
 ·intro w1
  first | refine b2 ⟨_, 2, none⟩ rfl rfl E6 rfl ?_ | refine b2 _ rfl rfl E6 rfl ?_
  refine b7 ?_; exact i6 rfl
 refine m6 (fun w1 => b3 (v := int p.2.2.1) rfl b5 rfl (d5 mB rfl) (q_z rfl)) ?_
 apply k9 _ rfl rfl rfl
 ·intro w1
  first | refine b2 ⟨_, 2, none⟩ rfl rfl E6 rfl ?_ | refine b2 _ rfl rfl E6 rfl ?_
  refine b7 ?_; exact i6 rfl
 refine m6 (fun w1 => b3 (v := int q.2.2.1) rfl b5 rfl (d5 mB rfl) (q_z rfl)) (m6 (fun w1 => H3 (p.2.2.1 - q.2.2.1) rfl rfl rfl rfl m7 (q_z rfl)) (m6 (fun w1 => w7 (cs := #[str p.1, int p.2.1, int p.2.2.1, int p.2.2.2.1, .bool p.2.2.2.2]) rfl y4 q9 rfl mB rfl (q_z rfl)) ?_)); refine m6 (fun w1 => i5 mO rfl rfl (mJ p) k8 tK fun _ _ => (q_z rfl)) ?_; refine m6 (fun w1 => w7 (cs := #[str q.1, int q.2.1, int q.2.2.1, int q.2.2.2.1, .bool q.2.2.2.2]) rfl y4 q9 rfl mB rfl (q_z rfl)) ?_; refine m6 (fun w1 => i5 mO rfl rfl (mJ q) k8 tK fun _ _ => (q_z rfl)) ?_; refine m6 (fun w1 => H3 (bolN p - bolN q) rfl rfl rfl rfl m7 (q_z rfl)) ?_; refine y8 ⟨rfl, ?_⟩; refine l5 _ rfl rfl (fun _ => bx6 ..) fun g5 => v8 (rows [p.2.2.2.1 - q.2.2.2.1, 0, p.2.1 - q.2.1, p.2.2.1 - q.2.2.1, bolN p - bolN q]) (List.prefix_refl _) ?_; refine i5 xU rfl rfl (xN (A := some ⟨g5, 0, none⟩) (c := 5) [p.2.2.2.1 - q.2.2.2.1, 0, p.2.1 - q.2.1, p.2.2.1 - q.2.2.1, bolN p - bolN q] (by simp)) k8 mC fun _ _ => ?_; refine b6 rfl (c3 (j6 ?_)); exact ret1 () rfl rfl rfl tK nK tK
theorem pT (p : Pn) (hp : 0 ≤ p.2.2.2.1) : Meets prog I0 [.agg #[], .agg #[str p.1, int p.2.1, int p.2.2.1, int p.2.2.2.1, .bool p.2.2.2.2]] { val := fun _ : Unit => .bool true } := by
 refine d3 iK rfl n2 fun w0 => d4 (B7 rfl rfl fun g2 => B7 rfl rfl fun g3 => ?_); refine b6 rfl (c3 (d1 (v7 (v7 (c9 ?_)))))
 first | refine b2 ⟨_, 3, none⟩ rfl rfl r5 rfl ?_ | refine b2 _ rfl rfl r5 rfl ?_
 refine b3 (v := int p.2.2.2.1) rfl b5 rfl (d5 mB rfl) ?_; refine B9 rfl rfl rfl (b6 rfl (c3 (j6 ?_))); exact ret1 () rfl (congrArg (fun b => some (Value.bool b)) (decide_eq_true (show ¬ p.2.2.2.1 = -1 by omega))) rfl tK nK tK
theorem zI {PA : Option Addr} {pc gs gp : Nat} (hs : List Hd) (ps : List Pn) (hn : hs.length ≤ 1000) (h6 : ps.length ≤ 6) (hp : ∀ p ∈ ps, POK hs p) (x y : Nat) (hx : x < ps.length) (hy : y < ps.length) : Meets prog L3 [int x, int y, .pointer (i7 gs), .pointer (i7 gp)] { LI := [Blk gs (.cells #[byT] S5 (0, 0)), Blk gp (.cells #[.slice PA ps.length pc] H1 (0, 0)), Row PA (rows ps)], val := fun _ : Unit => int (cmpP (ps.getD x default) (ps.getD y default)) } := by
 refine d3 rY rfl n2 fun w0 => ?_; refine d4 (b6 rfl (c3 (d1 ?_))); refine G9 12 mixed (by decide) (by decide) rfl rfl (m6 (fun w1 => b3 (v := byT) rfl aK rfl (d5 mB rfl) (q_z rfl)) (m6 (fun w1 => b3 (v := .slice PA ps.length pc) rfl y7 rfl (d5 mB rfl) (q_z rfl)) (p9 rfl (m6 (fun w1 => p8 (α := Pn) ps x rfl B5 q9 rfl rfl rfl mB rfl hx (by decide) (q_z rfl)) (m6 (fun w1 => y9 (cs := El.cells (ps.getD x default)) rfl y4 q9 rfl rfl (w5 mB (z6 hx)) (q_z rfl)) (m6 (fun w1 => b3 (v := .slice PA ps.length pc) rfl y7 rfl (d5 mB rfl) (q_z rfl)) (p9 rfl (m6 (fun w1 => p8 (α := Pn) ps y rfl B5 q9 rfl rfl rfl mB rfl hy (by decide) (q_z rfl)) (m6 (fun w1 => y9 (cs := El.cells (ps.getD y default)) rfl y4 q9 rfl rfl (w5 mB (z6 hy)) (q_z rfl)) (m6 (fun w1 => N4 rfl rfl rfl (q_z rfl)) (m6 (fun w1 => dq5 rfl rfl hj9 (q_z rfl)) ?_))))))))))); refine p9 rfl ?_; refine y8 ⟨rfl, ?_⟩; refine zT (t := J2) (v := .agg #[]) (vs := [.agg #[str (ps.getD x default).1, int (ps.getD x default).2.1, int (ps.getD x default).2.2.1, int (ps.getD x default).2.2.2.1, .bool (ps.getD x default).2.2.2.2], .agg #[str (ps.getD y default).1, int (ps.getD y default).2.1, int (ps.getD y default).2.2.1, int (ps.getD y default).2.2.2.1, .bool (ps.getD y default).2.2.2.2]]) dJ rfl rfl rfl hq3 (nO hs (ps.getD x default) (ps.getD y default) (hp _ (n7 hx)) (hp _ (n7 hy)) hn) (.refl _) tK fun _ _ => ?_; refine b6 rfl (c3 (j6 ?_)); exact ret1 () rfl rfl rfl tK nK tK
def cmpAtP (ps : List Pn) (x y : Int) : Int := cmpP (ps.getD x.toNat default) (ps.getD y.toNat default)
theorem gj6 {l : List Int} {f : Int → Bool} {k : Nat} (h : k < l.length) : (l.take (k + 1)).filter f = (l.take k).filter f ++ (if f (l.getD k default) = true then [l.getD k default] else []) := by
  rw [A6 l k h, List.filter_append]
  by_cases e : f (l.getD k default) = true
  · rw [if_pos e, List.filter_cons_of_pos e]; rfl
  rw [if_neg e, List.filter_cons_of_neg e]; rfl
set_option maxHeartbeats 1000000 in
theorem tM {PA : Option Addr} {pc : Nat} (hs : List Hd) (ps : List Pn) (hn : hs.length ≤ 1000) (h6 : ps.length ≤ 6) (hp : ∀ p ∈ ps, POK hs p) : Meets prog dI [.slice PA ps.length pc, byT] { LI := [Row PA (rows ps)], inv := fun x : List Int × OutC => x.1.Perm (idxP ps.length), val := fun x => .slice x.2.1 x.1.length x.2.2, LO := fun x => [Row x.2.1 (rows x.1)] } := by
 refine d3 wK rfl n2 fun w0 => d4 (B7 rfl rfl fun gp => B7 rfl rfl fun gs => ?_); refine b6 rfl (c3 (d1 (v7 (v7 (c9 (b6 rfl (c3 (cW ?_)))))))); refine c9 (b3 (v := .slice PA ps.length pc) rfl y7 rfl (d5 mB rfl) (k5 rfl B5 rfl ?_)); refine b4 rfl (c3 (i8 ?_)); refine p6 (β := Nat × OutC × Hp) ⟨fun x => x.1 ≤ ps.length ∧ Grow y2 1 x.2.1.1 (idxP x.1).length x.2.1.2 (rows (idxP x.1)) x.2.2, fun x => [(2, .pointer (i7 gp)), (3, .pointer (i7 gs)), (5, .slice x.2.1.1 (idxP x.1).length x.2.1.2), (8, .slice PA ps.length pc), (9, int ps.length), (10, int x.1)], fun x => x.2.2, fun _ => [Blk gs (.cells #[byT] S5 (0, 0)), Blk gp (.cells #[.slice PA ps.length pc] H1 (0, 0)), Row PA (rows ps)]⟩ (fun x => ps.length - x.1) (0, (none, 0), []) ⟨Nat.zero_le _, Grow.nil _ _⟩ mC (.refl _) mC fun x hx => ?_; obtain ⟨k, ⟨oA, oc⟩, og⟩ := x; obtain ⟨hk, hG⟩ := hx; simp only at hk hG; have hil := aQ k; refine d4 (u7 rfl rfl rfl (c3 (d1 ?_)))
 first | refine j9 rfl (fun hb1 => ?_) (fun hb1 => ?_) | refine d6 rfl (fun hb1 => ?_) (fun hb1 => ?_)
 ·have hb1' := hb1; try simp at hb1'
  have hk2 : k < ps.length := by omega
  have hpk := hp _ (n7 hk2); refine i4 (c7 (d1 (i8 (d4 (b4 rfl ?_))))); refine p8 (α := Pn) ps k rfl B5 q9 rfl rfl rfl mB rfl hk2 (by decide) (y9 (cs := El.cells (ps.getD k default)) rfl y4 q9 rfl rfl (w5 mB (z6 hk2)) (B2 rfl (fun _ => jE _) fun g7 => b6 rfl (E0 (cs := #[str (ps.getD k default).1, int (ps.getD k default).2.1, int (ps.getD k default).2.2.1, int (ps.getD k default).2.2.2.1, .bool (ps.getD k default).2.2.2.2]) rfl rfl (.refl _) q9 (by rfl) (by rfl) (P8 (hp' := (g7, .cells #[str (ps.getD k default).1, int (ps.getD k default).2.1, int (ps.getD k default).2.2.1, int (ps.getD k default).2.2.2.1, .bool (ps.getD k default).2.2.2.2] I1 (0, 0)) :: og) (.refl _) (j4 (b3 (v := byT) rfl aK rfl (d5 mB rfl) (J5 rfl y4 q9 rfl (cs := #[str (ps.getD k default).1, int (ps.getD k default).2.1, int (ps.getD k default).2.2.1, int (ps.getD k default).2.2.2.1, .bool (ps.getD k default).2.2.2.2]) mB rfl ?_))))))); refine zT (t := J2) (v := .agg #[]) (vs := [.agg #[str (ps.getD k default).1, int (ps.getD k default).2.1, int (ps.getD k default).2.2.1, int (ps.getD k default).2.2.2.1, .bool (ps.getD k default).2.2.2.2]]) gE rfl rfl rfl jq2 (pT (ps.getD k default) hpk.h.1) (hpR := _) (.refl _) tK fun _ _ => c3 ?_
  first | refine j9 rfl (fun hb2 => ?_) (fun hb2 => ?_) | refine d6 rfl (fun hb2 => ?_) (fun hb2 => ?_)
  ·have hb2' := hb2; try simp at hb2'
   refine c9 (b4 rfl (b4 rfl ?_)); refine l5 _ rfl rfl (fun _ => w6 ..) fun gS => ?_; refine C0 (hp' := [(gS, Obj.cells #[int (k : Int)] y2 (0, 0)), (g7, .cells #[str (ps.getD k default).1, int (ps.getD k default).2.1, int (ps.getD k default).2.2.1, int (ps.getD k default).2.2.2.1, .bool (ps.getD k default).2.2.2.2] I1 (0, 0))]) ((idxP k).length + 1) (rows (idxP (k + 1))) I5 rfl rfl rfl hG (List.perm_append_comm (l₁ := [_, _])) (Src.own (cs := #[int (k : Int)]) (m := 1) (List.mem_append_right _ m0) rfl rfl) rfl (by rw [jx0]; exact (r8 _ [(k : Int)]).symm) (by unfold maxLen; omega) (by omega) fun A' c' og' hG' => ?_; refine b6 rfl (b7 (q8 (c7 (c9 ?_)))); refine r4 _ rfl rfl rfl rfl m7 ?_; refine b4 rfl (b7 ?_); exact again _ (k + 1, (A', c'), og') ⟨by show k + 1 ≤ ps.length; omega, by show Grow _ _ _ (idxP (k + 1)).length _ _ _; rw [aQ]; rw [aQ] at hG'; exact hG'⟩ (r9 (by omega)) ⟨rfl, rfl, by show some (Value.slice A' ((idxP k).length + 1) c') = some (Value.slice A' (idxP (k + 1)).length c'); rw [aQ, aQ], rfl, rfl, rfl, tK⟩ (List.sublist_append_left _ _) mC
  have hb2' := hb2; try simp at hb2'
 have hb1' := hb1; try simp at hb1'
 have hk2 : k = ps.length := by omega
 subst hk2; refine m4 (v6 (l9 (c7 (d1 ?_))))
 have hcm : ∀ x ∈ idxP ps.length, ∀ y ∈ idxP ps.length, Meets prog L3 ([int x, int y] ++ [.pointer (i7 gs), .pointer (i7 gp)]) ({ LI := [Blk gs (.cells #[byT] S5 (0, 0)), Blk gp (.cells #[.slice PA ps.length pc] H1 (0, 0)), Row PA (rows ps)], val := fun _ : Unit => int (cmpAtP ps x y) } : Con Unit) := by
   intro x hx y hy; obtain ⟨i, hi, rfl⟩ := tP.1 hx; obtain ⟨j, hj, rfl⟩ := tP.1 hy; exact zI hs ps hn h6 hp i j hi hj
 have hsm := W4 (A := oA) (cap := oc) (g := L3) (cp := [.pointer (i7 gs), .pointer (i7 gp)]) qM (idxP ps.length) hcm og hG (by rw [aQ]; omega); refine c9 (b4 rfl (N4 rfl rfl rfl ?_)); refine i5 X1 rfl rfl (hsm) (hpR := []) (by first | (rw [List.append_nil]; done) | (rw [List.append_nil]; exact List.Perm.refl _) | exact List.Perm.refl _) mC fun z hz => ?_; obtain ⟨z, ogz⟩ := z; obtain ⟨hz1, hz2⟩ := hz; simp only at hz1 hz2; have hzl : z.length = (idxP ps.length).length := hz1.1.length_eq; refine j4 (b4 rfl (b6 rfl (c3 (j6 (cX hz2 ?_))))); exact ret1 (z, (oA, oc)) rfl (by show some (Value.slice oA (idxP ps.length).length oc) = some (Value.slice oA z.length oc); rw [hzl]) rfl hz1.1 nK mC
set_option maxHeartbeats 1000000 in
theorem V0 {A B PA C nA : Option Addr} {ca cb pc cc gv nl nc : Nat} (cs : List Cl) (hs : List Hd) (ps : List Pn) (l : List Int) (hl : l.length ≤ 1000) (hn : hs.length ≤ 1000) (h6 : ps.length ≤ 6) (hp : ∀ p ∈ ps, POK hs p) : Meets prog O6 [.pointer (i7 gv), .slice C l.length cc] { LI := [Blk gv (.cells #[int 1, int 6, int 4, .slice A cs.length ca, .slice B hs.length cb, .slice none 0 0, .slice PA ps.length pc, .slice nA nl nc] G3 (0, 0)), Row PA (rows ps), Row C (rows l)], inv := fun x : List Int × OutC => ∃ z : List Int, z.Perm (idxP ps.length) ∧ x.1 = z.filter (fun i : Int => decide ((ps.getD i.toNat default).2.2.2.1 ∈ l)), val := fun x => .slice x.2.1 x.1.length x.2.2, LO := fun x => [Row x.2.1 (rows x.1)] } := by
 refine d3 lP rfl n2 fun w0 => ?_; refine d4 (b6 rfl (j4 (b6 rfl (c3 (cW ?_))))); refine c9 (b4 rfl (l7 rfl rfl ?_))
 first | refine b2 ⟨_, 0, none⟩ rfl rfl K2 rfl ?_ | refine b2 _ rfl rfl K2 rfl ?_
 first | refine b2 ⟨_, 6, none⟩ rfl rfl u5 rfl ?_ | refine b2 _ rfl rfl u5 rfl ?_
 refine b3 (v := .slice PA ps.length pc) rfl y7 rfl (d5 mB rfl) (H6 _ rfl rfl (fun _ => qH ..) (ij8 rfl ⟨_, underlying171, rfl⟩ rfl (i5 uE rfl rfl (tM hs ps hn h6 hp) k8 mC fun x hx => ?_))); obtain ⟨z, oz⟩ := x; have hz : z.Perm (idxP ps.length) := hx; have hzl : z.length = ps.length := by rw [hz.length_eq, aQ]
 refine k5 rfl j2 rfl ?_; refine b4 rfl (c3 (i8 ?_)); refine p6 (β := Nat × OutC × Hp) ⟨fun x => x.1 ≤ z.length ∧ Grow y2 1 x.2.1.1 ((z.take x.1).filter (fun i : Int => decide ((ps.getD i.toNat default).2.2.2.1 ∈ l))).length x.2.1.2 (rows ((z.take x.1).filter (fun i : Int => decide ((ps.getD i.toNat default).2.2.2.1 ∈ l)))) x.2.2, fun x => [(0, .pointer (i7 gv)), (1, .slice C l.length cc), (5, .slice x.2.1.1 ((z.take x.1).filter (fun i : Int => decide ((ps.getD i.toNat default).2.2.2.1 ∈ l))).length x.2.1.2), (15, .slice oz.1 z.length oz.2), (16, int z.length), (17, int x.1)], fun x => x.2.2, fun _ => [Blk gv (.cells #[int 1, int 6, int 4, .slice A cs.length ca, .slice B hs.length cb, .slice none 0 0, .slice PA ps.length pc, .slice nA nl nc] G3 (0, 0)), Row PA (rows ps), Row C (rows l), Row oz.1 (rows z)]⟩ (fun x => z.length - x.1) (0, (none, 0), []) ⟨Nat.zero_le _, Grow.nil _ _⟩ mC (.refl _) mC fun x hx => ?_; obtain ⟨k, ⟨oA, oc⟩, og⟩ := x; obtain ⟨hk, hG⟩ := hx; simp only at hk hG; have hfl : ((z.take k).filter (fun i : Int => decide ((ps.getD i.toNat default).2.2.2.1 ∈ l))).length ≤ k := Nat.le_trans (List.length_filter_le _ _) (by rw [List.length_take]; omega); refine d4 (u7 rfl rfl rfl (c3 (d1 ?_)))
 first | refine j9 rfl (fun hb1 => ?_) (fun hb1 => ?_) | refine d6 rfl (fun hb1 => ?_) (fun hb1 => ?_)
 ·have hb1' := hb1; try simp at hb1'
  have hk2 : k < z.length := by omega
  obtain ⟨i, hi, hzi⟩ := tP.1 (hz.subset (n7 hk2)); have hft := gj6 (f := (fun i : Int => decide ((ps.getD i.toNat default).2.2.2.1 ∈ l))) hk2; refine i4 (c7 (d1 (i8 (d4 ?_)))); refine p8 (α := Int) z k rfl j2 k6 rfl rfl rfl mB rfl hk2 (by decide) (b3 (v := int (z.getD k default)) rfl b5 rfl (i1 mB (c5 hk2 rfl)) ?_); refine b6 rfl (j4 (b4 rfl (b4 rfl (l7 rfl rfl ?_))))
  first | refine b2 ⟨_, 0, none⟩ rfl rfl K2 rfl ?_ | refine b2 _ rfl rfl K2 rfl ?_
  first | refine b2 ⟨_, 6, none⟩ rfl rfl u5 rfl ?_ | refine b2 _ rfl rfl u5 rfl ?_
  refine b3 (v := .slice PA ps.length pc) rfl y7 rfl (d5 mB rfl) (b4 rfl (p8 (α := Pn) ps i rfl B5 q9 rfl rfl hzi mB rfl hi (by decide) ?_))
  first | refine b2 ⟨_, 3, none⟩ rfl rfl r5 rfl ?_ | refine b2 _ rfl rfl r5 rfl ?_
  refine b3 (v := int (ps.getD i default).2.2.2.1) rfl b5 rfl (i3 mB (rows_get hi (j := 3) rfl)) (i5 dG rfl rfl (cR l (ps.getD i default).2.2.2.1 (by omega)) (hpR := _) (.refl _) mC fun _ _ => c3 ?_)
  first | refine j9 rfl (fun hb2 => ?_) (fun hb2 => ?_) | refine d6 rfl (fun hb2 => ?_) (fun hb2 => ?_)
  ·have hb2' := hb2; try simp at hb2'
   have hyes : (fun i : Int => decide ((ps.getD i.toNat default).2.2.2.1 ∈ l)) (z.getD k default) = true := by rw [hzi]; simpa using hb2
   rw [if_pos hyes] at hft; refine c9 (b4 rfl (b4 rfl ?_)); refine l5 _ rfl rfl (fun _ => w6 ..) fun gS => ?_; refine C0 (hp' := [(gS, Obj.cells #[int (z.getD k default)] y2 (0, 0))]) (((z.take k).filter (fun i : Int => decide ((ps.getD i.toNat default).2.2.2.1 ∈ l))).length + 1) (rows ((z.take (k + 1)).filter (fun i : Int => decide ((ps.getD i.toNat default).2.2.2.1 ∈ l)))) I5 rfl rfl rfl hG (List.perm_append_comm (l₁ := [_])) (Src.own (cs := #[int (z.getD k default)]) (m := 1) (List.mem_append_right _ m0) rfl rfl) rfl (by rw [hft]; exact (r8 _ [z.getD k default]).symm) (by unfold maxLen; omega) (by omega) fun A' c' og' hG' => ?_; refine b6 rfl (b7 (q8 (c7 (c9 ?_)))); refine r4 _ rfl rfl rfl rfl m7 ?_; refine b4 rfl (b7 ?_); have hfl2 : ((z.take (k + 1)).filter (fun i : Int => decide ((ps.getD i.toNat default).2.2.2.1 ∈ l))).length = ((z.take k).filter (fun i : Int => decide ((ps.getD i.toNat default).2.2.2.1 ∈ l))).length + 1 := by rw [hft]; simp
   exact again _ (k + 1, (A', c'), og') ⟨by show k + 1 ≤ z.length; omega, by show Grow _ _ _ ((z.take (k + 1)).filter (fun i : Int => decide ((ps.getD i.toNat default).2.2.2.1 ∈ l))).length _ _ _; rw [hfl2]; exact hG'⟩ (r9 (by omega)) ⟨rfl, rfl, by show some (Value.slice A' (((z.take k).filter (fun i : Int => decide ((ps.getD i.toNat default).2.2.2.1 ∈ l))).length + 1) c') = some (Value.slice A' ((z.take (k + 1)).filter (fun i : Int => decide ((ps.getD i.toNat default).2.2.2.1 ∈ l))).length c'); rw [hfl2], rfl, rfl, rfl, tK⟩ (List.sublist_append_left _ _) mC
  have hb2' := hb2; try simp at hb2'
  have hno : ¬ (fun i : Int => decide ((ps.getD i.toNat default).2.2.2.1 ∈ l)) (z.getD k default) = true := by rw [hzi]; simpa using hb2
  rw [if_neg hno, List.append_nil] at hft; refine i4 (q8 (c7 (c9 ?_))); refine r4 _ rfl rfl rfl rfl m7 ?_; refine b4 rfl (b7 ?_); exact again _ (k + 1, (oA, oc), og) ⟨by show k + 1 ≤ z.length; omega, by show Grow _ _ _ ((z.take (k + 1)).filter (fun i : Int => decide ((ps.getD i.toNat default).2.2.2.1 ∈ l))).length _ _ _; rw [hft]; exact hG⟩ (r9 (by omega)) ⟨rfl, rfl, by show some (Value.slice oA ((z.take k).filter (fun i : Int => decide ((ps.getD i.toNat default).2.2.2.1 ∈ l))).length oc) = some (Value.slice oA ((z.take (k + 1)).filter (fun i : Int => decide ((ps.getD i.toNat default).2.2.2.1 ∈ l))).length oc); rw [hft], rfl, rfl, rfl, tK⟩ (.refl _) mC
 have hb1' := hb1; try simp at hb1'
 have hk2 : k = z.length := by omega
 subst hk2; rw [List.take_length] at hG; refine m4 (v6 (l9 (c7 (d4 (b4 rfl (b6 rfl (c3 (j6 ?_)))))))); refine jN hG ?_; exact ret1 (z.filter (fun i : Int => decide ((ps.getD i.toNat default).2.2.2.1 ∈ l)), (oA, oc)) rfl (by show some (Value.slice oA ((z.take z.length).filter (fun i : Int => decide ((ps.getD i.toNat default).2.2.2.1 ∈ l))).length oc) = some (Value.slice oA (z.filter (fun i : Int => decide ((ps.getD i.toNat default).2.2.2.1 ∈ l))).length oc); rw [List.take_length]) rfl ⟨z, hz, rfl⟩ nK mC
def ByH (ps : List Pn) (l : List Int) (x : List Int) : Prop := ∃ z : List Int, z.Perm (idxP ps.length) ∧ x = z.filter (fun i : Int => decide ((ps.getD i.toNat default).2.2.2.1 ∈ l))
theorem ByH.mem {ps : List Pn} {l x : List Int} (h : ByH ps l x) {k : Nat} (hk : k < ps.length) (hm : (ps.getD k default).2.2.2.1 ∈ l) : (k : Int) ∈ x := by
  obtain ⟨z, h1, rfl⟩ := h; refine List.mem_filter.2 ⟨h1.symm.subset (tP.2 ⟨k, hk, rfl⟩), ?_⟩; rw [Int.toNat_natCast]; exact decide_eq_true hm
theorem ByH.len {ps : List Pn} {l x : List Int} (h : ByH ps l x) : x.length ≤ ps.length := by
  obtain ⟨z, h1, rfl⟩ := h; have h2 := h1.length_eq; rw [aQ] at h2; exact Nat.le_trans (List.length_filter_le _ _) (Nat.le_of_eq h2)
theorem ByH.one {p : Pn} {l x : List Int} (h : ByH [p] l x) (hm : p.2.2.2.1 ∈ l) : x = [0] := by
  obtain ⟨z, h1, rfl⟩ := h; obtain rfl : z = [0] := List.perm_singleton.1 h1; have e : (fun i : Int => decide (([p].getD i.toNat default).2.2.2.1 ∈ l)) 0 = true := decide_eq_true hm; exact (List.filter_cons_of_pos (p := fun i : Int => decide (([p].getD i.toNat default).2.2.2.1 ∈ l)) e).trans rfl
theorem lq6 (t : Tr) (s : Str) : (mayT t s).length ≤ t.hs.length := by
  unfold mayT; rw [List.length_map]; exact Nat.le_trans (List.length_filter_le _ _) (by rw [List.length_range]; exact Nat.le_refl _)
theorem gx5 (t : Tr) (c : Int) : (underT t c).length ≤ t.hs.length := by
  unfold underT; rw [List.length_map]; exact Nat.le_trans (List.length_filter_le _ _) (by rw [List.length_range]; exact Nat.le_refl _)
abbrev wCloth : Str := [99, 108, 111, 116, 104]
abbrev wBonnets : Str := [98, 111, 110, 110, 101, 116, 115]
abbrev wHatter : Str := [104, 97, 116, 116, 101, 114]
abbrev hatC : List Cl := [(wCloth, -1)]
abbrev hatH : List Hd := [(wBonnets, -1, 1, ⟨none, 0, []⟩), (wHatter, 0, -1, ⟨none, 0, []⟩)]
theorem jx8 : checkT (trOf hatC hatH) = 0 := by decide +kernel
theorem hx1 : followE (trOf hatC hatH) 0 = (1, 1, 0) := by decide +kernel
theorem jx7 : foundE hatC hatH [4, 6] [0] 1 = ([1], 6, 0) := n9
abbrev hatP : Pn := (sAnn, 0, 1, 1, false)
theorem hat_may : (1 : Int) ∈ mayT (trOf hatC hatH) [98, 111] := by decide +kernel
theorem hat_ok : POK hatH hatP := ⟨rfl, rfl, by decide, by decide, by decide⟩
theorem lz6 : ∀ h ∈ hatH, h.2.2.2.l.length ≤ 1000000 := by
  intro h hh; simp only [List.mem_cons, List.not_mem_nil, or_false] at hh
  rcases hh with rfl | rfl <;> simp
theorem mK {A B PA : Option Addr} {ca cb pc : Nat} (cs : List Cl) (hs : List Hd) (ps : List Pn) (s : Str) (hca : cs.length ≤ ca) (hcb : hs.length ≤ cb) (ha : ∀ h ∈ hs, h.2.2.2.l.length ≤ 1000000) (h0 : checkT (trOf cs hs) = 0) (hn : hs.length ≤ 1000) (h6 : ps.length ≤ 6) (hp : ∀ p ∈ ps, POK hs p) : Meets prog lT [.agg #[int 1, int 6, int 4, .slice A cs.length ca, .slice B hs.length cb, .slice none 0 0, .slice PA ps.length pc], str s] { LI := [Row A (rows cs), RowsF B hs Hd.row, Row PA (rows ps)], inv := fun x : List Int × OutC => ByH ps (mayT (trOf cs hs) s) x.1, val := fun x => .tuple #[.slice x.2.1 x.1.length x.2.2, int 0], LO := fun x => [Row x.2.1 (rows x.1)] } := by
 refine d3 aj0 rfl n2 fun w0 => d4 (B7 rfl rfl fun g2 => ?_); refine b6 rfl (b6 rfl (c3 (d1 (v7 ?_)))); have hln := lq6 (trOf cs hs) s; rw [y6] at hln; refine c9 (w7 (cs := #[int 1, int 6, int 4, .slice A cs.length ca, .slice B hs.length cb, .slice none 0 0, .slice PA ps.length pc]) rfl C9 B0 rfl mB rfl (i5 kD rfl rfl (jJ (A := A) (B := B) (PA := PA) (ca := ca) (cb := cb) (pc := pc) cs hs ps hca hcb ha h0 hn h6 hp) k8 mC fun x _ => ?_)); refine b4 rfl (k4 rfl rfl rfl (k4 rfl rfl rfl (b6 rfl (b6 rfl (c3 (d1 (d4 (b4 rfl (B9 rfl rfl rfl ?_))))))))); refine c3 ?_
 first | refine j9 rfl (fun hb1 => ?_) (fun hb1 => ?_) | refine d6 rfl (fun hb1 => ?_) (fun hb1 => ?_)
 ·have hb1' := hb1; try simp at hb1'
 have hb1' := hb1; try simp at hb1'
 refine i4 (c7 (d4 ?_))
 first | refine b2 ⟨_, 3, none⟩ rfl rfl y0 rfl ?_ | refine b2 _ rfl rfl y0 rfl ?_
 refine y9 (cs := [.slice A cs.length ca, .slice B hs.length cb]) rfl i9 j0 rfl rfl (kN mB (vG rfl rfl)) (b4 rfl (i5 xQ rfl rfl (may_is cs hs s hca hcb ha h0) k8 mC fun y hy => ?_)); refine b4 rfl (k4 rfl rfl rfl (k4 rfl rfl rfl (b6 rfl (b6 rfl (c3 (d1 (d4 (b4 rfl (B9 rfl rfl rfl ?_))))))))); refine c3 ?_
 first | refine j9 rfl (fun hb2 => ?_) (fun hb2 => ?_) | refine d6 rfl (fun hb2 => ?_) (fun hb2 => ?_)
 ·have hb2' := hb2; try simp at hb2'
 have hb2' := hb2; try simp at hb2'
 refine i4 (c7 (d4 (b4 rfl (b4 rfl ?_)))); refine i5 V3 rfl rfl (V0 (A := A) (B := B) (PA := PA) (ca := ca) (cb := cb) (pc := pc) (gv := x.1) (nA := x.2.1) (nl := ps.length) (nc := x.2.2) cs hs ps (mayT (trOf cs hs) s) (by omega) hn h6 hp) k8 mC fun z hz => ?_; refine b6 rfl (b6 rfl (c3 (j6 ?_))); exact ret2 z rfl rfl rfl rfl rfl hz nK mC
theorem vT {A B PA : Option Addr} {ca cb pc : Nat} (cs : List Cl) (hs : List Hd) (ps : List Pn) (c : Int) (hca : cs.length ≤ ca) (hcb : hs.length ≤ cb) (ha : ∀ h ∈ hs, h.2.2.2.l.length ≤ 1000000) (h0 : checkT (trOf cs hs) = 0) (hn : hs.length ≤ 1000) (h6 : ps.length ≤ 6) (hp : ∀ p ∈ ps, POK hs p) (hc : 0 ≤ c ∧ c ≤ (cs.length : Int) - 1) : Meets prog iM [.agg #[int 1, int 6, int 4, .slice A cs.length ca, .slice B hs.length cb, .slice none 0 0, .slice PA ps.length pc], int c] { LI := [Row A (rows cs), RowsF B hs Hd.row, Row PA (rows ps)], inv := fun x : List Int × OutC => ByH ps (underT (trOf cs hs) c) x.1, val := fun x => .tuple #[.slice x.2.1 x.1.length x.2.2, int 0], LO := fun x => [Row x.2.1 (rows x.1)] } := by
 refine d3 xX rfl n2 fun w0 => d4 (B7 rfl rfl fun g2 => ?_); refine b6 rfl (b6 rfl (c3 (d1 (v7 ?_)))); have hln := gx5 (trOf cs hs) c; rw [y6] at hln; refine c9 (w7 (cs := #[int 1, int 6, int 4, .slice A cs.length ca, .slice B hs.length cb, .slice none 0 0, .slice PA ps.length pc]) rfl C9 B0 rfl mB rfl (i5 kD rfl rfl (jJ (A := A) (B := B) (PA := PA) (ca := ca) (cb := cb) (pc := pc) cs hs ps hca hcb ha h0 hn h6 hp) k8 mC fun x _ => ?_)); refine b4 rfl (k4 rfl rfl rfl (k4 rfl rfl rfl (b6 rfl (b6 rfl (c3 (d1 (d4 (b4 rfl (B9 rfl rfl rfl ?_))))))))); refine c3 ?_
 first | refine j9 rfl (fun hb1 => ?_) (fun hb1 => ?_) | refine d6 rfl (fun hb1 => ?_) (fun hb1 => ?_)
 ·have hb1' := hb1; try simp at hb1'
 have hb1' := hb1; try simp at hb1'
 refine i4 (c7 (d4 ?_))
 first | refine b2 ⟨_, 3, none⟩ rfl rfl y0 rfl ?_ | refine b2 _ rfl rfl y0 rfl ?_
 refine y9 (cs := [.slice A cs.length ca, .slice B hs.length cb]) rfl i9 j0 rfl rfl (kN mB (vG rfl rfl)) (b4 rfl (i5 uA rfl rfl (kx2 cs hs c hca hcb ha h0 hc) k8 mC fun y hy => ?_)); refine b4 rfl (k4 rfl rfl rfl (k4 rfl rfl rfl (b6 rfl (b6 rfl (c3 (d1 (d4 (b4 rfl (B9 rfl rfl rfl ?_))))))))); refine c3 ?_
 first | refine j9 rfl (fun hb2 => ?_) (fun hb2 => ?_) | refine d6 rfl (fun hb2 => ?_) (fun hb2 => ?_)
 ·have hb2' := hb2; try simp at hb2'
 have hb2' := hb2; try simp at hb2'
 refine i4 (c7 (d4 (b4 rfl (b4 rfl ?_)))); refine i5 V3 rfl rfl (V0 (A := A) (B := B) (PA := PA) (ca := ca) (cb := cb) (pc := pc) (gv := x.1) (nA := x.2.1) (nl := ps.length) (nc := x.2.2) cs hs ps (underT (trOf cs hs) c) (by omega) hn h6 hp) k8 mC fun z hz => ?_; refine b6 rfl (b6 rfl (c3 (j6 ?_))); exact ret2 z rfl rfl rfl rfl rfl hz nK mC
set_option maxHeartbeats 1000000 in
theorem cQ : Meets prog pL [] { val := fun x : Nat × Nat => .agg #[.slice (some ⟨x.1, 0, none⟩) 1 1, .slice (some ⟨x.2, 0, none⟩) 2 2], LO := fun x => [Row (some ⟨x.1, 0, none⟩) (rows hatC), RowsF (some ⟨x.2, 0, none⟩) hatH Hd.row] } := by
 refine d3 ax0 rfl n2 fun w0 => ?_; refine d4 ?_; refine B2 rfl (fun _ => P3 _) fun g0 => ?_; refine j4 ?_; refine H6 _ rfl rfl (fun _ => bQ ..) ?_; refine l5 _ rfl rfl (fun _ => bP ..) fun gC => ?_; refine v8 (rows hatC) (List.prefix_refl _) ?_; refine H6 _ rfl rfl (fun _ => aM ..) ?_; refine H6 _ rfl rfl (fun _ => rB ..) ?_; refine l5 _ rfl rfl (fun _ => qZ ..) fun gH => ?_; refine v8 (rows hatH) (List.prefix_refl _) ?_; refine H6 _ rfl rfl (fun _ => nU ..) ?_; refine E0 rfl rfl vP j0 (by rfl) (by rfl) ?_; refine c3 (j6 ?_); refine D4 (α := Int) ?_; refine dz1 (Fs := hatH.map Hd.row) (by intro F hF; left; simp only [hatH, List.map_cons, List.map_nil, List.mem_cons, List.not_mem_nil, or_false] at hF; rcases hF with rfl | rfl <;> repeat constructor) ?_; refine lx7 (A := some ⟨gH, 0, none⟩) (ps := hatH) (f := Hd.row) mB m0 ?_; exact ij7 (gC, gH) rfl rfl i9 j0 rfl m0 rfl rfl tK nK ⟨mB, m0, tK⟩
set_option maxHeartbeats 2000000 in
theorem Y4 : Meets prog U4 [] { val := fun _ : Unit => .bool true } := by
 refine d3 pK rfl n2 fun w0 => ?_; refine d4 (b6 rfl (j4 ?_)); refine i5 dD rfl rfl (cQ) k8 tK fun x1 _ => ?_; have hfo := S7 (A := some ⟨x1.1, 0, none⟩) (B := some ⟨x1.2, 0, none⟩) (ca := 1) (cb := 2) hatC hatH 0 (by decide) (by decide) lz6; rw [hx1] at hfo; refine i5 U3 rfl rfl (hfo) k8 mC fun _ _ => ?_; refine b4 rfl (k4 rfl rfl rfl (k4 rfl rfl rfl (k4 rfl rfl rfl (b6 rfl (b6 rfl (b6 rfl (j4 ?_))))))); refine i5 dD rfl rfl (cQ) k8 tK fun x2 _ => l5 _ rfl rfl (fun _ => tH ..) fun g2 => v8 (rows [(4 : Int), 6]) (List.prefix_refl _) (l5 _ rfl rfl (fun _ => w6 ..) fun g3 => v8 (rows [(0 : Int)]) (List.prefix_refl _) ?_); have hfd := kO (A := some ⟨x2.1, 0, none⟩) (B := some ⟨x2.2, 0, none⟩) (PA := some ⟨g2, 0, none⟩) (WA := some ⟨g3, 0, none⟩) (ca := 1) (cb := 2) (pc := 2) (wc := 1) hatC hatH [4, 6] [0] 1 (by decide) (by decide) lz6 (by decide) (by decide); rw [jx7] at hfd; refine i5 kK rfl rfl (hfd) k8 mC fun y _ => ?_; refine b4 rfl (k4 rfl rfl rfl (k4 rfl rfl rfl (k4 rfl rfl rfl (b6 rfl (b6 rfl (b6 rfl (j4 ?_))))))); refine i5 dD rfl rfl (cQ) k8 tK fun x3 _ => H6 _ rfl rfl (fun _ => W0 ..) (l5 _ rfl rfl (fun _ => aL ..) fun gP => v8 (rows [hatP]) (List.prefix_refl _) (H6 _ rfl rfl (fun _ => cP ..) (B2 rfl (fun _ => jD _) fun g7 => E0 (cs := #[int 1, int 6, int 4, .slice (some ⟨x3.1, 0, none⟩) 1 1, .slice (some ⟨x3.2, 0, none⟩) 2 2, .slice none 0 0, .slice (i7 gP) 1 1]) rfl rfl (.refl _) B0 (by rfl) (by rfl) ?_))); refine P8 (hp' := [(g7, .cells #[int 1, int 6, int 4, .slice (some ⟨x3.1, 0, none⟩) 1 1, .slice (some ⟨x3.2, 0, none⟩) 2 2, .slice none 0 0, .slice (i7 gP) 1 1] C8 (0, 0))]) (by exact .refl _) ?_; refine j4 (J5 rfl C9 B0 rfl (cs := #[int 1, int 6, int 4, .slice (some ⟨x3.1, 0, none⟩) 1 1, .slice (some ⟨x3.2, 0, none⟩) 2 2, .slice none 0 0, .slice (i7 gP) 1 1]) mB rfl ?_); refine i5 mP rfl rfl (mK (A := some ⟨x3.1, 0, none⟩) (B := some ⟨x3.2, 0, none⟩) (PA := some ⟨gP, 0, none⟩) (ca := 1) (cb := 2) (pc := 1) hatC hatH [hatP] [98, 111] (by decide) (by decide) lz6 jx8 (by decide) (by decide) (by intro p hp; rw [List.mem_singleton.1 hp]; exact hat_ok)) (hpR := _) (.refl _) mC fun z hz => ?_; obtain ⟨z, oz⟩ := z; obtain rfl : z = [0] := ByH.one hz hat_may; refine b4 rfl (k4 rfl rfl rfl (k4 rfl rfl rfl (b6 rfl (b6 rfl (j4 (b4 rfl (I2 rfl rfl rfl (b4 rfl ?_)))))))); refine q6 rfl rfl ?_ ?_
 ·intro hg1; have hg1' := hg1; try simp at hg1'
  refine k7 hg1 (b4 rfl (k7 hg1 (I2 rfl rfl rfl ?_))); refine p_t rfl rfl (bt1 hg1) rfl (b4 rfl ?_); refine q6 rfl rfl ?_ ?_
  ·intro hg2; have hg2' := hg2; try simp at hg2'
   refine k7 hg2 (b4 rfl (k7 hg2 (I2 rfl rfl rfl ?_))); refine p_t rfl rfl (bt1 hg2) rfl (b4 rfl ?_); refine q6 rfl rfl ?_ ?_
   ·intro hg3; have hg3' := hg3; try simp at hg3'
    refine k7 hg3 (b4 rfl (k7 hg3 (I2 rfl rfl rfl ?_))); refine p_t rfl rfl (bt1 hg3) rfl (b4 rfl ?_); refine q6 rfl rfl ?_ ?_
    ·intro hg4; have hg4' := hg4; try simp at hg4'
     refine k7 hg4 (b4 rfl (k7 hg4 (I2 rfl rfl rfl ?_))); refine p_t rfl rfl (bt1 hg4) rfl (b4 rfl ?_); refine q6 rfl rfl ?_ ?_
     ·intro hg5; have hg5' := hg5; try simp at hg5'
      refine k7 hg5 (b4 rfl (k7 hg5 (I2 rfl rfl rfl ?_))); refine p_t rfl rfl (bt1 hg5) rfl (b4 rfl ?_); refine q6 rfl rfl ?_ ?_
      ·intro hg6; have hg6' := hg6; try simp at hg6'
       refine k7 hg6 (b4 rfl (k7 hg6 ?_)); refine l5 _ rfl rfl (fun _ => w6 ..) fun g8 => v8 (rows [(1 : Int)]) (List.prefix_refl _) (k7 hg6 (i5 kH rfl rfl (jM [1] [1] (by decide)) (hpR := _) (.refl _) mC fun _ _ => p_t rfl rfl (bt1 hg6) rfl (b4 rfl ?_))); refine q6 rfl rfl ?_ ?_
       ·intro hg7; have hg7' := hg7; try simp at hg7'
        refine k7 hg7 (b4 rfl (k7 hg7 ?_)); refine l5 _ rfl rfl (fun _ => w6 ..) fun g9 => v8 (rows [(0 : Int)]) (List.prefix_refl _) (k7 hg7 (i5 kH rfl rfl (jM [0] [0] (by decide)) (hpR := _) (.refl _) mC fun _ _ => p_t rfl rfl (bt1 hg7) rfl ?_)); refine b6 rfl (c3 (j6 ?_)); exact ret1 () rfl rfl rfl tK nK tK
       intro hg7; have hg7' := hg7; try simp at hg7'
      intro hg6; have hg6' := hg6; try simp at hg6'
     intro hg5; have hg5' := hg5; try simp at hg5'
    intro hg4; have hg4' := hg4; try simp at hg4'
   intro hg3; have hg3' := hg3; try simp at hg3'
  intro hg2; have hg2' := hg2; try simp at hg2'
 intro hg1; have hg1' := hg1; try simp at hg1'
end Go.Proofs.YtpihanmcnmlodaaGreatDoor
end
