/- Texts of this claim, one behind another. -/

import Derived.Test.YtfhninnleacgiaaGreatAAk
import Derived.Test.YtfhninnleacgiaaGreatAAl
import Derived.Test.YtfhninnleacgiaaGreatAAm
import Derived.Test.YtfhninnleacgiaaGreatAAn
set_option linter.unusedVariables false
set_option linter.unusedSimpArgs false
section
namespace Go.Proofs.YtfhninnleacgiaaGreat
open Go Go.W
set_option maxRecDepth 20000
attribute [local irreducible] HL HC HQ HB Row Rows2 Blk Facts
def pathE (t : Tr) (c : Int) : List Int × Int := if ¬ checkT t = 0 then ([], checkT t) else if 0 ≤ c ∧ c ≤ (t.cs.length : Int) - 1 then (pathT t.cs c, 0) else ([], 3)
def underE (t : Tr) (c : Int) : List Int × Int := if ¬ checkT t = 0 then ([], checkT t) else if 0 ≤ c ∧ c ≤ (t.cs.length : Int) - 1 then (underT t c, 0) else ([], 3)
def uB (t : Tr) (c : Int) (i : Nat) : Bool := decide (¬ (t.hs.getD i default).2.1 = -1) && decide (c ∈ pathT t.cs (t.hs.getD i default).2.1)
def underK (t : Tr) (c : Int) (k : Nat) : List Int := ((List.range k).filter (uB t c)).map fun i : Nat => (i : Int)
theorem uG (t : Tr) (c : Int) : underK t c t.hs.length = underT t c := rfl
theorem zS (t : Tr) (c : Int) (k : Nat) : underK t c (k + 1) = if uB t c k = true then underK t c k ++ [(k : Int)] else underK t c k := by
  unfold underK; rw [List.range_succ, List.filter_append, List.map_append, List.filter_cons, List.filter_nil]
  by_cases h : uB t c k = true
  · rw [if_pos h, if_pos h]; rfl
  rw [if_neg h, if_neg h]; simp
theorem bj1 (t : Tr) (c : Int) (k : Nat) : (underK t c k).length ≤ k := by
  unfold underK; rw [List.length_map]; exact Nat.le_trans (List.length_filter_le _ _) (by simp)
theorem cls_in {cs : List Cl} {hs : List Hd} (hok : TrOK (trOf cs hs)) {i : Nat} (hi : i < hs.length) : -1 ≤ (hs.getD i default).2.1 ∧ (hs.getD i default).2.1 < (cs.length : Int) := by
  have hc := (hok.h i (by rw [t0]; exact hi)).c; rw [show (trOf cs hs).hs.getD i default = (hs.getD i default).p from G8 hi] at hc; exact hc
theorem art_is {cs : List Cl} {hs : List Hd} (hok : TrOK (trOf cs hs)) {i : Nat} (hi : i < hs.length) : (kindOf (hs.getD i default)).isA = decide (¬ (hs.getD i default).2.1 = -1) := by
  rw [bx7]
  by_cases h : (hs.getD i default).2.1 = -1
  · rw [decide_eq_false (not_not_intro h), Bool.and_false]
  have hk := (hok.h i (by rw [t0]; exact hi)).kinds; rw [show (trOf cs hs).hs.getD i default = (hs.getD i default).p from G8 hi] at hk
  have h1 : (hs.getD i default).2.2.1 = -1 := by
    rcases hk with ⟨_, h1, _⟩ | ⟨h1, _⟩ | ⟨h1, _⟩
    · exact absurd h1 h
    · exact h1
    exact h1
  rw [decide_eq_true h1, Bool.true_and]
theorem art_cls {h : Hd} (hA : (kindOf h).isA = true) : (kindOf h).cls = h.2.1 := by
  rw [bx7, Bool.and_eq_true, decide_eq_true_eq, decide_eq_true_eq] at hA; unfold kindOf; rw [if_neg (not_not_intro hA.1), if_pos hA.2]
  rfl
theorem uB_at {cs : List Cl} {hs : List Hd} (c : Int) {i : Nat} (hi : i < hs.length) : uB (trOf cs hs) c i = (decide (¬ (hs.getD i default).2.1 = -1) && decide (c ∈ pathT cs (hs.getD i default).2.1)) := by
  unfold uB; rw [show (trOf cs hs).hs.getD i default = (hs.getD i default).p from G8 hi]
  rfl
theorem dR {A B : Option Addr} {ca cb : Nat} (cs : List Cl) (hs : List Hd) (c : Int) (hca : cs.length ≤ ca) (hcb : hs.length ≤ cb) (ha : ∀ h ∈ hs, h.2.2.2.l.length ≤ 1000000) : Meets Tryz.prog F.bE [.agg #[.slice A cs.length ca, .slice B hs.length cb], int c] { LI := [Row A (rows cs), RowsF B hs Hd.row], inv := fun x : OutC => (pathE (trOf cs hs) c).1.length ≤ x.2, val := fun x => .tuple #[.slice x.1 (pathE (trOf cs hs) c).1.length x.2, int (pathE (trOf cs hs) c).2], LO := fun x => [Row x.1 (rows (pathE (trOf cs hs) c).1)] } := by
 refine i7 F.yH rfl p7 fun w0 => ?_; refine i4 ?_; refine E5 rfl rfl fun gB => ?_; refine b7 rfl (b7 rfl (d9 ?_)); refine B8 ⟨fun _ : Nat × OutC × OutC => True, fun x => [(1, int c), (2, .pointer (b8 gB)), (6, if checkT (trOf cs hs) = 0 then .pointer (some ⟨x.1, 0, none⟩) else .pointer none), (7, int (checkT (trOf cs hs)))], fun _ => [(gB, .cells #[.slice A cs.length ca, .slice B hs.length cb] T.i2 (0, 0))], fun x => (if checkT (trOf cs hs) = 0 then beginL cs hs A ca B cb x else []) ++ [Row A (rows cs), RowsF B hs Hd.row]⟩ ?_ ?_
 ·skip
  refine b9 ?_
  first | refine u6 rfl T.d6 T.d4 rfl mB (by rfl) ?_ | refine t9 rfl T.d6 T.d4 rfl mB (by rfl) ?_ | refine q6 rfl T.d6 T.d4 rfl rfl (m7 mB (n7 (by omega))) ?_
  refine d5 F.C6 rfl rfl (A7 cs hs hca hcb ha) j5 mC fun x _ => ?_; refine a8 rfl (i6 rfl rfl rfl (i6 rfl rfl rfl (b7 rfl (b7 rfl (b3 ?_))))); exact w4 _ x trivial mC (List.Sublist.refl _) (LSub.of_mem fun F h => h)
 refine fun x _ => ?_
 dsimp only
 refine i1 (i9 (i4 (a8 rfl (t3 rfl rfl rfl (b7 rfl (d9 ?_))))))
 first | refine k8 rfl (fun hb1 => ?_) (fun hb1 => ?_) | refine i5 rfl (fun hb1 => ?_) (fun hb1 => ?_)
 ·have hb1' := hb1; try simp at hb1'
  have hE : pathE (trOf cs hs) c = ([], checkT (trOf cs hs)) := by rw [pathE, if_pos hb1]
  refine i4 (a8 rfl (b7 rfl (b7 rfl (d9 (k5 (B7 ?_)))))); refine A4 (α := Int) ?_; exact ret2 (none, 0) rfl rfl rfl (by show Value.tuple #[.slice none (pathE (trOf cs hs) c).1.length 0, int (pathE (trOf cs hs) c).2] = _; rw [hE]; rfl) rfl (by show (pathE (trOf cs hs) c).1.length ≤ 0; rw [hE]; exact Nat.le_refl _) nil_sb (by show LSub _ [Row none (rows (pathE (trOf cs hs) c).1)]; rw [hE]; exact ⟨m0, trivial⟩)
 have hb1' := hb1; try simp at hb1'
 have h0 := Classical.not_not.1 hb1; rw [if_pos h0, if_pos h0]; have hok := Y3 h0; have h6 : cs.length ≤ 6 := hok.c6; have h6h := hok.h6; rw [t0] at h6h; have hcl : ∀ i, i < cs.length → ClsOK cs i := hok.c; obtain ⟨gl, ⟨oa, oc⟩, ⟨ka, kc⟩⟩ := x; show HC _ _ _ _ _ [Row (b8 gl) [.slice A cs.length ca, .slice B hs.length cb, .slice oa cs.length oc, .slice ka hs.length kc], Row oa (rows (masksN cs cs.length)), Row ka (rows (kindsN hs hs.length)), Row A (rows cs), RowsF B hs Hd.row]; refine i4 (a8 rfl ?_)
 first | refine a7 ⟨_, 0, none⟩ rfl rfl T.k0 rfl ?_ | refine a7 _ rfl rfl T.k0 rfl ?_
 first | refine a6 rfl T.b5 rfl (h9 mB rfl) ?_ | refine a6 rfl T.b5 rfl (d8 mB rfl) ?_ | refine a6 rfl T.b5 rfl (d3 mB (b4 (by omega) rfl)) ?_ | refine a6 rfl T.b5 rfl (d1 mB (rows_get (by omega) rfl)) ?_ | refine a6 rfl T.b5 rfl (d7 mB rfl) ?_
 refine k4 rfl T.p8 rfl (J8 _ rfl rfl rfl rfl n5 ?_); refine d5 F.v4 rfl rfl (s7 _ _ _) j5 trivial fun _ _ => ?_; refine B3 rfl rfl (b7 rfl (d9 ?_))
 first | refine k8 rfl (fun hb2 => ?_) (fun hb2 => ?_) | refine i5 rfl (fun hb2 => ?_) (fun hb2 => ?_)
 ·have hb2' := hb2; try simp at hb2'
  have hE : pathE (trOf cs hs) c = ([], 3) := by rw [pathE, if_neg hb1, if_neg (nbw hb2)]
  refine i4 (b7 rfl (b7 rfl (d9 (k5 (B7 ?_))))); refine A4 (α := Int) ?_; exact ret2 (none, 0) rfl rfl rfl (by show Value.tuple #[.slice none (pathE (trOf cs hs) c).1.length 0, int (pathE (trOf cs hs) c).2] = _; rw [hE]; rfl) rfl (by show (pathE (trOf cs hs) c).1.length ≤ 0; rw [hE]; exact Nat.le_refl _) nil_sb (by show LSub _ [Row none (rows (pathE (trOf cs hs) c).1)]; rw [hE]; exact ⟨m0, trivial⟩)
 have hb2' := hb2; try simp at hb2'
 have hin : 0 ≤ c ∧ c ≤ (cs.length : Int) - 1 := bw hb2; have hE : pathE (trOf cs hs) c = (pathT cs c, 0) := by rw [pathE, if_neg hb1]; exact if_pos hin
 refine j3 (n9 (g6 (i4 (a8 rfl (a8 rfl ?_))))); refine d5 F.bB rfl rfl (U9 (A := A) (B := B) (oa := oa) (oc := oc) (ka := ka) (kc := kc) (gl := gl) (ca := ca) (cb := cb) cs hs c hin.1 (by omega) h6 hcl) j5 mC fun y hy => ?_; refine b7 rfl (b7 rfl (d9 (k5 ?_))); exact ret2 y rfl rfl rfl (by show Value.tuple #[.slice y.1 (pathE (trOf cs hs) c).1.length y.2, int (pathE (trOf cs hs) c).2] = _; rw [hE]) rfl (by show (pathE (trOf cs hs) c).1.length ≤ y.2; rw [hE]; exact hy) nil_sb (by show LSub _ [Row y.1 (rows (pathE (trOf cs hs) c).1)]; rw [hE]; exact ⟨m0, trivial⟩)
set_option maxHeartbeats 1000000 in
theorem cC {A B : Option Addr} {ca cb : Nat} (cs : List Cl) (hs : List Hd) (c : Int) (hca : cs.length ≤ ca) (hcb : hs.length ≤ cb) (ha : ∀ h ∈ hs, h.2.2.2.l.length ≤ 1000000) : Meets Tryz.prog F.Y2 [.agg #[.slice A cs.length ca, .slice B hs.length cb], int c] { LI := [Row A (rows cs), RowsF B hs Hd.row], inv := fun x : OutC => (underE (trOf cs hs) c).1.length ≤ x.2, val := fun x => .tuple #[.slice x.1 (underE (trOf cs hs) c).1.length x.2, int (underE (trOf cs hs) c).2], LO := fun x => [Row x.1 (rows (underE (trOf cs hs) c).1)] } := by
 refine i7 F.wF rfl p7 fun w0 => ?_; refine i4 ?_; refine E5 rfl rfl fun gB => ?_; refine b7 rfl (b7 rfl (d9 ?_)); refine B8 ⟨fun _ : Nat × OutC × OutC => True, fun x => [(1, int c), (2, .pointer (b8 gB)), (6, if checkT (trOf cs hs) = 0 then .pointer (some ⟨x.1, 0, none⟩) else .pointer none), (7, int (checkT (trOf cs hs)))], fun _ => [(gB, .cells #[.slice A cs.length ca, .slice B hs.length cb] T.i2 (0, 0))], fun x => (if checkT (trOf cs hs) = 0 then beginL cs hs A ca B cb x else []) ++ [Row A (rows cs), RowsF B hs Hd.row]⟩ ?_ ?_
 ·skip
  refine b9 ?_
  first | refine u6 rfl T.d6 T.d4 rfl mB (by rfl) ?_ | refine t9 rfl T.d6 T.d4 rfl mB (by rfl) ?_ | refine q6 rfl T.d6 T.d4 rfl rfl (m7 mB (n7 (by omega))) ?_
  refine d5 F.C6 rfl rfl (A7 cs hs hca hcb ha) j5 mC fun x _ => ?_; refine a8 rfl (i6 rfl rfl rfl (i6 rfl rfl rfl (b7 rfl (b7 rfl (b3 ?_))))); exact w4 _ x trivial mC (List.Sublist.refl _) (LSub.of_mem fun F h => h)
 refine fun x _ => ?_
 dsimp only
 refine i1 (i9 (i4 (a8 rfl (t3 rfl rfl rfl (b7 rfl (d9 ?_))))))
 first | refine k8 rfl (fun hb1 => ?_) (fun hb1 => ?_) | refine i5 rfl (fun hb1 => ?_) (fun hb1 => ?_)
 ·have hb1' := hb1; try simp at hb1'
  have hE : underE (trOf cs hs) c = ([], checkT (trOf cs hs)) := by rw [underE, if_pos hb1]
  refine i4 (a8 rfl (b7 rfl (b7 rfl (d9 (k5 (B7 ?_)))))); refine A4 (α := Int) ?_; exact ret2 (none, 0) rfl rfl rfl (by show Value.tuple #[.slice none (underE (trOf cs hs) c).1.length 0, int (underE (trOf cs hs) c).2] = _; rw [hE]; rfl) rfl (by show (underE (trOf cs hs) c).1.length ≤ 0; rw [hE]; exact Nat.le_refl _) nil_sb (by show LSub _ [Row none (rows (underE (trOf cs hs) c).1)]; rw [hE]; exact ⟨m0, trivial⟩)
 have hb1' := hb1; try simp at hb1'
 have h0 := Classical.not_not.1 hb1; rw [if_pos h0, if_pos h0]; have hok := Y3 h0; have h6 : cs.length ≤ 6 := hok.c6; have h6h := hok.h6; rw [t0] at h6h; have hcl : ∀ i, i < cs.length → ClsOK cs i := hok.c; obtain ⟨gl, ⟨oa, oc⟩, ⟨ka, kc⟩⟩ := x; show HC _ _ _ _ _ [Row (b8 gl) [.slice A cs.length ca, .slice B hs.length cb, .slice oa cs.length oc, .slice ka hs.length kc], Row oa (rows (masksN cs cs.length)), Row ka (rows (kindsN hs hs.length)), Row A (rows cs), RowsF B hs Hd.row]; refine i4 (a8 rfl ?_)
 first | refine a7 ⟨_, 0, none⟩ rfl rfl T.k0 rfl ?_ | refine a7 _ rfl rfl T.k0 rfl ?_
 first | refine a6 rfl T.b5 rfl (h9 mB rfl) ?_ | refine a6 rfl T.b5 rfl (d8 mB rfl) ?_ | refine a6 rfl T.b5 rfl (d3 mB (b4 (by omega) rfl)) ?_ | refine a6 rfl T.b5 rfl (d1 mB (rows_get (by omega) rfl)) ?_ | refine a6 rfl T.b5 rfl (d7 mB rfl) ?_
 refine k4 rfl T.p8 rfl (J8 _ rfl rfl rfl rfl n5 ?_); refine d5 F.v4 rfl rfl (s7 _ _ _) j5 trivial fun _ _ => ?_; refine B3 rfl rfl (b7 rfl (d9 ?_))
 first | refine k8 rfl (fun hb2 => ?_) (fun hb2 => ?_) | refine i5 rfl (fun hb2 => ?_) (fun hb2 => ?_)
 ·have hb2' := hb2; try simp at hb2'
  have hE : underE (trOf cs hs) c = ([], 3) := by rw [underE, if_neg hb1, if_neg (nbw hb2)]
  refine i4 (b7 rfl (b7 rfl (d9 (k5 (B7 ?_))))); refine A4 (α := Int) ?_; exact ret2 (none, 0) rfl rfl rfl (by show Value.tuple #[.slice none (underE (trOf cs hs) c).1.length 0, int (underE (trOf cs hs) c).2] = _; rw [hE]; rfl) rfl (by show (underE (trOf cs hs) c).1.length ≤ 0; rw [hE]; exact Nat.le_refl _) nil_sb (by show LSub _ [Row none (rows (underE (trOf cs hs) c).1)]; rw [hE]; exact ⟨m0, trivial⟩)
 have hb2' := hb2; try simp at hb2'
 have hin : 0 ≤ c ∧ c ≤ (cs.length : Int) - 1 := bw hb2; have hE : underE (trOf cs hs) c = (underT (trOf cs hs) c, 0) := by rw [underE, if_neg hb1]; exact if_pos hin
 have hln := t0 cs hs; refine j3 (n9 (g6 (i4 (b7 rfl (d9 (i1 (i4 (a8 rfl ?_)))))))); refine l9 rfl rfl ?_
 first | refine a7 ⟨_, 3, none⟩ rfl rfl T.j9 rfl ?_ | refine a7 _ rfl rfl T.j9 rfl ?_
 first | refine a6 rfl T.b6 rfl (h9 mB rfl) ?_ | refine a6 rfl T.b6 rfl (d8 mB rfl) ?_ | refine a6 rfl T.b6 rfl (d3 mB (b4 (by omega) rfl)) ?_ | refine a6 rfl T.b6 rfl (d1 mB (rows_get (by omega) rfl)) ?_ | refine a6 rfl T.b6 rfl (d7 mB rfl) ?_
 refine k4 rfl T.r8 rfl ?_; refine a8 rfl (d9 (i9 ?_)); refine p6 (β := Nat × OutC × Hp) ⟨fun x => x.1 ≤ hs.length ∧ Grow T.int 1 x.2.1.1 (underK (trOf cs hs) c x.1).length x.2.1.2 (rows (underK (trOf cs hs) c x.1)) x.2.2, fun x => [(1, int c), (6, .pointer (b8 gl)), (8, .slice x.2.1.1 (underK (trOf cs hs) c x.1).length x.2.1.2), (33, .slice ka hs.length kc), (34, int hs.length), (35, int x.1)], fun x => x.2.2, fun _ => [Row (b8 gl) [.slice A cs.length ca, .slice B hs.length cb, .slice oa cs.length oc, .slice ka hs.length kc], Row oa (rows (masksN cs cs.length)), Row ka (rows (kindsN hs hs.length))]⟩ (fun x => hs.length - x.1) (0, (none, 0), []) ⟨Nat.zero_le _, Grow.nil _ _⟩ mC nil_sb mC fun x hx => ?_; obtain ⟨k, ⟨na, nc⟩, og⟩ := x; obtain ⟨hk, hG⟩ := hx; simp only at hk hG; refine i4 (t7 rfl rfl rfl (d9 (i1 ?_)))
 first | refine k8 rfl (fun hb3 => ?_) (fun hb3 => ?_) | refine i5 rfl (fun hb3 => ?_) (fun hb3 => ?_)
 ·have hb3' := hb3; try simp at hb3'
  have hk2 : k < hs.length := by omega
  have hul := bj1 (trOf cs hs) c k; have huc := zS (trOf cs hs) c k; have hua := uB_at (cs := cs) c hk2; have hia := art_is hok hk2; have hcc := cls_in hok hk2; have hac := art_cls (h := hs.getD k default); refine j3 (g6 (i1 (i9 (i4 (a8 rfl ?_))))); refine r9 (α := Kd) (kindsN hs hs.length) k rfl T.r8 T.E1 rfl rfl rfl mB (t6 (Nat.le_refl _)).symm (by rw [t6 (Nat.le_refl _)]; exact hk2) (by decide) ?_; refine a6 (v := (kindOf (hs.getD k default)).v) rfl T.C1 rfl (d3 mB (b4 (by rw [t6 (Nat.le_refl _)]; exact hk2) (by rw [U0 hk2]; rfl))) ?_; refine b7 rfl (b7 rfl (j8 (a8 rfl ?_))); refine r_asA (kd := (kindOf (hs.getD k default))) rfl rfl rfl ?_; refine a8 rfl (i6 rfl rfl rfl (i6 rfl rfl rfl ?_)); refine r7 rfl (fun _ => T.gW _) fun gA => ?_; refine r4 (cs := #[int (kindOf (hs.getD k default)).cls, .slice (kindOf (hs.getD k default)).als.a (kindOf (hs.getD k default)).als.l.length (kindOf (hs.getD k default)).als.c]) rfl rfl (.refl _) T.dW (by rfl) (by rfl) ?_; refine b7 rfl (d9 ?_); refine B8 ⟨fun _ : Unit => True, fun _ => [(1, int c), (6, .pointer (b8 gl)), (8, .slice (na, nc).1 (underK (trOf cs hs) c k).length (na, nc).2), (33, .slice ka hs.length kc), (34, int hs.length), (35, int k), (9, int k), (57, .bool (uB (trOf cs hs) c k))], fun _ => og, fun _ => [Row (b8 gl) [.slice A cs.length ca, .slice B hs.length cb, .slice oa cs.length oc, .slice ka hs.length kc], Row oa (rows (masksN cs cs.length)), Row ka (rows (kindsN hs hs.length))]⟩ ?_ ?_
  ·skip
   refine D9 ?_; refine G1 (og) ([]) (by first | (rw [List.append_nil]; done) | (rw [List.append_nil]; exact List.Perm.refl _)) 11 [] mixed (by decide) (by decide) (by decide) rfl rfl rfl ?_; refine l3 (fun w1 => a8 rfl (q_z rfl)) (l3 (fun w1 => a8 rfl (q_z rfl)) ?_); refine rG (t := 46) (want := true) rfl ?_ ?_
   ·intro hg1; have hg1' := hg1; try simp at hg1'
    have hA : (kindOf (hs.getD k default)).isA = true := by simpa using hg1
    have hcl2 := hac hA; rw [hia, decide_eq_true_eq] at hA; have hnn : 0 ≤ (hs.getD k default).2.1 := by omega
    apply n6 _ rfl rfl rfl
    ·intro w1; refine i3 rfl rfl hg1 (a8 rfl (b3 ?_)); exact j7 rfl
    apply n6 _ rfl rfl rfl
    ·intro w1; refine i3 rfl rfl hg1 (l9 rfl rfl (b3 ?_)); exact j7 rfl
    apply n6 _ rfl rfl rfl
    ·intro w1; refine i3 rfl rfl hg1 ?_
     first | refine a7 ⟨_, 2, none⟩ rfl rfl T.u7 rfl ?_ | refine a7 _ rfl rfl T.u7 rfl ?_
     refine b3 ?_; exact j7 rfl
    apply n6 _ rfl rfl rfl
    ·intro w1; refine i3 rfl rfl hg1 ?_
     first | refine a6 rfl T.k7 rfl (d8 mB rfl) ?_ | refine a6 rfl T.k7 rfl (h9 mB rfl) ?_ | refine a6 rfl T.k7 rfl (d3 mB (b4 (by omega) rfl)) ?_ | refine a6 rfl T.k7 rfl (d1 mB (rows_get (by omega) rfl)) ?_ | refine a6 rfl T.k7 rfl (d7 mB rfl) ?_
     refine b3 ?_; exact j7 rfl
    apply n6 _ rfl rfl rfl
    ·intro w1; refine i3 rfl rfl hg1 ?_
     first | refine a7 ⟨_, 0, none⟩ rfl rfl T.bS rfl ?_ | refine a7 _ rfl rfl T.bS rfl ?_
     refine b3 ?_; exact j7 rfl
    apply n6 _ rfl rfl rfl
    ·intro w1; refine i3 rfl rfl hg1 ?_
     first | refine a6 rfl T.b2 rfl (d8 mB rfl) ?_ | refine a6 rfl T.b2 rfl (h9 mB rfl) ?_ | refine a6 rfl T.b2 rfl (d3 mB (b4 (by omega) rfl)) ?_ | refine a6 rfl T.b2 rfl (d1 mB (rows_get (by omega) rfl)) ?_ | refine a6 rfl T.b2 rfl (d7 mB rfl) ?_
     refine b3 ?_; exact j7 rfl
    apply n6 _ rfl rfl rfl
    ·intro w1; refine i3 rfl rfl hg1 ?_; refine r9 (α := Nat) (masksN cs cs.length) (hs.getD k default).2.1.toNat rfl T.H8 T.J2 rfl rfl (by rw [hcl2]; exact (Int.toNat_of_nonneg hnn).symm) mB (E6 _ _).symm (by rw [E6]; omega) (by decide) ?_; refine b3 ?_; exact j7 rfl
    apply n6 _ rfl rfl rfl
    ·intro w1; refine i3 rfl rfl hg1 ?_; refine a6 (v := u8 (maskOf (pathT cs (hs.getD k default).2.1))) rfl T.G9 rfl (d3 mB (b4 (by rw [E6]; omega) (by rw [gP (by omega), Int.toNat_of_nonneg hnn]; rfl))) ?_; refine b3 ?_; exact j7 rfl
    apply n6 _ rfl rfl rfl
    ·intro w1; refine i3 rfl rfl hg1 (a8 rfl (b3 ?_)); exact j7 rfl
    refine w5 ⟨rfl, ?_⟩; refine i3 rfl rfl hg1 ?_; refine d5 (vs := [u8 (maskOf (pathT cs (hs.getD k default).2.1)), int (c.toNat : Int)]) F.L7 rfl (by rw [Int.toNat_of_nonneg hin.1]; rfl) (J1 (maskOf (pathT cs (hs.getD k default).2.1)) c.toNat (lO h6 hcl hcc.2) (by omega)) j5 trivial fun _ _ => ?_; refine p_t rfl rfl (bt1 hg1) rfl ?_; refine b3 ?_; exact w4 _ () trivial ⟨rfl, rfl, rfl, rfl, rfl, rfl, rfl, congrArg (fun b => some (Value.bool b)) (by rw [hua, decide_eq_true hA, Bool.true_and, lN (fun x hx => ((kR cs hcl (hs.getD k default).2.1.toNat _ (Nat.le_refl _) hcc.2).2 x hx).1), Int.toNat_of_nonneg hin.1]), trivial⟩ (by first | (rw [List.append_nil]; exact List.Sublist.refl _) | (show List.Sublist og (og ++ []); rw [List.append_nil]; exact List.Sublist.refl _)) mC
   intro hg1; have hg1' := hg1; try simp at hg1'
   have hA : (kindOf (hs.getD k default)).isA = false := by simpa using hg1
   rw [hia] at hA; refine l3 (fun w1 => q7 rfl rfl rfl rfl rfl hg1 (q_z rfl)) (l3 (fun w1 => q7 rfl rfl rfl rfl rfl hg1 (q_z rfl)) (l3 (fun w1 => q7 rfl rfl rfl rfl rfl hg1 (q_z rfl)) (l3 (fun w1 => q7 rfl rfl rfl rfl rfl hg1 (q_z rfl)) (l3 (fun w1 => q7 rfl rfl rfl rfl rfl hg1 (q_z rfl)) (l3 (fun w1 => q7 rfl rfl rfl rfl rfl hg1 (q_z rfl)) (l3 (fun w1 => q7 rfl rfl rfl rfl rfl hg1 (q_z rfl)) (l3 (fun w1 => q7 rfl rfl rfl rfl rfl hg1 (q_z rfl)) ?_))))))); refine l3 (fun w1 => q7 rfl rfl rfl rfl rfl hg1 (q_z rfl)) ?_; refine w5 ⟨rfl, ?_⟩; refine q7 rfl rfl rfl rfl rfl hg1 (p_f rfl rfl (bf2 hg1) rfl ?_); refine b3 ?_; exact w4 _ () trivial ⟨rfl, rfl, rfl, rfl, rfl, rfl, rfl, congrArg (fun b => some (Value.bool b)) (by rw [hua, hA, Bool.false_and]), trivial⟩ (by first | (rw [List.append_nil]; exact List.Sublist.refl _) | (show List.Sublist og (og ++ []); rw [List.append_nil]; exact List.Sublist.refl _)) mC
  refine fun _ _ => ?_
  first | refine k8 rfl (fun hb4 => ?_) (fun hb4 => ?_) | refine i5 rfl (fun hb4 => ?_) (fun hb4 => ?_)
  ·have hb4' := hb4; try simp at hb4'
   rw [if_pos hb4] at huc; refine b9 (a8 rfl (a8 rfl ?_)); refine j4 _ rfl rfl (fun _ => T.v0 ..) fun gS => ?_; refine n0 (rows [(k : Int)]) (List.prefix_refl _) ?_; refine B6 ((underK (trOf cs hs) c k).length + 1) (rows ((underK (trOf cs hs) c k) ++ [(k : Int)])) T.iO rfl rfl rfl hG (hp' := []) (by first | (rw [List.append_nil]; done) | (rw [List.append_nil]; exact List.Perm.refl _)) (Src.row (news := rows [(k : Int)]) (m := 1) m0 rfl (A9 _) (by decide)) rfl (s9 _ _).symm (by unfold maxLen; omega) (by omega) fun A' c' og' hG' => ?_; refine b7 rfl (b3 (n9 (g6 (b9 ?_)))); refine q9 _ rfl rfl rfl rfl n5 ?_; refine a8 rfl (b3 ?_); exact again _ (k + 1, (A', c'), og') ⟨by show k + 1 ≤ hs.length; omega, by show Grow _ _ _ (underK (trOf cs hs) c (k + 1)).length _ (rows (underK (trOf cs hs) c (k + 1))) _; rw [huc, List.length_append]; exact hG'⟩ (r6 (by omega)) ⟨rfl, rfl, by show some (Value.slice A' ((underK (trOf cs hs) c k).length + 1) c') = some (Value.slice A' (underK (trOf cs hs) c (k + 1)).length c'); rw [huc, List.length_append]; rfl, rfl, rfl, rfl, trivial⟩ (List.sublist_append_left _ _) mC
  have hb4' := hb4; try simp at hb4'
  rw [if_neg (by rw [hb4]; decide)] at huc; refine j3 (n9 (g6 (b9 ?_))); refine q9 _ rfl rfl rfl rfl n5 ?_; refine a8 rfl (b3 ?_); exact again _ (k + 1, (na, nc), og) ⟨by show k + 1 ≤ hs.length; omega, by show Grow _ _ _ (underK (trOf cs hs) c (k + 1)).length _ (rows (underK (trOf cs hs) c (k + 1))) _; rw [huc]; exact hG⟩ (r6 (by omega)) ⟨rfl, rfl, by show some (Value.slice na (underK (trOf cs hs) c k).length nc) = some (Value.slice na (underK (trOf cs hs) c (k + 1)).length nc); rw [huc], rfl, rfl, rfl, trivial⟩ (List.Sublist.refl _) mC
 have hb3' := hb3; try simp at hb3'
 obtain rfl : k = hs.length := by omega
 have hG2 := hG; rw [show (underK (trOf cs hs) c hs.length) = underT (trOf cs hs) c from by rw [← uG, hln]] at hG2; refine n2 (t4 (n1 (g6 (i4 (a8 rfl (b7 rfl (b7 rfl (d9 ?_)))))))); refine k5 (Q4 hG2 ?_); exact ret2 (na, nc) rfl rfl rfl (by show Value.tuple #[.slice na (underE (trOf cs hs) c).1.length nc, int (underE (trOf cs hs) c).2] = Value.tuple #[.slice na (underK (trOf cs hs) c hs.length).length nc, int 0]; rw [hE, show (underK (trOf cs hs) c hs.length) = underT (trOf cs hs) c from by rw [← uG, hln]]) rfl (by show (underE (trOf cs hs) c).1.length ≤ nc; rw [hE]; exact hG2.le) nil_sb (by show LSub _ [Row na (rows (underE (trOf cs hs) c).1)]; rw [hE]; exact ⟨m0, trivial⟩)
end Go.Proofs.YtfhninnleacgiaaGreat
end
section
namespace Go.Proofs.YtfhninnleacgiaaGreat
open Go Go.W
set_option maxRecDepth 20000
attribute [local irreducible] HL HC HQ HB Row Rows2 Blk Facts
def meansE (t : Tr) (b : Str) (i : Int) : Int × Int := if ¬ askE t [i] = 0 then (0, askE t [i]) else if isTrB t i = false then (0, 8) else if ¬ i ∈ mayT t b then (2, 0) else if (mayT t b).length = 1 then (1, 0) else (3, 0)
theorem dZ {A : Option Addr} {c : Nat} (l : List Int) (s : Int) (hl : l.length ≤ 1000000) : Meets Tryz.prog F.S5 [.slice A l.length c, int s] { LI := [Row A (rows l)], inv := fun z : Int => AtInv l s z, val := fun z => int z } := by
 refine i7 F.mG rfl p7 fun w0 => ?_; refine i4 (b7 rfl (d9 (i1 (i4 (a8 rfl ?_))))); refine k4 rfl T.s5 rfl ?_; refine a8 rfl (d9 (i9 ?_)); refine p6 (β := Nat) ⟨fun k => k ≤ l.length ∧ s ∉ l.take k, fun k => [(0, .slice A l.length c), (1, int s), (7, int l.length), (8, int k)], fun _ => [], fun _ => [Row A (rows l)]⟩ (fun k => l.length - k) 0 ⟨Nat.zero_le _, by simp⟩ mC nil_sb mC fun k hk => ?_; obtain ⟨hk, ht⟩ := hk; refine i4 (t7 rfl rfl rfl (d9 (i1 ?_)))
 first | refine k8 rfl (fun hb1 => ?_) (fun hb1 => ?_) | refine i5 rfl (fun hb1 => ?_) (fun hb1 => ?_)
 ·have hb1' := hb1; try simp at hb1'
  have hk2 : k < l.length := by omega
  refine j3 (g6 (i1 (i9 (i4 (a8 rfl (b7 rfl (j8 ?_))))))); refine a8 rfl (a8 rfl (a8 rfl ?_)); refine r9 (α := Int) _ _ rfl T.s5 T.v6 rfl rfl rfl mB rfl (by omega) (by decide) (a6 rfl T.b2 rfl (d3 mB (b4 (by omega) rfl)) ?_); refine G0 rfl rfl rfl (d9 ?_)
  first | refine k8 rfl (fun hb2 => ?_) (fun hb2 => ?_) | refine i5 rfl (fun hb2 => ?_) (fun hb2 => ?_)
  ·have hb2' := hb2; try simp at hb2'
   refine i4 (a8 rfl (b7 rfl (d9 (k5 (B7 (z8 (B7 ?_))))))); exact ret1 (k : Int) rfl rfl rfl (jq4 hk2 hb2.symm ht) nil_sb trivial
  have hb2' := hb2; try simp at hb2'
  refine j3 (n9 (g6 (b9 ?_))); refine q9 _ rfl rfl rfl rfl n5 ?_; refine a8 rfl (b3 ?_); exact again _ (k + 1) ⟨by omega, by rw [s4 l k hk2]; simp only [List.mem_append, List.mem_singleton, not_or]; exact ⟨ht, hb2⟩⟩ (r6 (by omega)) mC nil_sb mC
 have hb1' := hb1; try simp at hb1'
 obtain rfl : k = l.length := by omega
 rw [List.take_length] at ht; refine n2 (t4 (n1 (g6 (i4 (b7 rfl (d9 (k5 ?_))))))); exact ret1 (-1) rfl rfl rfl (at_none ht) nil_sb trivial
theorem bI {A : Option Addr} {c : Nat} (l : List Int) (s : Int) (hl : l.length ≤ 1000000) : Meets Tryz.prog F.M1 [.slice A l.length c, int s] { LI := [Row A (rows l)], val := fun _ : Unit => .bool (decide (s ∈ l)) } := by
 refine i7 F.iC rfl p7 fun w0 => ?_; refine i4 (b7 rfl (j8 (a8 rfl (a8 rfl ?_)))); refine d5 F.kI rfl rfl (dZ l s hl) j5 mC fun z hz => ?_; refine bM rfl rfl rfl (b7 rfl (d9 (k5 ?_))); exact ret1 () rfl (congrArg (fun b => some (Value.bool b)) (decide_eq_decide.2 hz.1)) rfl trivial nil_sb trivial
set_option maxHeartbeats 1000000 in
theorem L4 {A B : Option Addr} {ca cb : Nat} (cs : List Cl) (hs : List Hd) (b : Str) (i : Int) (hca : cs.length ≤ ca) (hcb : hs.length ≤ cb) (ha : ∀ h ∈ hs, h.2.2.2.l.length ≤ 1000000) : Meets Tryz.prog F.L8 [.agg #[.slice A cs.length ca, .slice B hs.length cb], str b, int i] { LI := [Row A (rows cs), RowsF B hs Hd.row], val := fun _ : Unit => .tuple #[int (meansE (trOf cs hs) b i).1, int (meansE (trOf cs hs) b i).2] } := by
 refine i7 F.wI rfl p7 fun w0 => ?_; refine i4 ?_; refine E5 rfl rfl fun gB => ?_; refine b7 rfl (b7 rfl (d9 ?_)); refine B8 ⟨fun _ : Nat × OutC × OutC => True, fun x => [(1, str b), (2, int i), (3, .pointer (b8 gB)), (8, if askE (trOf cs hs) [i] = 0 then .pointer (some ⟨x.1, 0, none⟩) else .pointer none), (9, int (askE (trOf cs hs) [i]))], fun _ => [(gB, .cells #[.slice A cs.length ca, .slice B hs.length cb] T.i2 (0, 0))], fun x => (if askE (trOf cs hs) [i] = 0 then beginL cs hs A ca B cb x else []) ++ [Row A (rows cs), RowsF B hs Hd.row]⟩ ?_ ?_
 ·skip
  refine b9 ?_
  first | refine u6 rfl T.d6 T.d4 rfl mB (by rfl) ?_ | refine t9 rfl T.d6 T.d4 rfl mB (by rfl) ?_ | refine q6 rfl T.d6 T.d4 rfl rfl (m7 mB (n7 (by omega))) ?_
  refine a8 rfl ?_; refine j4 _ rfl rfl (fun _ => T.v0 ..) fun gS => ?_; refine n0 (rows [i]) (List.prefix_refl _) ?_; refine d5 F.K0 rfl rfl (E7 cs hs [i] hca hcb ha (by simp)) j5 mC fun x _ => ?_; refine a8 rfl (i6 rfl rfl rfl (i6 rfl rfl rfl (b7 rfl (b7 rfl (b3 ?_))))); exact w4 _ x trivial mC (List.Sublist.refl _) (LSub.of_mem fun F hF => (List.mem_append.1 hF).elim (fun h1 => List.mem_append_left _ h1) (fun h2 => List.mem_append_right _ (List.mem_cons_of_mem _ h2)))
 refine fun x _ => ?_
 dsimp only
 refine i1 (i9 (i4 (a8 rfl (t3 rfl rfl rfl (b7 rfl (d9 ?_))))))
 first | refine k8 rfl (fun hb1 => ?_) (fun hb1 => ?_) | refine i5 rfl (fun hb1 => ?_) (fun hb1 => ?_)
 ·have hb1' := hb1; try simp at hb1'
  refine i4 (a8 rfl (b7 rfl (b7 rfl (d9 (k5 (B7 ?_)))))); exact ret2 () rfl rfl rfl (by show Value.tuple #[int (meansE (trOf cs hs) b i).1, int (meansE (trOf cs hs) b i).2] = _; rw [show meansE (trOf cs hs) b i = (0, askE (trOf cs hs) [i]) by unfold meansE; rw [if_pos hb1]]) rfl trivial nil_sb trivial
 have hb1' := hb1; try simp at hb1'
 have h0 := Classical.not_not.1 hb1; rw [if_pos h0, if_pos h0]; have hch := Q6 h0; have hin := pK h0 (List.mem_singleton.2 rfl); rw [t0] at hin; have hok := Y3 hch; have h6 : cs.length ≤ 6 := hok.c6; have h6h := hok.h6; rw [t0] at h6h; have hcl : ∀ i, i < cs.length → ClsOK cs i := hok.c; obtain ⟨gl, ⟨oa, oc⟩, ⟨ka, kc⟩⟩ := x; have hln := t0 cs hs; show HC _ _ _ _ _ [Row (b8 gl) [.slice A cs.length ca, .slice B hs.length cb, .slice oa cs.length oc, .slice ka hs.length kc], Row oa (rows (masksN cs cs.length)), Row ka (rows (kindsN hs hs.length)), Row A (rows cs), RowsF B hs Hd.row]; refine J4 (ps := hs) (A := B) (f := Hd.row) mB ?_; refine i4 (a8 rfl (a8 rfl ?_)); refine d5 F.H1 rfl rfl (E0 (A := A) (B := B) (oa := oa) (ka := ka) (ca := ca) (cb := cb) (oc := oc) (kc := kc) (gl := gl) cs hs i hin.1 (by omega) (by omega)) j5 mC fun _ _ => ?_; refine B3 rfl rfl (b7 rfl (d9 ?_))
 first | refine k8 rfl (fun hb2 => ?_) (fun hb2 => ?_) | refine i5 rfl (fun hb2 => ?_) (fun hb2 => ?_)
 ·have hb2' := hb2; try simp at hb2'
  have h2 : isTrB (trOf cs hs) i = false := by simpa using hb2
  refine i4 (b7 rfl (b7 rfl (d9 (k5 (B7 ?_))))); exact ret2 () rfl rfl rfl (by show Value.tuple #[int (meansE (trOf cs hs) b i).1, int (meansE (trOf cs hs) b i).2] = _; rw [show meansE (trOf cs hs) b i = (0, 8) by unfold meansE; rw [if_neg hb1, if_pos h2]]) rfl trivial nil_sb trivial
 have hb2' := hb2; try simp at hb2'
 have h2 : ¬ isTrB (trOf cs hs) i = false := fun e => by rw [e] at hb2; cases hb2
 refine j3 (n9 (g6 (i4 (a8 rfl (a8 rfl ?_))))); refine d5 F.L3 rfl rfl (H9 (A := A) (B := B) (oa := oa) (ka := ka) (ca := ca) (cb := cb) (oc := oc) (kc := kc) (gl := gl) cs hs b hok) j5 mC fun y hy => ?_
 have hml : (mayT (trOf cs hs) b).length ≤ 6 := by
   unfold mayT; rw [List.length_map]; refine Nat.le_trans (List.length_filter_le _ _) ?_; rw [List.length_range, hln]
   omega
 refine b7 rfl (d9 (i1 (i9 (i4 (a8 rfl (a8 rfl ?_)))))); refine d5 F.gG rfl rfl (bI (mayT (trOf cs hs) b) i (by omega)) j5 mC fun _ _ => ?_; refine B3 rfl rfl (b7 rfl (d9 ?_))
 first | refine k8 rfl (fun hb3 => ?_) (fun hb3 => ?_) | refine i5 rfl (fun hb3 => ?_) (fun hb3 => ?_)
 ·have hb3' := hb3; try simp at hb3'
  have h3 : ¬ i ∈ mayT (trOf cs hs) b := by simpa using hb3
  refine i4 (b7 rfl (b7 rfl (d9 (k5 (B7 ?_))))); exact ret2 () rfl rfl rfl (by show Value.tuple #[int (meansE (trOf cs hs) b i).1, int (meansE (trOf cs hs) b i).2] = _; rw [show meansE (trOf cs hs) b i = (2, 0) by unfold meansE; rw [if_neg hb1, if_neg h2, if_pos h3]]) rfl trivial nil_sb trivial
 have hb3' := hb3; try simp at hb3'
 have h3 : ¬ ¬ i ∈ mayT (trOf cs hs) b := fun e => by rw [decide_eq_false e] at hb3; cases hb3
 refine i4 (a8 rfl ?_); refine k4 rfl T.s5 rfl ?_; refine G0 rfl rfl rfl (b7 rfl (d9 ?_))
 first | refine k8 rfl (fun hb4 => ?_) (fun hb4 => ?_) | refine i5 rfl (fun hb4 => ?_) (fun hb4 => ?_)
 ·have hb4' := hb4; try simp at hb4'
  refine i4 (b7 rfl (b7 rfl (d9 (k5 (B7 ?_))))); exact ret2 () rfl rfl rfl (by show Value.tuple #[int (meansE (trOf cs hs) b i).1, int (meansE (trOf cs hs) b i).2] = _; rw [show meansE (trOf cs hs) b i = (1, 0) by unfold meansE; rw [if_neg hb1, if_neg h2, if_neg h3, if_pos (by omega)]]) rfl trivial nil_sb trivial
 have hb4' := hb4; try simp at hb4'
 refine j3 (n9 (g6 (i4 (b7 rfl (b7 rfl (d9 (k5 ?_))))))); exact ret2 () rfl rfl rfl (by show Value.tuple #[int (meansE (trOf cs hs) b i).1, int (meansE (trOf cs hs) b i).2] = _; rw [show meansE (trOf cs hs) b i = (3, 0) by unfold meansE; rw [if_neg hb1, if_neg h2, if_neg h3, if_neg (by omega)]]) rfl trivial nil_sb trivial
end Go.Proofs.YtfhninnleacgiaaGreat
end
section
namespace Go.Proofs.YtfhninnleacgiaaGreat
open Go Go.W
set_option maxRecDepth 20000
attribute [local irreducible] HL HC HQ HB Row Rows2 Blk Facts
abbrev shX (a b : Nat) : Tr := trOf shopsC (shopsH a b)
theorem iq1 (a b : Nat) : pathE (shX a b) 3 = ([2, 3], 0) := by kernel_rfl
theorem iq2 (a b : Nat) : pathE (shX a b) 0 = ([0], 0) := by kernel_rfl
theorem dz6 (a b : Nat) : leastE (shX a b) 1 3 = (-1, 0) := by kernel_rfl
theorem dz5 (a b : Nat) : leastE (shX a b) 3 3 = (3, 0) := by kernel_rfl
theorem dx8 (a b : Nat) : underE (shX a b) 0 = ([0, 2], 0) := by kernel_rfl
theorem dx7 (a b : Nat) : underE (shX a b) 3 = ([3], 0) := by kernel_rfl
theorem bx4 (a b : Nat) : followE (shX a b) 0 = (0, 0, 0) := by kernel_rfl
theorem bx2 (a b : Nat) : hiddenE (shX a b) 4 1 = ([0, 2], 0) := by kernel_rfl
theorem bx3 (a b : Nat) : hiddenE (shX a b) 4 0 = ([0, 2, 3], 0) := by kernel_rfl
theorem dz4 (a b : Nat) : meansE (shX a b) [98] 0 = (3, 0) := by kernel_rfl
theorem dz3 (a b : Nat) : meansE (shX a b) [98, 111] 3 = (1, 0) := by kernel_rfl
theorem dz2 (a b : Nat) : meansE (shX a b) [120] 3 = (2, 0) := by kernel_rfl
theorem dx9 (a b : Nat) : shortE (shX a b) 5 = ([109, 105], 0) := by kernel_rfl
theorem dz0 (a b : Nat) : shortE (shX a b) 3 = ([104], 0) := by kernel_rfl
theorem iq5 (a b : Nat) : joinE (shX a b) 4 1 = ([[4, 0], [4, 2]], 0) := by kernel_rfl
theorem iq4 (a b : Nat) : joinE (shX a b) 4 2 = ([[4, 2]], 0) := by kernel_rfl
def shC1 : List Cl := shopsC.set 1 ((shopsC.getD 1 default).1, 3)
def shH2 (a b : Nat) : List Hd := (shopsH a b).set 5 (((shopsH a b).getD 5 default).1, -1, 5, ⟨none, 0, []⟩)
def shH3 (a b : Nat) : List Hd := ((shopsH a b).set 3 ([109, 101, 114, 99, 101, 114], 2, -1, ⟨none, 0, []⟩)).set 4 ([104, 97, 116, 116, 101, 114], 3, -1, ⟨none, 0, []⟩)
def shH4 (a b : Nat) : List Hd := (shopsH a b).set 1 (((shopsH a b).getD 1 default).1, 0, 3, ⟨none, 0, []⟩)
def shH5 (a b : Nat) : List Hd := (shopsH a b).set 1 (((shopsH a b).getD 1 default).1, -1, 5, ⟨none, 0, []⟩)
theorem kv_chk1 (a b : Nat) : checkT (trOf shC1 (shopsH a b)) = 5 := by kernel_rfl
theorem kv_chk2 (a b : Nat) : checkT (trOf shopsC (shH2 a b)) = 9 := by kernel_rfl
theorem kv_chk3 (a b : Nat) : checkT (trOf shopsC (shH3 a b)) = 5 := by kernel_rfl
theorem kv_chk4 (a b : Nat) : checkT (trOf shopsC (shH4 a b)) = 8 := by kernel_rfl
end Go.Proofs.YtfhninnleacgiaaGreat
end
section
namespace Go.Proofs.YtfhninnleacgiaaGreat
open Go Go.W
set_option maxRecDepth 20000
attribute [local irreducible] HL HC HQ HB Row Rows2 Blk Facts
theorem iz9 (x : Nat × Nat × Nat × Nat) : Meets Tryz.prog F.bE [.agg #[.slice (some ⟨x.1, 0, none⟩) 4 4, .slice (some ⟨x.2.1, 0, none⟩) 6 6], int 3] { LI := [Row (some ⟨x.1, 0, none⟩) (rows shopsC), RowsF (some ⟨x.2.1, 0, none⟩) (shopsH x.2.2.1 x.2.2.2) Hd.row], inv := fun y : OutC => 2 ≤ y.2, val := fun y => .tuple #[.slice y.1 2 y.2, int 0], LO := fun y => [Row y.1 (rows ([2, 3] : List Int))] } := by
  have h := dR (A := some ⟨x.1, 0, none⟩) (B := some ⟨x.2.1, 0, none⟩) (ca := 4) (cb := 6) shopsC (shopsH x.2.2.1 x.2.2.2) 3 (by decide) (Nat.le_refl 6) (by intro h hh; simp only [shopsH, List.mem_cons, List.not_mem_nil, or_false] at hh; rcases hh with rfl | rfl | rfl | rfl | rfl | rfl <;> first | decide | exact (show 1 ≤ 1000000 by decide)); rw [show pathE (trOf shopsC (shopsH x.2.2.1 x.2.2.2)) 3 = ([2, 3], 0) from iq1 _ _] at h; exact h
theorem jj0 (x : Nat × Nat × Nat × Nat) : Meets Tryz.prog F.bE [.agg #[.slice (some ⟨x.1, 0, none⟩) 4 4, .slice (some ⟨x.2.1, 0, none⟩) 6 6], int 0] { LI := [Row (some ⟨x.1, 0, none⟩) (rows shopsC), RowsF (some ⟨x.2.1, 0, none⟩) (shopsH x.2.2.1 x.2.2.2) Hd.row], inv := fun y : OutC => 1 ≤ y.2, val := fun y => .tuple #[.slice y.1 1 y.2, int 0], LO := fun y => [Row y.1 (rows ([0] : List Int))] } := by
  have h := dR (A := some ⟨x.1, 0, none⟩) (B := some ⟨x.2.1, 0, none⟩) (ca := 4) (cb := 6) shopsC (shopsH x.2.2.1 x.2.2.2) 0 (by decide) (Nat.le_refl 6) (by intro h hh; simp only [shopsH, List.mem_cons, List.not_mem_nil, or_false] at hh; rcases hh with rfl | rfl | rfl | rfl | rfl | rfl <;> first | decide | exact (show 1 ≤ 1000000 by decide)); rw [show pathE (trOf shopsC (shopsH x.2.2.1 x.2.2.2)) 0 = ([0], 0) from iq2 _ _] at h; exact h
theorem gq4 (x : Nat × Nat × Nat × Nat) : Meets Tryz.prog F.Y2 [.agg #[.slice (some ⟨x.1, 0, none⟩) 4 4, .slice (some ⟨x.2.1, 0, none⟩) 6 6], int 0] { LI := [Row (some ⟨x.1, 0, none⟩) (rows shopsC), RowsF (some ⟨x.2.1, 0, none⟩) (shopsH x.2.2.1 x.2.2.2) Hd.row], inv := fun y : OutC => 2 ≤ y.2, val := fun y => .tuple #[.slice y.1 2 y.2, int 0], LO := fun y => [Row y.1 (rows ([0, 2] : List Int))] } := by
  have h := cC (A := some ⟨x.1, 0, none⟩) (B := some ⟨x.2.1, 0, none⟩) (ca := 4) (cb := 6) shopsC (shopsH x.2.2.1 x.2.2.2) 0 (by decide) (Nat.le_refl 6) (by intro h hh; simp only [shopsH, List.mem_cons, List.not_mem_nil, or_false] at hh; rcases hh with rfl | rfl | rfl | rfl | rfl | rfl <;> first | decide | exact (show 1 ≤ 1000000 by decide)); rw [show underE (trOf shopsC (shopsH x.2.2.1 x.2.2.2)) 0 = ([0, 2], 0) from dx8 _ _] at h; exact h
theorem gq3 (x : Nat × Nat × Nat × Nat) : Meets Tryz.prog F.Y2 [.agg #[.slice (some ⟨x.1, 0, none⟩) 4 4, .slice (some ⟨x.2.1, 0, none⟩) 6 6], int 3] { LI := [Row (some ⟨x.1, 0, none⟩) (rows shopsC), RowsF (some ⟨x.2.1, 0, none⟩) (shopsH x.2.2.1 x.2.2.2) Hd.row], inv := fun y : OutC => 1 ≤ y.2, val := fun y => .tuple #[.slice y.1 1 y.2, int 0], LO := fun y => [Row y.1 (rows ([3] : List Int))] } := by
  have h := cC (A := some ⟨x.1, 0, none⟩) (B := some ⟨x.2.1, 0, none⟩) (ca := 4) (cb := 6) shopsC (shopsH x.2.2.1 x.2.2.2) 3 (by decide) (Nat.le_refl 6) (by intro h hh; simp only [shopsH, List.mem_cons, List.not_mem_nil, or_false] at hh; rcases hh with rfl | rfl | rfl | rfl | rfl | rfl <;> first | decide | exact (show 1 ≤ 1000000 by decide)); rw [show underE (trOf shopsC (shopsH x.2.2.1 x.2.2.2)) 3 = ([3], 0) from dx7 _ _] at h; exact h
theorem gx2 (x : Nat × Nat × Nat × Nat) : Meets Tryz.prog F.Q2 [.agg #[.slice (some ⟨x.1, 0, none⟩) 4 4, .slice (some ⟨x.2.1, 0, none⟩) 6 6], int 1, int 3] { LI := [Row (some ⟨x.1, 0, none⟩) (rows shopsC), RowsF (some ⟨x.2.1, 0, none⟩) (shopsH x.2.2.1 x.2.2.2) Hd.row], val := fun _ : Unit => .tuple #[int (-1), int 0] } := by
  have h := S2 (A := some ⟨x.1, 0, none⟩) (B := some ⟨x.2.1, 0, none⟩) (ca := 4) (cb := 6) shopsC (shopsH x.2.2.1 x.2.2.2) 1 3 (by decide) (Nat.le_refl 6) (by intro h hh; simp only [shopsH, List.mem_cons, List.not_mem_nil, or_false] at hh; rcases hh with rfl | rfl | rfl | rfl | rfl | rfl <;> first | decide | exact (show 1 ≤ 1000000 by decide)); rw [show leastE (trOf shopsC (shopsH x.2.2.1 x.2.2.2)) 1 3 = (-1, 0) from dz6 _ _] at h; exact h
theorem gx1 (x : Nat × Nat × Nat × Nat) : Meets Tryz.prog F.Q2 [.agg #[.slice (some ⟨x.1, 0, none⟩) 4 4, .slice (some ⟨x.2.1, 0, none⟩) 6 6], int 3, int 3] { LI := [Row (some ⟨x.1, 0, none⟩) (rows shopsC), RowsF (some ⟨x.2.1, 0, none⟩) (shopsH x.2.2.1 x.2.2.2) Hd.row], val := fun _ : Unit => .tuple #[int 3, int 0] } := by
  have h := S2 (A := some ⟨x.1, 0, none⟩) (B := some ⟨x.2.1, 0, none⟩) (ca := 4) (cb := 6) shopsC (shopsH x.2.2.1 x.2.2.2) 3 3 (by decide) (Nat.le_refl 6) (by intro h hh; simp only [shopsH, List.mem_cons, List.not_mem_nil, or_false] at hh; rcases hh with rfl | rfl | rfl | rfl | rfl | rfl <;> first | decide | exact (show 1 ≤ 1000000 by decide)); rw [show leastE (trOf shopsC (shopsH x.2.2.1 x.2.2.2)) 3 3 = (3, 0) from dz5 _ _] at h; exact h
theorem bz5 (x : Nat × Nat × Nat × Nat) : Meets Tryz.prog F.M7 [.agg #[.slice (some ⟨x.1, 0, none⟩) 4 4, .slice (some ⟨x.2.1, 0, none⟩) 6 6], int 0] { LI := [Row (some ⟨x.1, 0, none⟩) (rows shopsC), RowsF (some ⟨x.2.1, 0, none⟩) (shopsH x.2.2.1 x.2.2.2) Hd.row], val := fun _ : Unit => .tuple #[int 0, int 0, int 0] } := by
  have h := P3 (A := some ⟨x.1, 0, none⟩) (B := some ⟨x.2.1, 0, none⟩) (ca := 4) (cb := 6) shopsC (shopsH x.2.2.1 x.2.2.2) 0 (by decide) (Nat.le_refl 6) (by intro h hh; simp only [shopsH, List.mem_cons, List.not_mem_nil, or_false] at hh; rcases hh with rfl | rfl | rfl | rfl | rfl | rfl <;> first | decide | exact (show 1 ≤ 1000000 by decide)); rw [show followE (trOf shopsC (shopsH x.2.2.1 x.2.2.2)) 0 = (0, 0, 0) from bx4 _ _] at h; exact h
theorem bz3 (x : Nat × Nat × Nat × Nat) : Meets Tryz.prog F.S3 [.agg #[.slice (some ⟨x.1, 0, none⟩) 4 4, .slice (some ⟨x.2.1, 0, none⟩) 6 6], int 4, int 1] { LI := [Row (some ⟨x.1, 0, none⟩) (rows shopsC), RowsF (some ⟨x.2.1, 0, none⟩) (shopsH x.2.2.1 x.2.2.2) Hd.row], inv := fun y : OutC => 2 ≤ y.2, val := fun y => .tuple #[.slice y.1 2 y.2, int 0], LO := fun y => [Row y.1 (rows ([0, 2] : List Int))] } := by
  have h := bG (A := some ⟨x.1, 0, none⟩) (B := some ⟨x.2.1, 0, none⟩) (ca := 4) (cb := 6) shopsC (shopsH x.2.2.1 x.2.2.2) 4 1 (by decide) (Nat.le_refl 6) (by intro h hh; simp only [shopsH, List.mem_cons, List.not_mem_nil, or_false] at hh; rcases hh with rfl | rfl | rfl | rfl | rfl | rfl <;> first | decide | exact (show 1 ≤ 1000000 by decide)); rw [show hiddenE (trOf shopsC (shopsH x.2.2.1 x.2.2.2)) 4 1 = ([0, 2], 0) from bx2 _ _] at h; exact h
theorem bz4 (x : Nat × Nat × Nat × Nat) : Meets Tryz.prog F.S3 [.agg #[.slice (some ⟨x.1, 0, none⟩) 4 4, .slice (some ⟨x.2.1, 0, none⟩) 6 6], int 4, int 0] { LI := [Row (some ⟨x.1, 0, none⟩) (rows shopsC), RowsF (some ⟨x.2.1, 0, none⟩) (shopsH x.2.2.1 x.2.2.2) Hd.row], inv := fun y : OutC => 3 ≤ y.2, val := fun y => .tuple #[.slice y.1 3 y.2, int 0], LO := fun y => [Row y.1 (rows ([0, 2, 3] : List Int))] } := by
  have h := bG (A := some ⟨x.1, 0, none⟩) (B := some ⟨x.2.1, 0, none⟩) (ca := 4) (cb := 6) shopsC (shopsH x.2.2.1 x.2.2.2) 4 0 (by decide) (Nat.le_refl 6) (by intro h hh; simp only [shopsH, List.mem_cons, List.not_mem_nil, or_false] at hh; rcases hh with rfl | rfl | rfl | rfl | rfl | rfl <;> first | decide | exact (show 1 ≤ 1000000 by decide)); rw [show hiddenE (trOf shopsC (shopsH x.2.2.1 x.2.2.2)) 4 0 = ([0, 2, 3], 0) from bx3 _ _] at h; exact h
theorem gx0 (x : Nat × Nat × Nat × Nat) : Meets Tryz.prog F.L8 [.agg #[.slice (some ⟨x.1, 0, none⟩) 4 4, .slice (some ⟨x.2.1, 0, none⟩) 6 6], str [98], int 0] { LI := [Row (some ⟨x.1, 0, none⟩) (rows shopsC), RowsF (some ⟨x.2.1, 0, none⟩) (shopsH x.2.2.1 x.2.2.2) Hd.row], val := fun _ : Unit => .tuple #[int 3, int 0] } := by
  have h := L4 (A := some ⟨x.1, 0, none⟩) (B := some ⟨x.2.1, 0, none⟩) (ca := 4) (cb := 6) shopsC (shopsH x.2.2.1 x.2.2.2) [98] 0 (by decide) (Nat.le_refl 6) (by intro h hh; simp only [shopsH, List.mem_cons, List.not_mem_nil, or_false] at hh; rcases hh with rfl | rfl | rfl | rfl | rfl | rfl <;> first | decide | exact (show 1 ≤ 1000000 by decide)); rw [show meansE (trOf shopsC (shopsH x.2.2.1 x.2.2.2)) [98] 0 = (3, 0) from dz4 _ _] at h; exact h
theorem gq9 (x : Nat × Nat × Nat × Nat) : Meets Tryz.prog F.L8 [.agg #[.slice (some ⟨x.1, 0, none⟩) 4 4, .slice (some ⟨x.2.1, 0, none⟩) 6 6], str [98, 111], int 3] { LI := [Row (some ⟨x.1, 0, none⟩) (rows shopsC), RowsF (some ⟨x.2.1, 0, none⟩) (shopsH x.2.2.1 x.2.2.2) Hd.row], val := fun _ : Unit => .tuple #[int 1, int 0] } := by
  have h := L4 (A := some ⟨x.1, 0, none⟩) (B := some ⟨x.2.1, 0, none⟩) (ca := 4) (cb := 6) shopsC (shopsH x.2.2.1 x.2.2.2) [98, 111] 3 (by decide) (Nat.le_refl 6) (by intro h hh; simp only [shopsH, List.mem_cons, List.not_mem_nil, or_false] at hh; rcases hh with rfl | rfl | rfl | rfl | rfl | rfl <;> first | decide | exact (show 1 ≤ 1000000 by decide)); rw [show meansE (trOf shopsC (shopsH x.2.2.1 x.2.2.2)) [98, 111] 3 = (1, 0) from dz3 _ _] at h; exact h
theorem gq8 (x : Nat × Nat × Nat × Nat) : Meets Tryz.prog F.L8 [.agg #[.slice (some ⟨x.1, 0, none⟩) 4 4, .slice (some ⟨x.2.1, 0, none⟩) 6 6], str [120], int 3] { LI := [Row (some ⟨x.1, 0, none⟩) (rows shopsC), RowsF (some ⟨x.2.1, 0, none⟩) (shopsH x.2.2.1 x.2.2.2) Hd.row], val := fun _ : Unit => .tuple #[int 2, int 0] } := by
  have h := L4 (A := some ⟨x.1, 0, none⟩) (B := some ⟨x.2.1, 0, none⟩) (ca := 4) (cb := 6) shopsC (shopsH x.2.2.1 x.2.2.2) [120] 3 (by decide) (Nat.le_refl 6) (by intro h hh; simp only [shopsH, List.mem_cons, List.not_mem_nil, or_false] at hh; rcases hh with rfl | rfl | rfl | rfl | rfl | rfl <;> first | decide | exact (show 1 ≤ 1000000 by decide)); rw [show meansE (trOf shopsC (shopsH x.2.2.1 x.2.2.2)) [120] 3 = (2, 0) from dz2 _ _] at h; exact h
theorem gq5 (x : Nat × Nat × Nat × Nat) : Meets Tryz.prog F.Q1 [.agg #[.slice (some ⟨x.1, 0, none⟩) 4 4, .slice (some ⟨x.2.1, 0, none⟩) 6 6], int 5] { LI := [Row (some ⟨x.1, 0, none⟩) (rows shopsC), RowsF (some ⟨x.2.1, 0, none⟩) (shopsH x.2.2.1 x.2.2.2) Hd.row], val := fun _ : Unit => .tuple #[str [109, 105], int 0] } := by
  have h := R9 (A := some ⟨x.1, 0, none⟩) (B := some ⟨x.2.1, 0, none⟩) (ca := 4) (cb := 6) shopsC (shopsH x.2.2.1 x.2.2.2) 5 (by decide) (Nat.le_refl 6) (by intro h hh; simp only [shopsH, List.mem_cons, List.not_mem_nil, or_false] at hh; rcases hh with rfl | rfl | rfl | rfl | rfl | rfl <;> first | decide | exact (show 1 ≤ 1000000 by decide)); rw [show shortE (trOf shopsC (shopsH x.2.2.1 x.2.2.2)) 5 = ([109, 105], 0) from dx9 _ _] at h; exact h
theorem gq6 (x : Nat × Nat × Nat × Nat) : Meets Tryz.prog F.Q1 [.agg #[.slice (some ⟨x.1, 0, none⟩) 4 4, .slice (some ⟨x.2.1, 0, none⟩) 6 6], int 3] { LI := [Row (some ⟨x.1, 0, none⟩) (rows shopsC), RowsF (some ⟨x.2.1, 0, none⟩) (shopsH x.2.2.1 x.2.2.2) Hd.row], val := fun _ : Unit => .tuple #[str [104], int 0] } := by
  have h := R9 (A := some ⟨x.1, 0, none⟩) (B := some ⟨x.2.1, 0, none⟩) (ca := 4) (cb := 6) shopsC (shopsH x.2.2.1 x.2.2.2) 3 (by decide) (Nat.le_refl 6) (by intro h hh; simp only [shopsH, List.mem_cons, List.not_mem_nil, or_false] at hh; rcases hh with rfl | rfl | rfl | rfl | rfl | rfl <;> first | decide | exact (show 1 ≤ 1000000 by decide)); rw [show shortE (trOf shopsC (shopsH x.2.2.1 x.2.2.2)) 3 = ([104], 0) from dz0 _ _] at h; exact h
end Go.Proofs.YtfhninnleacgiaaGreat
end
section
namespace Go.Proofs.YtfhninnleacgiaaGreat
open Go Go.W
set_option maxRecDepth 20000
attribute [local irreducible] HL HC HQ HB Row Rows2 Blk Facts
theorem gj8 {l : List Int} {A : Option Addr} {cap : Nat} {og : Hp} (h : Grow T.int 1 A l.length cap (rows l) og) (hn : 0 < l.length) : ∃ g cur, A = some ⟨g, 0, none⟩ ∧ og = [(g, Obj.cells cur T.int (0, 0))] ∧ cur.toList.take (l.length * 1) = rows l := by
  rcases h.2 with ⟨_, h1, _⟩ | ⟨g, cur, h1, h2, _, _, _, h3⟩
  · omega
  exact ⟨g, cur, h1, h2, h3⟩
def seeZ (H : List PH) (x : Int) : Int := if x < 0 then -1 else (H.getD x.toNat default).2.2.1
def orb (H : List PH) (i : Int) : Nat → Int
  | 0 => i
  | k + 1 => seeZ H (orb H i k)
theorem hz7 (H : List PH) (i : Int) : orb H i 0 = i := rfl
theorem gN (H : List PH) (i : Int) (k : Nat) : orb H i (k + 1) = seeZ H (orb H i k) := rfl
def pthN (H : List PH) (i : Int) (m : Nat) : List Int := (List.range m).map (orb H i)
theorem dx2 (H : List PH) (i : Int) (m : Nat) : pthN H i (m + 1) = pthN H i m ++ [orb H i m] := by unfold pthN; rw [List.range_succ, List.map_append]; rfl
theorem aq0 (H : List PH) (i : Int) (m : Nat) : (pthN H i m).length = m := by unfold pthN; rw [List.length_map, List.length_range]
theorem aj9 {H : List PH} {i x : Int} {m : Nat} : x ∈ pthN H i m ↔ ∃ j, j < m ∧ orb H i j = x := by
  unfold pthN; rw [List.mem_map]
  constructor
  · rintro ⟨j, hj, e⟩; exact ⟨j, List.mem_range.1 hj, e⟩
  rintro ⟨j, hj, e⟩; exact ⟨j, List.mem_range.2 hj, e⟩
def SeeP (H : List PH) : Prop := ∀ k, k < H.length → -1 ≤ (H.getD k default).2.2.1 ∧ (H.getD k default).2.2.1 < (H.length : Int)
section
variable {H : List PH} {i : Int} {m : Nat}
theorem uU (hS : SeeP H) (hi : 0 ≤ i ∧ i < (H.length : Int)) : ∀ k, -1 ≤ orb H i k ∧ orb H i k < (H.length : Int)
  | 0 => by rw [hz7]; omega
  | k + 1 => by
    have ih := uU hS hi k; rw [gN]; unfold seeZ
    split
    · omega
    exact hS _ (by omega)
theorem yU {k : Nat} (h : orb H i k < 0) : ∀ d, orb H i (k + 1 + d) = -1
  | 0 => by rw [Nat.add_zero, gN]; unfold seeZ; rw [if_pos h]
  | d + 1 => by
    rw [← Nat.add_assoc, gN, yU h d]
    rfl
def Cyc (H : List PH) (i : Int) (m : Nat) : Prop := 1 ≤ m ∧ orb H i m = i ∧ ∀ j, 1 ≤ j → j < m → ¬ orb H i j = i
theorem tX (hi : 0 ≤ i) (hc : Cyc H i m) : ∀ j, j < m → 0 ≤ orb H i j := by
  intro j hj
  apply Classical.byContradiction
  intro hn; have h1 := yU (H := H) (i := i) (k := j) (by omega) (m - (j + 1)); rw [show j + 1 + (m - (j + 1)) = m by omega, hc.2.1] at h1
  omega
theorem cq7 {a b : Nat} (h : orb H i a = orb H i b) : ∀ t, orb H i (a + t) = orb H i (b + t)
  | 0 => h
  | t + 1 => by rw [← Nat.add_assoc, ← Nat.add_assoc, gN, gN, cq7 h t]
theorem cz7 (hc : Cyc H i m) {a b : Nat} (hab : a < b) (hb : b < m) : ¬ orb H i a = orb H i b := fun h => by
  have h1 := cq7 h (m - b); rw [show b + (m - b) = m by omega, hc.2.1] at h1; exact hc.2.2 (a + (m - b)) (by omega) (by omega) h1
theorem dx1 (hc : Cyc H i m) : (pthN H i m).Nodup := by
  unfold pthN; rw [List.Nodup, List.pairwise_map]; exact List.pairwise_lt_range.imp_of_mem fun {a b} ha hb hab => cz7 hc hab (List.mem_range.1 hb)
theorem cyc_le (hS : SeeP H) (hi : 0 ≤ i ∧ i < (H.length : Int)) (hc : Cyc H i m) : m ≤ H.length := by
  have h1 := qP (n := H.length) (l := (List.range m).map fun j => (orb H i j).toNat) (by
    rw [List.Nodup, List.pairwise_map]; refine List.pairwise_lt_range.imp_of_mem fun {a b} ha hb hab e => cz7 hc hab (List.mem_range.1 hb) ?_; have h2 := tX hi.1 hc a (List.mem_range.1 ha); have h3 := tX hi.1 hc b (List.mem_range.1 hb)
    omega) (fun y hy => by
    obtain ⟨j, hj, rfl⟩ := List.mem_map.1 hy; have h2 := tX hi.1 hc j (List.mem_range.1 hj); have h3 := (uU hS hi j).2
    omega)
  rw [List.length_map, List.length_range] at h1; exact h1
def perE (H : List PH) (i : Int) : Option Nat := (List.range H.length).find? fun r => decide (orb H i (r + 1) = i)
theorem hx6 (hS : SeeP H) (hi : 0 ≤ i ∧ i < (H.length : Int)) (hc : Cyc H i m) : perE H i = some (m - 1) := by
  have h1 := cyc_le hS hi hc; have h2 := hc.1; exact pE.2 ⟨by omega, by rw [show m - 1 + 1 = m by omega]; exact decide_eq_true hc.2.1, fun k hk => decide_eq_false (hc.2.2 (k + 1) (by omega) (by omega))⟩
theorem hx8 (h : ∀ j, 1 ≤ j → j ≤ H.length → ¬ orb H i j = i) : perE H i = none := by
  unfold perE; rw [List.find?_eq_none]; intro r hr; rw [List.mem_range] at hr; rw [decide_eq_true_eq]; exact h (r + 1) (by omega) (by omega)
def cirF (H : List PH) (i : Int) (m k : Nat) : List Int := ((List.range k).filter fun x : Nat => decide ((x : Int) ∈ pthN H i m)).map fun x : Nat => (x : Int)
def cirL (H : List PH) (i : Int) (m : Nat) : List Int := cirF H i m H.length
theorem cirL_asc : (cirL H i m).Pairwise (· < ·) := by
  unfold cirL cirF; rw [List.pairwise_map]; exact (List.pairwise_lt_range.filter _).imp fun {a b} h => by omega
theorem jq0 (hS : SeeP H) (hi : 0 ≤ i ∧ i < (H.length : Int)) (hc : Cyc H i m) {x : Int} : x ∈ cirL H i m ↔ x ∈ pthN H i m := by
  unfold cirL cirF; rw [List.mem_map]
  constructor
  · rintro ⟨k, hk, rfl⟩
    exact of_decide_eq_true (List.mem_filter.1 hk).2
  intro hx; obtain ⟨j, hj, rfl⟩ := aj9.1 hx; have h1 := tX hi.1 hc j hj; have h2 := (uU hS hi j).2; refine ⟨(orb H i j).toNat, List.mem_filter.2 ⟨List.mem_range.2 (by omega), ?_⟩, Int.toNat_of_nonneg h1⟩; rw [decide_eq_true_eq, Int.toNat_of_nonneg h1]; exact hx
theorem jj9 (hS : SeeP H) (hi : 0 ≤ i ∧ i < (H.length : Int)) (hc : Cyc H i m) {r : List Int} (hp : r.Perm (pthN H i m)) (hs : r.Pairwise (· ≤ ·)) : r = cirL H i m := by
  refine List.Perm.eq_of_pairwise (le := (· ≤ ·)) (fun a b _ _ h1 h2 => Int.le_antisymm h1 h2) hs (cirL_asc.imp fun {a b} h => Int.le_of_lt h) ?_; refine hp.trans ((List.perm_ext_iff_of_nodup (dx1 hc) (cirL_asc.imp fun {a b} h => Int.ne_of_lt h)).2 fun x => ?_); exact (jq0 hS hi hc).symm
def minB (i : Int) (l : List Int) : Bool := l.all fun x => decide (i ≤ x)
theorem i_in (hc : Cyc H i m) : i ∈ pthN H i m := aj9.2 ⟨0, by have := hc.1; omega, rfl⟩
theorem ij5 (hc : Cyc H i m) {z : Int} (h1 : z ∈ pthN H i m) (h2 : ∀ x ∈ pthN H i m, z ≤ x) : z = i ↔ minB i (pthN H i m) = true := by
  unfold minB; rw [List.all_eq_true]
  constructor
  · intro e x hx; rw [decide_eq_true_eq, ← e]; exact h2 x hx
  intro h; have h3 := of_decide_eq_true (h z h1); have h4 := h2 i (i_in hc)
  omega
def cirI (H : List PH) (i : Int) : Option (List Int) := match perE H i with | some r => if minB i (pthN H i (r + 1)) = true then some (cirL H i (r + 1)) else none | none => none
theorem cirI_at (hS : SeeP H) (hi : 0 ≤ i ∧ i < (H.length : Int)) (hc : Cyc H i m) : cirI H i = if minB i (pthN H i m) = true then some (cirL H i m) else none := by
  unfold cirI; rw [hx6 hS hi hc]; show (if minB i (pthN H i (m - 1 + 1)) = true then some (cirL H i (m - 1 + 1)) else none) = _; rw [show m - 1 + 1 = m by have := hc.1; omega]
theorem dj1 (h : ∀ j, 1 ≤ j → j ≤ H.length → ¬ orb H i j = i) : cirI H i = none := by unfold cirI; rw [hx8 h]
end
def cirK (H : List PH) (k : Nat) : List (List Int) := (List.range k).filterMap fun j : Nat => cirI H (j : Int)
theorem lP (H : List PH) (k : Nat) : cirK H (k + 1) = cirK H k ++ (cirI H (k : Int)).toList := by
  unfold cirK; rw [List.range_succ, List.filterMap_append]
  congr 1
theorem jq1 (H : List PH) (k : Nat) : (cirK H k).length ≤ k := Nat.le_trans (List.length_filterMap_le _ _) (by simp)
def circlesE (t : Tr) : List (List Int) × Int := if ¬ checkT t = 0 then ([], checkT t) else (cirK t.hs t.hs.length, 0)
theorem see_p {cs : List Cl} {hs : List Hd} (hok : TrOK (trOf cs hs)) : SeeP (hs.map Hd.p) := fun k hk => by
  rw [List.length_map] at hk ⊢; have h1 := qH hok k hk; rw [G8 hk]; exact h1
theorem ilt_tri {a b : Int} (h1 : ¬ a < b) (h2 : ¬ b < a) : a = b := by omega
theorem ilt_irr (a : Int) : ¬ a < a := by omega
abbrev iat (l : List Int) (i : Nat) : Int := l.getD i default
abbrev ile (a b : Int) : Prop := ¬ b < a
theorem dz9 {a b c : Int} (h1 : ile a b) (h2 : ile b c) : ile a c := fun h => by
  rcases Classical.em (b < a) with h3 | h3
  · exact h1 h3
  rcases Classical.em (a < b) with h4 | h4
  · exact h2 (Int.lt_trans h h4)
  rw [ilt_tri h4 h3] at h; exact h2 h
theorem gj0 {a b : Int} (h : a < b) : ile a b := fun h2 => ilt_irr a (Int.lt_trans h h2)
def srtTI (l : List Int) (m : Nat) : Prop := ∀ p q, p < q → q < m → ile (iat l p) (iat l q)
structure InsI (l : List Int) (i j : Nat) : Prop where
  o : ∀ p q, p < q → q ≤ i → ¬ p = j → ¬ q = j → ile (iat l p) (iat l q)
  a : ∀ q, j < q → q ≤ i → ile (iat l j) (iat l q)
theorem cx7 {l : List Int} {i j : Nat} {v : Int} (hi : i < l.length) : iat (l.set i v) j = if i = j then v else iat l j := by
  unfold iat; rw [List.getD_eq_getElem?_getD, List.getD_eq_getElem?_getD, List.getElem?_set]
  split
  · rfl
  rfl
def swpI (l : List Int) (j : Nat) : List Int := (l.set (j + 1) (iat l j)).set j (iat l (j + 1))
theorem dq2 {l : List Int} {j : Nat} (hj : j + 1 < l.length) : (swpI l j).Perm l := by
  unfold swpI iat; rw [u9 hj, u9 (show j < l.length by omega)]; exact List.set_set_perm hj (by omega)
theorem tS {l : List Int} {j k : Nat} (hj : j + 1 < l.length) : iat (swpI l j) k = if k = j then iat l (j + 1) else if k = j + 1 then iat l j else iat l k := by
  unfold swpI; rw [cx7 (by simp; omega), cx7 (by omega)]
  by_cases h1 : k = j
  · rw [if_pos h1.symm, if_pos h1]
  rw [if_neg (fun e => h1 e.symm), if_neg h1]
  by_cases h2 : k = j + 1
  · rw [if_pos h2.symm, if_pos h2]
  rw [if_neg (fun e => h2 e.symm), if_neg h2]
theorem InsI.start {l : List Int} {i : Nat} (h : srtTI l i) : InsI l i i := ⟨fun p q h1 h2 h3 h4 => h p q h1 (by omega), fun q h1 h2 => by omega⟩
theorem InsI.swap {l : List Int} {i j : Nat} (h : InsI l i (j + 1)) (hi : i < l.length) (hj : j + 1 ≤ i) (hlt : iat l (j + 1) < iat l j) : InsI (swpI l j) i j := by
  have hj2 : j + 1 < l.length := by omega
  refine ⟨fun p q h1 h2 h3 h4 => ?_, fun q h1 h2 => ?_⟩
  · rw [tS hj2, tS hj2, if_neg h3, if_neg h4]
    by_cases hp : p = j + 1
    · rw [if_pos hp, if_neg (by omega)]
      exact h.o j q (by omega) h2 (by omega) (by omega)
    rw [if_neg hp]
    by_cases hq : q = j + 1
    · rw [if_pos hq]
      exact h.o p j (by omega) (by omega) (by omega) (by omega)
    rw [if_neg hq]; exact h.o p q h1 h2 hp hq
  rw [tS hj2, tS hj2, if_pos rfl, if_neg (by omega)]
  by_cases hq : q = j + 1
  · rw [if_pos hq]; exact gj0 hlt
  rw [if_neg hq]; exact h.a q (by omega) h2
theorem InsI.done {l : List Int} {i j : Nat} (h : InsI l i j) (hj : j ≤ i) (he : ∀ k, j = k + 1 → ¬ iat l j < iat l k) : srtTI l (i + 1) := by
  intro p q h1 h2
  by_cases hp : p = j
  · subst hp; exact h.a q h1 (by omega)
  by_cases hq : q = j
  · subst hq
    obtain ⟨k, rfl⟩ : ∃ k, q = k + 1 := ⟨q - 1, by omega⟩; have h3 : ile (iat l k) (iat l (k + 1)) := he k rfl
    by_cases hpk : p = k
    · subst hpk; exact h3
    exact dz9 (h.o p k (by omega) (by omega) hp (by omega)) h3
  exact h.o p q h1 (by omega) hp hq
abbrev SrtI (ws l : List Int) : Prop := l.Perm ws ∧ srtTI l l.length
abbrev GrowI (A : Option Addr) (cap : Nat) (l : List Int) (og : Hp) : Prop := Grow T.int 1 A l.length cap (rows l) og
theorem mN (x : Int) : Meets Tryz.prog F.dK [int x] { val := fun _ : Unit => .bool false } := by
 refine i7 F.tI rfl p7 fun w0 => ?_; refine i4 (b7 rfl (j8 (a8 rfl (a8 rfl (t3 rfl rfl rfl (b7 rfl (b3 ?_))))))); refine g6 (k5 ?_); exact ret1 () rfl (congrArg (fun b => some (Value.bool b)) (by exact decide_eq_false (not_not_intro (rfl : x = x)))) rfl trivial nil_sb trivial
theorem pI (x y : Int) : Meets Tryz.prog F.iP [int x, int y] { val := fun _ : Unit => .bool (decide (x < y)) } := by
 refine i7 F.vP rfl p7 fun w0 => ?_; refine i4 (b7 rfl (j8 (a8 rfl ?_))); refine d5 F.sH rfl rfl (mN _) (.refl _) trivial fun _ _ => ?_; refine a8 rfl ?_; refine m6 rfl rfl ?_ ?_
 ·intro hg1; have hg1' := hg1; try simp at hg1'
 intro hg1; have hg1' := hg1; try simp at hg1'
 refine q7 rfl rfl rfl rfl rfl hg1 (q7 rfl rfl rfl rfl rfl hg1 (q7 rfl rfl rfl rfl rfl hg1 ?_)); refine p_f rfl rfl (bf2 hg1) rfl ?_; refine a8 rfl (i3 rfl rfl rfl (a8 rfl (i3 rfl rfl rfl (a8 rfl (i3 rfl rfl rfl (t7 rfl rfl rfl (p_f rfl rfl rfl rfl (b7 rfl (d9 (k5 ?_)))))))))); exact ret1 () rfl rfl rfl trivial nil_sb trivial
set_option maxHeartbeats 1000000 in
theorem M9 {A : Option Addr} {cap : Nat} (ws : List Int) (og : Hp) (hG : GrowI A cap ws og) (hn : ws.length ≤ 1000000) :
    Meets Tryz.prog F.D3 [.slice A ws.length cap, int (0 : Nat), int ws.length] { hpI := og, inv := fun x : List Int × Hp => SrtI ws x.1 ∧ GrowI A cap x.1 x.2, val := fun _ => .tuple #[], hpO := fun x => x.2 } := by
 refine i7 F.Q7 rfl p7 fun w0 => ?_; refine i4 (a8 rfl ?_); refine q9 ((1 : Nat) : Int) rfl rfl rfl (by rfl) n5 ?_; refine b7 rfl (d9 (i9 ?_)); refine p6 (β := Nat × List Int × Hp) ⟨fun x => 1 ≤ x.1 ∧ x.2.1.Perm ws ∧ srtTI x.2.1 x.1 ∧ GrowI A cap x.2.1 x.2.2, fun x => [(0, .slice A ws.length cap), (1, int (0 : Nat)), (2, int ws.length), (6, int x.1)], fun x => x.2.2, fun _ => []⟩ (fun x => ws.length - x.1) (1, ws, og) ⟨Nat.le_refl _, .refl _, fun p q h1 h2 => by omega, hG⟩ mC (by first | (rw [List.append_nil]; exact List.Sublist.refl _) | exact List.Sublist.refl _) trivial fun x hx => ?_; clear hG; obtain ⟨i, l, og⟩ := x; obtain ⟨hi0, hP, hS, hG⟩ := hx; simp only at hi0 hP hS hG; have hll : l.length = ws.length := hP.length_eq; refine i1 (i4 (a8 rfl (a8 rfl (t7 rfl rfl rfl (d9 ?_)))))
 first | refine k8 rfl (fun hb1 => ?_) (fun hb1 => ?_) | refine i5 rfl (fun hb1 => ?_) (fun hb1 => ?_)
 ·have hb1' := hb1; try simp at hb1'
  have hi : i < ws.length := by omega
  rcases hG.2 with ⟨_, hz, _⟩ | ⟨gd, cur, e1, e2, hnc, hcm, hcs, hct⟩
  ·omega
  subst e1; subst e2; rw [hll] at hnc; refine j3 (g6 (i1 (i9 (i4 (a8 rfl (b7 rfl (d9 (i9 ?_)))))))); refine p6 (β := Nat × List Int × Array Value) ⟨fun x => x.1 ≤ i ∧ x.2.1.Perm ws ∧ InsI x.2.1 i x.1 ∧ x.2.2.size = cap * 1 ∧ x.2.2.toList.take (x.2.1.length * 1) = rows x.2.1, fun x => [(0, .slice (b8 gd) ws.length cap), (1, int (0 : Nat)), (2, int ws.length), (6, int i), (7, int x.1)], fun x => [(gd, Obj.cells x.2.2 T.int (0, 0))], fun _ => []⟩ (fun x => x.1) (i, l, cur) ⟨Nat.le_refl _, hP, .start hS, hcs, hct⟩ mC (List.Sublist.refl _) trivial fun x hx => ?_; clear hG hS hcs hct hP hll; obtain ⟨j, l, cur⟩ := x; obtain ⟨hj, hP, hS, hcs, hct⟩ := hx; simp only at hj hP hS hcs hct; have hll : l.length = ws.length := hP.length_eq; refine bY ?_; refine C8 13 mixed (by decide) (by decide) rfl rfl (l3 (fun w1 => a8 rfl (q_z rfl)) (l3 (fun w1 => a8 rfl (q_z rfl)) (l3 (fun w1 => gK rfl rfl rfl (q_z rfl)) (l3 (fun w1 => a8 rfl (q_z rfl)) ?_)))); refine rG (t := 19) (want := true) rfl ?_ ?_
  ·intro hg1; have hg1' := hg1; try simp at hg1'
   obtain ⟨k, rfl⟩ : ∃ k, j = k + 1 := ⟨j - 1, by simp at hg1; omega⟩
   apply n6 _ rfl rfl rfl
   ·intro w1; refine i3 rfl rfl hg1 (a8 rfl (b3 ?_)); exact j7 rfl
   apply n6 _ rfl rfl rfl
   ·intro w1; refine i3 rfl rfl hg1 (a8 rfl (b3 ?_)); exact j7 rfl
   apply n6 _ rfl rfl rfl
   ·intro w1; refine i3 rfl rfl hg1 (l6 (k + 1) (k + 1) rfl T.s5 T.v6 rfl rfl rfl (by omega) (by omega) ?_); refine b3 ?_; exact j7 rfl
   apply n6 _ rfl rfl rfl
   ·intro w1; refine i3 rfl rfl hg1 (a6 (v := int (iat l (k + 1))) rfl T.b2 rfl (d8 mB (E9 rfl hct (by omega) rfl rfl)) ?_); refine b3 ?_; exact j7 rfl
   apply n6 _ rfl rfl rfl
   ·intro w1; refine i3 rfl rfl hg1 (a8 rfl (b3 ?_)); exact j7 rfl
   apply n6 _ rfl rfl rfl
   ·intro w1; refine i3 rfl rfl hg1 (a8 rfl (b3 ?_)); exact j7 rfl
   apply n6 _ rfl rfl rfl
   ·intro w1; refine i3 rfl rfl hg1 (J8 (k : Int) rfl rfl rfl (by omega) n5 ?_); refine b3 ?_; exact j7 rfl
   apply n6 _ rfl rfl rfl
   ·intro w1; refine i3 rfl rfl hg1 (l6 (k) (k) rfl T.s5 T.v6 rfl rfl rfl (by omega) (by omega) ?_); refine b3 ?_; exact j7 rfl
   apply n6 _ rfl rfl rfl
   ·intro w1; refine i3 rfl rfl hg1 (a6 (v := int (iat l k)) rfl T.b2 rfl (d8 mB (E9 rfl hct (by omega) rfl rfl)) ?_); refine b3 ?_; exact j7 rfl
   refine w5 ⟨rfl, ?_⟩; refine i3 rfl rfl hg1 ?_; refine d5 F.tJ rfl rfl (pI (iat l (k + 1)) (iat l k)) j5 trivial fun _ _ => ?_; refine p_t rfl rfl (bt1 hg1) rfl ?_; refine d9 ?_
   first | refine k8 rfl (fun hb2 => ?_) (fun hb2 => ?_) | refine i5 rfl (fun hb2 => ?_) (fun hb2 => ?_)
   ·have hb2' := hb2; try simp at hb2'
    refine j3 (g6 (i1 (i9 ?_))); refine G1 ([(gd, Obj.cells cur T.int (0, 0))]) ([]) j5 16 [15, 1000013, 1000009] mixed (by decide) (by decide) (by decide) rfl rfl rfl (l3 (fun w1 => a8 rfl (q_z rfl)) (l3 (fun w1 => a8 rfl (q_z rfl)) (l3 (fun w1 => a8 rfl (q_z rfl)) (l3 (fun w1 => a8 rfl (q_z rfl)) (l3 (fun w1 => J8 (k : Int) rfl rfl rfl (by omega) n5 (q_z rfl)) (l3 (fun w1 => a8 rfl (q_z rfl)) (l3 (fun w1 => a8 rfl (q_z rfl)) ?_))))))); refine l3 (fun w1 => J8 (k : Int) rfl rfl rfl (by omega) n5 (q_z rfl)) (l3 (fun w1 => l6 (k) (k) rfl T.s5 T.v6 rfl rfl rfl (by omega) (by omega) (q_z rfl)) ?_); refine cz1 (int (iat l k)) rfl rfl rfl ?_ ?_
    ·intro w1; refine a6 (v := int (iat l k)) rfl T.b2 rfl (d8 mB (E9 rfl hct (by omega) rfl rfl)) ?_; refine b3 ?_; exact j7 rfl
    refine l3 (fun w1 => a8 rfl (q_z rfl)) (l3 (fun w1 => a8 rfl (q_z rfl)) (l3 (fun w1 => l6 (k + 1) (k + 1) rfl T.s5 T.v6 rfl rfl rfl (by omega) (by omega) (q_z rfl)) ?_)); refine cz1 (int (iat l (k + 1))) rfl rfl rfl ?_ ?_
    ·intro w1; refine a6 (v := int (iat l (k + 1))) rfl T.b2 rfl (d8 mB (E9 rfl hct (by omega) rfl rfl)) ?_; refine b3 ?_; exact j7 rfl
    refine l3 (fun w1 => l6 (k + 1) (k + 1) rfl T.s5 T.v6 rfl rfl rfl (by omega) (by omega) (q_z rfl)) ?_; refine xS ⟨Unit, fun _ => True, fun _ => undef, fun _ => [], fun _ => [(gd, Obj.cells (cur.setIfInBounds (k + 1) (int (iat l k))) T.int (0, 0))]⟩ rfl rfl ?_ ?_
    ·intro _ _; intro w1; refine z9 rfl rfl (.refl _) T.v6 (E9 rfl hct (show k + 1 < l.length by omega) rfl rfl) (by rfl) ?_; refine b3 ?_; exact G4 () trivial (fun h => by cases h) (.refl _) trivial
    refine w5 ⟨rfl, ?_⟩; intro _ _ _ _ _ _; have hct1 := dV (α := Int) (k := k + 1) (a := iat l k) rfl rfl hct; refine l6 (k) (k) rfl T.s5 T.v6 rfl rfl rfl (by omega) (by omega) ?_; refine z9 rfl rfl (.refl _) T.v6 (E9 rfl hct1 (show k < _ by simp; omega) rfl rfl) (by rfl) ?_; have hct2 := dV (α := Int) (k := k) (a := iat l (k + 1)) rfl rfl hct1; refine b3 (n9 (g6 (b9 (a8 rfl ?_)))); refine J8 (k : Int) rfl rfl rfl (by omega) n5 ?_; refine b7 rfl (b3 ?_); exact again _ (k, swpI l k, (cur.setIfInBounds (k + 1) (int (iat l k))).setIfInBounds k (int (iat l (k + 1)))) ⟨by show k ≤ i; omega, (dq2 (by omega)).trans hP, hS.swap (by omega) hj hb2, by show (Array.setIfInBounds _ _ _).size = _; rw [Array.size_setIfInBounds, Array.size_setIfInBounds]; exact hcs, hct2⟩ (by show k < k + 1; omega) mC (List.Sublist.refl _) trivial
   have hb2' := hb2; try simp at hb2'
   refine n2 (t4 (n1 (n9 (g6 (b9 (a8 rfl ?_)))))); refine q9 _ rfl rfl rfl rfl n5 ?_; refine b7 rfl (b3 ?_); exact again _ (i + 1, l, [(gd, Obj.cells cur T.int (0, 0))]) ⟨by show 1 ≤ i + 1; omega, hP, hS.done hj (fun q hq hlt => by obtain rfl : k = q := (by omega); exact hb2 hlt), kZ rfl (by show l.length ≤ cap; omega) hcm hcs hct⟩ (r6 (by omega)) mC (List.Sublist.refl _) trivial
  intro hg1; have hg1' := hg1; try simp at hg1'
  have hj0 : j = 0 := by simp at hg1; omega
  subst hj0; refine l3 (fun w1 => q7 rfl rfl rfl rfl rfl hg1 (q_z rfl)) (l3 (fun w1 => q7 rfl rfl rfl rfl rfl hg1 (q_z rfl)) (l3 (fun w1 => q7 rfl rfl rfl rfl rfl hg1 (q_z rfl)) (l3 (fun w1 => q7 rfl rfl rfl rfl rfl hg1 (q_z rfl)) (l3 (fun w1 => q7 rfl rfl rfl rfl rfl hg1 (q_z rfl)) (l3 (fun w1 => q7 rfl rfl rfl rfl rfl hg1 (q_z rfl)) (l3 (fun w1 => q7 rfl rfl rfl rfl rfl hg1 (q_z rfl)) (l3 (fun w1 => q7 rfl rfl rfl rfl rfl hg1 (q_z rfl)) ?_))))))); refine l3 (fun w1 => q7 rfl rfl rfl rfl rfl hg1 (q_z rfl)) ?_; refine w5 ⟨rfl, ?_⟩; refine q7 rfl rfl rfl rfl rfl hg1 (p_f rfl rfl (bf2 hg1) rfl ?_); refine d9 (c_f rfl rfl (n2 (t4 (n1 (n9 (g6 (b9 (a8 rfl ?_)))))))); refine q9 _ rfl rfl rfl rfl n5 ?_; refine b7 rfl (b3 ?_); exact again _ (i + 1, l, [(gd, Obj.cells cur T.int (0, 0))]) ⟨by show 1 ≤ i + 1; omega, hP, hS.done hj (fun q hq => by omega), kZ rfl (by show l.length ≤ cap; omega) hcm hcs hct⟩ (r6 (by omega)) mC (List.Sublist.refl _) trivial
 have hb1' := hb1; try simp at hb1'
 refine n2 (t4 (n1 ?_)); exact ret0n (l, og) rfl rfl rfl ⟨⟨hP, fun p q h1 h2 => hS p q h1 (by have h3 : q < l.length := h2; omega)⟩, hG⟩ (List.Sublist.refl _) trivial
theorem U7 {A : Option Addr} {cap : Nat} (ws : List Int) (og : Hp) (z : Int) (hG : GrowI A cap ws og) (hn : ws.length ≤ 12) : Meets Tryz.prog F.H3 [.slice A ws.length cap, int (0 : Nat), int ws.length, int z] { hpI := og, inv := fun x : List Int × Hp => SrtI ws x.1 ∧ GrowI A cap x.1 x.2, val := fun _ => .tuple #[], hpO := fun x => x.2 } := by
 refine i7 F.aM rfl p7 fun w0 => ?_; refine i4 (b7 rfl (j8 (b7 rfl (d9 (i9 ?_))))); refine p6 (β := Unit) ⟨fun _ => True, fun _ => [(0, .slice A ws.length cap), (1, int (0 : Nat)), (2, int ws.length), (3, int z)], fun _ => og, fun _ => []⟩ (fun _ => 0) () trivial mC (List.Sublist.refl _) trivial fun _ _ => ?_; refine i9 (i4 (a8 rfl (a8 rfl ?_))); refine J8 _ rfl rfl rfl rfl n5 ?_; refine b7 rfl (d9 (i1 (i4 (a8 rfl (aj4 rfl rfl rfl (d9 ?_))))))
 first | refine k8 rfl (fun hb1 => ?_) (fun hb1 => ?_) | refine i5 rfl (fun hb1 => ?_) (fun hb1 => ?_)
 ·have hb1' := hb1; try simp at hb1'
  refine i4 (a8 rfl (a8 rfl (a8 rfl ?_))); refine d5 (hpR := []) F.P5 rfl rfl (M9 ws og hG (by omega)) (by first | (rw [List.append_nil]; done) | (rw [List.append_nil]; exact List.Perm.refl _) | exact List.Perm.refl _) trivial fun x hx => ?_; refine d9 (P8 (B7 (aQ ?_))); exact ret0 x rfl rfl rfl hx (List.sublist_append_left _ _) trivial
 exact absurd (by omega) hb1
theorem hZ {A : Option Addr} {cap : Nat} (ws : List Int) (og : Hp) (hG : GrowI A cap ws og) (hn : ws.length ≤ 12) : Meets Tryz.prog F.W4 [.slice A ws.length cap] { hpI := og, inv := fun x : List Int × Hp => SrtI ws x.1 ∧ GrowI A cap x.1 x.2, val := fun _ => .tuple #[], hpO := fun x => x.2 } := by
 refine i7 F.nK rfl p7 fun w0 => ?_; refine i4 (a8 rfl ?_); refine k4 rfl T.s5 rfl ?_; refine b7 rfl (d9 (b9 (a8 rfl (a8 rfl (a8 rfl ?_))))); refine nQ (ws.length : Int) rfl T.wX T.uH rfl (IntWalk.u64_in _ (by omega)) ?_; refine d5 F.gO rfl rfl (aL ws.length hn) (.refl _) trivial fun z _ => ?_; refine d5 (hpR := []) F.aA rfl rfl (U7 ws og z hG hn) (by first | (rw [List.append_nil]; done) | (rw [List.append_nil]; exact List.Perm.refl _) | exact List.Perm.refl _) trivial fun x hx => ?_; refine b3 ?_; exact ret0n x rfl rfl rfl hx (List.sublist_append_left _ _) trivial
theorem jM {A : Option Addr} {cap : Nat} (l : List Int) (og : Hp) (hG : GrowI A cap l og) (hl : 0 < l.length) (hn : l.length ≤ 1000000) : Meets Tryz.prog F.aB [.slice A l.length cap] { hpI := og, inv := fun z : Int => z ∈ l ∧ ∀ x ∈ l, z ≤ x, val := fun z => int z, hpO := fun _ => og } := by
 refine i7 F.qG rfl p7 fun w0 => ?_; refine i4 (b7 rfl (d9 (bY ?_))); obtain ⟨gd, cur, e1, e2, hct⟩ := gj8 hG hl; subst e1; subst e2; refine b9 (a8 rfl ?_); refine k4 rfl T.s5 rfl ?_; refine t7 rfl rfl rfl (d9 ?_)
 first | refine k8 rfl (fun hb1 => ?_) (fun hb1 => ?_) | refine i5 rfl (fun hb1 => ?_) (fun hb1 => ?_)
 ·exact absurd hb1 (by omega)
 have hb1' := hb1; try simp at hb1'
 refine j3 (g6 (i4 (a8 rfl ?_))); refine l6 (0) (0 + 0 * 1) rfl T.s5 T.v6 rfl rfl rfl hl rfl (a6 (v := int (l.getD 0 default)) rfl T.b2 rfl (h9 (List.mem_cons_self ..) (E9 rfl hct hl (by omega) rfl)) ?_); refine b7 rfl (d9 (i1 (i4 (b7 rfl (d9 (i9 ?_)))))); refine p6 (β := Nat × Int) ⟨fun x => 1 ≤ x.1 ∧ x.1 ≤ l.length ∧ x.2 ∈ l ∧ ∀ j, j < x.1 → x.2 ≤ l.getD j default, fun x => [(0, .slice (b8 gd) l.length cap), (3, int x.2), (4, int x.1)], fun _ => [(gd, Obj.cells cur T.int (0, 0))], fun _ => []⟩ (fun x => l.length - x.1) (1, l.getD 0 default) ⟨Nat.le_refl _, hl, s6 hl, fun j hj => by have hj : j < 1 := hj; obtain rfl : j = 0 := (by omega); exact Int.le_refl _⟩ mC (List.Sublist.refl _) trivial fun x hx => ?_; obtain ⟨k, z⟩ := x; obtain ⟨hk1, hk, hz, hm⟩ := hx; simp only at hk1 hk hz hm; refine i1 (i4 (a8 rfl (a8 rfl ?_))); refine k4 rfl T.s5 rfl ?_; refine t7 rfl rfl rfl (d9 ?_)
 first | refine k8 rfl (fun hb2 => ?_) (fun hb2 => ?_) | refine i5 rfl (fun hb2 => ?_) (fun hb2 => ?_)
 ·have hb2' := hb2; try simp at hb2'
  have hk2 : k < l.length := by omega
  refine j3 (g6 (i1 (i9 (b9 (a8 rfl (a8 rfl (a8 rfl ?_))))))); refine l6 (k) (0 + k * 1) rfl T.s5 T.v6 rfl rfl rfl hk2 rfl (a6 (v := int (l.getD k default)) rfl T.b2 rfl (h9 (List.mem_cons_self ..) (E9 rfl hct hk2 (by omega) rfl)) ?_); refine r_min _ rfl rfl rfl rfl (b7 rfl (b3 (n9 (g6 (b9 (a8 rfl ?_)))))); refine q9 _ rfl rfl rfl rfl n5 ?_; refine b7 rfl (b3 ?_); refine again _ (k + 1, if l.getD k default < z then l.getD k default else z) ⟨by show 1 ≤ k + 1; omega, by show k + 1 ≤ l.length; omega, ?_, fun j hj => ?_⟩ (r6 (by omega)) mC (List.Sublist.refl _) trivial
  ·show (if l.getD k default < z then l.getD k default else z) ∈ l
   split
   ·exact s6 hk2
   exact hz
  show (if l.getD k default < z then l.getD k default else z) ≤ l.getD j default; have hj : j < k + 1 := hj
  rcases Nat.lt_or_ge j k with h1 | h1
  ·have := hm j h1
   split <;> omega
  obtain rfl : j = k := by omega
  split <;> omega
 have hb2' := hb2; try simp at hb2'
 obtain rfl : k = l.length := by omega
 refine n2 (t4 (n1 (g6 (i4 (a8 rfl (b7 rfl (d9 (k5 ?_)))))))); exact ret1 z rfl rfl rfl ⟨hz, fun x hx => by obtain ⟨j, hj, rfl⟩ := List.getElem_of_mem hx; rw [← u9 hj]; exact hm j hj⟩ (List.Sublist.refl _) trivial
theorem jF {A : Option Addr} {cap : Nat} (l : List Int) (og : Hp) (hG : GrowI A cap l og) (hl : 0 < l.length) (hn : l.length ≤ 1000000) : Meets Tryz.prog F.Z3 [.slice A l.length cap] { hpI := og, inv := fun z : Int => z ∈ l ∧ ∀ x ∈ l, z ≤ x, val := fun z => int z, hpO := fun _ => og } := by
 refine i7 F.pW rfl p7 fun w0 => ?_; refine i4 (b7 rfl (j8 (a8 rfl ?_))); refine d5 (hpR := []) F.nL rfl rfl (jM l og hG hl hn) (by first | (rw [List.append_nil]; done) | (rw [List.append_nil]; exact List.Perm.refl _) | exact List.Perm.refl _) trivial fun z hz => ?_; refine b7 rfl (d9 (k5 ?_)); exact ret1 z rfl rfl rfl hz (List.sublist_append_left _ _) trivial
end Go.Proofs.YtfhninnleacgiaaGreat
end
