/- Texts of this claim, one behind another. -/

import Derived.Test.YtdlbbfcfahahdaaGreatBAo
import Derived.Test.YtdlbbfcfahahdaaGreatBAf
import Derived.Test.YtdlbbfcfahahdaaGreatBAi
set_option linter.unusedVariables false
set_option linter.unusedSimpArgs false
section
namespace Go.Proofs.YtdlbbfcfahahdaaGreat
open Go Go.W
set_option maxRecDepth 20000
attribute [local irreducible] HL HC HQ HB Row Rows2 Blk Facts
theorem nz7 : billsE ctrC [0, 0, 3] ctrA = ([9, 27, 120], 0) := by kernel_rfl
theorem nz5 : worthE ctrC [0, 0, 3] someA (1, 1, 1) = (8, 0) := by kernel_rfl
theorem rj4 : fillE iL 5 = ([0, 1], 80, 0) := by kernel_rfl
theorem lq7 : sheetsE 100 12 4 = (3, 44, 0) := by kernel_rfl
theorem nz6 (g1 g2 : Nat) : foundE shopsC (shopsH g1 g2) [5, 9, 4, 7, 6, 9] [1, 2] 1 = ([2, 3], 11, 0) := by kernel_rfl
theorem sj4 (x : Nat × Nat) : Meets Tryz.prog F.kQ [saV ctrC (ctrP x.1) (ctrQ x.2)] { LI := saL (ctrP x.1) (ctrQ x.2), inv := fun y : OutC => 3 ≤ y.2, val := fun y => .tuple #[.slice y.1 3 y.2, int 0], LO := fun y => [Row y.1 (rows ([9, 27, 120] : List Int))] } := by
  have h := yY ctrC (ctrP x.1) (ctrQ x.2) (show 3 ≤ 1000000 by decide) (show 3 ≤ 1000000 by decide); rw [show billsE ctrC (ctrP x.1).l (ctrQ x.2).l = ([9, 27, 120], 0) from nz7] at h; exact h
theorem sj1 (x : Nat × Nat) : Meets Tryz.prog F.kN [saV ctrC (ctrP x.1) (someQ x.2), adV (1, 1, 1)] { LI := saL (ctrP x.1) (someQ x.2), val := fun _ : Unit => .tuple #[int 8, int 0] } := by
  have h := yW ctrC (ctrP x.1) (someQ x.2) (1, 1, 1) (show 3 ≤ 1000000 by decide) (show 2 ≤ 1000000 by decide) (Nat.le_refl 2); rw [show worthE ctrC (ctrP x.1).l (someQ x.2).l (1, 1, 1) = (8, 0) from nz5] at h; exact h
theorem ex_fill (g : Nat) : Meets Tryz.prog F.qI [.slice (b4 g) 3 3, int 5] { LI := [Row (b4 g) (rows iL)], val := fun y : OutC => .tuple #[.slice y.1 2 y.2, int 80, int 0], LO := fun y => [Row y.1 (rows ([0, 1] : List Int))] } := by
  have h := ax9 (A := some ⟨g, 0, none⟩) (ca := 3) iL 5 (by decide); rw [rj4] at h; exact h
theorem px4 : Meets Tryz.prog F.dE [int 100, int 12, int 4] { val := fun _ : Unit => .tuple #[int 3, int 44, int 0] } := by
  have h := wZ 100 12 4; rw [lq7] at h; exact h
theorem sj3 (x : Nat × Nat × Nat × Nat) (g h : Nat) : Meets Tryz.prog F.kP [.agg #[.slice (some ⟨x.1, 0, none⟩) 4 4, .slice (some ⟨x.2.1, 0, none⟩) 6 6], .slice (b4 g) 6 6, .slice (b4 h) 2 2, int 1] { LI := [Row (some ⟨x.1, 0, none⟩) (rows shopsC), RowsF (some ⟨x.2.1, 0, none⟩) (shopsH x.2.2.1 x.2.2.2) Hd.row, Row (b4 g) (rows ([5, 9, 4, 7, 6, 9] : List Int)), Row (b4 h) (rows ([1, 2] : List Int))], val := fun y : OutC => .tuple #[.slice y.1 2 y.2, int 11, int 0], LO := fun y => [Row y.1 (rows ([2, 3] : List Int))] } := by
  have h := jA (A := some ⟨x.1, 0, none⟩) (B := some ⟨x.2.1, 0, none⟩) (PA := some ⟨g, 0, none⟩) (WA := some ⟨h, 0, none⟩) (ca := 4) (cb := 6) (pc := 6) (wc := 2) shopsC (shopsH x.2.2.1 x.2.2.2) [5, 9, 4, 7, 6, 9] [1, 2] 1 (by decide) (Nat.le_refl 6) (by intro h hh; simp only [shopsH, List.mem_cons, List.not_mem_nil, or_false] at hh; rcases hh with rfl | rfl | rfl | rfl | rfl | rfl <;> first | decide | exact (show 1 ≤ 1000000 by decide)) (by decide) (by decide); rw [nz6] at h; exact h
theorem sj2 {A B : Option Addr} {ca cb : Nat} : Meets Tryz.prog F.cD [.slice A 3 ca, .slice B 3 cb] { LI := [Row A (rows ([9, 27, 120] : List Int)), Row B (rows ([9, 27, 120] : List Int))], val := fun _ : Unit => .bool true } := by
  have h := G6 (A := A) (B := B) (ca := ca) (cb := cb) [9, 27, 120] [9, 27, 120] (by decide); rw [decide_eq_true rfl] at h; exact h
theorem kq4 {A B : Option Addr} {ca cb : Nat} (a b : Int) : Meets Tryz.prog F.cD [.slice A 2 ca, .slice B 2 cb] { LI := [Row A (rows [a, b]), Row B (rows [a, b])], val := fun _ : Unit => .bool true } := by
  have h := G6 (A := A) (B := B) (ca := ca) (cb := cb) [a, b] [a, b] (show 2 ≤ 9223372036854775806 by decide); rw [decide_eq_true rfl] at h; exact h
set_option maxHeartbeats 1000000 in
theorem K3 : Meets Tryz.prog F.jU [] { val := fun _ : Unit => .bool true } := by
 refine i9 F.cj0 rfl t4 fun w0 => ?_; refine i5 (b8 rfl (j8 ?_)); refine j0 F.iM rfl rfl (aQ) l7 trivial fun x1 _ => ?_; refine j0 F.gj7 rfl rfl (sj4 x1) l7 mC fun y1 _ => ?_; refine a9 rfl (u5 rfl rfl rfl (u5 rfl rfl rfl (b8 rfl (b8 rfl (j8 ?_))))); refine j0 F.dx5 rfl rfl (xX) l7 trivial fun x2 _ => ?_; refine B5 _ rfl rfl (fun _ => T.M4 ..) ?_; refine j0 F.gj3 rfl rfl (sj1 x2) l7 mC fun _ _ => ?_; refine a9 rfl (u5 rfl rfl rfl (u5 rfl rfl rfl (b8 rfl (b8 rfl (j8 ?_))))); refine j0 F.cj1 rfl rfl (vO) l7 trivial fun x3 _ => ?_; refine j0 F.jj4 rfl rfl (ex_fill x3) l7 mC fun y3 _ => ?_; refine a9 rfl (u5 rfl rfl rfl (u5 rfl rfl rfl (u5 rfl rfl rfl (b8 rfl (b8 rfl (b8 rfl (j8 ?_))))))); refine j0 F.bz8 rfl rfl (vM) l7 trivial fun x4 _ => ?_; refine j0 F.bz9 rfl rfl (vN) l7 trivial fun x5 _ => ?_; refine l6 _ rfl rfl (fun _ => T.yN ..) fun gw => ?_; refine w7 (rows ([1, 2] : List Int)) (List.prefix_refl _) ?_; refine j0 F.rL rfl rfl (sj3 x4 x5 gw) l7 mC fun y4 _ => ?_; refine a9 rfl (u5 rfl rfl rfl (u5 rfl rfl rfl (u5 rfl rfl rfl (b8 rfl (b8 rfl (b8 rfl (j8 ?_))))))); refine j0 F.cz4 rfl rfl (px4) l7 trivial fun _ _ => ?_; refine a9 rfl (u5 rfl rfl rfl (u5 rfl rfl rfl (u5 rfl rfl rfl (b8 rfl (b8 rfl (b8 rfl (j8 (a9 rfl ?_)))))))); refine I3 rfl rfl rfl (a9 rfl ?_); refine t7 rfl rfl ?_ ?_
 ·intro hg1; have hg1' := hg1; try simp at hg1'
  refine i3 rfl rfl hg1 (a9 rfl (i3 rfl rfl hg1 (I3 rfl rfl rfl ?_))); refine p_t rfl rfl (bt1 hg1) rfl (a9 rfl ?_); refine t7 rfl rfl ?_ ?_
  ·intro hg2; have hg2' := hg2; try simp at hg2'
   refine i3 rfl rfl hg2 (a9 rfl (i3 rfl rfl hg2 (I3 rfl rfl rfl ?_))); refine p_t rfl rfl (bt1 hg2) rfl (a9 rfl ?_); refine t7 rfl rfl ?_ ?_
   ·intro hg3; have hg3' := hg3; try simp at hg3'
    refine i3 rfl rfl hg3 (a9 rfl (i3 rfl rfl hg3 (I3 rfl rfl rfl ?_))); refine p_t rfl rfl (bt1 hg3) rfl (a9 rfl ?_); refine t7 rfl rfl ?_ ?_
    ·intro hg4; have hg4' := hg4; try simp at hg4'
     refine i3 rfl rfl hg4 (a9 rfl (i3 rfl rfl hg4 (I3 rfl rfl rfl ?_))); refine p_t rfl rfl (bt1 hg4) rfl (a9 rfl ?_); refine t7 rfl rfl ?_ ?_
     ·intro hg5; have hg5' := hg5; try simp at hg5'
      refine i3 rfl rfl hg5 (a9 rfl (i3 rfl rfl hg5 (I3 rfl rfl rfl ?_))); refine p_t rfl rfl (bt1 hg5) rfl (a9 rfl ?_); refine t7 rfl rfl ?_ ?_
      ·intro hg6; have hg6' := hg6; try simp at hg6'
       refine i3 rfl rfl hg6 (a9 rfl (i3 rfl rfl hg6 (I3 rfl rfl rfl ?_))); refine p_t rfl rfl (bt1 hg6) rfl (a9 rfl ?_); refine t7 rfl rfl ?_ ?_
       ·intro hg7; have hg7' := hg7; try simp at hg7'
        refine i3 rfl rfl hg7 (a9 rfl (i3 rfl rfl hg7 (I3 rfl rfl rfl ?_))); refine p_t rfl rfl (bt1 hg7) rfl (a9 rfl ?_); refine t7 rfl rfl ?_ ?_
        ·intro hg8; have hg8' := hg8; try simp at hg8'
         refine i3 rfl rfl hg8 (a9 rfl (i3 rfl rfl hg8 (I3 rfl rfl rfl ?_))); refine p_t rfl rfl (bt1 hg8) rfl (a9 rfl ?_); refine t7 rfl rfl ?_ ?_
         ·intro hg9; have hg9' := hg9; try simp at hg9'
          refine i3 rfl rfl hg9 (a9 rfl (i3 rfl rfl hg9 (I3 rfl rfl rfl ?_))); refine p_t rfl rfl (bt1 hg9) rfl (a9 rfl ?_); refine t7 rfl rfl ?_ ?_
          ·intro hg10; have hg10' := hg10; try simp at hg10'
           refine i3 rfl rfl hg10 (a9 rfl (i3 rfl rfl hg10 ?_)); refine l6 _ rfl rfl (fun _ => T.bK ..) fun g40 => ?_; refine w7 (rows ([9, 27, 120] : List Int)) (List.prefix_refl _) (i3 rfl rfl hg10 ?_); refine j0 F.H8 rfl rfl (sj2) l7 mC fun _ _ => ?_; refine p_t rfl rfl (bt1 hg10) rfl (a9 rfl ?_); refine t7 rfl rfl ?_ ?_
           ·intro hg11; have hg11' := hg11; try simp at hg11'
            refine i3 rfl rfl hg11 (a9 rfl (i3 rfl rfl hg11 ?_)); refine l6 _ rfl rfl (fun _ => T.yN ..) fun g45 => ?_; refine w7 (rows ([0, 1] : List Int)) (List.prefix_refl _) (i3 rfl rfl hg11 ?_); refine j0 F.H8 rfl rfl (kq4 0 1) l7 mC fun _ _ => ?_; refine p_t rfl rfl (bt1 hg11) rfl (a9 rfl ?_); refine t7 rfl rfl ?_ ?_
            ·intro hg12; have hg12' := hg12; try simp at hg12'
             refine i3 rfl rfl hg12 (a9 rfl (i3 rfl rfl hg12 ?_)); refine l6 _ rfl rfl (fun _ => T.yN ..) fun g50 => ?_; refine w7 (rows ([2, 3] : List Int)) (List.prefix_refl _) (i3 rfl rfl hg12 ?_); refine j0 F.H8 rfl rfl (kq4 2 3) l7 mC fun _ _ => ?_; refine p_t rfl rfl (bt1 hg12) rfl ?_; refine b8 rfl (d6 (j5 ?_)); exact ret1 () rfl rfl rfl trivial nil_sb trivial
            intro hg12; have hg12' := hg12; try simp at hg12'
           intro hg11; have hg11' := hg11; try simp at hg11'
          intro hg10; have hg10' := hg10; try simp at hg10'
         intro hg9; have hg9' := hg9; try simp at hg9'
        intro hg8; have hg8' := hg8; try simp at hg8'
       intro hg7; have hg7' := hg7; try simp at hg7'
      intro hg6; have hg6' := hg6; try simp at hg6'
     intro hg5; have hg5' := hg5; try simp at hg5'
    intro hg4; have hg4' := hg4; try simp at hg4'
   intro hg3; have hg3' := hg3; try simp at hg3'
  intro hg2; have hg2' := hg2; try simp at hg2'
 intro hg1; have hg1' := hg1; try simp at hg1'
end Go.Proofs.YtdlbbfcfahahdaaGreat
end
section
namespace Go.Proofs.YtdlbbfcfahahdaaGreat
open Go Go.W
set_option maxRecDepth 20000
attribute [local irreducible] HL HC HQ HB Row Rows2 Blk Facts
theorem gq3 {m z : Int} (h : ToInv m z) (hm : 0 ≤ m) : 0 ≤ z ∧ z ≤ m := by
  simp only [ToInv] at h; refine ⟨h.1, ?_⟩
  by_cases h1 : 1 ≤ m
  · exact h.2.1 h1
  have := h.2.2 (by omega); omega
theorem zO {α : Type} {p : α → Prop} {l : List α} {x : α} (h : ∀ y ∈ l, p y) (hx : p x) : ∀ y ∈ l ++ [x], p y := fun y hy => (List.mem_append.1 hy).elim (h y) fun hy => by rw [List.mem_singleton.1 hy]; exact hx
theorem tB {g : Nat} {A B : Option Addr} {c cb : Nat} {nums : List Int} {s : Int × Int} (l : List Int) (hn : nums.length ≤ 9223372036854775807) (hs : DOK nums s) (hl : 0 < l.length) (hl2 : l.length ≤ 1000) :
    Meets Tryz.prog F.kA [.pointer (b4 g), .slice B l.length cb] { diceCon g A c nums s (fun x : Int => x ∈ l) (fun z => int z) (fun _ => []) with LI := [Row A (rows nums), Row B (rows l)] } := by
 refine i9 F.cj8 rfl t4 fun w0 => ?_; refine i5 (b8 rfl (j8 (a9 rfl (a9 rfl (a9 rfl ?_))))); refine j3 rfl T.l4 rfl (K2 _ rfl rfl rfl rfl m6 ?_); refine j0 F.D2 rfl rfl (A5 ((l.length : Int) - 1) hn hs (by omega)) l7 mC fun xs1 hs1 => ?_; obtain ⟨s1, z⟩ := xs1; obtain ⟨hs1, hz⟩ := hs1; simp only at hs1; have hz := gq3 hz (by omega); obtain ⟨zn, rfl⟩ := Int.eq_ofNat_of_zero_le hz.1; have hzl : zn < l.length := by omega
 refine m7 (α := Int) _ _ rfl T.l4 T.q7 rfl rfl rfl mB rfl (by omega) (by decide) (c9 rfl T.i7 rfl (l8 mB (k6 (by omega) rfl)) ?_); refine b8 rfl (d6 (j5 ?_)); exact ret1 (s1, l.getD zn default) rfl rfl rfl ⟨hs1, n0 hzl⟩ (.refl _) trivial
theorem sY {g : Nat} {A : Option Addr} {c : Nat} {nums : List Int} {s : Int × Int} (n : Nat) (hn : nums.length ≤ 9223372036854775807) (hs : DOK nums s) (h1 : n ≤ 1000) :
    Meets Tryz.prog F.jX [.pointer (b4 g), int n] (diceCon g A c nums s (fun x : List Int × OutC => x.1.length = n ∧ (∀ y ∈ x.1, 0 ≤ y ∧ y ≤ 40) ∧ x.1.length ≤ x.2.2) (fun x => .slice x.2.1 x.1.length x.2.2) (fun x => [Row x.2.1 (rows x.1)])) := by
 refine i9 F.cj4 rfl t4 fun w0 => ?_; refine i5 (b8 rfl (j8 (b8 rfl (d6 (dV ?_))))); refine d9 (b8 rfl (d6 (i8 ?_))); refine p9 (β := List Int × OutC × Hp × Nat × (Int × Int)) ⟨fun ⟨l, o, og, i, s⟩ => Grow T.int 1 o.1 l.length o.2 (rows l) og ∧ (l.length = i ∧ i ≤ n) ∧ (∀ y ∈ l, 0 ≤ y ∧ y ≤ 40) ∧ DOK nums s, fun ⟨l, o, og, i, s⟩ => [(0, .pointer (b4 g)), (1, int n), (5, .slice o.1 l.length o.2), (6, int i)], fun ⟨l, o, og, i, s⟩ => og ++ [dice g A c nums s], fun _ => [Row A (rows nums)]⟩ (fun ⟨l, o, og, i, s⟩ => n - i) ([], (none, 0), [], 0, s) ⟨Grow.nil _ _, ⟨rfl, Nat.zero_le _⟩, by intro s h; simp at h, hs⟩ mC (.refl _) mC fun z hz => ?_; obtain ⟨l, o, og, i, s⟩ := z; obtain ⟨hG, hli, hok, hs⟩ := hz; refine d7 (i5 (a9 rfl (a9 rfl (u4 rfl rfl rfl (d6 ?_))))); refine m3 rfl (fun hb1 => ?_) (fun hb1 => ?_)
 ·have hb1' := hb1; try simp at hb1'
  have hi0 : i < n := by omega
  refine i6 (d8 (d7 (i8 (d9 (a9 rfl (a9 rfl (a9 rfl ?_))))))); refine j0 F.D2 rfl rfl (A5 (9) hn hs (by omega)) (List.perm_append_comm) mC fun xs2 hs2 => ?_; obtain ⟨s2, z2⟩ := xs2; obtain ⟨hs2, hz2⟩ := hs2; simp only at hs2; have hz2 : 0 ≤ z2 ∧ z2 ≤ 9 := gq3 hz2 (by omega); refine a9 rfl ?_; refine j0 F.D2 rfl rfl (A5 (40) hn hs2 (by omega)) l7 mC fun xs3 hs3 => ?_; obtain ⟨s3, z3⟩ := xs3; obtain ⟨hs3, hz3⟩ := hs3; simp only at hs3; have hz3 : 0 ≤ z3 ∧ z3 ≤ 40 := gq3 hz3 (by omega); refine l6 _ rfl rfl (fun _ => T.bK ..) fun gS => ?_; refine w7 (rows ([5, z2, z3] : List Int)) (List.prefix_refl _) ?_; refine j0 F.aq2 rfl rfl (tB ([5, z2, z3]) hn hs3 (show 0 < 3 by decide) (show 3 ≤ 1000 by decide)) l7 mC fun xs4 hs4 => ?_; obtain ⟨s4, z4⟩ := xs4; obtain ⟨hs4, hz4⟩ := hs4; simp only at hs4
  have hz4 : 0 ≤ z4 ∧ z4 ≤ 40 := by
    have hm := hz4; simp only [List.mem_cons, List.not_mem_nil, or_false] at hm; rcases hm with rfl | rfl | rfl <;> omega
  refine l6 _ rfl rfl (fun _ => T.H1 ..) fun gS => ?_; refine w7 (rows [(z4 : Int)]) (List.prefix_refl _) ?_; refine G2 (hp' := [dice g A c nums s4]) (l.length + 1) (rows (l ++ [(z4 : Int)])) T.S3 rfl rfl rfl hG (show List.Perm (dice g A c nums s4 :: og) (og ++ [dice g A c nums s4]) from (E1 fun p => by simp only [List.countP_append, List.countP_cons, List.countP_nil]; omega)) (Src.row (news := rows [(z4 : Int)]) (m := 1) mB rfl (D0 _) (by decide)) rfl (y6 _ _).symm (by unfold maxLen; omega) (by omega) fun A4 c4 og4 hG4 => ?_; refine b8 rfl (c8 (t6 (d8 (d9 (a9 rfl ?_))))); refine r7 ((i + 1 : Nat) : Int) rfl rfl rfl (by omega) m6 ?_; refine b8 rfl (c8 ?_); have e1 : (l ++ [(z4 : Int)]).length = l.length + 1 := List.length_append; exact again _ (l ++ [(z4 : Int)], (A4, c4), og4, i + 1, s4) ⟨by show Grow _ _ _ (l ++ [_]).length _ _ _; rw [e1]; exact hG4, by rw [e1]; omega, zO hok hz4, hs4⟩ (u2 (by omega)) ⟨rfl, rfl, by rw [e1]; rfl, rfl, trivial⟩ (.refl _) mC
 have hb1' := hb1; try simp at hb1'
 have hi0 : i = n := by omega
 refine p8 (v8 (p7 (d8 (i5 (a9 rfl (b8 rfl (d6 (j5 ?_)))))))); refine cF hG ?_; exact ret1 (s, l, o) rfl rfl rfl ⟨hs, by show l.length = n; omega, hok, hG.le⟩ (.refl _) ⟨m0, trivial⟩
theorem cY {g : Nat} {A : Option Addr} {c : Nat} {nums : List Int} {s : Int × Int} (n most : Nat) (hn : nums.length ≤ 9223372036854775807) (hs : DOK nums s) (h1 : n ≤ 1000) (hm : most ≤ 100) :
    Meets Tryz.prog F.nX [.pointer (b4 g), int n, int most] (diceCon g A c nums s (fun x : List Int × OutC => x.1.length ≤ most ∧ (∀ y ∈ x.1, 0 ≤ y ∧ y < (n : Int)) ∧ x.1.length ≤ x.2.2) (fun x => .slice x.2.1 x.1.length x.2.2) (fun x => [Row x.2.1 (rows x.1)])) := by
 refine i9 F.dz1 rfl t4 fun w0 => ?_; refine i5 (b8 rfl (j8 (b8 rfl (d6 (dV ?_))))); refine d9 (a9 rfl (a9 rfl ?_)); refine j0 F.D2 rfl rfl (A5 (most) hn hs (by omega)) l7 mC fun xs1 hs1 => ?_; obtain ⟨s1, zn⟩ := xs1; obtain ⟨hs1, hzn⟩ := hs1; simp only at hs1; have hzn : 0 ≤ zn ∧ zn ≤ most := gq3 hzn (by omega); obtain ⟨zn, rfl⟩ := Int.eq_ofNat_of_zero_le hzn.1; refine b8 rfl (d6 (i8 ?_)); refine p9 (β := List Int × OutC × Hp × Nat × (Int × Int)) ⟨fun ⟨l, o, og, i, s⟩ => Grow T.int 1 o.1 l.length o.2 (rows l) og ∧ l.length + i ≤ most ∧ (∀ y ∈ l, 0 ≤ y ∧ y < (n : Int)) ∧ DOK nums s, fun ⟨l, o, og, i, s⟩ => [(0, .pointer (b4 g)), (1, int n), (7, .slice o.1 l.length o.2), (8, int i)], fun ⟨l, o, og, i, s⟩ => og ++ [dice g A c nums s], fun _ => [Row A (rows nums)]⟩ (fun ⟨l, o, og, i, s⟩ => i) ([], (none, 0), [], zn, s1) ⟨Grow.nil _ _, by rw [List.length_nil]; omega, by intro s h; simp at h, hs1⟩ mC (.refl _) mC fun z hz => ?_; obtain ⟨l, o, og, i, s⟩ := z; obtain ⟨hG, hli, hok, hs⟩ := hz; refine d7 (i5 (a9 rfl (H5 rfl rfl rfl (a9 rfl ?_)))); refine t7 rfl rfl ?_ ?_
 ·intro hg1; have hg1' := hg1; try simp at hg1'
  refine i3 rfl rfl hg1 (a9 rfl (i3 rfl rfl hg1 (H5 rfl rfl rfl ?_))); refine p_t rfl rfl (bt1 hg1) rfl ?_; refine d6 ?_; refine m3 rfl (fun hb1 => ?_) (fun hb1 => ?_)
  ·have hb1' := hb1; try simp at hb1'
   have hi0 : 0 < i := by omega
   refine i6 (d8 (d7 (i8 (d9 (a9 rfl (a9 rfl (a9 rfl ?_))))))); refine K2 _ rfl rfl rfl rfl m6 ?_; refine j0 F.D2 rfl rfl (A5 ((n : Int) - 1) hn hs (by omega)) (List.perm_append_comm) mC fun xs2 hs2 => ?_; obtain ⟨s2, z2⟩ := xs2; obtain ⟨hs2, hz2⟩ := hs2; simp only at hs2; have hz2 : 0 ≤ z2 ∧ z2 ≤ (n : Int) - 1 := gq3 hz2 (by omega); refine l6 _ rfl rfl (fun _ => T.H1 ..) fun gS => ?_; refine w7 (rows [(z2 : Int)]) (List.prefix_refl _) ?_; refine G2 (hp' := [dice g A c nums s2]) (l.length + 1) (rows (l ++ [(z2 : Int)])) T.S3 rfl rfl rfl hG (show List.Perm (dice g A c nums s2 :: og) (og ++ [dice g A c nums s2]) from (E1 fun p => by simp only [List.countP_append, List.countP_cons, List.countP_nil]; omega)) (Src.row (news := rows [(z2 : Int)]) (m := 1) mB rfl (D0 _) (by decide)) rfl (y6 _ _).symm (by unfold maxLen; omega) (by omega) fun A4 c4 og4 hG4 => ?_; refine b8 rfl (c8 (t6 (d8 (d9 (a9 rfl ?_))))); refine K2 ((i - 1 : Nat) : Int) rfl rfl rfl (by omega) m6 ?_; refine b8 rfl (c8 ?_); have e1 : (l ++ [(z2 : Int)]).length = l.length + 1 := List.length_append; exact again _ (l ++ [(z2 : Int)], (A4, c4), og4, i - 1, s2) ⟨by show Grow _ _ _ (l ++ [_]).length _ _ _; rw [e1]; exact hG4, by rw [e1]; omega, zO hok (by omega), hs2⟩ (by show i - 1 < i; omega) ⟨rfl, rfl, by rw [e1]; rfl, rfl, trivial⟩ (.refl _) mC
  have hb1' := hb1; try simp at hb1'
  refine p8 (v8 (p7 (d8 (i5 (a9 rfl (b8 rfl (d6 (j5 ?_)))))))); refine cF hG ?_; exact ret1 (s, l, o) rfl rfl rfl ⟨hs, by show l.length ≤ most; omega, hok, hG.le⟩ (.refl _) ⟨m0, trivial⟩
 intro hg1; have hg1' := hg1; try simp at hg1'
 refine k4 rfl rfl rfl rfl rfl hg1 (k4 rfl rfl rfl rfl rfl hg1 ?_); refine p_f rfl rfl (bf2 hg1) rfl ?_; refine d6 (c_f rfl rfl (p8 (v8 (p7 (d8 (i5 (a9 rfl (b8 rfl ?_)))))))); refine d6 (j5 (cF hG ?_)); exact ret1 (s, l, o) rfl rfl rfl ⟨hs, by show l.length ≤ most; omega, hok, hG.le⟩ (.refl _) ⟨m0, trivial⟩
end Go.Proofs.YtdlbbfcfahahdaaGreat
end
section
namespace Go.W
open Go Go.RowKit
end Go.W
end
section
namespace Go.Proofs.YtdlbbfcfahahdaaGreat
open Go Go.W
set_option maxRecDepth 20000
attribute [local irreducible] HL HC HQ HB Row Rows2 Blk Facts
abbrev lsts (ps : List (Sl Int)) : List (List Int) := ps.map (·.l)
theorem bz7 (ps : List (Sl Int)) : (lsts ps).length = ps.length := List.length_map ..
theorem mz3 (ps : List (Sl Int)) {k : Nat} (hk : k < ps.length) : (lsts ps).getD k [] = (ps.getD k default).l := by
  rw [t5 hk]
  simp [List.getD_eq_getElem?_getD, hk]
theorem pE {α : Type} : ∀ (k : Nat) (l : List α), l.length < k → combos k l = []
  | 0, l, h => by omega
  | k + 1, [], _ => rfl
  | k + 1, x :: l, h => by
    rw [List.length_cons] at h; rw [combos, pE k l (by omega), pE (k + 1) l (by omega)]
    rfl
abbrev OutSL := List (Sl Int) × OutC
def upI (f n : Nat) : List Int := (List.range' f (n - f)).map fun i : Nat => (i : Int)
theorem uF (f n : Nat) : (upI f n).length = n - f := by rw [upI, List.length_map, List.length_range']
theorem qq4 {f n : Nat} (h : f < n) : upI f n = (f : Int) :: upI (f + 1) n := by
  obtain ⟨k, e⟩ : ∃ k, n - f = k + 1 := ⟨n - f - 1, by omega⟩; have e2 : n - (f + 1) = k := by omega
  unfold upI; rw [e, e2, List.range'_succ]
  rfl
theorem kI {α : Type} : ∀ (l : List α) (k : Nat), (combos k l).length ≤ 2 ^ l.length
  | l, 0 => by
    rw [combos]; exact Nat.one_le_two_pow
  | [], k + 1 => Nat.zero_le _
  | x :: l, k + 1 => by
    have h1 := kI l k; have h2 := kI l (k + 1); rw [combos, List.length_append, List.length_map, List.length_cons, Nat.pow_succ]
    omega
theorem N3 {α : Type} : ∀ {k : Nat} {l c : List α}, c ∈ combos k l → c.length = k
  | 0, l, c, h => by
    rw [combos, List.mem_singleton] at h; rw [h]
    rfl
  | k + 1, [], c, h => by rw [combos] at h; cases h
  | k + 1, x :: l, c, h => by
    rw [combos, List.mem_append] at h
    rcases h with h | h
    · obtain ⟨d, hd, rfl⟩ := List.mem_map.1 h
      rw [List.length_cons, N3 hd]
    exact N3 h
theorem cJ {α : Type} : ∀ {k : Nat} {l c : List α}, c ∈ combos k l → c.Sublist l
  | 0, l, c, h => by
    rw [combos, List.mem_singleton] at h; rw [h]; exact List.nil_sublist _
  | k + 1, [], c, h => by rw [combos] at h; cases h
  | k + 1, x :: l, c, h => by
    rw [combos, List.mem_append] at h
    rcases h with h | h
    · obtain ⟨d, hd, rfl⟩ := List.mem_map.1 h
      exact List.Sublist.cons_cons _ (cJ hd)
    exact List.Sublist.cons _ (cJ h)
def subK (m f n k : Nat) : List (List Int) := ((List.range' f (k - f)).map fun i : Nat => (combos m (upI (i + 1) n)).map ((i : Int) :: ·)).flatten
theorem gq8 {m f n k : Nat} (h : f ≤ k) : subK m f n (k + 1) = subK m f n k ++ (combos m (upI (k + 1) n)).map ((k : Int) :: ·) := by
  have e : k + 1 - f = (k - f) + 1 := by omega
  unfold subK; rw [e, List.range'_1_concat, List.map_append, List.flatten_append, show f + (k - f) = k by omega]
  simp
theorem bq6 {m n : Nat} : ∀ (d f k : Nat), k - f = d → f ≤ k → k ≤ n → combos (m + 1) (upI f n) = subK m f n k ++ combos (m + 1) (upI k n)
  | 0, f, k, hd, h, _ => by
    obtain rfl : f = k := by omega
    unfold subK; rw [Nat.sub_self]
    rfl
  | d + 1, f, k, hd, h, hk => by
    rw [bq6 d f (k - 1) (by omega) (by omega) (by omega)]; obtain ⟨j, rfl⟩ : ∃ j, k = j + 1 := ⟨k - 1, by omega⟩; rw [Nat.add_sub_cancel, gq8 (by omega), qq4 (show j < n by omega), combos, List.append_assoc]
theorem qx3 {m f n k : Nat} (h : f ≤ k) (hk : k ≤ n) (hn : n < k + (m + 1)) : combos (m + 1) (upI f n) = subK m f n k := by
  rw [bq6 _ f k rfl h hk, pE (m + 1) (upI k n) (by rw [uF]; omega), List.append_nil]
theorem qx2 {m f n k : Nat} (h : f ≤ k) (hk : k ≤ n) (hn : n ≤ 16) : (subK m f n k).length ≤ 65536 := by
  have h1 := kI (upI f n) (m + 1); rw [bq6 _ f k rfl h hk, List.length_append, uF] at h1; have h2 : 2 ^ (n - f) ≤ 2 ^ 16 := Nat.pow_le_pow_right (by decide) (by omega)
  omega
theorem cx6 {α : Type} : ∀ {c l : List α}, c.Sublist l → c ∈ combos c.length l
  | [], l, _ => by
    show [] ∈ combos 0 l; rw [combos]; exact List.mem_singleton.2 rfl
  | x :: c, l, h => by
    induction l with
    | nil => cases h
    | cons y l ih =>
      show x :: c ∈ combos (c.length + 1) (y :: l); rw [combos, List.mem_append]
      cases h with
      | cons _ h => exact .inr (ih h)
      | cons_cons _ h => exact .inl (List.mem_map.2 ⟨c, cx6 h, rfl⟩)
theorem jq7 (n : Nat) : upI 0 (n + 1) = upI 0 n ++ [(n : Int)] := by
  unfold upI; rw [Nat.sub_zero, Nat.sub_zero, ← List.range_eq_range', ← List.range_eq_range', List.range_succ, List.map_append]; rfl
theorem bz1 (s : Nat) : ∀ n, (pickK s n).Sublist (upI 0 n)
  | 0 => .refl _
  | n + 1 => by
    rw [U1, jq7]
    split
    · exact (bz1 s n).append (.refl _)
    exact (bz1 s n).trans (List.sublist_append_left _ _)
theorem lq6 {s t n : Nat} (h : ∀ i, i < n → s.testBit i = t.testBit i) : pickK s n = pickK t n := by
  unfold pickK; refine congrArg _ (List.filter_congr fun i hi => h i (List.mem_range.1 hi))
theorem sub_one {a : Int} : ∀ {l : List Int}, l.Sublist [a] → l = [] ∨ l = [a]
  | _, .cons _ h => .inl (List.sublist_nil.1 h)
  | _, .cons_cons _ h => .inr (by rw [List.sublist_nil.1 h])
theorem jz6 : ∀ {n : Nat} {c : List Int}, c.Sublist (upI 0 n) → ∃ s, s < 2 ^ n ∧ pickK s n = c
  | 0, c, h => ⟨0, by decide, by
    have : c = [] := List.sublist_nil.1 h
    rw [this]; rfl⟩
  | n + 1, c, h => by
    rw [jq7] at h; obtain ⟨c1, c2, rfl, h1, h2⟩ := List.sublist_append_iff.1 h; obtain ⟨s, hs, rfl⟩ := jz6 h1; have hsb : s.testBit n = false := Nat.testBit_lt_two_pow hs; have hp : 2 ^ (n + 1) = 2 * 2 ^ n := by rw [Nat.pow_succ]; omega
    rcases sub_one h2 with rfl | rfl
    · exact ⟨s, by omega, by rw [U1, hsb, List.append_nil]; rfl⟩
    refine ⟨s ||| 2 ^ n, Nat.or_lt_two_pow (by omega) (by omega), ?_⟩; rw [U1, Nat.testBit_or, hsb, Nat.testBit_two_pow_self, Bool.or_true, if_pos rfl]; rw [lq6 (t := s) fun i hi => by rw [Nat.testBit_or, Nat.testBit_two_pow, show decide (n = i) = false from decide_eq_false (by omega), Bool.or_false]]
-- ---- orders
theorem iz7 (a b : Int) : cmpI a b < 0 ↔ a < b := by
  unfold cmpI
  split
  · omega
  split <;> omega
theorem bj3 (a b : Int) : cmpI a b = 0 ↔ a = b := by
  unfold cmpI
  split
  · omega
  split <;> omega
theorem qG (a : List Int) : ¬ cmpIs a [] < 0 := by cases a <;> simp [cmpIs]
theorem Y3 (a b : Int) (l l' : List Int) : cmpIs (a :: l) (b :: l') < 0 ↔ a < b ∨ (a = b ∧ cmpIs l l' < 0) := by
  rw [cmpIs]
  split
  · rename_i e
    rw [iz7]; have := mt (bj3 a b).2 e
    omega
  rename_i e
  have := (bj3 a b).1 (Classical.not_not.1 e)
  omega
theorem pF : ∀ {a b c : List Int}, cmpIs a b < 0 → cmpIs b c < 0 → cmpIs a c < 0
  | [], [], c, h, _ => absurd h (qG _)
  | [], y :: b, [], _, h2 => absurd h2 (qG _)
  | [], y :: b, z :: c, _, _ => by simp [cmpIs]
  | x :: a, [], c, h, _ => absurd h (qG _)
  | x :: a, y :: b, [], _, h2 => absurd h2 (qG _)
  | x :: a, y :: b, z :: c, h, h2 => by
    rw [Y3] at *
    rcases h with h | ⟨h, h3⟩ <;> rcases h2 with h2 | ⟨h2, h4⟩
    · exact .inl (by omega)
    · exact .inl (by omega)
    · exact .inl (by omega)
    exact .inr ⟨by omega, pF h3 h4⟩
theorem yL : ∀ a : List Int, ¬ cmpIs a a < 0
  | [] => by simp [cmpIs]
  | x :: a => by rw [Y3]; have := yL a; omega
theorem zS : ∀ {a b : List Int}, ¬ a = b → cmpIs a b < 0 ∨ cmpIs b a < 0
  | [], [], h => absurd rfl h
  | [], y :: b, _ => .inl (by simp [cmpIs])
  | x :: a, [], _ => .inr (by simp [cmpIs])
  | x :: a, y :: b, h => by
    rw [Y3, Y3]
    by_cases e : x = y
    · subst e
      have := zS (a := a) (b := b) (fun e => h (by rw [e]))
      omega
    omega
theorem orL3 (a b c : Int) : orL [a, b, c] < 0 ↔ a < 0 ∨ (a = 0 ∧ (b < 0 ∨ (b = 0 ∧ c < 0))) := by
  simp only [orL]
  split
  · omega
  split
  · omega
  split <;> omega
theorem vG (x y : Hn) : ordP x y < 0 ↔ x.2.2 < y.2.2 ∨ (x.2.2 = y.2.2 ∧ (x.1.length < y.1.length ∨ (x.1.length = y.1.length ∧ cmpIs x.1 y.1 < 0))) := by
  unfold ordP; rw [orL3, iz7, iz7, bj3, bj3]; omega
structure Tot (o : Hn → Hn → Int) : Prop where
  tr : ∀ {x y z}, o x y < 0 → o y z < 0 → o x z < 0
  to : ∀ {x y}, ¬ x.1 = y.1 → o x y < 0 ∨ o y x < 0
  ir : ∀ {x y}, x.1 = y.1 → x.2 = y.2 → ¬ o x y < 0
theorem tot_P : Tot ordP := ⟨fun {x y z} h1 h2 => by
    rw [vG] at *
    rcases h1 with h1 | ⟨h1, h1 | ⟨h3, h5⟩⟩ <;> rcases h2 with h2 | ⟨h2, h2 | ⟨h4, h6⟩⟩ <;> first | omega | exact .inr ⟨by omega, .inr ⟨by omega, pF h5 h6⟩⟩,
  fun {x y} h => by
    rw [vG, vG]; have := zS h
    omega,
  fun {x y} h h2 => by
    rw [vG, h, h2]; have := yL y.1
    omega⟩
def BestIs (o : Hn → Hn → Int) (S : Hn → Prop) (b : Hn) : Prop := S b ∧ ∀ x, S x → ¬ o x b < 0
theorem qj2 {o : Hn → Hn → Int} (ho : Tot o) {S : Hn → Prop} {b x : Hn} (h : BestIs o S b) (hs : x.1 = b.1 → x = b) : BestIs o (fun y => S y ∨ y = x) (if o x b < 0 then x else b) := by
  split
  · rename_i e
    refine ⟨.inr rfl, fun y hy => ?_⟩
    rcases hy with hy | rfl
    · exact fun e2 => h.2 y hy (ho.tr e2 e)
    exact ho.ir rfl rfl
  rename_i e
  refine ⟨.inl h.1, fun y hy => ?_⟩
  rcases hy with hy | rfl
  · exact h.2 y hy
  exact e
theorem qj1 {o : Hn → Hn → Int} (ho : Tot o) {S S' : Hn → Prop} {b b' : Hn} (h : BestIs o S b) (h' : BestIs o S' b') (hS : ∀ x, S x ↔ S' x) (hf : ∀ x y, S x → S y → x.1 = y.1 → x = y) : b = b' := by
  refine hf _ _ h.1 ((hS _).2 h'.1) (Classical.byContradiction fun e => ?_)
  rcases ho.to e with h1 | h1
  · exact h'.2 _ ((hS _).1 h.1) h1
  exact h.2 _ ((hS _).2 h'.1) h1
theorem sq9 {o : Hn → Hn → Int} (ho : Tot o) : ∀ {l : List Hn}, (∀ x ∈ l, ∀ y ∈ l, x.1 = y.1 → x = y) → ((bestL o l).2 = false ∧ l = []) ∨ ((bestL o l).2 = true ∧ BestIs o (· ∈ l) (bestL o l).1) := by
  intro l; rw [← List.reverse_reverse l]; generalize l.reverse = r
  induction r with
  | nil => intro _; exact .inl ⟨rfl, rfl⟩
  | cons x r ih =>
    intro hf; rw [List.reverse_cons] at hf ⊢
    right
    rw [jC]; have ih := ih fun x hx y hy => hf x (List.mem_append_left _ hx) y (List.mem_append_left _ hy); unfold offS
    rcases ih with ⟨h1, h2⟩ | ⟨h1, h2⟩
    · rw [if_pos (.inl h1), h2]
      exact ⟨rfl, List.mem_singleton.2 rfl, fun y hy => by rw [List.mem_singleton.1 hy]; exact ho.ir rfl rfl⟩
    have h3 := qj2 ho (x := x) h2 (fun e => hf x (List.mem_append_right _ (List.mem_singleton.2 rfl)) _ (List.mem_append_left _ h2.1) e); have h4 : ∀ b, BestIs o (fun y => y ∈ r.reverse ∨ y = x) b → BestIs o (· ∈ r.reverse ++ [x]) b := fun b hb => ⟨by show b ∈ r.reverse ++ [x]; rw [List.mem_append, List.mem_singleton]; exact hb.1, fun y hy => hb.2 y (by have hy : y ∈ r.reverse ++ [x] := hy; rw [List.mem_append, List.mem_singleton] at hy; exact hy)⟩
    by_cases e : o x (bestL o r.reverse).1 < 0
    · rw [if_pos (.inr e)]
      rw [if_pos e] at h3; exact ⟨rfl, h4 _ h3⟩
    rw [if_neg (by rw [h1]; intro h; exact h.elim (fun h => by cases h) e)]; rw [if_neg e] at h3; exact ⟨h1, h4 _ h3⟩
end Go.Proofs.YtdlbbfcfahahdaaGreat
end
section
namespace Go.Proofs.YtdlbbfcfahahdaaGreat
open Go Go.W
set_option maxRecDepth 20000
attribute [local irreducible] HL HC HQ HB Row Rows2 Blk Facts
abbrev saB (g : Nat) (c : Ch) (sA : Option Addr) (sn sC : Nat) (aA : Option Addr) (an aC : Nat) : Nat × Obj := (g, .cells #[int c.1, int c.2.1, int c.2.2.1, int c.2.2.2.1, int c.2.2.2.2.1, int c.2.2.2.2.2, .slice sA sn sC, .slice aA an aC] T.C4 (0, 0))
abbrev SRes := Ch × Sl Int × Sl Ad
structure SOf (m : Nat) (x : SRes) : Prop where
  ok : chkS x.1 x.2.1.l x.2.2.l = 0
  x8 : x.2.2.l.length ≤ m
  ca : x.2.1.l.length ≤ x.2.1.c
  cb : x.2.2.l.length ≤ x.2.2.c
end Go.Proofs.YtdlbbfcfahahdaaGreat
end
section
namespace Go.Proofs.YtdlbbfcfahahdaaGreat
open Go Go.W
set_option maxRecDepth 20000
attribute [local irreducible] HL HC HQ HB Row Rows2 Blk Facts
end Go.Proofs.YtdlbbfcfahahdaaGreat
end
section
namespace Go.Proofs.YtdlbbfcfahahdaaGreat
open Go Go.W
set_option maxRecDepth 20000
attribute [local irreducible] HL HC HQ HB Row Rows2 Blk Facts
def handL (cs : List Cd) (ks : List Int) : Hn := (ks, (linL cs ks).sum, (priL cs ks).sum)
def fillS (cs : List Cd) (room : Int) (st : Hn) (x : List Int) : Hn := if (handL cs x).2.1 ≤ room ∧ ordF (handL cs x) st < 0 then handL cs x else st
def fillO (cs : List Cd) (room : Int) : Nat → Hn
  | 0 => handL cs []
  | m + 1 => (combos (m + 1) (upI 0 cs.length)).foldl (fillS cs room) (fillO cs room m)
def FitS (cs : List Cd) (room : Int) (x : Hn) : Prop := ∃ c, c.Sublist (upI 0 cs.length) ∧ x = handL cs c ∧ (handL cs c).2.1 ≤ room
def fillB (cs : List Cd) (room : Int) : Hn := (bestL ordF (handsK cs room (2 ^ cs.length))).1
theorem upI_mem {f n : Nat} {z : Int} (h : z ∈ upI f n) : (f : Int) ≤ z ∧ z < (n : Int) := by
  obtain ⟨i, hi, rfl⟩ := List.mem_map.1 h; have h1 := List.mem_range'_1.1 hi
  omega
end Go.Proofs.YtdlbbfcfahahdaaGreat
end
section
namespace Go.Proofs.YtdlbbfcfahahdaaGreat
open Go Go.W
set_option maxRecDepth 20000
attribute [local irreducible] HL HC HQ HB Row Rows2 Blk Facts
theorem gD : ∀ (k : Nat) (l : List Int), l.Pairwise (· < ·) → (combos k l).Pairwise fun a b => cmpIs a b < 0
  | 0, l, _ => by rw [combos]; exact List.pairwise_singleton _ _
  | k + 1, [], _ => by rw [combos]; exact .nil
  | k + 1, x :: l, h => by
    rw [List.pairwise_cons] at h; rw [combos, List.pairwise_append]; refine ⟨List.pairwise_map.2 ((gD k l h.2).imp fun h2 => (Y3 ..).2 (.inr ⟨rfl, h2⟩)), gD (k + 1) l h.2, fun a ha b hb => ?_⟩; obtain ⟨c, hc, rfl⟩ := List.mem_map.1 ha
    cases b with
    | nil => have := N3 hb; cases this
    | cons y b => exact (Y3 ..).2 (.inl (h.1 y ((cJ hb).subset (List.mem_cons_self ..))))
theorem upI_lt (n : Nat) : (upI 0 n).Pairwise (· < ·) := by
  unfold upI; rw [Nat.sub_zero, ← List.range_eq_range']; exact List.pairwise_map.2 (List.pairwise_lt_range.imp fun h => by omega)
def ExS (cs : List Cd) (room : Int) (x : Hn) : Prop := ∃ c, c.Sublist (upI 0 cs.length) ∧ x = handL cs c ∧ (handL cs c).2.1 = room
end Go.Proofs.YtdlbbfcfahahdaaGreat
end
section
namespace Go.Proofs.YtdlbbfcfahahdaaGreat
open Go Go.W
set_option maxRecDepth 20000
attribute [local irreducible] HL HC HQ HB Row Rows2 Blk Facts
def nearB (t : Tr) (p : Int) (w : Int) (k : Int) : Bool := decide (0 ≤ (stepsT t w).getD k.toNat default ∧ (stepsT t w).getD k.toNat default ≤ p)
theorem mx9 {cs : List Cl} {hs : List Hd} (h0 : checkT (trOf cs hs) = 0) {p w k : Int} (hw : 0 ≤ w ∧ w < (hs.length : Int)) (hk : 0 ≤ k ∧ k < (hs.length : Int)) : ((reachK (trOf cs hs) p hs.length).getD w.toNat default).getD k.toNat default = nearB (trOf cs hs) p w k := by
  obtain ⟨a, rfl⟩ := Int.eq_ofNat_of_zero_le hw.1; obtain ⟨b, rfl⟩ := Int.eq_ofNat_of_zero_le hk.1; rw [Int.toNat_natCast, Int.toNat_natCast]; have hl : (trOf cs hs).hs.length = hs.length := E4 cs hs; have e1 : (reachK (trOf cs hs) p hs.length).getD a default = rdK p (stepsE (trOf cs hs) (a : Int)).1 := X5 _ (by omega)
  have e2 : stepsE (trOf cs hs) (a : Int) = (stepsT (trOf cs hs) (a : Int), 0) := by
    exact if_neg (fun e => e (jj9 h0 (by omega)))
  rw [e1, e2]; unfold nearB rdK; have h3 : ((stepsT (trOf cs hs) (a : Int), (0 : Int)).1).length = hs.length := by rw [← hl]; exact hU (trOf cs hs) (a : Int)
  rw [t5 (by rw [List.length_map]; omega), List.getElem_map, Int.toNat_natCast, ← t5 (by rw [h3]; omega)]
theorem rz7 {cs : List Cl} {hs : List Hd} (h0 : checkT (trOf cs hs) = 0) {p : Int} {ws s : List Int} (hw : ∀ w ∈ ws, 0 ≤ w ∧ w < (hs.length : Int)) (hk : ∀ k ∈ s, 0 ≤ k ∧ k < (hs.length : Int)) : fndOK hs (reachK (trOf cs hs) p hs.length) ws s = ((s.all fun k => decide (0 ≤ (hs.getD k.toNat default).2.1)) && ws.all fun w => s.any fun k => nearB (trOf cs hs) p w k) := by
  unfold fndOK
  congr 1
  rw [Bool.eq_iff_iff, List.all_eq_true, List.all_eq_true]; refine forall_congr' fun w => forall_congr' fun hw2 => ?_; rw [List.any_eq_true, List.any_eq_true]; refine exists_congr fun k => and_congr_right fun hk2 => ?_; rw [mx9 h0 (hw w hw2) (hk k hk2)]
theorem any_cut {α : Type} [Inhabited α] {p : α → Bool} {l : List α} {k : Nat} (hk : k < l.length) : (l.take (k + 1)).any p = ((l.take k).any p || p (l.getD k default)) := by
  rw [List.take_succ_eq_append_getElem hk, List.any_append, t5 hk]
  simp
theorem nq4 {α : Type} [Inhabited α] {p : α → Bool} {l : List α} {k : Nat} (hk : k < l.length) : (l.take (k + 1)).all p = ((l.take k).all p && p (l.getD k default)) := by
  rw [List.take_succ_eq_append_getElem hk, List.all_append, t5 hk]
  simp
theorem sx9 {α : Type} [Inhabited α] {p : α → Bool} {l : List α} {k : Nat} (hk : k < l.length) (h : p (l.getD k default) = true) : l.any p = true := List.any_eq_true.2 ⟨_, n0 hk, h⟩
def FoundS (hs : List Hd) (rs : List (List Bool)) (pr ws : List Int) (x : Hn) : Prop := ∃ c, c.Sublist (upI 0 hs.length) ∧ fndOK hs rs ws c = true ∧ x = fndH pr c
theorem rz8 {pr a b : List Int} (h : (fndH pr a).1 = (fndH pr b).1) : fndH pr a = fndH pr b := congrArg (fndH pr) h
theorem wH {hs : List Hd} {rs : List (List Bool)} {pr ws : List Int} {x : Hn} : x ∈ fndL hs rs pr ws (2 ^ hs.length) ↔ FoundS hs rs pr ws x := by
  unfold fndL; rw [List.mem_map]
  constructor
  · rintro ⟨c, hc, rfl⟩
    obtain ⟨h1, h2⟩ := List.mem_filter.1 hc; obtain ⟨s, hs1, rfl⟩ := List.mem_map.1 h1; exact ⟨_, bz1 s _, h2, rfl⟩
  rintro ⟨c, h1, h2, rfl⟩; obtain ⟨s, hs1, rfl⟩ := jz6 h1; exact ⟨_, List.mem_filter.2 ⟨List.mem_map.2 ⟨s, List.mem_range.2 hs1, rfl⟩, h2⟩, rfl⟩
theorem gz2 {hs : List Hd} {rs : List (List Bool)} {pr ws : List Int} {x y : Hn} (hx : FoundS hs rs pr ws x) (hy : FoundS hs rs pr ws y) (h : x.1 = y.1) : x = y := by
  obtain ⟨c, _, _, rfl⟩ := hx; obtain ⟨d, _, _, rfl⟩ := hy; exact rz8 h
theorem nj1 {t : Tr} {hs : List Hd} {pr ws : List Int} {p : Int} : ((fndB t hs pr ws p).2 = false ∧ ∀ x, ¬ FoundS hs (reachK t p hs.length) pr ws x) ∨ ((fndB t hs pr ws p).2 = true ∧ BestIs ordP (FoundS hs (reachK t p hs.length) pr ws) (fndB t hs pr ws p).1) := by
  rcases sq9 tot_P (l := fndL hs (reachK t p hs.length) pr ws (2 ^ hs.length)) (fun x hx y hy => gz2 (wH.1 hx) (wH.1 hy)) with ⟨h1, h2⟩ | ⟨h1, h2⟩
  · exact .inl ⟨h1, fun x hx => by have := wH.2 hx; rw [h2] at this; cases this⟩
  exact .inr ⟨h1, wH.1 h2.1, fun x hx => h2.2 x (wH.2 hx)⟩
end Go.Proofs.YtdlbbfcfahahdaaGreat
end
section
namespace Go.Proofs.YtdlbbfcfahahdaaGreat
open Go Go.W
set_option maxRecDepth 20000
attribute [local irreducible] HL HC HQ HB Row Rows2 Blk Facts
def placeE (hs : List Hd) : List Int → Int
  | [] => 0
  | v :: r => if ¬ (0 ≤ v ∧ v ≤ (hs.length : Int) - 1) then 3 else if (hs.getD v.toNat default).2.1 < 0 then 8 else placeE hs r
theorem zL (hs : List Hd) {l : List Int} {k : Nat} (hk : k < l.length) : placeE hs (l.drop k) = if ¬ (0 ≤ l.getD k default ∧ l.getD k default ≤ (hs.length : Int) - 1) then 3 else if (hs.getD (l.getD k default).toNat default).2.1 < 0 then 8 else placeE hs (l.drop (k + 1)) := by
  rw [qF hk, placeE]
theorem bz0 {hs : List Hd} : ∀ {l : List Int}, placeE hs l = 0 → ∀ v ∈ l, 0 ≤ v ∧ v < (hs.length : Int)
  | [], _, v, hv => by cases hv
  | x :: r, h, v, hv => by
    rw [placeE] at h
    split at h
    · cases h
    split at h
    · cases h
    rcases List.mem_cons.1 hv with rfl | hv
    · omega
    exact bz0 h v hv
def missB (rs : List (List Bool)) (ks : List Int) (i : Nat) : Bool := ks.any fun v => (rs.getD i default).getD v.toNat default
def missK (rs : List (List Bool)) (ks : List Int) (k : Nat) : List Int := ((List.range k).filter fun i => !missB rs ks i).map fun i : Nat => (i : Int)
theorem jT (rs : List (List Bool)) (ks : List Int) (k : Nat) : missK rs ks (k + 1) = if missB rs ks k = true then missK rs ks k else missK rs ks k ++ [(k : Int)] := by
  unfold missK; rw [List.range_succ, List.filter_append, List.map_append]
  by_cases e : missB rs ks k = true
  · rw [if_pos e]; simp [e]
  rw [if_neg e]; simp [e]
theorem xU (rs : List (List Bool)) (ks : List Int) (k : Nat) : (missK rs ks k).length ≤ k := by
  unfold missK; rw [List.length_map]; exact Nat.le_trans (List.length_filter_le _ _) (by simp)
def missE (cs : List Cl) (hs : List Hd) (ks : List Int) (p : Int) : List Int × Int :=
  if ¬ checkT (trOf cs hs) = 0 then ([], checkT (trOf cs hs)) else if ¬ placeE hs ks = 0 then ([], placeE hs ks) else if ¬ (0 ≤ p ∧ p ≤ 6) then ([], 1) else (missK (reachK (trOf cs hs) p hs.length) ks hs.length, 0)
set_option maxHeartbeats 1000000 in
theorem xB {A B S : Option Addr} {ca cb sc : Nat} (cs : List Cl) (hs : List Hd) (ks : List Int) (p : Int) (hca : cs.length ≤ ca) (hcb : hs.length ≤ cb) (ha : ∀ h ∈ hs, h.2.2.2.l.length ≤ 1000000) (hkl : ks.length ≤ 1000000) : Meets Tryz.prog F.pM [.agg #[.slice A cs.length ca, .slice B hs.length cb], .slice S ks.length sc, int p] { LI := [Row A (rows cs), RowsF B hs Hd.row, Row S (rows ks)], inv := fun x : OutC => (missE cs hs ks p).1.length ≤ x.2, val := fun x => .tuple #[.slice x.1 (missE cs hs ks p).1.length x.2, int (missE cs hs ks p).2], LO := fun x => [Row x.1 (rows (missE cs hs ks p).1)] } := by
 refine i9 F.gj5 rfl t4 fun w0 => ?_; refine i5 ?_; refine C0 rfl rfl fun gT => ?_; refine b8 rfl (b8 rfl (d6 (d7 (i5 (bG ?_))))); refine E0 (cs := #[.slice A cs.length ca, .slice B hs.length cb]) rfl T.m4 T.k8 rfl mB rfl ?_; refine j0 F.mR rfl rfl (cU cs hs hca hcb ha) l7 mC fun _ _ => ?_; refine b8 rfl (j8 (a9 rfl (H2 rfl rfl rfl (d6 ?_)))); refine m3 rfl (fun hb1 => ?_) (fun hb1 => ?_)
 ·have hb1' := hb1; try simp at hb1'
  refine i5 (a9 rfl (b8 rfl (b8 rfl (d6 (G0 ?_))))); refine z9 (α := Int) ?_; have hE : (missE cs hs ks p) = ([], checkT (trOf cs hs)) := by rw [missE, if_pos hb1]
  exact ret2 (none, 0) rfl rfl rfl (by show Value.tuple #[.slice none (missE cs hs ks p).1.length 0, int (missE cs hs ks p).2] = _; rw [hE]; rfl) rfl (by show (missE cs hs ks p).1.length ≤ 0; rw [hE]; exact Nat.le_refl _) nil_sb (by show LSub _ [Row none (rows (missE cs hs ks p).1)]; rw [hE]; exact ⟨m0, trivial⟩)
 have hb1' := hb1; try simp at hb1'
 have h0 : checkT (trOf cs hs) = 0 := Classical.not_not.1 hb1; have hok := mT h0; have hn6 := hok.h6; rw [E4] at hn6; refine i6 (d8 (d7 (i5 (a9 rfl ?_)))); refine j3 rfl T.l4 rfl ?_; refine a9 rfl (d6 (i8 ?_)); refine p9 (β := Nat) ⟨fun k => k ≤ ks.length ∧ placeE hs ks = placeE hs (ks.drop k), fun k => [(1, .slice S ks.length sc), (2, int p), (3, .pointer (b4 gT)), (19, .slice S ks.length sc), (20, int ks.length), (21, int k)], fun _ => [], fun _ => [Blk gT (Obj.cells #[.slice A cs.length ca, .slice B hs.length cb] T.k7 (0, 0)), Row A (rows cs), RowsF B hs Hd.row, Row S (rows ks)]⟩ (fun k => ks.length - k) 0 ⟨Nat.zero_le _, rfl⟩ mC nil_sb mC fun k hk => ?_; obtain ⟨hk, hpe⟩ := hk; refine i5 (u4 rfl rfl rfl (d6 (d7 ?_))); refine m3 rfl (fun hb2 => ?_) (fun hb2 => ?_)
 ·have hb2' := hb2; try simp at hb2'
  have hk2 : k < ks.length := by omega
  rw [zL hs hk2] at hpe; refine i6 (d8 (d7 (i8 (i5 ?_)))); refine m7 (α := Int) ks k rfl T.l4 T.q7 rfl rfl rfl mB rfl (hk2) (by decide) (c9 (v := int ((ks.getD k default))) rfl T.i7 rfl (l8 mB (k6 (hk2) rfl)) ?_); refine b8 rfl (d6 (d7 (i5 (a9 rfl ?_)))); refine a8 ⟨_, 1, none⟩ rfl rfl T.j4 rfl (c9 (v := .slice B hs.length cb) rfl T.j6 rfl (j9 mB rfl) (j3 rfl T.k9 rfl (K2 _ rfl rfl rfl rfl m6 ?_))); refine j0 F.v6 rfl rfl (t8 _ _ _) l7 trivial fun _ _ => ?_; refine E9 rfl rfl (d6 ?_); refine w6 rfl (fun hb3 => ?_) (fun hb3 => ?_)
  ·have hb3' := hb3; try simp at hb3'
   rw [if_pos (nbt hb3)] at hpe; refine i5 (b8 rfl (b8 rfl (d6 (G0 (w8 (r6 (V9 ?_))))))); refine r6 ?_; refine z9 (α := Int) ?_; have hE : (missE cs hs ks p) = ([], 3) := by rw [missE, if_neg (Classical.not_not.2 h0), if_pos (by rw [hpe]; decide), hpe]
   exact ret2 (none, 0) rfl rfl rfl (by show Value.tuple #[.slice none (missE cs hs ks p).1.length 0, int (missE cs hs ks p).2] = _; rw [hE]; rfl) rfl (by show (missE cs hs ks p).1.length ≤ 0; rw [hE]; exact Nat.le_refl _) nil_sb (by show LSub _ [Row none (rows (missE cs hs ks p).1)]; rw [hE]; exact ⟨m0, trivial⟩)
  have hb3' := hb3; try simp at hb3'
  have hkv := nbf hb3; rw [if_neg (Classical.not_not.2 hkv)] at hpe; obtain ⟨m, hme⟩ := Int.eq_ofNat_of_zero_le hkv.1; have hm2 : m < hs.length := by omega
  rw [hme, Int.toNat_natCast] at hpe; refine i6 (d8 (i5 ?_)); refine a8 ⟨_, 1, none⟩ rfl rfl T.j4 rfl (c9 (v := .slice B hs.length cb) rfl T.j6 rfl (j9 mB rfl) (a9 rfl (yD (A := B) (ps := hs) (f := Hd.row) mB (m7 (α := Hd) hs m rfl T.k9 T.u0 rfl rfl hme mB rfl hm2 (by decide) (a8 _ rfl rfl T.A8 rfl (c9 (v := int (hs.getD m default).2.1) rfl T.i7 rfl (I6 mB (rows_get hm2 rfl)) ?_)))))); refine u4 rfl rfl rfl (d6 ?_); refine m3 rfl (fun hb4 => ?_) (fun hb4 => ?_)
  ·have hb4' := hb4; try simp at hb4'
   rw [if_pos hb4] at hpe; refine i5 (b8 rfl (b8 rfl (d6 (j5 (w8 (r6 (w8 ?_))))))); refine z9 (α := Int) ?_; have hE : (missE cs hs ks p) = ([], 8) := by rw [missE, if_neg (Classical.not_not.2 h0), if_pos (by rw [hpe]; decide), hpe]
   exact ret2 (none, 0) rfl rfl rfl (by show Value.tuple #[.slice none (missE cs hs ks p).1.length 0, int (missE cs hs ks p).2] = _; rw [hE]; rfl) rfl (by show (missE cs hs ks p).1.length ≤ 0; rw [hE]; exact Nat.le_refl _) nil_sb (by show LSub _ [Row none (rows (missE cs hs ks p).1)]; rw [hE]; exact ⟨m0, trivial⟩)
  have hb4' := hb4; try simp at hb4'
  rw [if_neg hb4] at hpe; refine i6 (t6 (d8 (d9 ?_))); refine r7 _ rfl rfl rfl rfl m6 ?_; refine a9 rfl (c8 ?_); exact again _ (k + 1) ⟨by show k + 1 ≤ ks.length; omega, hpe⟩ (u2 (by omega)) mC (.refl _) mC
 have hb2' := hb2; try simp at hb2'
 obtain rfl : k = ks.length := by omega
 rw [List.drop_length, placeE] at hpe; refine p8 (v8 (p7 (d8 (d7 (i5 (a9 rfl ?_)))))); refine j0 F.v6 rfl rfl (t8 _ _ _) l7 trivial fun _ _ => ?_; refine E9 rfl rfl (d6 ?_); refine w6 rfl (fun hb5 => ?_) (fun hb5 => ?_)
 ·have hb5' := hb5; try simp at hb5'
  refine i5 (b8 rfl (b8 rfl (d6 (G0 ?_)))); refine z9 (α := Int) ?_; have hE : (missE cs hs ks p) = ([], 1) := by rw [missE, if_neg (Classical.not_not.2 h0), if_neg (Classical.not_not.2 hpe), if_pos (nbt hb5)]
  exact ret2 (none, 0) rfl rfl rfl (by show Value.tuple #[.slice none (missE cs hs ks p).1.length 0, int (missE cs hs ks p).2] = _; rw [hE]; rfl) rfl (by show (missE cs hs ks p).1.length ≤ 0; rw [hE]; exact Nat.le_refl _) nil_sb (by show LSub _ [Row none (rows (missE cs hs ks p).1)]; rw [hE]; exact ⟨m0, trivial⟩)
 have hb5' := hb5; try simp at hb5'
 have h5 := nbf hb5; have hkin := bz0 hpe; refine i6 (d8 (i5 (b8 rfl (d6 (d7 (i5 ?_)))))); refine E0 (cs := #[.slice A cs.length ca, .slice B hs.length cb]) rfl T.m4 T.k8 rfl mB rfl (a9 rfl ?_); refine j0 F.lH rfl rfl (cL cs hs p hca hcb ha (by omega) (jx4 cs hs (by omega))) l7 mC fun x hx => ?_; obtain ⟨go, ps⟩ := x; obtain ⟨hpn2, hpm⟩ := hx; simp only at hpn2 hpm; refine j3 rfl T.S6 rfl ?_; refine a9 rfl (d6 (i8 ?_)); refine p9 (β := Nat × OutC × Hp) ⟨fun x => x.1 ≤ hs.length ∧ Grow T.int 1 x.2.1.1 (missK (reachK (trOf cs hs) p hs.length) ks x.1).length x.2.1.2 (rows (missK (reachK (trOf cs hs) p hs.length) ks x.1)) x.2.2, fun x => [(1, .slice S ks.length sc), (2, int p), (3, .pointer (b4 gT)), (11, .slice x.2.1.1 (missK (reachK (trOf cs hs) p hs.length) ks x.1).length x.2.1.2), (45, .slice (b4 go) hs.length hs.length), (46, int hs.length), (47, int x.1)], fun x => x.2.2, fun _ => [Row (b4 go) (rows ps), innerF ps, Blk gT (Obj.cells #[.slice A cs.length ca, .slice B hs.length cb] T.k7 (0, 0)), Row A (rows cs), RowsF B hs Hd.row, Row S (rows ks)]⟩ (fun x => hs.length - x.1) (0, (none, 0), []) ⟨Nat.zero_le _, Grow.nil _ _⟩ mC nil_sb mC fun x hx => ?_; obtain ⟨k, ⟨na, nc⟩, og⟩ := x; obtain ⟨hk, hG⟩ := hx; simp only at hk hG; have hml := xU (reachK (trOf cs hs) p hs.length) ks k; refine i5 (u4 rfl rfl rfl (d6 (d7 ?_))); refine m3 rfl (fun hb6 => ?_) (fun hb6 => ?_)
 ·have hb6' := hb6; try simp at hb6'
  have hk2 : k < hs.length := by omega
  have hk3 : k < ps.length := by omega
  have hpk : (ps.getD k default).l = (reachK (trOf cs hs) p hs.length).getD k default := by rw [← hpm, t5 (l := ps.map (·.l)) (k := k) (by rw [List.length_map]; omega), t5 (l := ps) (k := k) (by omega), List.getElem_map]
  have hpkl : (ps.getD k default).l.length = hs.length := by rw [hpk, t5 (by unfold reachK; simp; omega)]; unfold reachK; simp only [List.getElem_map, List.getElem_range]; rw [iq3, gx3 h0 hk2]
  refine i6 (d8 (d7 (i8 (i5 (a9 rfl ?_))))); refine m7 (α := Sl Bool) ps k rfl T.S6 T.bB rfl rfl rfl mB (hpn2.symm) (hk3) (by decide) (c9 (v := .slice (ps.getD k default).a (ps.getD k default).l.length (ps.getD k default).c) rfl T.dB rfl (l8 mB (k6 hk3 rfl)) ?_); refine bj2 (F := Row (ps.getD k default).a (rows (ps.getD k default).l)) (Fs := ps.map fun p => Row p.a (rows p.l)) mB (List.mem_map.2 ⟨_, n0 hk3, rfl⟩) ?_; refine B6 rfl (fun _ => T.qj5 _) fun g13 => ?_; refine b8 rfl (z8 rfl rfl (.refl _) T.bB rfl rfl (w7 (rows [((ps.getD k default) : Sl Bool)]) (List.prefix_refl _) ?_)); refine j8 (a9 rfl (bW rfl rfl rfl ?_))
  refine j0 F.O9 rfl rfl (M8 (A := S) (cap := [.pointer (b4 g13)]) (L0 := [Row (b4 g13) (rows [((ps.getD k default) : Sl Bool)]), Row (ps.getD k default).a (rows (ps.getD k default).l)]) ks (fun x => (ps.getD k default).l.getD x.toNat default) hkl F.yX (fun x hx => by
    have hxv := hkin x hx; obtain ⟨v, rfl⟩ := Int.eq_ofNat_of_zero_le hxv.1; rw [Int.toNat_natCast]
    exact qW (ps.getD k default).l v (by omega))) l7 mC fun _ _ => ?_
  have hany : (ks.any fun x => (ps.getD k default).l.getD x.toNat default) = missB (reachK (trOf cs hs) p hs.length) ks k := by unfold missB; rw [hpk]
  rw [hany]; refine E9 rfl rfl (d6 ?_); refine w6 rfl (fun hb7 => ?_) (fun hb7 => ?_)
  ·have hb7' := hb7; try simp at hb7'
   have hmb : ¬ missB (reachK (trOf cs hs) p hs.length) ks k = true := by simpa using hb7
   have hms : (missK (reachK (trOf cs hs) p hs.length) ks (k + 1)) = (missK (reachK (trOf cs hs) p hs.length) ks k) ++ [(k : Int)] := by rw [jT, if_neg hmb]
   refine d9 (a9 rfl (a9 rfl ?_)); refine l6 _ rfl rfl (fun _ => T.H1 ..) fun gS => ?_; refine w7 (rows [(k : Int)]) (List.prefix_refl _) ?_; refine G2 (hp' := []) ((missK (reachK (trOf cs hs) p hs.length) ks k).length + 1) (rows ((missK (reachK (trOf cs hs) p hs.length) ks k) ++ [(k : Int)])) T.S3 rfl rfl rfl hG (show List.Perm og (og ++ []) from by rw [List.append_nil]) (Src.row (news := rows [(k : Int)]) (m := 1) mB rfl (D0 _) (by decide)) rfl (y6 _ _).symm (by unfold maxLen; omega) (by omega) fun A' c' og' hG' => ?_; refine b8 rfl (c8 (t6 (d8 (d9 ?_)))); refine r7 _ rfl rfl rfl rfl m6 ?_; refine a9 rfl (c8 ?_); have hms2 : (missK (reachK (trOf cs hs) p hs.length) ks (k + 1)).length = (missK (reachK (trOf cs hs) p hs.length) ks k).length + 1 := by rw [hms, List.length_append]; rfl
   refine P4 (hp' := og') (show List.Perm (og' ++ []) og' from by rw [List.append_nil]) ?_; exact again _ (k + 1, (A', c'), og') ⟨by show k + 1 ≤ hs.length; omega, by show Grow _ _ _ (missK (reachK (trOf cs hs) p hs.length) ks (k + 1)).length _ (rows (missK (reachK (trOf cs hs) p hs.length) ks (k + 1))) _; rw [hms2, hms]; exact hG'⟩ (u2 (by omega)) ⟨rfl, rfl, rfl, congrArg (fun n => some (Value.slice A' n c')) hms2.symm, rfl, rfl, rfl, trivial⟩ (.refl _) mC
  have hb7' := hb7; try simp at hb7'
  have hmb : missB (reachK (trOf cs hs) p hs.length) ks k = true := by simpa using hb7
  have hms : (missK (reachK (trOf cs hs) p hs.length) ks (k + 1)) = (missK (reachK (trOf cs hs) p hs.length) ks k) := by rw [jT, if_pos hmb]
  refine i6 (t6 (d8 (d9 ?_))); refine r7 _ rfl rfl rfl rfl m6 ?_; refine a9 rfl (c8 ?_); exact again _ (k + 1, (na, nc), og) ⟨by show k + 1 ≤ hs.length; omega, by show Grow _ _ _ (missK (reachK (trOf cs hs) p hs.length) ks (k + 1)).length _ (rows (missK (reachK (trOf cs hs) p hs.length) ks (k + 1))) _; rw [hms]; exact hG⟩ (u2 (by omega)) ⟨rfl, rfl, rfl, congrArg (fun l : List Int => some (Value.slice na l.length nc)) hms.symm, rfl, rfl, rfl, trivial⟩ (.refl _) mC
 have hb6' := hb6; try simp at hb6'
 obtain rfl : k = hs.length := by omega
 refine p8 (v8 (p7 (d8 (i5 (a9 rfl (b8 rfl (b8 rfl (d6 ?_)))))))); refine j5 ?_; have hE : (missE cs hs ks p) = ((missK (reachK (trOf cs hs) p hs.length) ks hs.length), 0) := by rw [missE, if_neg (Classical.not_not.2 h0), if_neg (Classical.not_not.2 hpe), if_neg (Classical.not_not.2 h5)]
 refine qB hG ?_; exact ret2 (na, nc) rfl rfl rfl (by show Value.tuple #[.slice na (missE cs hs ks p).1.length nc, int (missE cs hs ks p).2] = _; rw [hE]) rfl (by show (missE cs hs ks p).1.length ≤ nc; rw [hE]; exact hG.le) nil_sb (by show LSub _ [Row na (rows (missE cs hs ks p).1)]; rw [hE]; exact mC)
end Go.Proofs.YtdlbbfcfahahdaaGreat
end
section
namespace Go.Proofs.YtdlbbfcfahahdaaGreat
open Go Go.W
set_option maxRecDepth 20000
attribute [local irreducible] HL HC HQ HB Row Rows2 Blk Facts
theorem K1 (n lo hi : Int) : Meets Tryz.prog F.jM [int n, int lo, int hi] { val := fun _ : Unit => .bool (decide (lo ≤ n ∧ n ≤ hi)) } := by
 refine i9 F.bq9 rfl t4 fun w0 => ?_; refine i5 (b8 rfl (j8 (a9 rfl (a9 rfl (R2 rfl rfl rfl (a9 rfl ?_)))))); refine t7 rfl rfl ?_ ?_
 ·intro hg1; have hg1' := hg1; try simp at hg1'
  refine i3 rfl rfl hg1 (a9 rfl (i3 rfl rfl hg1 (a9 rfl (i3 rfl rfl hg1 (nK rfl rfl rfl ?_))))); refine p_t rfl rfl (bt1 hg1) rfl ?_; refine b8 rfl (d6 (j5 ?_)); exact ret1 () rfl (congrArg (fun b => some (Value.bool b)) (by simp [hg1'])) rfl trivial nil_sb trivial
 intro hg1; have hg1' := hg1; try simp at hg1'
 refine k4 rfl rfl rfl rfl rfl hg1 (k4 rfl rfl rfl rfl rfl hg1 (k4 rfl rfl rfl rfl rfl hg1 ?_)); refine p_f rfl rfl (bf2 hg1) rfl ?_; refine b8 rfl (d6 (j5 ?_)); exact ret1 () rfl (congrArg (fun b => some (Value.bool b)) (by simp [Int.not_le.2 hg1'])) rfl trivial nil_sb trivial
end Go.Proofs.YtdlbbfcfahahdaaGreat
end
section
namespace Go.Proofs.YtdlbbfcfahahdaaGreat
open Go Go.W
set_option maxRecDepth 20000
attribute [local irreducible] HL HC HQ HB Row Rows2 Blk Facts
set_option maxHeartbeats 1000000 in
theorem uQ (n : Nat) (hn16 : n ≤ 16) : ∀ (many f : Nat), f ≤ n → many ≤ 20 → Meets Tryz.prog F.nD [int (f : Int), int (n : Int), int (many : Int)] { inv := fun x : OutSL => lsts x.1 = combos many (upI f n), val := fun x => .slice x.2.1 x.1.length x.2.2, LO := fun x => [Rows2 x.2.1 x.1] } := by
 intro many
 induction many using Nat.strongRecOn
 rename_i many ih
 intro f hf hm20; refine i9 F.dq1 rfl t4 fun w0 => ?_; refine i5 (b8 rfl (d6 (d7 (i5 (a9 rfl (I3 rfl rfl rfl (d6 ?_))))))); refine m3 rfl (fun hb1 => ?_) (fun hb1 => ?_)
 ·have hb1' := hb1; try simp at hb1'
  obtain rfl : many = 0 := by omega
  refine i5 ?_; refine l6 _ rfl rfl (fun _ => T.cx8 ..) fun gS => ?_; refine b8 rfl (d6 (G0 ?_)); refine C3 (rows [(⟨none, 0, []⟩ : Sl Int)]) (List.prefix_refl _) (z9 (α := Int) ?_); refine vZ (A := some ⟨gS, 0, none⟩) (ps := [(⟨none, 0, []⟩ : Sl Int)]) mB (by intro p hp; rw [List.mem_singleton.1 hp]; exact mB) ?_; exact ret1 ([(⟨none, 0, []⟩ : Sl Int)], (some ⟨gS, 0, none⟩, 1)) rfl rfl rfl (by show lsts [(⟨none, 0, []⟩ : Sl Int)] = _; rw [combos]; rfl) nil_sb ⟨m0, trivial⟩
 have hb1' := hb1; try simp at hb1'
 obtain ⟨m, rfl⟩ : ∃ q, many = q + 1 := ⟨many - 1, by omega⟩; refine i6 (d8 (i5 (b8 rfl (d6 (d7 (i5 (a9 rfl (b8 rfl ?_)))))))); refine d6 (i8 ?_); refine cH (Fs := ([] : List (Sl Int)).map (fun p : Sl Int => Row p.a (rows p.l))) (by intro F hF; simp at hF) ?_; refine p9 (β := Nat × List (Sl Int) × OutC × Hp) ⟨fun x => f ≤ x.1 ∧ x.1 ≤ n ∧ Grow T.ints 1 x.2.2.1.1 x.2.1.length x.2.2.1.2 (rows x.2.1) x.2.2.2 ∧ lsts x.2.1 = subK m f n x.1, fun x => [(1, int (n : Int)), (2, int ((m + 1 : Nat) : Int)), (7, .slice x.2.2.1.1 x.2.1.length x.2.2.1.2), (8, int x.1)], fun x => x.2.2.2, fun x => [innersF x.2.1 (fun p : Sl Int => Row p.a (rows p.l))]⟩ (fun x => n + 1 - x.1) (f, [], (none, 0), []) ⟨Nat.le_refl _, hf, Grow.nil _ _, by show [] = subK m f n f; unfold subK; rw [Nat.sub_self]; rfl⟩ mC nil_sb mC fun x hx => ?_; obtain ⟨i, ps, ⟨na, nc⟩, og⟩ := x; obtain ⟨hif, hi, hG, hps⟩ := hx; simp only at hif hi hG hps; refine d7 (i5 (a9 rfl (a9 rfl (u4 rfl rfl rfl (d6 ?_))))); refine m3 rfl (fun hb2 => ?_) (fun hb2 => ?_)
 ·have hb2' := hb2; try simp at hb2'
  have hi2 : i < n := by omega
  refine i6 (d8 (d7 (i8 (i5 (a9 rfl ?_))))); refine r7 ((i + 1 : Nat) : Int) rfl rfl rfl (by show (i : Int) + 1 = ((i + 1 : Nat) : Int); omega) m6 ?_; refine a9 rfl (a9 rfl ?_); refine K2 ((m : Nat) : Int) rfl rfl rfl (by show ((m + 1 : Nat) : Int) - 1 = (m : Int); omega) m6 ?_; refine j0 F.nB rfl rfl (ih m (by omega) (i + 1) (by omega) (by omega)) (hpR := og) l7 trivial fun y hy => ?_; refine b8 rfl (j8 (b8 rfl (d6 (i8 ?_)))); have hyl : y.1.length = (combos m (upI (i + 1) n)).length := by have h9 := congrArg List.length hy; rw [bz7] at h9; exact h9
  have hyat : ∀ k, k < y.1.length → (y.1.getD k default).l = (combos m (upI (i + 1) n)).getD k default := fun k hk => by rw [← mz3 y.1 hk, show lsts y.1 = _ from hy]; rfl
  have hsn := gq8 (m := m) (n := n) hif; have hsl := qx2 (m := m) (n := n) (show f ≤ i + 1 by omega) (by omega) hn16; rw [hsn, List.length_append, List.length_map] at hsl; refine p9 (β := Nat × List (Sl Int) × OutC × Hp) ⟨fun x => x.1 ≤ y.1.length ∧ Grow T.ints 1 x.2.2.1.1 x.2.1.length x.2.2.1.2 (rows x.2.1) x.2.2.2 ∧ lsts x.2.1 = subK m f n i ++ (((combos m (upI (i + 1) n)).take x.1).map ((i : Int) :: ·)), fun x => [(1, int (n : Int)), (2, int ((m + 1 : Nat) : Int)), (7, .slice x.2.2.1.1 x.2.1.length x.2.2.1.2), (8, int i), (9, .slice y.2.1 y.1.length y.2.2), (10, int x.1)], fun x => x.2.2.2, fun x => [innersF x.2.1 (fun p : Sl Int => Row p.a (rows p.l)), Rows2 y.2.1 y.1]⟩ (fun x => y.1.length - x.1) (0, ps, (na, nc), og) ⟨Nat.zero_le _, hG, by show lsts ps = _; rw [hps, List.take_zero, List.map_nil, List.append_nil]⟩ mC (List.Sublist.refl _) mC fun x hx => ?_; clear hG hps; obtain ⟨k, ps, ⟨na, nc⟩, og⟩ := x; obtain ⟨hk, hG, hps⟩ := hx; simp only at hk hG hps; have hpl : ps.length ≤ 65536 := by have h9 := congrArg List.length hps; rw [bz7, List.length_append, List.length_map, List.length_take] at h9; omega
  refine d7 (i5 (a9 rfl (a9 rfl ?_))); refine j3 rfl T.L4 rfl ?_; refine u4 rfl rfl rfl (d6 ?_); refine m3 rfl (fun hb3 => ?_) (fun hb3 => ?_)
  ·have hb3' := hb3; try simp at hb3'
   have hk2 : k < y.1.length := by omega
   have hyk := hyat k hk2; have hyc : (y.1.getD k default).l.length = m := by rw [hyk]; exact N3 (n0 (by omega))
   refine i6 (d8 (d7 (i8 (d9 (a9 rfl (a9 rfl ?_)))))); refine l6 _ rfl rfl (fun _ => T.H1 ..) fun gS => ?_; refine a9 rfl (a9 rfl ?_); refine rx5 (A := y.2.1) (ps := y.1) mB (m7 (α := Sl Int) y.1 k rfl T.L4 T.K8 rfl rfl rfl mB rfl hk2 (by decide) (c9 (v := .slice (y.1.getD k default).a (y.1.getD k default).l.length (y.1.getD k default).c) rfl T.m8 rfl (l8 mB (k6 hk2 rfl)) (rx6 (A := y.2.1) (ps := y.1) (p := (y.1.getD k default)) mB (n0 hk2) ?_))); refine G2 (hp' := og) ((y.1.getD k default).l.length + 1) (rows ((i : Int) :: (y.1.getD k default).l)) T.S3 rfl rfl rfl (Grow.new (cs := #[int (i : Int)]) (n := 1) rfl (by decide)) l7 (Src.row mB (H9 (y.1.getD k default).l) (D0 (y.1.getD k default).l) (by decide)) (Nat.add_comm _ _) rfl (by unfold maxLen; omega) (by omega) fun A' c' og' hG' => ?_; refine cq0 hG' ?_; refine l6 _ rfl rfl (fun _ => T.cx8 ..) fun gS2 => ?_; refine w7 (rows [(⟨A', c', (i : Int) :: (y.1.getD k default).l⟩ : Sl Int)]) (List.prefix_refl _) ?_; refine G2 (ps.length + 1) (rows (ps ++ [(⟨A', c', (i : Int) :: (y.1.getD k default).l⟩ : Sl Int)])) T.sj6 rfl rfl rfl hG (hp' := []) (by first | (rw [List.append_nil]; done) | (rw [List.append_nil]; exact List.Perm.refl _)) (Src.row (news := rows [(⟨A', c', (i : Int) :: (y.1.getD k default).l⟩ : Sl Int)]) (m := 1) m0 rfl (D0 _) (by decide)) rfl (y6 _ _).symm (by unfold maxLen; omega) (by omega) fun A2 c2 og2 hG2 => ?_; refine b8 rfl (c8 (t6 (d8 (d9 (a9 rfl ?_))))); refine r7 _ rfl rfl rfl rfl m6 ?_; refine b8 rfl (c8 ?_); refine pA (Z3 (ps := ps) (f := (fun p : Sl Int => Row p.a (rows p.l))) (p := (⟨A', c', (i : Int) :: (y.1.getD k default).l⟩ : Sl Int)) mB mB) ?_; exact again _ (k + 1, ps ++ [(⟨A', c', (i : Int) :: (y.1.getD k default).l⟩ : Sl Int)], (A2, c2), og2) ⟨by show k + 1 ≤ y.1.length; omega, by show Grow _ _ _ (ps ++ [_]).length _ _ _; rw [List.length_append]; exact hG2, by show lsts (ps ++ [_]) = _ ++ (((combos m (upI (i + 1) n)).take (k + 1)).map ((i : Int) :: ·)); rw [G8 _ k (by omega), List.map_append, ← List.append_assoc, ← hps, lsts, List.map_append, ← hyk]; rfl⟩ (u2 (by omega)) ⟨rfl, rfl, by show some (Value.slice A2 (ps.length + 1) c2) = some (Value.slice A2 (ps ++ [_]).length c2); rw [List.length_append]; rfl, rfl, rfl, rfl, trivial⟩ (by first | exact List.Sublist.refl _ | (rw [List.append_nil]; exact List.Sublist.refl _)) mC
  have hb3' := hb3; try simp at hb3'
  obtain rfl : k = y.1.length := by omega
  rw [hyl, List.take_length, ← hsn] at hps; refine p8 (v8 (p7 (t6 (d8 (d9 (a9 rfl ?_)))))); refine r7 _ rfl rfl rfl rfl m6 ?_; refine b8 rfl (c8 ?_); exact again _ (i + 1, ps, (na, nc), og) ⟨by show f ≤ i + 1; omega, by show i + 1 ≤ n; omega, hG, hps⟩ (u2 (by omega)) mC (List.Sublist.refl _) mC
 have hb2' := hb2; try simp at hb2'
 have hi2 : n < i + (m + 1) := by omega
 refine p8 (v8 (p7 (d8 (i5 (a9 rfl (b8 rfl (d6 (j5 ?_)))))))); refine qB hG (pq2 (A := na) (ps := ps) mB mB ?_); exact ret1 (ps, (na, nc)) rfl rfl rfl (by show lsts ps = _; rw [qx3 hif hi hi2]; exact hps) nil_sb ⟨m0, trivial⟩
structure GoodS (cs : List Cd) (st : Hn) : Prop where
  e : st = handL cs st.1
  l : st.1.length ≤ cs.length
  b : ∀ v ∈ st.1, 0 ≤ v ∧ v < (cs.length : Int)
end Go.Proofs.YtdlbbfcfahahdaaGreat
end
section
namespace Go.Proofs.YtdlbbfcfahahdaaGreat
open Go Go.W
set_option maxRecDepth 20000
attribute [local irreducible] HL HC HQ HB Row Rows2 Blk Facts
abbrev OutS := (OutC × Hp) × (OutC × Hp)
structure DupS (ss : List Int) (xs : List Ad) (x : OutS) : Prop where
  a : Grow T.int 1 x.1.1.1 ss.length x.1.1.2 (rows ss) x.1.2
  b : GrowE T.uC 3 x.2.1.1 xs.length x.2.1.2 (rows xs) x.2.2
def priceE (c : Ch) (ss : List Int) (xs : List Ad) (i : Int) : Int × Int := if ¬ chkS c ss xs = 0 then (0, chkS c ss xs) else if ¬ (0 ≤ i ∧ i ≤ (xs.length : Int) - 1) then (0, 3) else (priceN c (xs.getD i.toNat default), 0)
def owesK : List Int → List Cd → List Int × Int
  | b, [] => (b, 0)
  | b, r :: rs => if ¬ (0 ≤ r.1 ∧ r.1 ≤ (b.length : Int) - 1) then ([], 3) else if ¬ (0 ≤ r.2 ∧ r.2 ≤ 99999) then ([], 1) else owesK (b.set r.1.toNat (b.getD r.1.toNat default - r.2)) rs
def owesE (c : Ch) (ss : List Int) (xs : List Ad) (rs : List Cd) : List Int × Int := if ¬ chkS c ss xs = 0 then ([], chkS c ss xs) else if 8 < rs.length then ([], 6) else owesK (numsN 58 c ss xs) rs
end Go.Proofs.YtdlbbfcfahahdaaGreat
end
section
namespace Go.Proofs.YtdlbbfcfahahdaaGreat
open Go Go.W
set_option maxRecDepth 20000
attribute [local irreducible] HL HC HQ HB Row Rows2 Blk Facts
theorem P3 {A : Option Addr} {c : Nat} (l : List Int) (hl : l.length ≤ 1000000) : Meets Tryz.prog F.nY [.slice A l.length c] { LI := [Row A (rows l)], inv := fun z : OutC => l.length ≤ z.2, val := fun z => .slice z.1 l.length z.2, LO := fun z => [Row z.1 (rows l)] } := by
 refine i9 F.dz2 rfl t4 fun w0 => ?_; refine i5 (b8 rfl (j8 ?_)); refine l6 _ rfl rfl (fun _ => T.pz8 ..) fun gS => ?_; refine a9 rfl ?_; refine G2 l.length (rows l) T.S3 rfl rfl rfl (Grow.new (cs := #[]) (n := 0) rfl (Nat.zero_le _)) (.refl _) (Src.row m0 (H9 l) (D0 l) (by decide)) (by omega) rfl (by unfold maxLen; omega) (by omega) fun A' c' og' hG => ?_; have hle := hG.le; refine cq0 hG (b8 rfl (d6 (j5 ?_))); exact ret1 (A', c') rfl rfl rfl hle nil_sb ⟨m0, trivial⟩
end Go.Proofs.YtdlbbfcfahahdaaGreat
end
section
namespace Go.Proofs.YtdlbbfcfahahdaaGreat
open Go Go.W
set_option maxRecDepth 20000
attribute [local irreducible] HL HC HQ HB Row Rows2 Blk Facts
theorem lx3 {α : Type} {ps : List α} {f : α → Fact} {L : List Fact} {k : Nat} {p : α} (h : innersF ps f ∈ L) (h2 : f p ∈ L) : ∀ F ∈ (ps.set k p).map f, F ∈ L ∨ ∃ Gs, Facts Gs ∈ L ∧ F ∈ Gs := by
  intro F hF; obtain ⟨q, hq, rfl⟩ := List.mem_map.1 hF
  rcases List.mem_or_eq_of_mem_set hq with hq | rfl
  · exact .inr ⟨_, h, List.mem_map.2 ⟨q, hq, rfl⟩⟩
  exact .inl h2
abbrev OutD := (OutC × Hp) × List Hd × (OutC × Hp)
structure DupOK (cs : List Cl) (hs : List Hd) (x : OutD) : Prop where
  a : GrowE T.Y7 2 x.1.1.1 cs.length x.1.1.2 (rows cs) x.1.2
  b : GrowE T.C5 4 x.2.2.1.1 x.2.1.length x.2.2.1.2 (rows x.2.1) x.2.2.2
  p : x.2.1.map Hd.p = hs.map Hd.p
theorem p_set {hs hs2 : List Hd} {k : Nat} {h : Hd} (hp : hs2.map Hd.p = hs.map Hd.p) (hk : k < hs2.length) (he : h.p = (hs2.getD k default).p) : (hs2.set k h).map Hd.p = hs.map Hd.p := by
  rw [← hp, List.map_set, he]; refine List.ext_getElem (by simp) fun i h1 h2 => ?_; rw [List.getElem_set]
  split
  · rename_i e; subst e; rw [t5 hk, List.getElem_map]
  rfl
theorem bz4 {hs hs2 : List Hd} (hp : hs2.map Hd.p = hs.map Hd.p) : hs2.length = hs.length := by
  have := congrArg List.length hp
  simpa using this
theorem p_at {hs hs2 : List Hd} (hp : hs2.map Hd.p = hs.map Hd.p) {k : Nat} (hk : k < hs2.length) : (hs2.getD k default).p = (hs.getD k default).p := by
  have h1 := bz4 hp; have h2 : (hs2.map Hd.p)[k]? = (hs.map Hd.p)[k]? := by rw [hp]
  rw [List.getElem?_map, List.getElem?_map, List.getElem?_eq_getElem hk, List.getElem?_eq_getElem (show k < hs.length by omega)] at h2; rw [t5 hk, t5 (show k < hs.length by omega)]
  simpa using h2
end Go.Proofs.YtdlbbfcfahahdaaGreat
end
