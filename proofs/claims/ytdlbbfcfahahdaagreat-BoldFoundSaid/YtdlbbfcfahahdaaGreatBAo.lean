/- Texts of this claim, one behind another. -/

import Derived.Test.YtdlbbfcfahahdaaGreatBAn
set_option linter.unusedVariables false
set_option linter.unusedSimpArgs false
section
namespace Go.Proofs.YtdlbbfcfahahdaaGreat
open Go Go.W
set_option maxRecDepth 20000
attribute [local irreducible] HL HC HQ HB Row Rows2 Blk Facts
abbrev fnV (f : Nat) : Value := .func (.func f) #[] #[]
abbrev offA (y : Hv) (ok : Bool) (f : Nat) : Array Value := #[.slice y.1.a y.1.l.length y.1.c, int y.2.1, int y.2.2, .bool ok, fnV f]
theorem rj9 (a b c d e : Value) : ∀ (i : Nat) (u : Value), ([a, b, c] : List Value)[i]? = some u → (#[a, b, c, d, e] : Array Value)[0 + i]? = some u := by
  intro i u h
  rcases i with _ | _ | _ | i
  · exact h
  · exact h
  · exact h
  simp at h
def offS (o : Hn → Hn → Int) (s : Hn × Bool) (x : Hn) : Hn × Bool := if s.2 = false ∨ o x s.1 < 0 then (x, true) else s
structure OrdF (f : Nat) (o : Hn → Hn → Int) : Prop where
  cb : Callable Tryz.prog f
  m : ∀ x y : Hv, x.1.l.length ≤ 1000000 → y.1.l.length ≤ 1000000 → Meets Tryz.prog f [x.v, y.v] { LI := [x.row, y.row], val := fun _ : Unit => int (o x.dat y.dat) }
theorem rj7 : OrdF F.U8 ordF := ⟨F.cz8, xC⟩
theorem pj0 : OrdF F.L7 ordP := ⟨F.ax8, tX⟩
theorem M3 {gB f : Nat} {o : Hn → Hn → Int} (hf : OrdF f o) (x y : Hv) (ok : Bool) (hx : x.1.l.length ≤ 1000000) (hy : y.1.l.length ≤ 1000000) : Meets Tryz.prog F.L3 [.pointer (b4 gB), x.v] { hpI := [(gB, Obj.cells (offA y ok f) T.y9 (0, 0))], LI := [x.row, y.row], inv := fun z : Hv × Bool => (z.1.dat, z.2) = offS o (y.dat, ok) x.dat ∧ (z.1 = x ∨ z.1 = y), val := fun _ => .tuple #[], hpO := fun z => [(gB, Obj.cells (offA z.1 z.2 f) T.y9 (0, 0))] } := by
 refine i9 F.aV rfl t4 fun w0 => ?_; refine i5 ?_; refine C0 rfl rfl fun gT => ?_; refine d6 (d7 (Q8 ?_)); refine A6 15 mixed (by decide) (by decide) rfl rfl (i4 (fun w1 => a9 rfl (q_z rfl)) (i4 (fun w1 => r8 rfl rfl (q_z rfl)) (i4 (fun w1 => a8 ⟨_, 3, none⟩ rfl rfl T.C8 rfl (q_z rfl)) ?_))); refine i4 (fun w1 => c9 (v := .bool ok) rfl T.qH rfl (j9 (by repeat constructor) rfl) (q_z rfl)) ?_; refine i4 (fun w1 => E9 rfl rfl (q_z rfl)) (i4 (fun w1 => a9 rfl (q_z rfl)) ?_); refine I0 (t := 9) (want := false) rfl ?_ ?_
 ·intro hg1; have hg1' := hg1; try simp at hg1'
  apply q6 _ rfl rfl rfl
  ·intro w1; refine i3 rfl rfl hg1 (a9 rfl (c8 ?_)); exact j7 rfl
  apply q6 _ rfl rfl rfl
  ·intro w1; refine i3 rfl rfl hg1 (r8 rfl rfl (c8 ?_)); exact j7 rfl
  apply q6 _ rfl rfl rfl
  ·intro w1; refine i3 rfl rfl hg1 (a8 ⟨_, 4, none⟩ rfl rfl T.U4 rfl ?_); refine c8 ?_; exact j7 rfl
  apply q6 _ rfl rfl rfl
  ·intro w1; refine i3 rfl rfl hg1 ?_; refine c9 (v := fnV f) rfl T.V1 rfl (j9 (by repeat constructor) rfl) ?_; refine c8 ?_; exact j7 rfl
  apply q6 _ rfl rfl rfl
  ·intro w1; refine i3 rfl rfl hg1 ?_; refine E0 (cs := #[.slice x.1.a x.1.l.length x.1.c, int x.2.1, int x.2.2]) rfl T.J5 T.D8 rfl (by repeat constructor) rfl ?_; refine c8 ?_; exact j7 rfl
  apply q6 _ rfl rfl rfl
  ·intro w1; refine i3 rfl rfl hg1 (a9 rfl (c8 ?_)); exact j7 rfl
  apply q6 _ rfl rfl rfl
  ·intro w1; refine i3 rfl rfl hg1 (r8 rfl rfl (c8 ?_)); exact j7 rfl
  apply q6 _ rfl rfl rfl
  ·intro w1; refine i3 rfl rfl hg1 (a8 ⟨_, 0, none⟩ rfl rfl T.v7 rfl ?_); refine c8 ?_; exact j7 rfl
  apply q6 _ rfl rfl rfl
  ·intro w1; refine i3 rfl rfl hg1 ?_; refine D9 (cs := [.slice y.1.a y.1.l.length y.1.c, int y.2.1, int y.2.2]) rfl T.J5 T.D8 rfl rfl (hj5 (by repeat constructor) (rj9 _ _ _ _ _)) ?_; refine c8 ?_; exact j7 rfl
  refine v9 ⟨rfl, ?_⟩; refine i3 rfl rfl hg1 ?_; refine wB (vs := [x.v, y.v]) (cap := []) hf.cb rfl rfl rfl (hf.m x y hx hy) l7 ⟨(by repeat constructor), (by repeat constructor), trivial⟩ fun _ _ => ?_; refine i3 rfl rfl hg1 (u4 rfl rfl rfl ?_); refine p_f rfl rfl (bf1 hg1) rfl ?_; refine d6 ?_; refine m3 rfl (fun hb1 => ?_) (fun hb1 => ?_)
  ·have hb1' := hb1; try simp at hb1'
   refine d9 (a9 rfl (a9 rfl ?_)); refine E0 (cs := #[.slice x.1.a x.1.l.length x.1.c, int x.2.1, int x.2.2]) rfl T.J5 T.D8 rfl (by repeat constructor) rfl ?_; refine r8 rfl rfl (a8 ⟨_, 0, none⟩ rfl rfl T.v7 rfl (jz2 rfl rfl (.refl _) T.D8 (show 0 + 3 ≤ 5 by decide) (by rfl) (r8 rfl rfl (a8 ⟨_, 3, none⟩ rfl rfl T.C8 rfl (z8 rfl rfl (.refl _) T.az4 rfl rfl ?_))))); refine c8 ?_; exact ret0n (x, true) rfl rfl rfl ⟨by show (x.dat, true) = offS o (y.dat, ok) x.dat; rw [offS, if_pos (.inr hb1)], .inl rfl⟩ (.refl _) trivial
  have hb1' := hb1; try simp at hb1'
  refine i6 ?_; exact ret0n (y, ok) rfl rfl rfl ⟨by show (y.dat, ok) = offS o (y.dat, ok) x.dat; rw [offS, if_neg (fun h => h.elim (fun h => by rw [show ok = true from hg1'] at h; cases h) hb1)], .inr rfl⟩ (.refl _) trivial
 intro hg1; have hg1' := hg1; try simp at hg1'
 refine i4 (fun w1 => k4 rfl rfl rfl rfl rfl hg1 (q_z rfl)) (i4 (fun w1 => k4 rfl rfl rfl rfl rfl hg1 (q_z rfl)) (i4 (fun w1 => k4 rfl rfl rfl rfl rfl hg1 (q_z rfl)) (i4 (fun w1 => k4 rfl rfl rfl rfl rfl hg1 (q_z rfl)) (i4 (fun w1 => k4 rfl rfl rfl rfl rfl hg1 (q_z rfl)) (i4 (fun w1 => k4 rfl rfl rfl rfl rfl hg1 (q_z rfl)) (i4 (fun w1 => k4 rfl rfl rfl rfl rfl hg1 (q_z rfl)) (i4 (fun w1 => k4 rfl rfl rfl rfl rfl hg1 (q_z rfl)) ?_))))))); refine i4 (fun w1 => k4 rfl rfl rfl rfl rfl hg1 (q_z rfl)) ?_; refine v9 ⟨rfl, ?_⟩; refine k4 rfl rfl rfl rfl rfl hg1 (k4 rfl rfl rfl rfl rfl hg1 ?_); refine p_t rfl rfl (bt2 hg1) rfl ?_; refine d6 (c_t rfl rfl (d9 (a9 rfl (a9 rfl ?_)))); refine E0 (cs := #[.slice x.1.a x.1.l.length x.1.c, int x.2.1, int x.2.2]) rfl T.J5 T.D8 rfl (by repeat constructor) rfl ?_; refine r8 rfl rfl (a8 ⟨_, 0, none⟩ rfl rfl T.v7 rfl (jz2 rfl rfl (.refl _) T.D8 (show 0 + 3 ≤ 5 by decide) (by rfl) (r8 rfl rfl (a8 ⟨_, 3, none⟩ rfl rfl T.C8 rfl (z8 rfl rfl (.refl _) T.az4 rfl rfl ?_))))); refine c8 ?_; exact ret0n (x, true) rfl rfl rfl ⟨by show (x.dat, true) = offS o (y.dat, ok) x.dat; rw [offS, if_pos (.inl (show ok = false from hg1'))], .inl rfl⟩ (.refl _) trivial
end Go.Proofs.YtdlbbfcfahahdaaGreat
end
section
namespace Go.Proofs.YtdlbbfcfahahdaaGreat
open Go Go.W
set_option maxRecDepth 20000
attribute [local irreducible] HL HC HQ HB Row Rows2 Blk Facts
theorem sq4 {cs : List Cd} {room : Int} (h : cardsE cs room = 0) : cs.length ≤ 8 ∧ (∀ x ∈ cs, cdB x) ∧ 0 ≤ room ∧ room ≤ 60 := by
  unfold cardsE at h
  split at h
  · cases h
  split at h
  · cases h
  rename_i h1 h2
  split at h
  · cases h
  rename_i h3
  exact ⟨by omega, Classical.not_not.1 h2, (Classical.not_not.1 h3).1, (Classical.not_not.1 h3).2⟩
theorem rz3 {cs : List Cd} {room : Int} {k : Nat} {hs : List Hv} (hd : hs.map Hv.dat = handsK cs room k) (hn : cs.length ≤ 8) : ∀ x ∈ hs, x.1.l.length ≤ 8 := by
  intro x hx; have h : x.dat ∈ handsK cs room k := hd ▸ List.mem_map.2 ⟨x, hx, rfl⟩; obtain ⟨s, _, hs⟩ := List.mem_map.1 (List.mem_filter.1 h).1; have h2 := congrArg (fun y : Hn => y.1.length) hs; simp only [handK, Hv.dat] at h2; have := pW s cs.length
  omega
theorem px0 {cs : List Cd} {room : Int} {k : Nat} {hs : List Hv} (hd : hs.map Hv.dat = handsK cs room k) : hs.length ≤ k := by
  rw [← List.length_map (f := Hv.dat), hd]; exact cq2 ..
def noB : Hn × Bool := (([], 0, 0), false)
def bestL (o : Hn → Hn → Int) (l : List Hn) : Hn × Bool := l.foldl (offS o) noB
theorem jC (o : Hn → Hn → Int) (l : List Hn) (x : Hn) : bestL o (l ++ [x]) = offS o (bestL o l) x := by simp [bestL]
theorem rC {hs : List Hv} {k : Nat} (hk : k < hs.length) : (hs.take (k + 1)).map Hv.dat = (hs.take k).map Hv.dat ++ [Hv.dat (hs.getD k default)] := by
  rw [List.take_succ_eq_append_getElem hk, t5 hk, List.map_append]; rfl
def fillE (cs : List Cd) (room : Int) : Hn := if ¬ cardsE cs room = 0 then ([], 0, cardsE cs room) else ((bestL ordF (handsK cs room (2 ^ cs.length))).1.1, (bestL ordF (handsK cs room (2 ^ cs.length))).1.2.2, 0)
def exactL (cs : List Cd) (room : Int) : Hn × Bool := bestL ordX ((handsK cs room (2 ^ cs.length)).filter fun x => decide (x.2.1 = room))
def exactE (cs : List Cd) (room : Int) : List Int × Int := if ¬ cardsE cs room = 0 then ([], cardsE cs room) else if (exactL cs room).2 = false then ([], 11) else ((exactL cs room).1.1, 0)
theorem ax9 {A : Option Addr} {ca : Nat} (cs : List Cd) (room : Int) (hn : cs.length ≤ 1000000) : Meets Tryz.prog F.qI [.slice A cs.length ca, int room] { LI := [Row A (rows cs)], val := fun x : OutC => .tuple #[.slice x.1 (fillE cs room).1.length x.2, int (fillE cs room).2.1, int (fillE cs room).2.2], LO := fun x => [Row x.1 (rows (fillE cs room).1)] } := by
 refine i9 F.kx4 rfl t4 fun w0 => ?_; refine i5 (b8 rfl (b8 rfl (b8 rfl (d6 (d7 (i5 (a9 rfl (a9 rfl ?_)))))))); refine j0 F.tP rfl rfl (lY cs room hn) l7 mC fun _ _ => ?_; refine b8 rfl (j8 (a9 rfl (H2 rfl rfl rfl (d6 ?_)))); refine m3 rfl (fun hb1 => ?_) (fun hb1 => ?_)
 ·have hb1' := hb1; try simp at hb1'
  refine i5 (a9 rfl (b8 rfl (b8 rfl (b8 rfl (d6 (G0 ?_)))))); refine z9 (α := Int) ?_; exact ret3 (none, 0) rfl rfl rfl rfl (by show Value.tuple #[.slice none (fillE cs room).1.length 0, int (fillE cs room).2.1, int (fillE cs room).2.2] = _; rw [fillE, if_pos hb1]; rfl) rfl trivial nil_sb (by show LSub _ [Row none (rows (fillE cs room).1)]; rw [fillE, if_pos hb1]; exact ⟨m0, trivial⟩)
 have hb1' := hb1; try simp at hb1'
 have h0 : cardsE cs room = 0 := Classical.not_not.1 hb1; obtain ⟨hn8, hcd, hr0, hr1⟩ := sq4 h0; refine i6 (d8 (i5 ?_)); refine B5 _ rfl rfl (fun _ => T.K7 ..) ?_; refine B6 rfl (fun _ => T.M0 _) fun gB => ?_; refine B9 (cs := offA ((⟨none, 0, []⟩, 0, 0) : Hv) false F.U8) rfl rfl (.refl _) T.L5 (by rfl) (by rfl) ?_; refine d6 (d7 (i5 (a9 rfl (a9 rfl ?_)))); refine j0 F.gj2 rfl rfl (yT cs room hn8 hcd) l7 mC fun x hx => ?_; obtain ⟨hs, ⟨na, nc⟩, og⟩ := x; obtain ⟨hd, hG⟩ := hx; simp only at hd hG; have hi8 := rz3 hd hn8; have hll := px0 hd; have hN2 : 2 ^ cs.length ≤ 256 := Nat.pow_le_pow_right (n := 2) (by omega) hn8; refine cq0 hG (qC (α := Int) (j3 rfl T.qY rfl ?_)); refine a9 rfl (d6 (i8 ?_)); refine p9 (β := Nat × Hv × Bool) ⟨fun x => x.1 ≤ hs.length ∧ (x.2.1.dat, x.2.2) = bestL ordF ((hs.take x.1).map Hv.dat) ∧ x.2.1.1.l.length ≤ 8, fun x => [(0, .slice A cs.length ca), (1, int room), (8, .pointer (b4 gB)), (20, .slice na hs.length nc), (21, int hs.length), (22, int x.1)], fun x => [(gB, Obj.cells (offA x.2.1 x.2.2 F.U8) T.y9 (0, 0))], fun x => [Row na (rows hs), innersF hs Hv.row, x.2.1.row]⟩ (fun x => hs.length - x.1) (0, ((⟨none, 0, []⟩, 0, 0) : Hv), false) ⟨Nat.zero_le _, rfl, Nat.zero_le _⟩ mC (.refl _) mC fun x hx => ?_; obtain ⟨k, y, ok⟩ := x; obtain ⟨hk, ha, hy⟩ := hx; simp only at hk ha hy; refine i5 (u4 rfl rfl rfl (d6 (d7 ?_))); refine m3 rfl (fun hb2 => ?_) (fun hb2 => ?_)
 ·have hb2' := hb2; try simp at hb2'
  have hk2 : k < hs.length := by omega
  have hx8 := hi8 _ (n0 hk2); refine i6 (d8 (d7 (i8 (i5 ?_)))); refine m7 (α := _) _ _ rfl T.qY T.D8 rfl rfl rfl mB rfl (by omega) (by decide) (D9 rfl T.J5 T.D8 rfl rfl (B4 mB (D1 (by omega))) ?_); refine B6 rfl (fun _ => T.kT _) fun gA => ?_; refine B9 (cs := #[.slice (hs.getD k default).1.a (hs.getD k default).1.l.length (hs.getD k default).1.c, int (hs.getD k default).2.1, int (hs.getD k default).2.2]) rfl rfl (.refl _) T.D8 (by rfl) (by rfl) ?_; refine d6 (d9 ?_); refine D4 (cs := #[.slice (hs.getD k default).1.a (hs.getD k default).1.l.length (hs.getD k default).1.c, int (hs.getD k default).2.1, int (hs.getD k default).2.2]) rfl T.J5 T.D8 rfl mB rfl (bj2 (F := Hv.row (hs.getD k default)) (Fs := hs.map Hv.row) mB (List.mem_map.2 ⟨_, n0 hk2, rfl⟩) ?_); refine j0 F.O5 rfl rfl (M3 rj7 (hs.getD k default) y ok (by omega) (by omega)) (List.Perm.swap _ _ _) mC fun z hz => ?_; obtain ⟨z, zk⟩ := z; obtain ⟨hz, hzi⟩ := hz; refine c8 (t6 (d8 (d9 ?_))); refine r7 _ rfl rfl rfl rfl m6 ?_; refine a9 rfl (c8 ?_)
  rcases hzi with rfl | rfl
  · exact again _ (k + 1, (hs.getD k default), zk) ⟨by show k + 1 ≤ hs.length; omega, by show ((hs.getD k default).dat, zk) = bestL ordF ((hs.take (k + 1)).map Hv.dat); rw [rC hk2, jC, ← ha]; exact hz, by first | exact hy | exact Nat.le_trans hx8 (Nat.le_refl _)⟩ (u2 (by omega)) mC (by first | exact .cons_cons _ nil_sb | exact .cons _ (.refl _)) mC
  exact again _ (k + 1, z, zk) ⟨by show k + 1 ≤ hs.length; omega, by show (z.dat, zk) = bestL ordF ((hs.take (k + 1)).map Hv.dat); rw [rC hk2, jC, ← ha]; exact hz, by first | exact hy | exact Nat.le_trans hx8 (Nat.le_refl _)⟩ (u2 (by omega)) mC (by first | exact .cons_cons _ nil_sb | exact .cons _ (.refl _)) mC
 have hb2' := hb2; try simp at hb2'
 have hk2 : k = hs.length := by omega
 rw [hk2, List.take_length, hd] at ha; refine p8 (v8 (p7 (d8 (d7 ?_)))); refine A6 7 mixed (by decide) (by decide) rfl rfl (i4 (fun w1 => a8 ⟨_, 0, none⟩ rfl rfl T.v7 rfl (q_z rfl)) (i4 (fun w1 => a8 ⟨_, 0, none⟩ rfl rfl T.E5 rfl (q_z rfl)) (i4 (fun w1 => c9 rfl T.m8 rfl (j9 mB rfl) (q_z rfl)) (i4 (fun w1 => a8 ⟨_, 0, none⟩ rfl rfl T.v7 rfl (q_z rfl)) (i4 (fun w1 => a8 ⟨_, 2, none⟩ rfl rfl T.G3 rfl (q_z rfl)) (i4 (fun w1 => c9 rfl T.i7 rfl (j9 mB rfl) (q_z rfl)) (i4 (fun w1 => b8 rfl (q_z rfl)) ?_))))))); refine v9 ⟨rfl, ?_⟩; refine b8 rfl (b8 rfl (d6 (j5 ?_))); have hE : fillE cs room = (y.1.l, y.2.2, 0) := by rw [fillE, if_neg (Classical.not_not.2 h0), ← ha]; rfl
 exact ret3 (y.1.a, y.1.c) rfl rfl rfl rfl (by show Value.tuple #[.slice y.1.a (fillE cs room).1.length y.1.c, int (fillE cs room).2.1, int (fillE cs room).2.2] = _; rw [hE] <;> rfl) rfl trivial nil_sb (by show LSub _ [Row y.1.a (rows (fillE cs room).1)]; rw [hE]; exact mC)
end Go.Proofs.YtdlbbfcfahahdaaGreat
end
section
namespace Go.Proofs.YtdlbbfcfahahdaaGreat
open Go Go.W
set_option maxRecDepth 20000
attribute [local irreducible] HL HC HQ HB Row Rows2 Blk Facts
def streetsE (c : Ch) (ss : List Int) (xs : List Ad) : List Int × Int := if ¬ chkS c ss xs = 0 then ([], chkS c ss xs) else (discK c ss xs 10, 0)
def savedE (c : Ch) (ss : List Int) (xs : List Ad) : List Int × Int := if ¬ chkS c ss xs = 0 then ([], chkS c ss xs) else (numsN 57 c ss xs, 0)
def ctrC : Ch := (10, 25, 5, 40, 10, 2)
def ctrA : List Ad := [(0, 1, 1), (1, 2, 2), (2, 3, 3)]
def iL : List Cd := [(2, 30), (3, 50), (4, 60)]
theorem vO : Meets Tryz.prog F.nU [] { val := fun g : Nat => .slice (b4 g) 3 3, LO := fun g => [Row (b4 g) (rows iL)] } := by
 refine i9 F.dx8 rfl t4 fun w0 => ?_; refine i5 (b8 rfl (j8 ?_)); refine B5 _ rfl rfl (fun _ => T.aL ..) (B5 _ rfl rfl (fun _ => T.aL ..) (B5 _ rfl rfl (fun _ => T.aL ..) ?_)); refine l6 _ rfl rfl (fun _ => T.ax2 ..) fun gS => ?_; refine b8 rfl (d6 (j5 ?_)); refine C3 (rows iL) (List.prefix_refl _) ?_; exact ret1 gS rfl rfl rfl trivial nil_sb ⟨m0, trivial⟩
theorem vN : Meets Tryz.prog F.nT [] { val := fun g : Nat => .slice (b4 g) 6 6, LO := fun g => [Row (b4 g) (rows ([5, 9, 4, 7, 6, 9] : List Int))] } := by
 refine i9 F.dx7 rfl t4 fun w0 => ?_; refine i5 (b8 rfl (j8 ?_)); refine l6 _ rfl rfl (fun _ => T.pz6 ..) fun gS => ?_; refine b8 rfl (d6 (j5 ?_)); refine C3 (rows ([5, 9, 4, 7, 6, 9] : List Int)) (List.prefix_refl _) ?_; exact ret1 gS rfl rfl rfl trivial nil_sb ⟨m0, trivial⟩
end Go.Proofs.YtdlbbfcfahahdaaGreat
end
section
namespace Go.Proofs.YtdlbbfcfahahdaaGreat
open Go Go.W
set_option maxRecDepth 20000
attribute [local irreducible] HL HC HQ HB Row Rows2 Blk Facts
abbrev ctrP (g : Nat) : Sl Int := ⟨some ⟨g, 0, none⟩, 3, [0, 0, 3]⟩
abbrev ctrQ (g : Nat) : Sl Ad := ⟨some ⟨g, 0, none⟩, 3, ctrA⟩
def someA : List Ad := [(0, 1, 1), (2, 3, 3)]
abbrev someQ (g : Nat) : Sl Ad := ⟨some ⟨g, 0, none⟩, 2, someA⟩
theorem aQ : Meets Tryz.prog F.dQ [] { val := fun x : Nat × Nat => saV ctrC (ctrP x.1) (ctrQ x.2), LO := fun x => saL (ctrP x.1) (ctrQ x.2) } := by
 refine i9 F.aj5 rfl t4 fun w0 => ?_; refine i5 ?_; refine B6 rfl (fun _ => T.aW _) fun g0 => ?_; refine j8 ?_; refine B5 _ rfl rfl (fun _ => T.cP ..) ?_; refine l6 _ rfl rfl (fun _ => T.bK ..) fun gp => ?_; refine w7 (rows ([0, 0, 3] : List Int)) (List.prefix_refl _) (B5 _ rfl rfl (fun _ => T.M4 ..) (B5 _ rfl rfl (fun _ => T.M4 ..) (B5 _ rfl rfl (fun _ => T.M4 ..) ?_))); refine l6 _ rfl rfl (fun _ => T.wO ..) fun gq => ?_; refine w7 (rows ctrA) (List.prefix_refl _) (B5 _ rfl rfl (fun _ => T.uB ..) ?_); refine B9 rfl rfl (by first | exact .refl _ | exact perm2 _ _ _ | exact perm3 _ _ _ _ | exact perm4 _ _ _ _ _) T.A3 (by rfl) (by rfl) ?_; refine d6 (j5 ?_); exact pU (gp, gq) rfl rfl T.B7 T.A3 rfl m0 rfl rfl trivial nil_sb mC
theorem xX : Meets Tryz.prog F.sV [] { val := fun x : Nat × Nat => saV ctrC (ctrP x.1) (someQ x.2), LO := fun x => saL (ctrP x.1) (someQ x.2) } := by
 refine i9 F.ix1 rfl t4 fun w0 => ?_; refine i5 ?_; refine B6 rfl (fun _ => T.aW _) fun g0 => ?_; refine j8 ?_; refine j0 F.iM rfl rfl (aQ) l7 trivial fun x _ => ?_; obtain ⟨gp, gq⟩ := x; refine B6 rfl (fun _ => T.aW _) fun g1 => ?_; refine B9 (cs := #[int 10, int 25, int 5, int 40, int 10, int 2, .slice (b4 gp) 3 3, .slice (b4 gq) 3 3]) rfl rfl (.refl _) T.A3 (by rfl) (by rfl) ?_; refine d6 (d7 ?_); refine A6 8 mixed (by decide) (by decide) rfl rfl (i4 (fun w1 => a8 ⟨_, 7, none⟩ rfl rfl T.E6 rfl (q_z rfl)) (i4 (fun w1 => c9 (v := .slice (b4 gq) 3 3) rfl T.E3 rfl (j9 mB rfl) (q_z rfl)) (i4 (fun w1 => m7 (α := Ad) ctrA 0 rfl T.C9 T.y5 rfl rfl rfl mB rfl (by decide) (by decide) (q_z rfl)) (i4 (fun w1 => D9 (cs := [int 0, int 1, int 1]) rfl T.G1 T.y5 rfl rfl (B4 mB (D1 (l := ctrA) (i := 0) (by decide))) (q_z rfl)) (i4 (fun w1 => a8 ⟨_, 7, none⟩ rfl rfl T.E6 rfl (q_z rfl)) (i4 (fun w1 => c9 (v := .slice (b4 gq) 3 3) rfl T.E3 rfl (j9 mB rfl) (q_z rfl)) (i4 (fun w1 => m7 (α := Ad) ctrA 2 rfl T.C9 T.y5 rfl rfl rfl mB rfl (by decide) (by decide) (q_z rfl)) ?_))))))); refine i4 (fun w1 => D9 (cs := [int 2, int 3, int 3]) rfl T.G1 T.y5 rfl rfl (B4 mB (D1 (l := ctrA) (i := 2) (by decide))) (q_z rfl)) ?_; refine v9 ⟨rfl, ?_⟩; refine l6 _ rfl rfl (fun _ => T.wP ..) fun gr => ?_; refine w7 (rows someA) (List.prefix_refl _) (a8 ⟨_, 7, none⟩ rfl rfl T.E6 rfl (z8 rfl rfl (.refl _) T.kW rfl rfl ?_)); refine j8 ?_; refine D4 (cs := #[int 10, int 25, int 5, int 40, int 10, int 2, .slice (b4 gp) 3 3, .slice (b4 gr) 2 2]) rfl T.B7 T.A3 rfl m0 rfl (B9 (cs := #[int 10, int 25, int 5, int 40, int 10, int 2, .slice (b4 gp) 3 3, .slice (b4 gr) 2 2]) rfl rfl (List.Perm.swap _ _ _) T.A3 (by rfl) (by rfl) ?_); refine d6 (j5 ?_); exact pU (gp, gr) rfl rfl T.B7 T.A3 rfl m0 rfl rfl trivial nil_sb mC
def shopsC : List Cl := [([102, 111, 111, 100], -1), ([98, 114, 101, 97, 100], 0), ([99, 108, 111, 116, 104], -1), ([104, 97, 116, 115], 2)]
def shopsH (g1 g2 : Nat) : List Hd := [([98, 97, 107, 101, 114], 1, -1, ⟨none, 0, []⟩), ([98, 111, 110, 110, 101, 116, 115], -1, 3, ⟨none, 0, []⟩), ([99, 111, 110, 102, 101, 99, 116, 105, 111, 110, 101, 114], 0, -1, ⟨some ⟨g1, 0, none⟩, 1, [0]⟩), ([104, 97, 116, 116, 101, 114], 3, -1, ⟨none, 0, []⟩), ([109, 101, 114, 99, 101, 114], 2, -1, ⟨some ⟨g2, 0, none⟩, 1, [3]⟩), ([109, 105, 108, 108, 105, 110, 101, 114], -1, 1, ⟨none, 0, []⟩)]
set_option maxHeartbeats 1000000 in
theorem vM : Meets Tryz.prog F.nS [] { val := fun x : Nat × Nat × Nat × Nat => .agg #[.slice (some ⟨x.1, 0, none⟩) 4 4, .slice (some ⟨x.2.1, 0, none⟩) 6 6], LO := fun x => [Row (some ⟨x.1, 0, none⟩) (rows shopsC), RowsF (some ⟨x.2.1, 0, none⟩) (shopsH x.2.2.1 x.2.2.2) Hd.row] } := by
 refine i9 F.dx6 rfl t4 fun w0 => ?_; refine i5 ?_; refine B6 rfl (fun _ => T.O7 _) fun g0 => ?_; refine j8 ?_; refine B5 _ rfl rfl (fun _ => T.R0 ..) ?_; refine B5 _ rfl rfl (fun _ => T.cz9 ..) ?_; refine B5 _ rfl rfl (fun _ => T.R0 ..) ?_; refine B5 _ rfl rfl (fun _ => T.R0 ..) ?_; refine l6 _ rfl rfl (fun _ => T.yP ..) fun gC => ?_; refine w7 (rows shopsC) (List.prefix_refl _) ?_; refine B5 _ rfl rfl (fun _ => T.L8 ..) ?_; refine B5 _ rfl rfl (fun _ => T.L8 ..) ?_; refine l6 _ rfl rfl (fun _ => T.H1 ..) fun g1 => ?_; refine w7 (rows [(0 : Int)]) (List.prefix_refl _) ?_; refine B5 _ rfl rfl (fun _ => T.xE ..) ?_; refine B5 _ rfl rfl (fun _ => T.L8 ..) ?_; refine l6 _ rfl rfl (fun _ => T.H1 ..) fun g2 => ?_; refine w7 (rows [(3 : Int)]) (List.prefix_refl _) ?_; refine B5 _ rfl rfl (fun _ => T.qX ..) ?_; refine B5 _ rfl rfl (fun _ => T.L8 ..) ?_; refine l6 _ rfl rfl (fun _ => T.ax0 ..) fun gH => ?_; refine w7 (rows (shopsH g1 g2)) (List.prefix_refl _) ?_; refine B5 _ rfl rfl (fun _ => T.xD ..) ?_; refine B9 rfl rfl (by first | exact .refl _ | exact perm2 _ _ _ | exact perm3 _ _ _ _ | exact perm4 _ _ _ _ _) T.k8 (by rfl) (by rfl) ?_; refine d6 (j5 ?_); refine z9 (α := Int) ?_; refine pA (Fs := (shopsH g1 g2).map Hd.row) (by intro F hF; left; simp only [shopsH, List.map_cons, List.map_nil, List.mem_cons, List.not_mem_nil, or_false] at hF; rcases hF with rfl | rfl | rfl | rfl | rfl | rfl <;> repeat constructor) ?_; refine rx3 (A := some ⟨gH, 0, none⟩) (ps := shopsH g1 g2) (f := Hd.row) mB m0 ?_; exact pU (gC, gH, g1, g2) rfl rfl T.m4 T.k8 rfl m0 rfl rfl trivial nil_sb ⟨mB, m0, trivial⟩
end Go.Proofs.YtdlbbfcfahahdaaGreat
end
section
namespace Go.Proofs.YtdlbbfcfahahdaaGreat
open Go Go.W
set_option maxRecDepth 20000
attribute [local irreducible] HL HC HQ HB Row Rows2 Blk Facts
instance : El Bool where
  default := false
  cells b := [.bool b]
  sz := 1
  len _ := rfl
  one a u h := by simp at h; subst h; rfl
def rdK (p : Int) (l : List Int) : List Bool := l.map fun v => decide (0 ≤ v ∧ v ≤ p)
theorem qz3 {p : Int} {l : List Int} {k : Nat} (hk : k < l.length) : rdK p (l.take (k + 1)) = rdK p (l.take k) ++ [decide (0 ≤ l.getD k default ∧ l.getD k default ≤ p)] := by
  unfold rdK; rw [List.take_succ_eq_append_getElem hk, t5 hk, List.map_append]; rfl
theorem iq3 (p : Int) (l : List Int) : (rdK p l).length = l.length := by simp [rdK]
def reachK (t : Tr) (p : Int) (k : Nat) : List (List Bool) := (List.range k).map fun i : Nat => rdK p (stepsE t (i : Int)).1
theorem jz1 (t : Tr) (p : Int) (k : Nat) : reachK t p (k + 1) = reachK t p k ++ [rdK p (stepsE t (k : Int)).1] := by
  unfold reachK; rw [List.range_succ, List.map_append]; rfl
abbrev N0 : Sl Bool := ⟨none, 0, []⟩
theorem sx4 {ps r : List (Sl Bool)} {x : Sl Bool} {i : Nat} (h : ps.length = i) : (ps ++ x :: r).getD i default = x := by
  subst h; simp [List.getD_eq_getElem?_getD]
theorem set_cur {ps r : List (Sl Bool)} {x y : Sl Bool} {i : Nat} (h : ps.length = i) : (ps ++ x :: r).set i y = ps ++ y :: r := by
  subst h; simp
theorem cL {A B : Option Addr} {ca cb : Nat} (cs : List Cl) (hs : List Hd) (p : Int) (hca : cs.length ≤ ca) (hcb : hs.length ≤ cb) (ha : ∀ h ∈ hs, h.2.2.2.l.length ≤ 1000000) (hn : hs.length ≤ 1000000) (hst : ∀ i : Nat, (stepsE (trOf cs hs) (i : Int)).1.length ≤ 1000000) : Meets Tryz.prog F.kK [.agg #[.slice A cs.length ca, .slice B hs.length cb], int p] { LI := [Row A (rows cs), RowsF B hs Hd.row], inv := fun x : Nat × List (Sl Bool) => x.2.length = hs.length ∧ x.2.map (·.l) = reachK (trOf cs hs) p hs.length, val := fun x => .slice (some ⟨x.1, 0, none⟩) hs.length hs.length, LO := fun x => [Row (some ⟨x.1, 0, none⟩) (rows x.2), innerF x.2] } := by
 refine i9 F.cz1 rfl t4 fun w0 => ?_; refine i5 ?_; refine C0 rfl rfl fun gB => ?_; refine b8 rfl (d6 (d7 (Q8 (d9 ?_)))); refine a8 ⟨_, 1, none⟩ rfl rfl T.j4 rfl (c9 (v := .slice B hs.length cb) rfl T.j6 rfl (j9 mB rfl) (j3 rfl T.k9 rfl ?_)); refine mx5 (α := Sl Bool) (n := hs.length) (bytes := 24) (z := .slice none 0 0) N0 rfl T.S6 (by kernel_rfl) rfl rfl rfl rfl (by omega) (by omega) fun go => ?_; refine b8 rfl (d6 (d7 (i5 (a9 rfl ?_)))); refine j3 rfl T.S6 rfl ?_; refine a9 rfl (d6 (i8 ?_)); refine cH (Fs := ([] : List (Sl Bool)).map fun p => Row p.a (rows p.l)) (by intro F hF; cases hF) ?_; refine p9 (β := Nat × List (Sl Bool)) ⟨fun x => x.1 ≤ hs.length ∧ x.2.length = x.1 ∧ x.2.map (·.l) = reachK (trOf cs hs) p x.1, fun x => [(1, int p), (2, .pointer (b4 gB)), (5, .slice (b4 go) hs.length hs.length), (16, int hs.length), (17, int x.1)], fun x => [(go, Obj.cells (rows (x.2 ++ List.replicate (hs.length - x.1) N0)).toArray T.aN (0, 0))], fun x => [Blk gB (Obj.cells #[.slice A cs.length ca, .slice B hs.length cb] T.k7 (0, 0)), Row A (rows cs), RowsF B hs Hd.row, innerF x.2]⟩ (fun x => hs.length - x.1) (0, []) ⟨Nat.zero_le _, rfl, rfl⟩ mC (.refl _) mC fun x hx => ?_; obtain ⟨i, ps⟩ := x; obtain ⟨hi, hpl, hpm⟩ := hx; simp only at hi hpl hpm; have hs1 := hst i; refine i5 (u4 rfl rfl rfl (d6 (d7 ?_))); refine m3 rfl (fun hb1 => ?_) (fun hb1 => ?_)
 ·have hb1' := hb1; try simp at hb1'
  have hi2 : i < hs.length := by omega
  obtain ⟨q, hq⟩ : ∃ q, hs.length - i = q + 1 := ⟨hs.length - i - 1, by omega⟩; refine i6 (d8 (d7 (i8 (i5 (a9 rfl (b8 rfl (j8 ?_))))))); refine E0 (cs := #[.slice A cs.length ca, .slice B hs.length cb]) rfl T.m4 T.k8 rfl mB rfl (a9 rfl ?_); refine j0 F.bq1 rfl rfl (uM cs hs (i : Int) hca hcb ha) l7 mC fun x hx => ?_; obtain ⟨xa, xc⟩ := x; refine a9 rfl (u5 rfl rfl rfl (u5 rfl rfl rfl (b8 rfl (b8 rfl (j8 (a9 rfl ?_)))))); refine j3 rfl T.l4 rfl ?_; refine a9 rfl (d6 (i8 ?_)); refine dA (hp' := [(go, Obj.cells (rows (ps ++ N0 :: List.replicate q N0)).toArray T.aN (0, 0))]) (by show List.Perm [(go, Obj.cells (rows (ps ++ List.replicate (hs.length - i) N0)).toArray T.aN (0, 0))] _; rw [hq]; exact .refl _) ?_; refine p9 (β := Nat × OutC × Hp) ⟨fun x => x.1 ≤ (stepsE (trOf cs hs) (i : Int)).1.length ∧ Grow T.bool 1 x.2.1.1 (rdK p ((stepsE (trOf cs hs) (i : Int)).1.take (x.1))).length x.2.1.2 (rows (rdK p ((stepsE (trOf cs hs) (i : Int)).1.take (x.1)))) x.2.2, fun x => [(1, int p), (2, .pointer (b4 gB)), (5, .slice (b4 go) hs.length hs.length), (6, int i), (16, int hs.length), (17, int i), (26, .slice xa (stepsE (trOf cs hs) (i : Int)).1.length xc), (27, int (stepsE (trOf cs hs) (i : Int)).1.length), (28, int x.1)], fun x => (go, Obj.cells (rows (ps ++ ⟨x.2.1.1, x.2.1.2, (rdK p ((stepsE (trOf cs hs) (i : Int)).1.take (x.1)))⟩ :: List.replicate q N0)).toArray T.aN (0, 0)) :: x.2.2, fun _ => [Row xa (rows (stepsE (trOf cs hs) (i : Int)).1), Blk gB (Obj.cells #[.slice A cs.length ca, .slice B hs.length cb] T.k7 (0, 0)), Row A (rows cs), RowsF B hs Hd.row, innerF ps]⟩ (fun x => (stepsE (trOf cs hs) (i : Int)).1.length - x.1) (0, (none, 0), []) ⟨Nat.zero_le _, Grow.nil _ _⟩ mC (.refl _) mC fun x hx => ?_; obtain ⟨j, ⟨na, nc⟩, og⟩ := x; obtain ⟨hj, hG⟩ := hx; simp only at hj hG; have hlen : (rdK p ((stepsE (trOf cs hs) (i : Int)).1.take (j))).length ≤ j := by rw [iq3, List.length_take]; exact Nat.min_le_left _ _
  refine i5 (u4 rfl rfl rfl (d6 (d7 ?_))); refine m3 rfl (fun hb2 => ?_) (fun hb2 => ?_)
  ·have hb2' := hb2; try simp at hb2'
   have hj2 : j < (stepsE (trOf cs hs) (i : Int)).1.length := by omega
   have hbs := qz3 (p := p) hj2; refine i6 (d8 (d7 (i8 (i5 ?_)))); refine m7 (α := Int) _ _ rfl T.l4 T.q7 rfl rfl rfl mB rfl (by omega) (by decide) (c9 rfl T.i7 rfl (l8 mB (k6 (by omega) rfl)) ?_); refine b8 rfl (d6 ?_); refine I8 (og) ([(go, Obj.cells (rows (ps ++ ⟨na, nc, (rdK p ((stepsE (trOf cs hs) (i : Int)).1.take (j)))⟩ :: List.replicate q N0)).toArray T.aN (0, 0))]) (List.perm_append_comm (l₁ := [_]) (l₂ := og)) 11 [10] mixed (by decide) (by decide) (by decide) rfl rfl rfl (i4 (fun w1 => a9 rfl (q_z rfl)) (i4 (fun w1 => a9 rfl (q_z rfl)) (i4 (fun w1 => a9 rfl (q_z rfl)) (i4 (fun w1 => a9 rfl (q_z rfl)) (i4 (fun w1 => u1 i (0 + i * 1) rfl T.S6 T.bB rfl rfl rfl (by omega) rfl (q_z rfl)) ?_))))); refine i4 (fun w1 => c9 (v := .slice na (rdK p ((stepsE (trOf cs hs) (i : Int)).1.take (j))).length nc) rfl T.dB rfl (hj6 (α := Sl Bool) (k := i) (f := 0) mB (by show 0 + i * 1 = i * 1 + 0; omega) (by rw [List.length_append, hpl]; simp) (by rw [sx4 hpl]; rfl)) (q_z rfl)) ?_; refine i4 (fun w1 => a9 rfl (q_z rfl)) (i4 (fun w1 => a9 rfl (q_z rfl)) ?_); refine i4 (fun w1 => j0 F.v6 rfl rfl (t8 _ _ _) l7 trivial fun _ _ => (q_z rfl)) ?_; refine E2 ⟨Nat, fun _ => True, fun g1 => .slice (b4 g1) 1 1, fun g1 => [Row (b4 g1) (rows [(decide (0 ≤ (stepsE (trOf cs hs) (i : Int)).1.getD j default ∧ (stepsE (trOf cs hs) (i : Int)).1.getD j default ≤ p))])]⟩ rfl rfl rfl ?_ ?_
   ·intro w1; refine l6 _ rfl rfl (fun _ => T.kx2 ..) fun gS => ?_; refine c8 ?_; refine C3 (rows [(decide (0 ≤ (stepsE (trOf cs hs) (i : Int)).1.getD j default ∧ (stepsE (trOf cs hs) (i : Int)).1.getD j default ≤ p))]) (List.prefix_refl _) ?_; exact w3 gS trivial rfl ⟨m0, trivial⟩
   refine cI ⟨OutC × Hp, fun x => Grow T.bool 1 x.1.1 ((rdK p ((stepsE (trOf cs hs) (i : Int)).1.take (j))).length + 1) x.1.2 (rows ((rdK p ((stepsE (trOf cs hs) (i : Int)).1.take (j))) ++ [(decide (0 ≤ (stepsE (trOf cs hs) (i : Int)).1.getD j default ∧ (stepsE (trOf cs hs) (i : Int)).1.getD j default ≤ p))])) x.2, fun x => .slice x.1.1 ((rdK p ((stepsE (trOf cs hs) (i : Int)).1.take (j))).length + 1) x.1.2, fun _ => [], fun x => x.2⟩ rfl rfl rfl ?_ ?_
   ·intro g1 _; intro w1; refine G2 (hp' := []) ((rdK p ((stepsE (trOf cs hs) (i : Int)).1.take (j))).length + 1) (rows ((rdK p ((stepsE (trOf cs hs) (i : Int)).1.take (j))) ++ [(decide (0 ≤ (stepsE (trOf cs hs) (i : Int)).1.getD j default ∧ (stepsE (trOf cs hs) (i : Int)).1.getD j default ≤ p))])) T.px5 rfl rfl rfl hG (by rw [List.append_nil]) (Src.row (news := rows [(decide (0 ≤ (stepsE (trOf cs hs) (i : Int)).1.getD j default ∧ (stepsE (trOf cs hs) (i : Int)).1.getD j default ≤ p))]) (m := 1) mB rfl (D0 _) (by decide)) rfl (y6 _ _).symm (by unfold maxLen; omega) (by omega) fun A' c' og' hG' => ?_; refine c8 ?_; exact H6 ((A', c'), og') hG' (fun _ => rfl) (List.sublist_append_left _ _) trivial
   refine v9 ⟨rfl, ?_⟩; intro g1 _ y hy; obtain ⟨⟨A', c'⟩, og'⟩ := y; refine u1 i (0 + i * 1) rfl T.S6 T.bB rfl rfl rfl (by omega) rfl ?_; refine uX (α := Sl Bool) (k := i) (f := 0) (hp' := og') ⟨A', c', (rdK p ((stepsE (trOf cs hs) (i : Int)).1.take (j))) ++ [(decide (0 ≤ (stepsE (trOf cs hs) (i : Int)).1.getD j default ∧ (stepsE (trOf cs hs) (i : Int)).1.getD j default ≤ p))]⟩ rfl (by show 0 + i * 1 = i * 1 + 0; omega) rfl (List.perm_append_comm (l₁ := og') (l₂ := [_])) T.bB (by rw [List.length_append, hpl]; simp) (by decide) (by rw [sx4 hpl]; show [_] = [_]; rw [List.length_append]; rfl) rfl ?_; rw [set_cur hpl]; refine c8 (t6 (d8 (d9 ?_))); refine r7 _ rfl rfl rfl rfl m6 ?_; refine a9 rfl (c8 ?_); exact again _ (j + 1, (A', c'), og') ⟨by show j + 1 ≤ _; omega, by show Grow T.bool 1 A' (rdK p ((stepsE (trOf cs hs) (i : Int)).1.take (j + 1))).length c' (rows (rdK p ((stepsE (trOf cs hs) (i : Int)).1.take (j + 1)))) og'; rw [hbs, List.length_append]; exact hy⟩ (u2 (by omega)) mC (by show List.Sublist ((go, Obj.cells (rows (ps ++ ⟨A', c', (rdK p ((stepsE (trOf cs hs) (i : Int)).1.take (j + 1)))⟩ :: List.replicate q N0)).toArray T.aN (0, 0)) :: og') _; rw [hbs]; exact .refl _) mC
  have hb2' := hb2; try simp at hb2'
  have hj2 : j = (stepsE (trOf cs hs) (i : Int)).1.length := by omega
  subst hj2; refine p8 (v8 (p7 (t6 (d8 (d9 ?_))))); refine r7 _ rfl rfl rfl rfl m6 ?_; refine a9 rfl (c8 ?_); refine P4 (hp' := og ++ [(go, Obj.cells (rows (ps ++ ⟨na, nc, (rdK p ((stepsE (trOf cs hs) (i : Int)).1.take ((stepsE (trOf cs hs) (i : Int)).1.length)))⟩ :: List.replicate q N0)).toArray T.aN (0, 0))]) (List.perm_append_comm (l₁ := [_]) (l₂ := og)) (cF hG ?_); refine pA (Z3 (p := ((⟨na, nc, (rdK p ((stepsE (trOf cs hs) (i : Int)).1.take ((stepsE (trOf cs hs) (i : Int)).1.length)))⟩) : Sl Bool)) (ps := ps) (f := fun p => Row p.a (rows p.l)) mB mB) ?_; exact again _ (i + 1, ps ++ [⟨na, nc, (rdK p ((stepsE (trOf cs hs) (i : Int)).1.take ((stepsE (trOf cs hs) (i : Int)).1.length)))⟩]) ⟨by show i + 1 ≤ hs.length; omega, by show (ps ++ [_]).length = i + 1; simp [hpl], by show (ps ++ [_]).map (fun x : Sl Bool => x.l) = _; rw [jz1, List.map_append, hpm]; show _ ++ [rdK p (List.take _ _)] = _; rw [List.take_length]⟩ (u2 (by omega)) mC (by show List.Sublist [(go, Obj.cells (rows ((ps ++ [⟨na, nc, (rdK p ((stepsE (trOf cs hs) (i : Int)).1.take ((stepsE (trOf cs hs) (i : Int)).1.length)))⟩]) ++ List.replicate (hs.length - (i + 1)) N0)).toArray T.aN (0, 0))] _; rw [List.append_assoc, show hs.length - (i + 1) = q by omega]; exact .refl _) mC
 have hb1' := hb1; try simp at hb1'
 have hi2 : i = hs.length := by omega
 refine p8 (v8 (p7 (d8 (i5 (a9 rfl (b8 rfl (d6 (j5 ?_)))))))); refine C3 (rows ps) (by show rows ps <+: rows (ps ++ _); rw [y6]; exact List.prefix_append ..) ?_; exact ret1 (go, ps) rfl rfl rfl ⟨hpl.trans hi2, by show ps.map _ = _; rw [hpm, hi2]⟩ nil_sb mC
end Go.Proofs.YtdlbbfcfahahdaaGreat
end
section
namespace Go.Proofs.YtdlbbfcfahahdaaGreat
open Go Go.W
set_option maxRecDepth 20000
attribute [local irreducible] HL HC HQ HB Row Rows2 Blk Facts
theorem sx8 {l : List Int} {b : Int → Bool} {k : Nat} (hk : k < l.length) (h : (l.take k).any b = false) (h2 : b (l.getD k default) = false) : (l.take (k + 1)).any b = false := by
  rw [List.take_succ_eq_append_getElem hk, ← t5 hk, List.any_append, h]
  simpa using h2
theorem aU {A : Option Addr} {cp f : Nat} {cap : List Value} {L0 : List Fact} (l : List Int) (b : Int → Bool) (hl : l.length ≤ 1000000) (hcb : Callable Tryz.prog f) (hm : ∀ x ∈ l, Meets Tryz.prog f ([int x] ++ cap) { LI := L0, val := fun _ : Unit => .bool (b x) }) : Meets Tryz.prog F.O8 [.slice A l.length cp, .func (.func f) #[] cap.toArray] { LI := Row A (rows l) :: L0, inv := fun z : Int => (0 ≤ z ↔ l.any b = true), val := fun z => int z } := by
 refine i9 F.iA rfl t4 fun w0 => ?_; refine i5 (b8 rfl (d6 (d7 (i5 (a9 rfl ?_))))); refine j3 rfl T.l4 rfl ?_; refine a9 rfl (d6 (i8 ?_)); refine p9 (β := Nat) ⟨fun k => k ≤ l.length ∧ (l.take k).any b = false, fun k => [(0, .slice A l.length cp), (1, .func (.func f) #[] cap.toArray), (7, int l.length), (8, int k)], fun _ => [], fun _ => Row A (rows l) :: L0⟩ (fun k => l.length - k) 0 ⟨Nat.zero_le _, rfl⟩ mC (.refl _) ⟨m0, (LSub.of_mem fun F hF => List.mem_cons_of_mem _ hF)⟩ fun k hk => ?_; obtain ⟨hk, ht⟩ := hk; refine i5 (u4 rfl rfl rfl (d6 (d7 ?_))); refine m3 rfl (fun hb1 => ?_) (fun hb1 => ?_)
 ·have hb1' := hb1; try simp at hb1'
  have hk2 : k < l.length := by omega
  refine i6 (d8 (d7 (i8 (i5 (a9 rfl (b8 rfl (j8 ?_))))))); refine a9 rfl (a9 rfl (a9 rfl ?_)); refine m7 (α := Int) _ _ rfl T.l4 T.q7 rfl rfl rfl mB rfl (by omega) (by decide) (c9 rfl T.i7 rfl (l8 mB (k6 (by omega) rfl)) ?_); refine wB (vs := [int (l.getD k default)]) (cap := cap) hcb rfl rfl rfl (hm _ (n0 hk2)) l7 (LSub.of_mem fun F hF => List.mem_cons_of_mem _ hF) fun _ _ => ?_; refine d6 ?_; refine w6 rfl (fun hb2 => ?_) (fun hb2 => ?_)
  ·have hb2' := hb2; try simp at hb2'
   refine i5 (a9 rfl (b8 rfl (d6 (j5 (w8 (r6 (w8 ?_))))))); exact ret1 (k : Int) rfl rfl rfl ⟨fun _ => List.any_eq_true.2 ⟨_, n0 hk2, hb2⟩, fun _ => by omega⟩ nil_sb trivial
  have hb2' := hb2; try simp at hb2'
  refine i6 (t6 (d8 (d9 ?_))); refine r7 _ rfl rfl rfl rfl m6 ?_; refine a9 rfl (c8 ?_); exact again _ (k + 1) ⟨by show k + 1 ≤ l.length; omega, sx8 hk2 ht (by simpa using hb2)⟩ (u2 (by omega)) mC nil_sb ⟨by first | exact m0 | exact List.mem_cons_self .., LSub.of_mem fun F hF => by first | exact List.mem_cons_of_mem _ hF | exact List.mem_append_right _ (List.mem_cons_of_mem _ hF)⟩
 have hb1' := hb1; try simp at hb1'
 have hk2 : k = l.length := by omega
 rw [hk2, List.take_length] at ht; refine p8 (v8 (p7 (d8 (i5 (b8 rfl (d6 (j5 ?_))))))); exact ret1 (-1) rfl rfl rfl ⟨fun h => by omega, fun h => by rw [ht] at h; cases h⟩ (.refl _) trivial
theorem M8 {A : Option Addr} {cp f : Nat} {cap : List Value} {L0 : List Fact} (l : List Int) (b : Int → Bool) (hl : l.length ≤ 1000000) (hcb : Callable Tryz.prog f) (hm : ∀ x ∈ l, Meets Tryz.prog f ([int x] ++ cap) { LI := L0, val := fun _ : Unit => .bool (b x) }) : Meets Tryz.prog F.M1 [.slice A l.length cp, .func (.func f) #[] cap.toArray] { LI := Row A (rows l) :: L0, val := fun _ : Unit => .bool (l.any b) } := by
 refine i9 F.bS rfl t4 fun w0 => ?_; refine i5 (b8 rfl (j8 (a9 rfl (a9 rfl ?_)))); refine j0 F.dN rfl rfl (aU l b hl hcb hm) l7 ⟨m0, (LSub.of_mem fun F hF => List.mem_cons_of_mem _ hF)⟩ fun z hz => ?_; refine R2 rfl rfl rfl (b8 rfl (d6 (j5 ?_))); exact ret1 () rfl (congrArg (fun b => some (Value.bool b)) (by have hz : (0 ≤ z ↔ l.any b = true) := hz; cases e : l.any b <;> simp_all)) rfl trivial nil_sb trivial
theorem tW {g1 g2 : Nat} {A : Option Addr} {c : Nat} (ps : List (Sl Bool)) (v x : Nat) (hv : v < ps.length) (hx : x < (ps.getD v default).l.length) : Meets Tryz.prog F.kO [int x, .pointer (b4 g1), .pointer (b4 g2)] { LI := [Row (b4 g1) (rows [(⟨A, c, ps⟩ : Sl (Sl Bool))]), Row (b4 g2) (rows [(v : Int)]), Row A (rows ps), innerF ps], val := fun _ : Unit => .bool ((ps.getD v default).l.getD x default) } := by
 refine i9 F.cz6 rfl t4 fun w0 => ?_; refine i5 (b8 rfl (j8 ?_)); refine c9 (v := .slice A ps.length c) rfl T.dz6 rfl (l8 (A := some ⟨g1, 0, none⟩) mB (k6 (l := [(⟨A, c, ps⟩ : Sl (Sl Bool))]) (i := 0) Nat.zero_lt_one rfl)) (c9 (v := int v) rfl T.i7 rfl (l8 (A := some ⟨g2, 0, none⟩) mB (k6 (l := [(v : Int)]) (i := 0) Nat.zero_lt_one rfl)) (m7 (α := Sl Bool) ps v rfl T.S6 T.bB rfl rfl rfl mB rfl hv (by decide) (c9 (v := .slice (ps.getD v default).a (ps.getD v default).l.length (ps.getD v default).c) rfl T.dB rfl (l8 mB (k6 hv rfl)) ?_))); refine bj2 (F := Row (ps.getD v default).a (rows (ps.getD v default).l)) (Fs := ps.map fun p => Row p.a (rows p.l)) mB (List.mem_map.2 ⟨_, n0 hv, rfl⟩) ?_; refine a9 rfl (m7 (α := Bool) (ps.getD v default).l x rfl T.jq8 T.az4 rfl rfl rfl mB rfl hx (by decide) (c9 (v := .bool ((ps.getD v default).l.getD x default)) rfl T.qH rfl (l8 mB (k6 hx rfl)) ?_)); refine b8 rfl (d6 (j5 ?_)); exact ret1 () rfl rfl rfl trivial nil_sb trivial
theorem qW {g1 : Nat} {A : Option Addr} {c : Nat} (l : List Bool) (x : Nat) (hx : x < l.length) : Meets Tryz.prog F.gQ [int x, .pointer (b4 g1)] { LI := [Row (b4 g1) (rows [(⟨A, c, l⟩ : Sl Bool)]), Row A (rows l)], val := fun _ : Unit => .bool (l.getD x default) } := by
 refine i9 F.ax6 rfl t4 fun w0 => ?_; refine i5 (b8 rfl (j8 ?_)); refine c9 (v := .slice A l.length c) rfl T.dB rfl (l8 (A := some ⟨g1, 0, none⟩) mB (k6 (l := [(⟨A, c, l⟩ : Sl Bool)]) (i := 0) Nat.zero_lt_one rfl)) (a9 rfl (m7 (α := Bool) l x rfl T.jq8 T.az4 rfl rfl rfl mB rfl hx (by decide) (c9 (v := .bool (l.getD x default)) rfl T.qH rfl (l8 mB (k6 hx rfl)) ?_))); refine b8 rfl (d6 (j5 ?_)); exact ret1 () rfl rfl rfl trivial nil_sb trivial
end Go.Proofs.YtdlbbfcfahahdaaGreat
end
section
namespace Go.Proofs.YtdlbbfcfahahdaaGreat
open Go Go.W
set_option maxRecDepth 20000
attribute [local irreducible] HL HC HQ HB Row Rows2 Blk Facts
theorem cU {A B : Option Addr} {ca cb : Nat} (cs : List Cl) (hs : List Hd) (hca : cs.length ≤ ca) (hcb : hs.length ≤ cb) (ha : ∀ h ∈ hs, h.2.2.2.l.length ≤ 1000000) : Meets Tryz.prog F.mS [.agg #[.slice A cs.length ca, .slice B hs.length cb]] { LI := [Row A (rows cs), RowsF B hs Hd.row], val := fun _ : Unit => int (checkT (trOf cs hs)) } := by
 refine i9 F.dj8 rfl t4 fun w0 => ?_; refine i5 ?_; refine C0 rfl rfl fun gB => ?_; refine b8 rfl (j8 ?_)
 first | refine D4 rfl T.m4 T.k8 rfl mB (by rfl) ?_ | refine E0 rfl T.m4 T.k8 rfl mB (by rfl) ?_ | refine D9 rfl T.m4 T.k8 rfl rfl (B4 mB (D1 (by omega))) ?_
 refine j0 F.mK rfl rfl (cT cs hs hca hcb ha) l7 mC fun _ _ => ?_; refine b8 rfl (d6 (j5 ?_)); exact ret1 () rfl rfl rfl trivial nil_sb trivial
theorem gx3 {cs : List Cl} {hs : List Hd} (h0 : checkT (trOf cs hs) = 0) {i : Nat} (hi : i < hs.length) : (stepsE (trOf cs hs) (i : Int)).1.length = hs.length := by
  have hl := E4 cs hs; have hh : 0 ≤ (i : Int) ∧ (i : Int) ≤ ((trOf cs hs).hs.length : Int) - 1 := by omega
  rw [show stepsE (trOf cs hs) i = (stepsT (trOf cs hs) i, 0) by rw [stepsE, if_neg (not_not_intro (jj9 h0 hh))]]; show (stepsT (trOf cs hs) i).length = _; rw [hU, hl]
theorem jx4 (cs : List Cl) (hs : List Hd) (hn : hs.length ≤ 1000000) (i : Nat) : (stepsE (trOf cs hs) (i : Int)).1.length ≤ 1000000 := by
  unfold stepsE
  split
  · simp
  show (stepsT (trOf cs hs) i).length ≤ _; rw [hU, E4]; exact hn
def fndOK (hs : List Hd) (rs : List (List Bool)) (ws : List Int) (s : List Int) : Bool := (s.all fun k => decide (0 ≤ (hs.getD k.toNat default).2.1)) && ws.all fun w => s.any fun k => (rs.getD w.toNat default).getD k.toNat default
def fndH (pr : List Int) (s : List Int) : Hn := (s, 0, (s.map fun k => pr.getD k.toNat default).sum)
def fndL (hs : List Hd) (rs : List (List Bool)) (pr ws : List Int) (k : Nat) : List Hn := (((List.range k).map fun s => pickK s hs.length).filter (fndOK hs rs ws)).map (fndH pr)
def fndB (t : Tr) (hs : List Hd) (pr ws : List Int) (p : Int) : Hn × Bool := bestL ordP (fndL hs (reachK t p hs.length) pr ws (2 ^ hs.length))
def prB (x : Int) : Prop := 0 ≤ x ∧ x ≤ 999
instance (x : Int) : Decidable (prB x) := by unfold prB; infer_instance
def foundE (cs : List Cl) (hs : List Hd) (pr ws : List Int) (p : Int) : Hn :=
  if ¬ checkT (trOf cs hs) = 0 then ([], 0, checkT (trOf cs hs)) else if pr.length < hs.length then ([], 0, 7) else if hs.length < pr.length then ([], 0, 6)
  else if ¬ ∀ x ∈ pr, prB x then ([], 0, 1) else if ¬ ∀ w ∈ ws, 0 ≤ w ∧ w ≤ (hs.length : Int) - 1 then ([], 0, 3) else if ¬ (0 ≤ p ∧ p ≤ 6) then ([], 0, 1)
  else if (fndB (trOf cs hs) hs pr ws p).2 = false then ([], 0, 11) else ((fndB (trOf cs hs) hs pr ws p).1.1, (fndB (trOf cs hs) hs pr ws p).1.2.2, 0)
theorem qE (hs : List Hd) (rs : List (List Bool)) (pr ws : List Int) (k : Nat) : fndL hs rs pr ws (k + 1) = if fndOK hs rs ws (pickK k hs.length) = true then fndL hs rs pr ws k ++ [fndH pr (pickK k hs.length)] else fndL hs rs pr ws k := by
  unfold fndL; rw [List.range_succ, List.map_append, List.filter_append, List.map_append]
  by_cases e : fndOK hs rs ws (pickK k hs.length) = true
  · rw [if_pos e]; simp [e]
  rw [if_neg e]; simp [e]
theorem iz0 {hs : List Hd} {rs : List (List Bool)} {ws s : List Int} {j : Nat} (hj : j < s.length) (h : (hs.getD (s.getD j default).toNat default).2.1 < 0) : ¬ fndOK hs rs ws s = true := by
  intro e; unfold fndOK at e; rw [Bool.and_eq_true] at e; have := of_decide_eq_true (List.all_eq_true.1 e.1 _ (n0 hj))
  omega
theorem kq0 {hs : List Hd} {rs : List (List Bool)} {ws s : List Int} {j : Nat} (hj : j < ws.length) (h : (s.any fun k => (rs.getD (ws.getD j default).toNat default).getD k.toNat default) = false) : ¬ fndOK hs rs ws s = true := by
  intro e; unfold fndOK at e; rw [Bool.and_eq_true] at e; have := List.all_eq_true.1 e.2 _ (n0 hj); rw [h] at this
  cases this
theorem fnd_yes {hs : List Hd} {rs : List (List Bool)} {ws s : List Int} (h1 : ∀ k ∈ s, 0 ≤ (hs.getD k.toNat default).2.1) (h2 : ∀ w ∈ ws, (s.any fun k => (rs.getD w.toNat default).getD k.toNat default) = true) : fndOK hs rs ws s = true := by
  unfold fndOK; rw [Bool.and_eq_true]; exact ⟨List.all_eq_true.2 fun k hk => decide_eq_true (h1 k hk), List.all_eq_true.2 h2⟩
end Go.Proofs.YtdlbbfcfahahdaaGreat
end
section
namespace Go.Proofs.YtdlbbfcfahahdaaGreat
open Go Go.W
set_option maxRecDepth 20000
attribute [local irreducible] HL HC HQ HB Row Rows2 Blk Facts
def priP (pr s : List Int) : List Int := s.map fun k => pr.getD k.toNat default
theorem mx8 {pr s : List Int} {j : Nat} (hj : j < s.length) : (priP pr s).getD j default = pr.getD (s.getD j default).toNat default := by
  have h : j < (priP pr s).length := by simpa [priP] using hj
  rw [t5 h, t5 hj]
  simp [priP]
theorem vE (pr s : List Int) : (priP pr s).length = s.length := by simp [priP]
theorem mx7 {pr s : List Int} (hp : ∀ x ∈ pr, prB x) (hs : ∀ v ∈ s, 0 ≤ v ∧ v < (pr.length : Int)) : ∀ v ∈ priP pr s, 0 ≤ v ∧ v ≤ 1000000000 := by
  intro v hv; obtain ⟨w, hw, rfl⟩ := List.mem_map.1 hv; have h1 := hs w hw; have h2 := hp _ (n0 (l := pr) (k := w.toNat) (by omega)); have h3 := h2.1; have h4 := h2.2
  omega
theorem jA {A B PA WA : Option Addr} {ca cb pc wc : Nat} (cs : List Cl) (hs : List Hd) (pr ws : List Int) (p : Int) (hca : cs.length ≤ ca) (hcb : hs.length ≤ cb) (ha : ∀ h ∈ hs, h.2.2.2.l.length ≤ 1000000) (hpn : pr.length ≤ 1000000) (hwn : ws.length ≤ 1000000) : Meets Tryz.prog F.kP [.agg #[.slice A cs.length ca, .slice B hs.length cb], .slice PA pr.length pc, .slice WA ws.length wc, int p] { LI := [Row A (rows cs), RowsF B hs Hd.row, Row PA (rows pr), Row WA (rows ws)], val := fun x : OutC => .tuple #[.slice x.1 (foundE cs hs pr ws p).1.length x.2, int (foundE cs hs pr ws p).2.1, int (foundE cs hs pr ws p).2.2], LO := fun x => [Row x.1 (rows (foundE cs hs pr ws p).1)] } := by
 refine i9 F.jj3 rfl t4 fun w0 => ?_; refine i5 ?_; refine C0 rfl rfl fun gT => ?_; refine b8 rfl (b8 rfl (b8 rfl (d6 (rx9 (d7 (i5 (bG ?_))))))); refine E0 (cs := #[.slice A cs.length ca, .slice B hs.length cb]) rfl T.m4 T.k8 rfl mB rfl ?_; refine j0 F.mR rfl rfl (cU cs hs hca hcb ha) l7 mC fun _ _ => ?_; refine b8 rfl (j8 (a9 rfl (H2 rfl rfl rfl (d6 ?_)))); refine m3 rfl (fun hb1 => ?_) (fun hb1 => ?_)
 ·have hb1' := hb1; try simp at hb1'
  refine i5 (a9 rfl (b8 rfl (b8 rfl (b8 rfl (d6 (G0 (nR ?_))))))); have hE : foundE cs hs pr ws p = ([], 0, checkT (trOf cs hs)) := by rw [foundE, if_pos hb1]
  refine z9 (α := Int) ?_; exact ret3 (none, 0) rfl rfl rfl rfl (by show Value.tuple #[.slice none (foundE cs hs pr ws p).1.length 0, int (foundE cs hs pr ws p).2.1, int (foundE cs hs pr ws p).2.2] = _; rw [hE] <;> rfl) rfl trivial nil_sb (by show LSub _ [Row none (rows (foundE cs hs pr ws p).1)]; rw [hE]; exact mC)
 have hb1' := hb1; try simp at hb1'
 have h0 : checkT (trOf cs hs) = 0 := Classical.not_not.1 hb1; have hok := mT h0; have hn6 := hok.h6; rw [E4] at hn6; refine i6 (d8 (d7 (i5 (a9 rfl ?_)))); refine j3 rfl T.l4 rfl (a8 ⟨_, 1, none⟩ rfl rfl T.j4 rfl (c9 (v := .slice B hs.length cb) rfl T.j6 rfl (j9 mB rfl) (j3 rfl T.k9 rfl ?_))); refine u4 rfl rfl rfl (d6 ?_); refine m3 rfl (fun hb2 => ?_) (fun hb2 => ?_)
 ·have hb2' := hb2; try simp at hb2'
  have h2 : pr.length < hs.length := by omega
  refine i5 (b8 rfl (b8 rfl (b8 rfl (d6 (G0 (nR ?_)))))); have hE : foundE cs hs pr ws p = ([], 0, 7) := by rw [foundE, if_neg (Classical.not_not.2 h0), if_pos h2]
  refine z9 (α := Int) ?_; exact ret3 (none, 0) rfl rfl rfl rfl (by show Value.tuple #[.slice none (foundE cs hs pr ws p).1.length 0, int (foundE cs hs pr ws p).2.1, int (foundE cs hs pr ws p).2.2] = _; rw [hE] <;> rfl) rfl trivial nil_sb (by show LSub _ [Row none (rows (foundE cs hs pr ws p).1)]; rw [hE]; exact mC)
 have hb2' := hb2; try simp at hb2'
 have h2 : ¬ pr.length < hs.length := by omega
 refine i6 (d8 (d7 (i5 (a9 rfl ?_)))); refine j3 rfl T.l4 rfl (a8 ⟨_, 1, none⟩ rfl rfl T.j4 rfl (c9 (v := .slice B hs.length cb) rfl T.j6 rfl (j9 mB rfl) (j3 rfl T.k9 rfl ?_))); refine H5 rfl rfl rfl (d6 ?_); refine m3 rfl (fun hb3 => ?_) (fun hb3 => ?_)
 ·have hb3' := hb3; try simp at hb3'
  have h3 : hs.length < pr.length := by omega
  refine i5 (b8 rfl (b8 rfl (b8 rfl (d6 (G0 (nR ?_)))))); have hE : foundE cs hs pr ws p = ([], 0, 6) := by rw [foundE, if_neg (Classical.not_not.2 h0), if_neg h2, if_pos h3]
  refine z9 (α := Int) ?_; exact ret3 (none, 0) rfl rfl rfl rfl (by show Value.tuple #[.slice none (foundE cs hs pr ws p).1.length 0, int (foundE cs hs pr ws p).2.1, int (foundE cs hs pr ws p).2.2] = _; rw [hE] <;> rfl) rfl trivial nil_sb (by show LSub _ [Row none (rows (foundE cs hs pr ws p).1)]; rw [hE]; exact mC)
 have hb3' := hb3; try simp at hb3'
 have h3 : ¬ hs.length < pr.length := by omega
 have hpl : pr.length = hs.length := by omega
 refine i6 (d8 (d7 (i5 (a9 rfl ?_)))); refine j3 rfl T.l4 rfl ?_; refine a9 rfl (d6 (i8 ?_)); refine p9 (β := Nat) ⟨fun k => k ≤ pr.length ∧ ∀ j, j < k → prB (pr.getD j default), fun k => [(1, .slice PA pr.length pc), (2, .slice WA ws.length wc), (4, .pointer (b4 gT)), (3, int p), (41, .slice PA pr.length pc), (42, int pr.length), (43, int k)], fun _ => [], fun _ => [Blk gT (Obj.cells #[.slice A cs.length ca, .slice B hs.length cb] T.k7 (0, 0)), Row A (rows cs), RowsF B hs Hd.row, Row PA (rows pr), Row WA (rows ws)]⟩ (fun k => pr.length - k) 0 ⟨Nat.zero_le _, fun j hj => absurd hj (Nat.not_lt_zero j)⟩ mC nil_sb mC fun k hk => ?_; obtain ⟨hk, hq⟩ := hk; refine i5 (u4 rfl rfl rfl (d6 (d7 ?_))); refine m3 rfl (fun hb4 => ?_) (fun hb4 => ?_)
 ·have hb4' := hb4; try simp at hb4'
  have hk2 : k < pr.length := by omega
  refine i6 (d8 (d7 (i8 (i5 ?_)))); refine m7 (α := Int) _ _ rfl T.l4 T.q7 rfl rfl rfl mB rfl (by omega) (by decide) (c9 rfl T.i7 rfl (l8 mB (k6 (by omega) rfl)) ?_); refine b8 rfl (j8 (a9 rfl ?_)); refine j0 F.v6 rfl rfl (t8 _ _ _) l7 trivial fun _ _ => ?_; refine E9 rfl rfl (d6 ?_); refine w6 rfl (fun hb5 => ?_) (fun hb5 => ?_)
  ·have hb5' := hb5; try simp at hb5'
   refine i5 (b8 rfl (b8 rfl (b8 rfl (d6 (j5 (w8 (r6 (V9 ?_)))))))); refine r6 (nR ?_); have hE : foundE cs hs pr ws p = ([], 0, 1) := by rw [foundE, if_neg (Classical.not_not.2 h0), if_neg h2, if_neg h3, if_pos (cX (p := prB) hk2 (nbt hb5))]
   refine z9 (α := Int) ?_; exact ret3 (none, 0) rfl rfl rfl rfl (by show Value.tuple #[.slice none (foundE cs hs pr ws p).1.length 0, int (foundE cs hs pr ws p).2.1, int (foundE cs hs pr ws p).2.2] = _; rw [hE] <;> rfl) rfl trivial nil_sb (by show LSub _ [Row none (rows (foundE cs hs pr ws p).1)]; rw [hE]; exact mC)
  have hb5' := hb5; try simp at hb5'
  refine i6 (t6 (d8 (d9 ?_))); refine r7 _ rfl rfl rfl rfl m6 ?_; refine a9 rfl (c8 ?_); exact again _ (k + 1) ⟨by show k + 1 ≤ pr.length; omega, fun j hj => (Nat.lt_succ_iff_lt_or_eq.1 hj).elim (hq j) fun e => by subst e; exact nbf hb5⟩ (u2 (by omega)) mC nil_sb mC
 have hb4' := hb4; try simp at hb4'
 have hk2 : k = pr.length := by omega
 rw [hk2] at hq; have hq1 := W7 (l := pr) (p := prB) hq; refine p8 (v8 (p7 (d8 (d7 (i5 (a9 rfl ?_)))))); refine j3 rfl T.l4 rfl ?_; refine a9 rfl (d6 (i8 ?_)); refine p9 (β := Nat) ⟨fun k => k ≤ ws.length ∧ ∀ j, j < k → (0 ≤ ws.getD j default ∧ ws.getD j default ≤ (hs.length : Int) - 1), fun k => [(1, .slice PA pr.length pc), (2, .slice WA ws.length wc), (4, .pointer (b4 gT)), (3, int p), (51, .slice WA ws.length wc), (52, int ws.length), (53, int k)], fun _ => [], fun _ => [Blk gT (Obj.cells #[.slice A cs.length ca, .slice B hs.length cb] T.k7 (0, 0)), Row A (rows cs), RowsF B hs Hd.row, Row PA (rows pr), Row WA (rows ws)]⟩ (fun k => ws.length - k) 0 ⟨Nat.zero_le _, fun j hj => absurd hj (Nat.not_lt_zero j)⟩ mC nil_sb mC fun k hk => ?_; obtain ⟨hk, hq⟩ := hk; refine i5 (u4 rfl rfl rfl (d6 (d7 ?_))); refine m3 rfl (fun hb6 => ?_) (fun hb6 => ?_)
 ·have hb6' := hb6; try simp at hb6'
  have hk2 : k < ws.length := by omega
  refine i6 (d8 (d7 (i8 (i5 ?_)))); refine m7 (α := Int) _ _ rfl T.l4 T.q7 rfl rfl rfl mB rfl (by omega) (by decide) (c9 rfl T.i7 rfl (l8 mB (k6 (by omega) rfl)) ?_); refine b8 rfl (j8 (a9 rfl ?_)); refine a8 ⟨_, 1, none⟩ rfl rfl T.j4 rfl (c9 (v := .slice B hs.length cb) rfl T.j6 rfl (j9 mB rfl) (j3 rfl T.k9 rfl (K2 _ rfl rfl rfl rfl m6 ?_))); refine j0 F.v6 rfl rfl (t8 _ _ _) l7 trivial fun _ _ => ?_; refine E9 rfl rfl (d6 ?_); refine w6 rfl (fun hb7 => ?_) (fun hb7 => ?_)
  ·have hb7' := hb7; try simp at hb7'
   refine i5 (b8 rfl (b8 rfl (b8 rfl (d6 (j5 (w8 (r6 (V9 ?_)))))))); refine r6 (nR ?_); have hE : foundE cs hs pr ws p = ([], 0, 3) := by rw [foundE, if_neg (Classical.not_not.2 h0), if_neg h2, if_neg h3, if_neg (Classical.not_not.2 hq1), if_pos (cX (p := fun w => 0 ≤ w ∧ w ≤ (hs.length : Int) - 1) hk2 (nbt hb7))]
   refine z9 (α := Int) ?_; exact ret3 (none, 0) rfl rfl rfl rfl (by show Value.tuple #[.slice none (foundE cs hs pr ws p).1.length 0, int (foundE cs hs pr ws p).2.1, int (foundE cs hs pr ws p).2.2] = _; rw [hE] <;> rfl) rfl trivial nil_sb (by show LSub _ [Row none (rows (foundE cs hs pr ws p).1)]; rw [hE]; exact mC)
  have hb7' := hb7; try simp at hb7'
  refine i6 (t6 (d8 (d9 ?_))); refine r7 _ rfl rfl rfl rfl m6 ?_; refine a9 rfl (c8 ?_); exact again _ (k + 1) ⟨by show k + 1 ≤ ws.length; omega, fun j hj => (Nat.lt_succ_iff_lt_or_eq.1 hj).elim (hq j) fun e => by subst e; exact nbf hb7⟩ (u2 (by omega)) mC nil_sb mC
 have hb6' := hb6; try simp at hb6'
 have hk2 : k = ws.length := by omega
 rw [hk2] at hq; have hq2 := W7 (l := ws) (p := fun w => 0 ≤ w ∧ w ≤ (hs.length : Int) - 1) hq; refine p8 (v8 (p7 (d8 (d7 (i5 (a9 rfl ?_)))))); refine j0 F.v6 rfl rfl (t8 _ _ _) l7 trivial fun _ _ => ?_; refine E9 rfl rfl (d6 ?_); refine w6 rfl (fun hb8 => ?_) (fun hb8 => ?_)
 ·have hb8' := hb8; try simp at hb8'
  have h8 := nbt hb8; refine i5 (b8 rfl (b8 rfl (b8 rfl (d6 (G0 (nR ?_)))))); have hE : foundE cs hs pr ws p = ([], 0, 1) := by rw [foundE, if_neg (Classical.not_not.2 h0), if_neg h2, if_neg h3, if_neg (Classical.not_not.2 hq1), if_neg (Classical.not_not.2 hq2), if_pos h8]
  refine z9 (α := Int) ?_; exact ret3 (none, 0) rfl rfl rfl rfl (by show Value.tuple #[.slice none (foundE cs hs pr ws p).1.length 0, int (foundE cs hs pr ws p).2.1, int (foundE cs hs pr ws p).2.2] = _; rw [hE] <;> rfl) rfl trivial nil_sb (by show LSub _ [Row none (rows (foundE cs hs pr ws p).1)]; rw [hE]; exact mC)
 have hb8' := hb8; try simp at hb8'
 have h8 := nbf hb8; refine i6 (d8 (i5 ?_)); refine B5 _ rfl rfl (fun _ => T.K7 ..) ?_; refine B6 rfl (fun _ => T.M0 _) fun gB => ?_; refine B9 (cs := offA ((⟨none, 0, []⟩, 0, 0) : Hv) false F.L7) rfl rfl (.refl _) T.L5 (by rfl) (by rfl) ?_; refine j8 ?_; refine E0 (cs := #[.slice A cs.length ca, .slice B hs.length cb]) rfl T.m4 T.k8 rfl mB rfl (a9 rfl ?_); refine j0 F.lH rfl rfl (cL cs hs p hca hcb ha (by omega) (jx4 cs hs (by omega))) l7 mC fun x hx => ?_; obtain ⟨go, ps⟩ := x; obtain ⟨hpn2, hpm⟩ := hx; simp only at hpn2 hpm; refine B6 rfl (fun _ => T.kx9 _) fun g17 => ?_; refine z8 rfl rfl (.refl _) T.jx3 rfl rfl ?_; refine w7 (rows [((⟨some ⟨go, 0, none⟩, hs.length, ps⟩) : Sl (Sl Bool))]) (by show [Value.slice _ ps.length _] <+: [Value.slice _ hs.length _]; rw [hpn2]; exact List.prefix_refl _) ?_; refine qC (α := Int) ?_; refine d6 (d7 (rz1 (d8 (d7 (i5 ?_))))); refine a8 ⟨_, 1, none⟩ rfl rfl T.j4 rfl (c9 (v := .slice B hs.length cb) rfl T.j6 rfl (j9 mB rfl) (j3 rfl T.k9 rfl ?_)); obtain ⟨N, hN⟩ : ∃ N, N = 2 ^ hs.length := ⟨_, rfl⟩; have hN2 : N ≤ 64 := by rw [hN]; exact Nat.pow_le_pow_right (n := 2) (by omega) hn6
 refine qz5 hs.length N hN rfl rfl rfl rfl (by omega) ?_; refine a9 rfl (d6 (i8 ?_)); refine p9 (β := Nat × Hv × Bool) ⟨fun x => x.1 ≤ N ∧ (x.2.1.dat, x.2.2) = bestL ordP (fndL hs (reachK (trOf cs hs) p hs.length) pr ws x.1) ∧ x.2.1.1.l.length ≤ 8, fun x => [(1, .slice PA pr.length pc), (2, .slice WA ws.length wc), (4, .pointer (b4 gT)), (16, .pointer (b4 gB)), (17, .pointer (b4 g17)), (75, int (N : Int)), (76, int x.1)], fun x => [(gB, Obj.cells (offA x.2.1 x.2.2 F.L7) T.y9 (0, 0))], fun x => [Blk gT (Obj.cells #[.slice A cs.length ca, .slice B hs.length cb] T.k7 (0, 0)), Row A (rows cs), RowsF B hs Hd.row, Row PA (rows pr), Row WA (rows ws), Row (b4 g17) (rows [((⟨some ⟨go, 0, none⟩, hs.length, ps⟩) : Sl (Sl Bool))]), Row (b4 go) (rows ps), innerF ps, x.2.1.row]⟩ (fun x => N - x.1) (0, ((⟨none, 0, []⟩, 0, 0) : Hv), false) ⟨Nat.zero_le _, rfl, Nat.zero_le _⟩ mC (.refl _) mC fun x hx => ?_; obtain ⟨k, y, ok⟩ := x; obtain ⟨hk, hb, hy⟩ := hx; simp only at hk hb hy; have hsl := pW k hs.length; have hpi : ∀ v ∈ (pickK k hs.length), 0 ≤ v ∧ v < (hs.length : Int) := fun v hv => bz2 hv; refine i5 (u4 rfl rfl rfl (d6 (d7 ?_))); refine m3 rfl (fun hb9 => ?_) (fun hb9 => ?_)
 ·have hb9' := hb9; try simp at hb9'
  have hk2 : k < N := by omega
  refine i6 (d8 (d7 (i8 (i5 (a9 rfl (b8 rfl (j8 ?_))))))); refine a9 rfl (nL (k : Int) rfl T.zE T.uG rfl (wrap64 (by omega)) (a8 ⟨_, 1, none⟩ rfl rfl T.j4 rfl (c9 (v := .slice B hs.length cb) rfl T.j6 rfl (j9 mB rfl) (j3 rfl T.k9 rfl ?_)))); refine j0 F.cN rfl rfl (W9 k hs.length (by omega) (by omega)) l7 trivial fun gc _ => ?_; refine B5 _ rfl rfl (fun _ => T.pO ..) ?_; refine B6 rfl (fun _ => T.kT _) fun gh => ?_; refine B9 (cs := #[.slice (b4 gc) (pickK k hs.length).length (pickK k hs.length).length, int 0, int 0]) rfl rfl (.refl _) T.D8 (by rfl) (by rfl) ?_; refine d6 (d7 (i5 ?_)); refine a8 ⟨_, 0, none⟩ rfl rfl T.E5 rfl (c9 (v := .slice (b4 gc) (pickK k hs.length).length (pickK k hs.length).length) rfl T.m8 rfl (l9 mB rfl) (j3 rfl T.l4 rfl ?_)); refine a9 rfl (d6 (i8 ?_)); refine p9 (β := Nat × Int) ⟨fun x => x.1 ≤ (pickK k hs.length).length ∧ x.2 = ((priP pr (pickK k hs.length)).take x.1).sum ∧ ∀ i, i < x.1 → 0 ≤ (hs.getD ((pickK k hs.length).getD i default).toNat default).2.1, fun x => [(1, .slice PA pr.length pc), (2, .slice WA ws.length wc), (4, .pointer (b4 gT)), (16, .pointer (b4 gB)), (17, .pointer (b4 g17)), (19, .pointer (b4 gh)), (75, int (N : Int)), (76, int k), (87, .slice (b4 gc) (pickK k hs.length).length (pickK k hs.length).length), (88, int (pickK k hs.length).length), (89, int x.1)], fun x => [(gh, Obj.cells #[.slice (b4 gc) (pickK k hs.length).length (pickK k hs.length).length, int 0, int x.2] T.N2 (0, 0)), (gB, Obj.cells (offA y ok F.L7) T.y9 (0, 0))], fun x => [Row (b4 gc) (rows (pickK k hs.length)), Blk gT (Obj.cells #[.slice A cs.length ca, .slice B hs.length cb] T.k7 (0, 0)), Row A (rows cs), RowsF B hs Hd.row, Row PA (rows pr), Row WA (rows ws), Row (b4 g17) (rows [((⟨some ⟨go, 0, none⟩, hs.length, ps⟩) : Sl (Sl Bool))]), Row (b4 go) (rows ps), innerF ps, y.row]⟩ (fun x => (pickK k hs.length).length - x.1) (0, 0) ⟨Nat.zero_le _, rfl, fun j hj => absurd hj (Nat.not_lt_zero j)⟩ mC (.refl _) mC fun x hx => ?_; obtain ⟨j, b⟩ := x; obtain ⟨hj, hbs, hjp⟩ := hx; simp only at hj hbs hjp; have hbb := mV (mx7 (pr := pr) hq1 (fun v hv => by have := hpi v hv; omega) : ∀ v ∈ (priP pr (pickK k hs.length)), 0 ≤ v ∧ v ≤ 1000000000) j; rw [← hbs] at hbb; refine i5 (u4 rfl rfl rfl (d6 (d7 ?_))); refine m3 rfl (fun hb10 => ?_) (fun hb10 => ?_)
  ·have hb10' := hb10; try simp at hb10'
   have hj2 : j < (pickK k hs.length).length := by omega
   have hvj := hpi _ (n0 hj2); obtain ⟨v, hv⟩ : ∃ v : Nat, ((pickK k hs.length).getD j default) = (v : Int) := ⟨_, (Int.toNat_of_nonneg hvj.1).symm⟩; have hv2 : v < hs.length := by omega
   have hv3 : v < pr.length := by omega
   have hcv := hq1 _ (n0 hv3); have hcv1 := hcv.1; have hcv2 := hcv.2; have hb2' := hQ (l := (priP pr (pickK k hs.length))) (k := j) (by rw [vE]; exact hj2); rw [← hbs, mx8 hj2, hv, Int.toNat_natCast] at hb2'; refine i6 (d8 (d7 (i8 (i5 ?_)))); refine m7 (α := Int) _ _ rfl T.l4 T.q7 rfl rfl rfl mB rfl (by omega) (by decide) (c9 rfl T.i7 rfl (l8 mB (k6 (by omega) rfl)) ?_); refine b8 rfl (d6 (d7 (i5 ?_))); refine a8 ⟨_, 1, none⟩ rfl rfl T.j4 rfl (c9 (v := .slice B hs.length cb) rfl T.j6 rfl (j9 mB rfl) (a9 rfl (yD (A := B) (ps := hs) (f := Hd.row) mB (m7 (α := Hd) hs v rfl T.k9 T.u0 rfl rfl hv mB rfl hv2 (by decide) (a8 _ rfl rfl T.A8 rfl (c9 (v := int (hs.getD v default).2.1) rfl T.i7 rfl (I6 mB (rows_get hv2 (j := 1) rfl)) ?_)))))); refine u4 rfl rfl rfl (d6 ?_); refine m3 rfl (fun hb11 => ?_) (fun hb11 => ?_)
   ·have hb11' := hb11; try simp at hb11'
    refine p8 (bA (vW rfl (v8 (vW rfl (bA (p7 (d8 (d9 ?_)))))))); refine r7 _ rfl rfl rfl rfl m6 ?_; refine a9 rfl (c8 ?_); have hy8 := hy; exact again _ (k + 1, y, ok) ⟨by show k + 1 ≤ N; omega, by show (Hv.dat y, ok) = bestL ordP (fndL hs (reachK (trOf cs hs) p hs.length) pr ws (k + 1)); rw [qE, if_neg (iz0 hj2 (by rw [hv, Int.toNat_natCast]; exact hb11))]; exact hb, hy8⟩ (u2 (by omega)) mC (.cons _ (.refl _)) mC
   have hb11' := hb11; try simp at hb11'
   refine i6 (d8 ?_); refine A6 6 mixed (by decide) (by decide) rfl rfl (i4 (fun w1 => a8 ⟨_, 2, none⟩ rfl rfl T.G3 rfl (q_z rfl)) (i4 (fun w1 => c9 (v := int b) rfl T.i7 rfl (j9 mB rfl) (q_z rfl)) (i4 (fun w1 => a9 rfl (q_z rfl)) (i4 (fun w1 => a9 rfl (q_z rfl)) (i4 (fun w1 => m7 (α := Int) pr v rfl T.l4 T.q7 rfl rfl hv mB rfl hv3 (by decide) (q_z rfl)) (i4 (fun w1 => c9 (v := int (pr.getD v default)) rfl T.i7 rfl (l8 mB (k6 hv3 rfl)) (q_z rfl)) ?_)))))); refine v9 ⟨rfl, ?_⟩; refine r7 (a := b) (b := pr.getD v default) (b + pr.getD v default) rfl rfl rfl rfl m6 (a8 ⟨_, 2, none⟩ rfl rfl T.G3 rfl (z8 rfl rfl (.refl _) T.q7 rfl rfl ?_)); refine c8 (t6 (d8 (d9 ?_))); refine r7 _ rfl rfl rfl rfl m6 ?_; refine a9 rfl (c8 ?_); exact again _ (j + 1, b + pr.getD v default) ⟨by show j + 1 ≤ _; omega, hb2'.symm, fun i hi => (Nat.lt_succ_iff_lt_or_eq.1 hi).elim (hjp i) fun e => by subst e; rw [hv, Int.toNat_natCast]; exact Int.not_lt.1 hb11⟩ (u2 (by omega)) mC (.refl _) mC
  have hb10' := hb10; try simp at hb10'
  have hj2 : j = (pickK k hs.length).length := by omega
  rw [hj2, List.take_of_length_le (Nat.le_of_eq (vE ..))] at hbs; rw [hj2] at hjp; have hall := W7 (l := (pickK k hs.length)) (p := fun v => 0 ≤ (hs.getD v.toNat default).2.1) hjp; refine p8 (v8 (p7 (d8 (d7 (i5 (a9 rfl ?_)))))); refine j3 rfl T.l4 rfl ?_; refine a9 rfl (d6 (i8 ?_)); refine p9 (β := Nat) ⟨fun i => i ≤ ws.length ∧ ∀ q, q < i → ((pickK k hs.length).any fun x => (((reachK (trOf cs hs) p hs.length)).getD (ws.getD q default).toNat default).getD x.toNat default) = true, fun i => [(1, .slice PA pr.length pc), (2, .slice WA ws.length wc), (4, .pointer (b4 gT)), (16, .pointer (b4 gB)), (17, .pointer (b4 g17)), (19, .pointer (b4 gh)), (75, int (N : Int)), (76, int k), (109, .slice WA ws.length wc), (110, int ws.length), (111, int i)], fun _ => [(gh, Obj.cells #[.slice (b4 gc) (pickK k hs.length).length (pickK k hs.length).length, int 0, int b] T.N2 (0, 0)), (gB, Obj.cells (offA y ok F.L7) T.y9 (0, 0))], fun _ => [Row (b4 gc) (rows (pickK k hs.length)), Blk gT (Obj.cells #[.slice A cs.length ca, .slice B hs.length cb] T.k7 (0, 0)), Row A (rows cs), RowsF B hs Hd.row, Row PA (rows pr), Row WA (rows ws), Row (b4 g17) (rows [((⟨some ⟨go, 0, none⟩, hs.length, ps⟩) : Sl (Sl Bool))]), Row (b4 go) (rows ps), innerF ps, y.row]⟩ (fun i => ws.length - i) 0 ⟨Nat.zero_le _, fun j hj => absurd hj (Nat.not_lt_zero j)⟩ mC (.refl _) mC fun i hi => ?_; obtain ⟨hi, hq⟩ := hi; refine i5 (u4 rfl rfl rfl (d6 (d7 ?_))); refine m3 rfl (fun hb12 => ?_) (fun hb12 => ?_)
  ·have hb12' := hb12; try simp at hb12'
   have hi2 : i < ws.length := by omega
   have hwi := hq2 _ (n0 hi2); obtain ⟨u, hu⟩ : ∃ u : Nat, (ws.getD i default) = (u : Int) := ⟨_, (Int.toNat_of_nonneg hwi.1).symm⟩; have hu2 : u < hs.length := by omega
   refine i6 (d8 (d7 (i8 (i5 ?_)))); refine m7 (α := Int) _ _ rfl T.l4 T.q7 rfl rfl rfl mB rfl (by omega) (by decide) (c9 rfl T.i7 rfl (l8 mB (k6 (by omega) rfl)) ?_); refine B6 rfl (fun _ => T.sz0 _) fun g23 => ?_; refine z8 rfl rfl (.refl _) T.q7 rfl rfl ?_; refine w7 (rows [(u : Int)]) (by show [int (u : Int)] <+: [int (ws.getD i default)]; rw [hu]; exact List.prefix_refl _) ?_; refine j8 ?_; refine a8 ⟨_, 0, none⟩ rfl rfl T.E5 rfl (c9 (v := .slice (b4 gc) (pickK k hs.length).length (pickK k hs.length).length) rfl T.m8 rfl (l9 mB rfl) (bW rfl rfl rfl ?_)); have hpu : (ps.getD u default).l = ((reachK (trOf cs hs) p hs.length)).getD u default := by rw [← hpm, t5 (l := ps.map (·.l)) (k := u) (by rw [List.length_map]; omega), t5 (l := ps) (k := u) (by omega), List.getElem_map]
   have hpl9 : (ps.getD u default).l.length = hs.length := by rw [hpu, t5 (by unfold reachK; simp; omega)]; unfold reachK; simp only [List.getElem_map, List.getElem_range]; rw [iq3, gx3 h0 hu2]
   refine j0 F.O9 rfl rfl (M8 (A := some ⟨gc, 0, none⟩) (cap := [.pointer (b4 g17), .pointer (b4 g23)]) (L0 := [Row (b4 g17) (rows [((⟨some ⟨go, 0, none⟩, hs.length, ps⟩) : Sl (Sl Bool))]), Row (b4 g23) (rows [(u : Int)]), Row (b4 go) (rows ps), innerF ps]) (pickK k hs.length) (fun x => (ps.getD u default).l.getD x.toNat default) (by omega) F.ax7 (fun x hx => by
     have h9 := hpi x hx; obtain ⟨x', rfl⟩ : ∃ x' : Nat, x = (x' : Int) := ⟨x.toNat, by omega⟩; rw [Int.toNat_natCast]
     exact tW ps u x' (by omega) (by omega))) l7 mC fun _ _ => ?_
   rw [hpu]; refine E9 rfl rfl (d6 ?_); refine w6 rfl (fun hb13 => ?_) (fun hb13 => ?_)
   ·have hb13' := hb13; try simp at hb13'
    refine p8 (vW rfl (v8 (vW rfl (bA (p7 (d8 (d9 ?_))))))); refine r7 _ rfl rfl rfl rfl m6 ?_; refine a9 rfl (c8 ?_); have hy8 := hy; exact again _ (k + 1, y, ok) ⟨by show k + 1 ≤ N; omega, by show (Hv.dat y, ok) = bestL ordP (fndL hs (reachK (trOf cs hs) p hs.length) pr ws (k + 1)); rw [qE, if_neg (kq0 hi2 (by rw [hu, Int.toNat_natCast]; exact eq_false_of_ne_true (by simpa using hb13)))]; exact hb, hy8⟩ (u2 (by omega)) mC (.cons _ (.refl _)) mC
   have hb13' := hb13; try simp at hb13'
   refine i6 (t6 (d8 (d9 ?_))); refine r7 _ rfl rfl rfl rfl m6 ?_; refine a9 rfl (c8 ?_); exact again _ (i + 1) ⟨by show i + 1 ≤ ws.length; omega, fun q hq' => (Nat.lt_succ_iff_lt_or_eq.1 hq').elim (hq q) fun e => by subst e; rw [hu, Int.toNat_natCast]; simpa using hb13⟩ (u2 (by omega)) mC (.refl _) mC
  have hb12' := hb12; try simp at hb12'
  have hi2 : i = ws.length := by omega
  rw [hi2] at hq; have hall2 := W7 (l := ws) (p := fun w => ((pickK k hs.length).any fun x => (((reachK (trOf cs hs) p hs.length)).getD w.toNat default).getD x.toNat default) = true) hq; refine p8 (v8 (p7 (d8 (d9 ?_)))); refine D4 (cs := #[.slice (b4 gc) (pickK k hs.length).length (pickK k hs.length).length, int 0, int b]) rfl T.J5 T.D8 rfl mB rfl ?_; refine j0 F.O5 rfl rfl (M3 pj0 ((⟨some ⟨gc, 0, none⟩, (pickK k hs.length).length, (pickK k hs.length)⟩, 0, b) : Hv) y ok (by show (pickK k hs.length).length ≤ 1000000; omega) (by omega)) (List.Perm.swap _ _ _) mC fun z hz => ?_; obtain ⟨z, zk⟩ := z; obtain ⟨hz, hzi⟩ := hz; refine c8 (t6 (d8 (d9 ?_))); refine r7 _ rfl rfl rfl rfl m6 ?_; refine a9 rfl (c8 ?_); have hyes := fnd_yes (ws := ws) (rs := (reachK (trOf cs hs) p hs.length)) hall hall2; have hXd : Hv.dat ((⟨some ⟨gc, 0, none⟩, (pickK k hs.length).length, (pickK k hs.length)⟩, 0, b) : Hv) = fndH pr (pickK k hs.length) := by show ((pickK k hs.length), (0 : Int), b) = _; rw [hbs]; rfl
  rcases hzi with rfl | rfl
  · have hy8 : ((⟨some ⟨gc, 0, none⟩, (pickK k hs.length).length, (pickK k hs.length)⟩, 0, b) : Hv).1.l.length ≤ 8 := by first | exact hy | (show (pickK k hs.length).length ≤ 8; omega)
    exact again _ (k + 1, ((⟨some ⟨gc, 0, none⟩, (pickK k hs.length).length, (pickK k hs.length)⟩, 0, b) : Hv), zk) ⟨by show k + 1 ≤ N; omega, by show (Hv.dat ((⟨some ⟨gc, 0, none⟩, (pickK k hs.length).length, (pickK k hs.length)⟩, 0, b) : Hv), zk) = bestL ordP (fndL hs (reachK (trOf cs hs) p hs.length) pr ws (k + 1)); rw [qE, if_pos hyes, jC, ← hb, ← hXd]; exact hz, hy8⟩ (u2 (by omega)) mC (by first | exact .cons_cons _ nil_sb | exact .cons _ (.refl _)) mC
  have hy8 : z.1.l.length ≤ 8 := by first | exact hy | (show (pickK k hs.length).length ≤ 8; omega)
  exact again _ (k + 1, z, zk) ⟨by show k + 1 ≤ N; omega, by show (Hv.dat z, zk) = bestL ordP (fndL hs (reachK (trOf cs hs) p hs.length) pr ws (k + 1)); rw [qE, if_pos hyes, jC, ← hb, ← hXd]; exact hz, hy8⟩ (u2 (by omega)) mC (by first | exact .cons_cons _ nil_sb | exact .cons _ (.refl _)) mC
 have hb9' := hb9; try simp at hb9'
 have hk2 : k = N := by omega
 rw [hk2, hN] at hb; have hb : (y.dat, ok) = fndB (trOf cs hs) hs pr ws p := hb; refine p8 (v8 (p7 (d8 (d7 (i5 ?_))))); refine a8 ⟨_, 3, none⟩ rfl rfl T.C8 rfl (c9 (v := .bool ok) rfl T.qH rfl (l9 mB rfl) ?_); refine E9 rfl rfl (d6 ?_); refine w6 rfl (fun hb14 => ?_) (fun hb14 => ?_)
 ·have hb14' := hb14; try simp at hb14'
  refine i5 (b8 rfl (b8 rfl (b8 rfl (d6 (G0 (nR ?_)))))); have hE : foundE cs hs pr ws p = ([], 0, 11) := by rw [foundE, if_neg (Classical.not_not.2 h0), if_neg h2, if_neg h3, if_neg (Classical.not_not.2 hq1), if_neg (Classical.not_not.2 hq2), if_neg (Classical.not_not.2 h8), ← hb]; exact if_pos (by simpa using hb14)
  refine z9 (α := Int) ?_; exact ret3 (none, 0) rfl rfl rfl rfl (by show Value.tuple #[.slice none (foundE cs hs pr ws p).1.length 0, int (foundE cs hs pr ws p).2.1, int (foundE cs hs pr ws p).2.2] = _; rw [hE] <;> rfl) rfl trivial nil_sb (by show LSub _ [Row none (rows (foundE cs hs pr ws p).1)]; rw [hE]; exact mC)
 have hb14' := hb14; try simp at hb14'
 refine i6 (d8 (d7 ?_)); refine A6 7 mixed (by decide) (by decide) rfl rfl (i4 (fun w1 => a8 ⟨_, 0, none⟩ rfl rfl T.v7 rfl (q_z rfl)) (i4 (fun w1 => a8 ⟨_, 0, none⟩ rfl rfl T.E5 rfl (q_z rfl)) (i4 (fun w1 => c9 rfl T.m8 rfl (j9 mB rfl) (q_z rfl)) (i4 (fun w1 => a8 ⟨_, 0, none⟩ rfl rfl T.v7 rfl (q_z rfl)) (i4 (fun w1 => a8 ⟨_, 2, none⟩ rfl rfl T.G3 rfl (q_z rfl)) (i4 (fun w1 => c9 rfl T.i7 rfl (j9 mB rfl) (q_z rfl)) (i4 (fun w1 => b8 rfl (q_z rfl)) ?_))))))); refine v9 ⟨rfl, ?_⟩; refine b8 rfl (b8 rfl (d6 (j5 (nR ?_)))); have hE : foundE cs hs pr ws p = (y.1.l, y.2.2, 0) := by rw [foundE, if_neg (Classical.not_not.2 h0), if_neg h2, if_neg h3, if_neg (Classical.not_not.2 hq1), if_neg (Classical.not_not.2 hq2), if_neg (Classical.not_not.2 h8), ← hb]; exact if_neg (by simpa using hb14)
 exact ret3 (y.1.a, y.1.c) rfl rfl rfl rfl (by show Value.tuple #[.slice y.1.a (foundE cs hs pr ws p).1.length y.1.c, int (foundE cs hs pr ws p).2.1, int (foundE cs hs pr ws p).2.2] = _; rw [hE] <;> rfl) rfl trivial nil_sb (by show LSub _ [Row y.1.a (rows (foundE cs hs pr ws p).1)]; rw [hE]; exact mC)
end Go.Proofs.YtdlbbfcfahahdaaGreat
end
