/- Texts of this claim, one behind another. -/

import Derived.Test.YtcdopfjiadifhaaGreatDoorAAn
set_option linter.unusedVariables false
set_option linter.unusedSimpArgs false
section
namespace Go.Proofs.YtcdopfjiadifhaaGreatDoor
open Go Go.W
set_option maxRecDepth 20000
attribute [local irreducible] HL HC HQ HB Row Rows2 Blk Facts
section
variable {c : Cx} {Q : Exit → Act → World → Prop} {fr : Fr} {hp : Hp} {L : List Fact} {ops : Array Oper} {rest : List Oper}
variable {d : Tmp} {ty : TypeId} {pos : String} {af : Array Edge}
theorem sz4 {t yt : TypeId} {x y : Operand} {ky : IntKind} {z : Int} (n N : Nat) (hN : N = 2 ^ n) (hd : Nat.blt d c.n = true) (hx : ev fr x = some (int 1)) (hy : ev fr y = some (.int ky z)) (hz : z = (n : Int)) (hn : n < 60) (k : HL c ops Q rest ((d, int (N : Int)) :: fr) hp L) :
    HL c ops Q (⟨some d, .binOp .shl t x y yt, ty, pos, af, none⟩ :: rest) fr hp L :=
  m7 _ hd hx hy (fun _ => rfl) (fun w => by
    subst hz; subst hN; show (Op.shift .shl .i64 1 ky (n : Int)).run c.P w = _; have hl : 2 ^ n < 2 ^ 60 := Nat.pow_lt_pow_right (by omega) hn; have hm : min ((n : Int).toNat) (IntKind.i64.bits) = n := by show min ((n : Int).toNat) 64 = n; omega
    have hw : IntKind.i64.wrap ((2 ^ n : Nat) : Int) = ((2 ^ n : Nat) : Int) := by
      generalize 2 ^ n = q at hl; simp only [IntKind.wrap, IntKind.bits, IntKind.signed]
      simp
      omega
    simp only [Op.shift]; rw [if_neg (by omega), hm, Int.one_mul, show ((2 : Int) ^ n) = ((2 ^ n : Nat) : Int) by simp, hw]
    rfl) k
end
def linL (cs : List Cd) (ks : List Int) : List Int := ks.map fun v => (cs.getD v.toNat default).1
def priL (cs : List Cd) (ks : List Int) : List Int := ks.map fun v => (cs.getD v.toNat default).2
def handK (cs : List Cd) (s : Nat) : Hn := (pickK s cs.length, (linL cs (pickK s cs.length)).sum, (priL cs (pickK s cs.length)).sum)
def handsK (cs : List Cd) (room : Int) (k : Nat) : List Hn := ((List.range k).map (handK cs)).filter fun x => decide (x.2.1 ≤ room)
theorem ax9 (cs : List Cd) (room : Int) (k : Nat) : handsK cs room (k + 1) = if (handK cs k).2.1 ≤ room then handsK cs room k ++ [handK cs k] else handsK cs room k := by
  unfold handsK; rw [List.range_succ, List.map_append, List.filter_append]
  by_cases e : (handK cs k).2.1 ≤ room
  · rw [if_pos e]; simp [e]
  rw [if_neg e]; simp [e]
theorem dq9 (cs : List Cd) (room : Int) (k : Nat) : (handsK cs room k).length ≤ k := Nat.le_trans (List.length_filter_le _ _) (by simp)
theorem lin_at {cs : List Cd} {ks : List Int} {j : Nat} (hj : j < ks.length) : (linL cs ks).getD j default = (cs.getD (ks.getD j default).toNat default).1 := by
  have h : j < (linL cs ks).length := by simpa [linL] using hj
  rw [A7 h, A7 hj]
  simp [linL]
theorem pri_at {cs : List Cd} {ks : List Int} {j : Nat} (hj : j < ks.length) : (priL cs ks).getD j default = (cs.getD (ks.getD j default).toNat default).2 := by
  have h : j < (priL cs ks).length := by simpa [priL] using hj
  rw [A7 h, A7 hj]
  simp [priL]
theorem lin_bd {cs : List Cd} (hc : ∀ x ∈ cs, cdB x) {ks : List Int} (hk : ∀ v ∈ ks, 0 ≤ v ∧ v < (cs.length : Int)) : ∀ v ∈ linL cs ks, 0 ≤ v ∧ v ≤ 1000000000 := by
  intro v hv; obtain ⟨w, hw, rfl⟩ := List.mem_map.1 hv; have h1 := hk w hw; have h2 := hc _ (w7 (l := cs) (k := w.toNat) (by omega)); have h3 := h2.1
  omega
theorem pri_bd {cs : List Cd} (hc : ∀ x ∈ cs, cdB x) {ks : List Int} (hk : ∀ v ∈ ks, 0 ≤ v ∧ v < (cs.length : Int)) : ∀ v ∈ priL cs ks, 0 ≤ v ∧ v ≤ 1000000000 := by
  intro v hv; obtain ⟨w, hw, rfl⟩ := List.mem_map.1 hv; have h1 := hk w hw; have h2 := hc _ (w7 (l := cs) (k := w.toNat) (by omega)); have h3 := h2.2
  omega
theorem pz3 (cs : List Cd) (ks : List Int) : (linL cs ks).length = ks.length := by simp [linL]
theorem px7 (cs : List Cd) (ks : List Int) : (priL cs ks).length = ks.length := by simp [priL]
theorem aj4 {A : Option Addr} {ca : Nat} (cs : List Cd) (room : Int) (hn : cs.length ≤ 8) (hc : ∀ x ∈ cs, cdB x) : Meets Tryz.prog F.vM [.slice A cs.length ca, int room] { LI := [Row A (rows cs)], inv := fun x : List Hv × OutC × Hp => x.1.map Hv.dat = handsK cs room (2 ^ cs.length) ∧ Grow T.Q9 3 x.2.1.1 x.1.length x.2.1.2 (rows x.1) x.2.2, val := fun x => .slice x.2.1.1 x.1.length x.2.1.2, hpO := fun x => x.2.2, LO := fun x => [innersF x.1 Hv.row] } := by
 refine i9 F.kq5 rfl r6 fun w0 => ?_; refine i8 (d5 rfl (k8 (d5 rfl (d8 (dq1 ?_))))); refine j8 (c7 rfl ?_); refine l7 rfl T.R3 rfl ?_; obtain ⟨N, hN⟩ : ∃ N, N = 2 ^ cs.length := ⟨_, rfl⟩; have hN2 : N ≤ 256 := by rw [hN]; exact Nat.pow_le_pow_right (n := 2) (by omega) hn
 refine sz4 cs.length N hN rfl rfl rfl rfl (by omega) ?_; refine c7 rfl (d8 (k9 ?_)); refine mj3 (Fs := ([] : List Hv).map Hv.row) (by intro F hF; cases hF) ?_; refine w3 (β := Nat × List Hv × OutC × Hp) ⟨fun x => x.1 ≤ N ∧ x.2.1.map Hv.dat = handsK cs room x.1 ∧ Grow T.Q9 3 x.2.2.1.1 x.2.1.length x.2.2.1.2 (rows x.2.1) x.2.2.2, fun x => [(0, .slice A cs.length ca), (1, int room), (5, .slice x.2.2.1.1 x.2.1.length x.2.2.1.2), (12, int (N : Int)), (13, int x.1)], fun x => x.2.2.2, fun x => [innersF x.2.1 Hv.row, Row A (rows cs)]⟩ (fun x => N - x.1) (0, [], (none, 0), []) ⟨Nat.zero_le _, rfl, Grow.nil _ _⟩ mC (.refl _) mC fun x hx => ?_; obtain ⟨k, hs, ⟨na, nc⟩, og⟩ := x; obtain ⟨hk, hd, hG⟩ := hx; simp only at hk hd hG; have hpl := sD k cs.length; have hpi : ∀ v ∈ (pickK k cs.length), 0 ≤ v ∧ v < (cs.length : Int) := fun v hv => lx6 hv; have hll : hs.length ≤ k := by rw [← List.length_map (f := Hv.dat), hd]; exact dq9 ..
 refine i8 (B6 rfl rfl rfl (d8 (j4 ?_)))
 first | refine m3 rfl (fun hb1 => ?_) (fun hb1 => ?_) | refine j7 rfl (fun hb1 => ?_) (fun hb1 => ?_)
 ·have hb1' := hb1; try simp at hb1'
  have hk2 : k < N := by omega
  refine k6 (j6 (j4 (k9 (i8 (c7 rfl (d5 rfl (k8 ?_))))))); refine c7 rfl (X5 (k : Int) rfl T.pP T.wH rfl (wrap64 (by omega)) (c7 rfl (l7 rfl T.R3 rfl ?_))); refine k5 F.iL rfl rfl (bB k cs.length (by omega) (by omega)) p6 trivial fun gc _ => ?_; refine u4 _ rfl rfl (fun _ => T.rS ..) ?_; refine y9 rfl (fun _ => T.nI _) fun gh => ?_; refine w4 (cs := #[.slice (c8 gc) (pickK k cs.length).length (pickK k cs.length).length, int 0, int 0]) rfl rfl (.refl _) T.E4 (by rfl) (by rfl) ?_; refine d8 (j4 (i8 ?_))
  first | refine a9 ⟨_, 0, none⟩ rfl rfl T.v7 rfl ?_ | refine a9 _ rfl rfl T.v7 rfl ?_
  refine b8 (v := .slice (c8 gc) (pickK k cs.length).length (pickK k cs.length).length) rfl T.i7 rfl (j0 mB rfl) (l7 rfl T.t7 rfl ?_); refine c7 rfl (d8 (k9 ?_)); refine w3 (β := Nat × Int × Int) ⟨fun x => x.1 ≤ (pickK k cs.length).length ∧ x.2.1 = ((linL cs (pickK k cs.length)).take x.1).sum ∧ x.2.2 = ((priL cs (pickK k cs.length)).take x.1).sum, fun x => [(0, .slice A cs.length ca), (1, int room), (5, .slice na hs.length nc), (7, .pointer (c8 gh)), (12, int (N : Int)), (13, int k), (23, .slice (c8 gc) (pickK k cs.length).length (pickK k cs.length).length), (24, int (pickK k cs.length).length), (25, int x.1)], fun x => (gh, Obj.cells #[.slice (c8 gc) (pickK k cs.length).length (pickK k cs.length).length, int x.2.1, int x.2.2] T.Q9 (0, 0)) :: og, fun _ => [Row (c8 gc) (rows (pickK k cs.length)), innersF hs Hv.row, Row A (rows cs)]⟩ (fun x => (pickK k cs.length).length - x.1) (0, 0, 0) ⟨Nat.zero_le _, rfl, rfl⟩ mC (.refl _) mC fun x hx => ?_; obtain ⟨j, a, b⟩ := x; obtain ⟨hj, ha, hb⟩ := hx; simp only at hj ha hb; have ha1 := uG (lin_bd hc hpi) j; have hb1' := uG (pri_bd hc hpi) j; rw [← ha] at ha1; rw [← hb] at hb1'; refine i8 (B6 rfl rfl rfl (d8 (j4 ?_)))
  first | refine m3 rfl (fun hb2 => ?_) (fun hb2 => ?_) | refine j7 rfl (fun hb2 => ?_) (fun hb2 => ?_)
  ·have hb2' := hb2; try simp at hb2'
   have hj2 : j < (pickK k cs.length).length := by omega
   have hvj := hpi _ (w7 hj2); obtain ⟨v, hv⟩ : ∃ v : Nat, ((pickK k cs.length).getD j default) = (v : Int) := ⟨_, (Int.toNat_of_nonneg hvj.1).symm⟩; have hv2 : v < cs.length := by omega
   have hcv := hc _ (w7 hv2); have hcl := hcv.1; have hcp := hcv.2; have ha2 := qD (l := linL cs (pickK k cs.length)) (k := j) (by rw [pz3]; exact hj2); rw [← ha, lin_at hj2, hv, Int.toNat_natCast] at ha2; have hb2' := qD (l := priL cs (pickK k cs.length)) (k := j) (by rw [px7]; exact hj2); rw [← hb, pri_at hj2, hv, Int.toNat_natCast] at hb2'; refine k6 (j6 (j4 (k9 (i8 ?_)))); refine v6 (α := Int) _ _ rfl T.t7 T.w9 rfl rfl rfl mB rfl (by omega) (by decide) (b8 rfl T.b9 rfl (d6 mB (c9 (by omega) rfl)) ?_); refine d5 rfl (d8 ?_); refine S6 ([(gh, Obj.cells #[.slice (c8 gc) (pickK k cs.length).length (pickK k cs.length).length, int a, int b] T.Q9 (0, 0))]) (og) p6 18 [17, 1000009, 1000001] mixed (by decide) (by decide) (by decide) rfl rfl rfl ?_
   apply m8 _ rfl rfl rfl
   ·intro w1
    first | refine a9 ⟨_, 1, none⟩ rfl rfl T.H1 rfl ?_ | refine a9 _ rfl rfl T.H1 rfl ?_
    refine d4 ?_; exact k4 rfl
   refine hb_rd (int a) rfl rfl rfl ?_ ?_
   ·intro w1; refine b8 (v := int a) rfl T.b9 rfl (j3 mB rfl) ?_; refine d4 ?_; exact k4 rfl
   refine l9 (fun w1 => c7 rfl (q_z rfl)) (l9 (fun w1 => c7 rfl (q_z rfl)) ?_); refine l9 (fun w1 => v6 (α := Cd) cs v rfl T.R3 T.cF rfl rfl hv (List.mem_append_right _ (by repeat constructor)) rfl hv2 (by decide) (q_z rfl)) ?_
   apply m8 _ rfl rfl rfl
   ·intro w1
    first | refine a9 ⟨_, 0, none⟩ rfl rfl T.cC rfl ?_ | refine a9 _ rfl rfl T.cC rfl ?_
    refine d4 ?_; exact k4 rfl
   refine l9 (fun w1 => b8 (v := int (cs.getD v default).1) rfl T.b9 rfl (d6 (List.mem_append_right _ (by repeat constructor)) (c9 hv2 rfl)) (q_z rfl)) ?_
   apply m8 _ rfl rfl rfl
   ·intro w1; intro _ _; refine v4 (a := a) (b := (cs.getD v default).1) (a + (cs.getD v default).1) rfl rfl rfl rfl r5 ?_; refine d4 ?_; exact k4 rfl
   apply m8 _ rfl rfl rfl
   ·intro w1
    first | refine a9 ⟨_, 2, none⟩ rfl rfl T.w5 rfl ?_ | refine a9 _ rfl rfl T.w5 rfl ?_
    refine d4 ?_; exact k4 rfl
   refine hb_rd (int b) rfl rfl rfl ?_ ?_
   ·intro w1; refine b8 (v := int b) rfl T.b9 rfl (j3 mB rfl) ?_; refine d4 ?_; exact k4 rfl
   refine l9 (fun w1 => c7 rfl (q_z rfl)) (l9 (fun w1 => c7 rfl (q_z rfl)) ?_); refine l9 (fun w1 => v6 (α := Cd) cs v rfl T.R3 T.cF rfl rfl hv (List.mem_append_right _ (by repeat constructor)) rfl hv2 (by decide) (q_z rfl)) ?_
   apply m8 _ rfl rfl rfl
   ·intro w1
    first | refine a9 ⟨_, 1, none⟩ rfl rfl T.cB rfl ?_ | refine a9 _ rfl rfl T.cB rfl ?_
    refine d4 ?_; exact k4 rfl
   refine l9 (fun w1 => b8 (v := int (cs.getD v default).2) rfl T.b9 rfl (d7 (List.mem_append_right _ (by repeat constructor)) (rows_get hv2 (j := 1) rfl)) (q_z rfl)) ?_
   apply m8 _ rfl rfl rfl
   ·intro w1; intro _ _; refine v4 (a := b) (b := (cs.getD v default).2) (b + (cs.getD v default).2) rfl rfl rfl rfl r5 ?_; refine d4 ?_; exact k4 rfl
   apply m8 _ rfl rfl rfl
   ·intro w1
    first | refine a9 ⟨_, 1, none⟩ rfl rfl T.H1 rfl ?_ | refine a9 _ rfl rfl T.H1 rfl ?_
    refine d4 ?_; exact k4 rfl
   refine hb_st ⟨Unit, fun _ => True, fun _ => undef, fun _ => [], fun _ => [(gh, Obj.cells ((#[.slice (c8 gc) (pickK k cs.length).length (pickK k cs.length).length, int a, int b]).setIfInBounds 1 (int (a + (cs.getD v default).1))) T.Q9 (0, 0))]⟩ rfl rfl ?_ ?_
   ·skip; intro w1
    refine z9 rfl rfl (.refl _) T.w9 rfl rfl ?_; refine d4 ?_; exact O8 () trivial (fun h => by cases h) (.refl _) trivial
   refine D1 ⟨rfl, ?_⟩; intro _ _ _ _ _ _
   first | refine a9 ⟨_, 2, none⟩ rfl rfl T.w5 rfl ?_ | refine a9 _ rfl rfl T.w5 rfl ?_
   refine z9 rfl rfl (.refl _) T.w9 rfl rfl ?_; refine d4 (y6 (j6 (j8 ?_))); refine v4 _ rfl rfl rfl rfl r5 ?_; refine c7 rfl (d4 ?_); exact again _ (j + 1, a + (cs.getD v default).1, b + (cs.getD v default).2) ⟨by show j + 1 ≤ _; omega, ha2.symm, hb2'.symm⟩ (D5 (by omega)) mC (.refl _) mC
  have hb2' := hb2; try simp at hb2'
  have hj2 : j = (pickK k cs.length).length := by omega
  rw [hj2, List.take_of_length_le (Nat.le_of_eq (pz3 ..))] at ha; rw [hj2, List.take_of_length_le (Nat.le_of_eq (px7 ..))] at hb; have hX : Hv.dat ((⟨some ⟨gc, 0, none⟩, (pickK k cs.length).length, (pickK k cs.length)⟩, a, b) : Hv) = handK cs k := by show (_, a, b) = _; rw [ha, hb]; rfl
  refine u9 (D6 (u5 (j6 (i8 ?_))))
  first | refine a9 ⟨_, 1, none⟩ rfl rfl T.H1 rfl ?_ | refine a9 _ rfl rfl T.H1 rfl ?_
  refine b8 (v := int a) rfl T.b9 rfl (j0 mB rfl) ?_; refine c7 rfl (ax0 rfl rfl rfl (d8 ?_))
  first | refine m3 rfl (fun hb3 => ?_) (fun hb3 => ?_) | refine j7 rfl (fun hb3 => ?_) (fun hb3 => ?_)
  ·have hb3' := hb3; try simp at hb3'
   have hH : handsK cs room (k + 1) = handsK cs room k ++ [Hv.dat ((⟨some ⟨gc, 0, none⟩, (pickK k cs.length).length, (pickK k cs.length)⟩, a, b) : Hv)] := by rw [ax9, hX, if_pos (by rw [← hX]; show a ≤ room; omega)]
   refine j8 (c7 rfl ?_); refine B5 (cs := #[.slice (c8 gc) (pickK k cs.length).length (pickK k cs.length).length, int a, int b]) rfl T.L5 T.E4 rfl mB rfl ?_; refine q7 _ rfl rfl (fun _ => T.zZ ..) fun gS => ?_; refine C6 (rows [((⟨some ⟨gc, 0, none⟩, (pickK k cs.length).length, (pickK k cs.length)⟩, a, b) : Hv)]) (List.prefix_refl _) ?_; refine O7 (hp' := [(gh, Obj.cells #[.slice (c8 gc) (pickK k cs.length).length (pickK k cs.length).length, int a, int b] T.Q9 (0, 0))]) (hs.length + 1) (rows (hs ++ [((⟨some ⟨gc, 0, none⟩, (pickK k cs.length).length, (pickK k cs.length)⟩, a, b) : Hv)])) T.dx8 rfl rfl rfl hG (R6 fun q => by simp only [Option.toList_none, List.append_eq, List.cons_append, List.nil_append, List.countP_append, List.countP_cons, List.countP_nil]; omega) (Src.row (news := rows [((⟨some ⟨gc, 0, none⟩, (pickK k cs.length).length, (pickK k cs.length)⟩, a, b) : Hv)]) (m := 1) m0 rfl (K5 _) (by decide)) rfl (D2 _ _).symm (by unfold maxLen; omega) (by omega) fun A' c' og' hG' => ?_; refine d5 rfl (d4 (y6 (j6 (j8 ?_)))); refine v4 _ rfl rfl rfl rfl r5 ?_; refine c7 rfl (d4 ?_); refine dq2 (ax8 (p := ((⟨some ⟨gc, 0, none⟩, (pickK k cs.length).length, (pickK k cs.length)⟩, a, b) : Hv)) (ps := hs) (f := Hv.row) mB mB) ?_; exact again _ (k + 1, hs ++ [((⟨some ⟨gc, 0, none⟩, (pickK k cs.length).length, (pickK k cs.length)⟩, a, b) : Hv)], (A', c'), og') ⟨by show k + 1 ≤ N; omega, by show (hs ++ [((⟨some ⟨gc, 0, none⟩, (pickK k cs.length).length, (pickK k cs.length)⟩, a, b) : Hv)]).map Hv.dat = _; rw [hH, List.map_append, hd]; rfl, by show Grow T.Q9 3 A' (hs ++ [((⟨some ⟨gc, 0, none⟩, (pickK k cs.length).length, (pickK k cs.length)⟩, a, b) : Hv)]).length c' _ og'; rw [List.length_append]; exact hG'⟩ (D5 (by omega)) ⟨rfl, rfl, by show some (Value.slice A' (hs.length + 1) c') = some (Value.slice A' (hs ++ [((⟨some ⟨gc, 0, none⟩, (pickK k cs.length).length, (pickK k cs.length)⟩, a, b) : Hv)]).length c'); rw [List.length_append]; rfl, rfl, rfl, trivial⟩ (List.sublist_append_left _ _) mC
  have hb3' := hb3; try simp at hb3'
  have hH : handsK cs room (k + 1) = handsK cs room k := by rw [ax9, if_neg (by rw [← hX]; show ¬ a ≤ room; omega)]
  refine k6 (y6 (j6 (j8 ?_))); refine v4 _ rfl rfl rfl rfl r5 ?_; refine c7 rfl (d4 ?_); exact again _ (k + 1, hs, (na, nc), og) ⟨by show k + 1 ≤ N; omega, by show hs.map Hv.dat = _; rw [hH, hd], hG⟩ (D5 (by omega)) mC (.cons _ (.refl _)) mC
 have hb1' := hb1; try simp at hb1'
 have hk2 : k = N := by omega
 refine u9 (D6 (u5 (j6 (i8 (c7 rfl (d5 rfl (d8 (l5 ?_)))))))); exact ret1 (hs, (na, nc), og) rfl rfl rfl ⟨by show hs.map Hv.dat = _; rw [hd, hk2, hN], hG⟩ (.refl _) mC
end Go.Proofs.YtcdopfjiadifhaaGreatDoor
end
section
namespace Go.Proofs.YtcdopfjiadifhaaGreatDoor
open Go Go.W
set_option maxRecDepth 20000
attribute [local irreducible] HL HC HQ HB Row Rows2 Blk Facts
abbrev fnV (f : Nat) : Value := .func (.func f) #[] #[]
abbrev offA (y : Hv) (ok : Bool) (f : Nat) : Array Value := #[.slice y.1.a y.1.l.length y.1.c, int y.2.1, int y.2.2, .bool ok, fnV f]
theorem tj9 (a b c d e : Value) : ∀ (i : Nat) (u : Value), ([a, b, c] : List Value)[i]? = some u → (#[a, b, c, d, e] : Array Value)[0 + i]? = some u := by
  intro i u h
  rcases i with _ | _ | _ | i
  · exact h
  · exact h
  · exact h
  simp at h
def offS (o : Hn → Hn → Int) (s : Hn × Bool) (x : Hn) : Hn × Bool := if s.2 = false ∨ o x s.1 < 0 then (x, true) else s
structure OrdF (f : Nat) (o : Hn → Hn → Int) : Prop where
  cb : Callable Tryz.prog f
  m : ∀ x y : Hv, x.1.l.length ≤ 1000000 → y.1.l.length ≤ 1000000 → Meets Tryz.prog f [x.v, y.v] { LI := [x.row, y.row], val := fun _ : Unit => int (o x.dat y.dat) }
theorem tj7 : OrdF F.Z8 ordF := ⟨F.gj4, yN⟩
theorem rj0 : OrdF F.P3 ordP := ⟨F.bx7, vW⟩
theorem P8 {gB f : Nat} {o : Hn → Hn → Int} (hf : OrdF f o) (x y : Hv) (ok : Bool) (hx : x.1.l.length ≤ 1000000) (hy : y.1.l.length ≤ 1000000) : Meets Tryz.prog F.N9 [.pointer (c8 gB), x.v] { hpI := [(gB, Obj.cells (offA y ok f) T.A6 (0, 0))], LI := [x.row, y.row], inv := fun z : Hv × Bool => (z.1.dat, z.2) = offS o (y.dat, ok) x.dat ∧ (z.1 = x ∨ z.1 = y), val := fun _ => .tuple #[], hpO := fun z => [(gB, Obj.cells (offA z.1 z.2 f) T.A6 (0, 0))] } := by
 refine i9 F.dO rfl r6 fun w0 => ?_; refine i8 ?_; refine H6 rfl rfl fun gT => ?_; refine d8 (j4 (Z5 ?_)); refine I5 15 mixed (by decide) (by decide) rfl rfl (l9 (fun w1 => c7 rfl (q_z rfl)) (l9 (fun w1 => p9 rfl rfl (q_z rfl)) ?_))
 apply m8 _ rfl rfl rfl
 ·intro w1
  first | refine a9 ⟨_, 3, none⟩ rfl rfl T.u0 rfl ?_ | refine a9 _ rfl rfl T.u0 rfl ?_
  refine d4 ?_; exact k4 rfl
 refine l9 (fun w1 => b8 (v := .bool ok) rfl T.sO rfl (j3 (by repeat constructor) rfl) (q_z rfl)) ?_; refine l9 (fun w1 => M7 rfl rfl (q_z rfl)) (l9 (fun w1 => c7 rfl (q_z rfl)) ?_); refine mj5 (t := 9) (want := false) rfl ?_ ?_
 ·intro hg1; have hg1' := hg1; try simp at hg1'
  apply m8 _ rfl rfl rfl
  ·intro w1; refine l3 rfl rfl hg1 (c7 rfl (d4 ?_)); exact k4 rfl
  apply m8 _ rfl rfl rfl
  ·intro w1; refine l3 rfl rfl hg1 (p9 rfl rfl (d4 ?_)); exact k4 rfl
  apply m8 _ rfl rfl rfl
  ·intro w1; refine l3 rfl rfl hg1 ?_
   first | refine a9 ⟨_, 4, none⟩ rfl rfl T.M9 rfl ?_ | refine a9 _ rfl rfl T.M9 rfl ?_
   refine d4 ?_; exact k4 rfl
  apply m8 _ rfl rfl rfl
  ·intro w1; refine l3 rfl rfl hg1 ?_; refine b8 (v := fnV f) rfl T.Z9 rfl (j3 (by repeat constructor) rfl) ?_; refine d4 ?_; exact k4 rfl
  apply m8 _ rfl rfl rfl
  ·intro w1; refine l3 rfl rfl hg1 ?_; refine C1 (cs := #[.slice x.1.a x.1.l.length x.1.c, int x.2.1, int x.2.2]) rfl T.L5 T.E4 rfl (by repeat constructor) rfl ?_; refine d4 ?_; exact k4 rfl
  apply m8 _ rfl rfl rfl
  ·intro w1; refine l3 rfl rfl hg1 (c7 rfl (d4 ?_)); exact k4 rfl
  apply m8 _ rfl rfl rfl
  ·intro w1; refine l3 rfl rfl hg1 (p9 rfl rfl (d4 ?_)); exact k4 rfl
  apply m8 _ rfl rfl rfl
  ·intro w1; refine l3 rfl rfl hg1 ?_
   first | refine a9 ⟨_, 0, none⟩ rfl rfl T.m9 rfl ?_ | refine a9 _ rfl rfl T.m9 rfl ?_
   refine d4 ?_; exact k4 rfl
  apply m8 _ rfl rfl rfl
  ·intro w1; refine l3 rfl rfl hg1 ?_; refine u7 (cs := [.slice y.1.a y.1.l.length y.1.c, int y.2.1, int y.2.2]) rfl T.L5 T.E4 rfl rfl (lI (by repeat constructor) (tj9 _ _ _ _ _)) ?_; refine d4 ?_; exact k4 rfl
  refine D1 ⟨rfl, ?_⟩; refine l3 rfl rfl hg1 ?_; refine W2 (vs := [x.v, y.v]) (cap := []) hf.cb rfl rfl rfl (hf.m x y hx hy) p6 ⟨(by repeat constructor), (by repeat constructor), trivial⟩ fun _ _ => ?_; refine l3 rfl rfl hg1 (B6 rfl rfl rfl ?_); refine p_f rfl rfl (bf1 hg1) rfl ?_; refine d8 ?_
  first | refine m3 rfl (fun hb1 => ?_) (fun hb1 => ?_) | refine j7 rfl (fun hb1 => ?_) (fun hb1 => ?_)
  ·have hb1' := hb1; try simp at hb1'
   refine j8 (c7 rfl (c7 rfl ?_)); refine C1 (cs := #[.slice x.1.a x.1.l.length x.1.c, int x.2.1, int x.2.2]) rfl T.L5 T.E4 rfl (by repeat constructor) rfl ?_; refine p9 rfl rfl ?_
   first | refine a9 ⟨_, 0, none⟩ rfl rfl T.m9 rfl ?_ | refine a9 _ rfl rfl T.m9 rfl ?_
   refine cx5 rfl rfl (.refl _) T.E4 (show 0 + 3 ≤ 5 by decide) (by rfl) (p9 rfl rfl ?_)
   first | refine a9 ⟨_, 3, none⟩ rfl rfl T.u0 rfl ?_ | refine a9 _ rfl rfl T.u0 rfl ?_
   refine z9 rfl rfl (.refl _) T.rW rfl rfl ?_; refine d4 ?_; exact ret0n (x, true) rfl rfl rfl ⟨by show (x.dat, true) = offS o (y.dat, ok) x.dat; rw [offS, if_pos (.inr hb1)], .inl rfl⟩ (.refl _) trivial
  have hb1' := hb1; try simp at hb1'
  refine k6 ?_; exact ret0n (y, ok) rfl rfl rfl ⟨by show (y.dat, ok) = offS o (y.dat, ok) x.dat; rw [offS, if_neg (fun h => h.elim (fun h => by rw [show ok = true from hg1'] at h; cases h) hb1)], .inr rfl⟩ (.refl _) trivial
 intro hg1; have hg1' := hg1; try simp at hg1'
 refine l9 (fun w1 => t4 rfl rfl rfl rfl rfl hg1 (q_z rfl)) (l9 (fun w1 => t4 rfl rfl rfl rfl rfl hg1 (q_z rfl)) (l9 (fun w1 => t4 rfl rfl rfl rfl rfl hg1 (q_z rfl)) (l9 (fun w1 => t4 rfl rfl rfl rfl rfl hg1 (q_z rfl)) (l9 (fun w1 => t4 rfl rfl rfl rfl rfl hg1 (q_z rfl)) (l9 (fun w1 => t4 rfl rfl rfl rfl rfl hg1 (q_z rfl)) (l9 (fun w1 => t4 rfl rfl rfl rfl rfl hg1 (q_z rfl)) (l9 (fun w1 => t4 rfl rfl rfl rfl rfl hg1 (q_z rfl)) ?_))))))); refine l9 (fun w1 => t4 rfl rfl rfl rfl rfl hg1 (q_z rfl)) ?_; refine D1 ⟨rfl, ?_⟩; refine t4 rfl rfl rfl rfl rfl hg1 (t4 rfl rfl rfl rfl rfl hg1 ?_); refine p_t rfl rfl (bt2 hg1) rfl ?_; refine d8 (c_t rfl rfl (j8 (c7 rfl (c7 rfl ?_)))); refine C1 (cs := #[.slice x.1.a x.1.l.length x.1.c, int x.2.1, int x.2.2]) rfl T.L5 T.E4 rfl (by repeat constructor) rfl ?_; refine p9 rfl rfl ?_
 first | refine a9 ⟨_, 0, none⟩ rfl rfl T.m9 rfl ?_ | refine a9 _ rfl rfl T.m9 rfl ?_
 refine cx5 rfl rfl (.refl _) T.E4 (show 0 + 3 ≤ 5 by decide) (by rfl) (p9 rfl rfl ?_)
 first | refine a9 ⟨_, 3, none⟩ rfl rfl T.u0 rfl ?_ | refine a9 _ rfl rfl T.u0 rfl ?_
 refine z9 rfl rfl (.refl _) T.rW rfl rfl ?_; refine d4 ?_; exact ret0n (x, true) rfl rfl rfl ⟨by show (x.dat, true) = offS o (y.dat, ok) x.dat; rw [offS, if_pos (.inl (show ok = false from hg1'))], .inl rfl⟩ (.refl _) trivial
end Go.Proofs.YtcdopfjiadifhaaGreatDoor
end
section
namespace Go.Proofs.YtcdopfjiadifhaaGreatDoor
open Go Go.W
set_option maxRecDepth 20000
attribute [local irreducible] HL HC HQ HB Row Rows2 Blk Facts
theorem uq1 {cs : List Cd} {room : Int} (h : cardsE cs room = 0) : cs.length ≤ 8 ∧ (∀ x ∈ cs, cdB x) ∧ 0 ≤ room ∧ room ≤ 60 := by
  unfold cardsE at h
  split at h
  · cases h
  split at h
  · cases h
  rename_i h1 h2
  split at h
  · cases h
  rename_i h3
  exact ⟨by omega, Classical.not_not.1 h2, (Classical.not_not.1 h3).1, (Classical.not_not.1 h3).2⟩
theorem tz0 {cs : List Cd} {room : Int} {k : Nat} {hs : List Hv} (hd : hs.map Hv.dat = handsK cs room k) (hn : cs.length ≤ 8) : ∀ x ∈ hs, x.1.l.length ≤ 8 := by
  intro x hx; have h : x.dat ∈ handsK cs room k := hd ▸ List.mem_map.2 ⟨x, hx, rfl⟩; obtain ⟨s, _, hs⟩ := List.mem_map.1 (List.mem_filter.1 h).1; have h2 := congrArg (fun y : Hn => y.1.length) hs; simp only [handK, Hv.dat] at h2; have := sD s cs.length
  omega
theorem rq9 {cs : List Cd} {room : Int} {k : Nat} {hs : List Hv} (hd : hs.map Hv.dat = handsK cs room k) : hs.length ≤ k := by
  rw [← List.length_map (f := Hv.dat), hd]; exact dq9 ..
def noB : Hn × Bool := (([], 0, 0), false)
def bestL (o : Hn → Hn → Int) (l : List Hn) : Hn × Bool := l.foldl (offS o) noB
theorem sS (o : Hn → Hn → Int) (l : List Hn) (x : Hn) : bestL o (l ++ [x]) = offS o (bestL o l) x := by simp [bestL]
theorem tR {hs : List Hv} {k : Nat} (hk : k < hs.length) : (hs.take (k + 1)).map Hv.dat = (hs.take k).map Hv.dat ++ [Hv.dat (hs.getD k default)] := by
  rw [List.take_succ_eq_append_getElem hk, A7 hk, List.map_append]; rfl
def fillE (cs : List Cd) (room : Int) : Hn := if ¬ cardsE cs room = 0 then ([], 0, cardsE cs room) else ((bestL ordF (handsK cs room (2 ^ cs.length))).1.1, (bestL ordF (handsK cs room (2 ^ cs.length))).1.2.2, 0)
def exactL (cs : List Cd) (room : Int) : Hn × Bool := bestL ordX ((handsK cs room (2 ^ cs.length)).filter fun x => decide (x.2.1 = room))
def exactE (cs : List Cd) (room : Int) : List Int × Int := if ¬ cardsE cs room = 0 then ([], cardsE cs room) else if (exactL cs room).2 = false then ([], 11) else ((exactL cs room).1.1, 0)
theorem bx8 {A : Option Addr} {ca : Nat} (cs : List Cd) (room : Int) (hn : cs.length ≤ 1000000) : Meets Tryz.prog F.sR [.slice A cs.length ca, int room] { LI := [Row A (rows cs)], val := fun x : OutC => .tuple #[.slice x.1 (fillE cs room).1.length x.2, int (fillE cs room).2.1, int (fillE cs room).2.2], LO := fun x => [Row x.1 (rows (fillE cs room).1)] } := by
 refine i9 F.mx4 rfl r6 fun w0 => ?_; refine i8 (d5 rfl (d5 rfl (d5 rfl (d8 (j4 (i8 (c7 rfl (c7 rfl ?_)))))))); refine k5 F.vN rfl rfl (pK cs room hn) p6 mC fun _ _ => ?_; refine d5 rfl (k8 (c7 rfl (N5 rfl rfl rfl (d8 ?_))))
 first | refine m3 rfl (fun hb1 => ?_) (fun hb1 => ?_) | refine j7 rfl (fun hb1 => ?_) (fun hb1 => ?_)
 ·have hb1' := hb1; try simp at hb1'
  refine i8 (c7 rfl (d5 rfl (d5 rfl (d5 rfl (d8 (N4 ?_)))))); refine C3 (α := Int) ?_; exact ret3 (none, 0) rfl rfl rfl rfl (by show Value.tuple #[.slice none (fillE cs room).1.length 0, int (fillE cs room).2.1, int (fillE cs room).2.2] = _; rw [fillE, if_pos hb1]; rfl) rfl trivial nil_sb (by show LSub _ [Row none (rows (fillE cs room).1)]; rw [fillE, if_pos hb1]; exact ⟨m0, trivial⟩)
 have hb1' := hb1; try simp at hb1'
 have h0 : cardsE cs room = 0 := Classical.not_not.1 hb1; obtain ⟨hn8, hcd, hr0, hr1⟩ := uq1 h0; refine k6 (j6 (i8 ?_)); refine u4 _ rfl rfl (fun _ => T.N2 ..) ?_; refine y9 rfl (fun _ => T.P4 _) fun gB => ?_; refine w4 (cs := offA ((⟨none, 0, []⟩, 0, 0) : Hv) false F.Z8) rfl rfl (.refl _) T.O5 (by rfl) (by rfl) ?_; refine d8 (j4 (i8 (c7 rfl (c7 rfl ?_)))); refine k5 F.hq6 rfl rfl (aj4 cs room hn8 hcd) p6 mC fun x hx => ?_; obtain ⟨hs, ⟨na, nc⟩, og⟩ := x; obtain ⟨hd, hG⟩ := hx; simp only at hd hG; have hi8 := tz0 hd hn8; have hll := rq9 hd; have hN2 : 2 ^ cs.length ≤ 256 := Nat.pow_le_pow_right (n := 2) (by omega) hn8; refine tx6 hG (ix2 (α := Int) (l7 rfl T.tM rfl ?_)); refine c7 rfl (d8 (k9 ?_)); refine w3 (β := Nat × Hv × Bool) ⟨fun x => x.1 ≤ hs.length ∧ (x.2.1.dat, x.2.2) = bestL ordF ((hs.take x.1).map Hv.dat) ∧ x.2.1.1.l.length ≤ 8, fun x => [(0, .slice A cs.length ca), (1, int room), (8, .pointer (c8 gB)), (20, .slice na hs.length nc), (21, int hs.length), (22, int x.1)], fun x => [(gB, Obj.cells (offA x.2.1 x.2.2 F.Z8) T.A6 (0, 0))], fun x => [Row na (rows hs), innersF hs Hv.row, x.2.1.row]⟩ (fun x => hs.length - x.1) (0, ((⟨none, 0, []⟩, 0, 0) : Hv), false) ⟨Nat.zero_le _, rfl, Nat.zero_le _⟩ mC (.refl _) mC fun x hx => ?_; obtain ⟨k, y, ok⟩ := x; obtain ⟨hk, ha, hy⟩ := hx; simp only at hk ha hy; refine i8 (B6 rfl rfl rfl (d8 (j4 ?_)))
 first | refine m3 rfl (fun hb2 => ?_) (fun hb2 => ?_) | refine j7 rfl (fun hb2 => ?_) (fun hb2 => ?_)
 ·have hb2' := hb2; try simp at hb2'
  have hk2 : k < hs.length := by omega
  have hx8 := hi8 _ (w7 hk2); refine k6 (j6 (j4 (k9 (i8 ?_)))); refine v6 (α := _) _ _ rfl T.tM T.E4 rfl rfl rfl mB rfl (by omega) (by decide) (u7 rfl T.L5 T.E4 rfl rfl (t5 mB (t9 (by omega))) ?_); refine y9 rfl (fun _ => T.nI _) fun gA => ?_; refine w4 (cs := #[.slice (hs.getD k default).1.a (hs.getD k default).1.l.length (hs.getD k default).1.c, int (hs.getD k default).2.1, int (hs.getD k default).2.2]) rfl rfl (.refl _) T.E4 (by rfl) (by rfl) ?_; refine d8 (j8 ?_); refine B5 (cs := #[.slice (hs.getD k default).1.a (hs.getD k default).1.l.length (hs.getD k default).1.c, int (hs.getD k default).2.1, int (hs.getD k default).2.2]) rfl T.L5 T.E4 rfl mB rfl (qj0 (F := Hv.row (hs.getD k default)) (Fs := hs.map Hv.row) mB (List.mem_map.2 ⟨_, w7 hk2, rfl⟩) ?_); refine k5 F.U0 rfl rfl (P8 tj7 (hs.getD k default) y ok (by omega) (by omega)) (List.Perm.swap _ _ _) mC fun z hz => ?_; obtain ⟨z, zk⟩ := z; obtain ⟨hz, hzi⟩ := hz; refine d4 (y6 (j6 (j8 ?_))); refine v4 _ rfl rfl rfl rfl r5 ?_; refine c7 rfl (d4 ?_)
  rcases hzi with rfl | rfl
  · exact again _ (k + 1, (hs.getD k default), zk) ⟨by show k + 1 ≤ hs.length; omega, by show ((hs.getD k default).dat, zk) = bestL ordF ((hs.take (k + 1)).map Hv.dat); rw [tR hk2, sS, ← ha]; exact hz, by first | exact hy | exact Nat.le_trans hx8 (Nat.le_refl _)⟩ (D5 (by omega)) mC (by first | exact .cons_cons _ nil_sb | exact .cons _ (.refl _)) mC
  exact again _ (k + 1, z, zk) ⟨by show k + 1 ≤ hs.length; omega, by show (z.dat, zk) = bestL ordF ((hs.take (k + 1)).map Hv.dat); rw [tR hk2, sS, ← ha]; exact hz, by first | exact hy | exact Nat.le_trans hx8 (Nat.le_refl _)⟩ (D5 (by omega)) mC (by first | exact .cons_cons _ nil_sb | exact .cons _ (.refl _)) mC
 have hb2' := hb2; try simp at hb2'
 have hk2 : k = hs.length := by omega
 rw [hk2, List.take_length, hd] at ha; refine u9 (D6 (u5 (j6 (j4 ?_)))); refine I5 7 mixed (by decide) (by decide) rfl rfl ?_
 apply m8 _ rfl rfl rfl
 ·intro w1
  first | refine a9 ⟨_, 0, none⟩ rfl rfl T.m9 rfl ?_ | refine a9 _ rfl rfl T.m9 rfl ?_
  refine d4 ?_; exact k4 rfl
 apply m8 _ rfl rfl rfl
 ·intro w1
  first | refine a9 ⟨_, 0, none⟩ rfl rfl T.v7 rfl ?_ | refine a9 _ rfl rfl T.v7 rfl ?_
  refine d4 ?_; exact k4 rfl
 apply m8 _ rfl rfl rfl
 ·intro w1
  first | refine b8 rfl T.i7 rfl (j3 mB rfl) ?_ | refine b8 rfl T.i7 rfl (j0 mB rfl) ?_ | refine b8 rfl T.i7 rfl (d6 mB (c9 (by omega) rfl)) ?_ | refine b8 rfl T.i7 rfl (d7 mB (rows_get (by omega) rfl)) ?_ | refine b8 rfl T.i7 rfl (j5 mB rfl) ?_
  refine d4 ?_; exact k4 rfl
 apply m8 _ rfl rfl rfl
 ·intro w1
  first | refine a9 ⟨_, 0, none⟩ rfl rfl T.m9 rfl ?_ | refine a9 _ rfl rfl T.m9 rfl ?_
  refine d4 ?_; exact k4 rfl
 apply m8 _ rfl rfl rfl
 ·intro w1
  first | refine a9 ⟨_, 2, none⟩ rfl rfl T.w5 rfl ?_ | refine a9 _ rfl rfl T.w5 rfl ?_
  refine d4 ?_; exact k4 rfl
 apply m8 _ rfl rfl rfl
 ·intro w1
  first | refine b8 rfl T.b9 rfl (j3 mB rfl) ?_ | refine b8 rfl T.b9 rfl (j0 mB rfl) ?_ | refine b8 rfl T.b9 rfl (d6 mB (c9 (by omega) rfl)) ?_ | refine b8 rfl T.b9 rfl (d7 mB (rows_get (by omega) rfl)) ?_ | refine b8 rfl T.b9 rfl (j5 mB rfl) ?_
  refine d4 ?_; exact k4 rfl
 refine l9 (fun w1 => d5 rfl (q_z rfl)) ?_; refine D1 ⟨rfl, ?_⟩; refine d5 rfl (d5 rfl (d8 (l5 ?_))); have hE : fillE cs room = (y.1.l, y.2.2, 0) := by rw [fillE, if_neg (Classical.not_not.2 h0), ← ha]; rfl
 exact ret3 (y.1.a, y.1.c) rfl rfl rfl rfl (by show Value.tuple #[.slice y.1.a (fillE cs room).1.length y.1.c, int (fillE cs room).2.1, int (fillE cs room).2.2] = _; rw [hE] <;> rfl) rfl trivial nil_sb (by show LSub _ [Row y.1.a (rows (fillE cs room).1)]; rw [hE]; exact mC)
end Go.Proofs.YtcdopfjiadifhaaGreatDoor
end
section
namespace Go.Proofs.YtcdopfjiadifhaaGreatDoor
open Go Go.W
set_option maxRecDepth 20000
attribute [local irreducible] HL HC HQ HB Row Rows2 Blk Facts
def streetsE (c : Ch) (ss : List Int) (xs : List Ad) : List Int × Int := if ¬ chkS c ss xs = 0 then ([], chkS c ss xs) else (discK c ss xs 10, 0)
def ctrC : Ch := (10, 25, 5, 40, 10, 2)
def ctrA : List Ad := [(0, 1, 1), (1, 2, 2), (2, 3, 3)]
def kZ : List Cd := [(2, 30), (3, 50), (4, 60)]
theorem xK : Meets Tryz.prog F.qY [] { val := fun g : Nat => .slice (c8 g) 3 3, LO := fun g => [Row (c8 g) (rows kZ)] } := by
 refine i9 F.gz1 rfl r6 fun w0 => ?_; refine i8 (d5 rfl (k8 ?_)); refine u4 _ rfl rfl (fun _ => T.dB ..) (u4 _ rfl rfl (fun _ => T.dB ..) (u4 _ rfl rfl (fun _ => T.dB ..) ?_)); refine q7 _ rfl rfl (fun _ => T.bx2 ..) fun gS => ?_; refine d5 rfl (d8 (l5 ?_)); refine E5 (rows kZ) (List.prefix_refl _) ?_; exact ret1 gS rfl rfl rfl trivial nil_sb ⟨m0, trivial⟩
theorem xJ : Meets Tryz.prog F.qX [] { val := fun g : Nat => .slice (c8 g) 6 6, LO := fun g => [Row (c8 g) (rows ([5, 9, 4, 7, 6, 9] : List Int))] } := by
 refine i9 F.gz0 rfl r6 fun w0 => ?_; refine i8 (d5 rfl (k8 ?_)); refine q7 _ rfl rfl (fun _ => T.rz7 ..) fun gS => ?_; refine d5 rfl (d8 (l5 ?_)); refine E5 (rows ([5, 9, 4, 7, 6, 9] : List Int)) (List.prefix_refl _) ?_; exact ret1 gS rfl rfl rfl trivial nil_sb ⟨m0, trivial⟩
end Go.Proofs.YtcdopfjiadifhaaGreatDoor
end
section
namespace Go.Proofs.YtcdopfjiadifhaaGreatDoor
open Go Go.W
set_option maxRecDepth 20000
attribute [local irreducible] HL HC HQ HB Row Rows2 Blk Facts
abbrev ctrP (g : Nat) : Sl Int := ⟨some ⟨g, 0, none⟩, 3, [0, 0, 3]⟩
abbrev ctrQ (g : Nat) : Sl Ad := ⟨some ⟨g, 0, none⟩, 3, ctrA⟩
def someA : List Ad := [(0, 1, 1), (2, 3, 3)]
abbrev someQ (g : Nat) : Sl Ad := ⟨some ⟨g, 0, none⟩, 2, someA⟩
theorem dE : Meets Tryz.prog F.jT [] { val := fun x : Nat × Nat => saV ctrC (ctrP x.1) (ctrQ x.2), LO := fun x => saL (ctrP x.1) (ctrQ x.2) } := by
 refine i9 F.bq1 rfl r6 fun w0 => ?_; refine i8 ?_; refine y9 rfl (fun _ => T.H5 _) fun g0 => ?_; refine k8 ?_; refine u4 _ rfl rfl (fun _ => T.N3 ..) ?_; refine q7 _ rfl rfl (fun _ => T.gE ..) fun gp => ?_; refine C6 (rows ([0, 0, 3] : List Int)) (List.prefix_refl _) (u4 _ rfl rfl (fun _ => T.D3 ..) (u4 _ rfl rfl (fun _ => T.D3 ..) (u4 _ rfl rfl (fun _ => T.D3 ..) ?_))); refine q7 _ rfl rfl (fun _ => T.yB ..) fun gq => ?_; refine C6 (rows ctrA) (List.prefix_refl _) (u4 _ rfl rfl (fun _ => T.wB ..) ?_); refine w4 rfl rfl (by first | exact .refl _ | exact perm2 _ _ _ | exact perm3 _ _ _ _ | exact perm4 _ _ _ _ _) T.j9 (by rfl) (by rfl) ?_; refine d8 (l5 ?_); exact rY (gp, gq) rfl rfl T.k7 T.j9 rfl m0 rfl rfl trivial nil_sb mC
theorem zQ : Meets Tryz.prog F.uW [] { val := fun x : Nat × Nat => saV ctrC (ctrP x.1) (someQ x.2), LO := fun x => saL (ctrP x.1) (someQ x.2) } := by
 refine i9 F.jz7 rfl r6 fun w0 => ?_; refine i8 ?_; refine y9 rfl (fun _ => T.H5 _) fun g0 => ?_; refine k8 ?_; refine k5 F.lA rfl rfl (dE) p6 trivial fun x _ => ?_; obtain ⟨gp, gq⟩ := x; refine y9 rfl (fun _ => T.H5 _) fun g1 => ?_; refine w4 (cs := #[int 10, int 25, int 5, int 40, int 10, int 2, .slice (c8 gp) 3 3, .slice (c8 gq) 3 3]) rfl rfl (.refl _) T.j9 (by rfl) (by rfl) ?_; refine d8 (j4 ?_); refine I5 8 mixed (by decide) (by decide) rfl rfl ?_
 apply m8 _ rfl rfl rfl
 ·intro w1
  first | refine a9 ⟨_, 7, none⟩ rfl rfl T.l4 rfl ?_ | refine a9 _ rfl rfl T.l4 rfl ?_
  refine d4 ?_; exact k4 rfl
 refine l9 (fun w1 => b8 (v := .slice (c8 gq) 3 3) rfl T.d9 rfl (j3 mB rfl) (q_z rfl)) (l9 (fun w1 => v6 (α := Ad) ctrA 0 rfl T.w8 T.m4 rfl rfl rfl mB rfl (by decide) (by decide) (q_z rfl)) (l9 (fun w1 => u7 (cs := [int 0, int 1, int 1]) rfl T.r8 T.m4 rfl rfl (t5 mB (t9 (l := ctrA) (i := 0) (by decide))) (q_z rfl)) ?_))
 apply m8 _ rfl rfl rfl
 ·intro w1
  first | refine a9 ⟨_, 7, none⟩ rfl rfl T.l4 rfl ?_ | refine a9 _ rfl rfl T.l4 rfl ?_
  refine d4 ?_; exact k4 rfl
 refine l9 (fun w1 => b8 (v := .slice (c8 gq) 3 3) rfl T.d9 rfl (j3 mB rfl) (q_z rfl)) (l9 (fun w1 => v6 (α := Ad) ctrA 2 rfl T.w8 T.m4 rfl rfl rfl mB rfl (by decide) (by decide) (q_z rfl)) (l9 (fun w1 => u7 (cs := [int 2, int 3, int 3]) rfl T.r8 T.m4 rfl rfl (t5 mB (t9 (l := ctrA) (i := 2) (by decide))) (q_z rfl)) ?_)); refine D1 ⟨rfl, ?_⟩; refine q7 _ rfl rfl (fun _ => T.yC ..) fun gr => ?_; refine C6 (rows someA) (List.prefix_refl _) ?_
 first | refine a9 ⟨_, 7, none⟩ rfl rfl T.l4 rfl ?_ | refine a9 _ rfl rfl T.l4 rfl ?_
 refine z9 rfl rfl (.refl _) T.K2 rfl rfl ?_; refine k8 ?_; refine B5 (cs := #[int 10, int 25, int 5, int 40, int 10, int 2, .slice (c8 gp) 3 3, .slice (c8 gr) 2 2]) rfl T.k7 T.j9 rfl m0 rfl (w4 (cs := #[int 10, int 25, int 5, int 40, int 10, int 2, .slice (c8 gp) 3 3, .slice (c8 gr) 2 2]) rfl rfl (List.Perm.swap _ _ _) T.j9 (by rfl) (by rfl) ?_); refine d8 (l5 ?_); exact rY (gp, gr) rfl rfl T.k7 T.j9 rfl m0 rfl rfl trivial nil_sb mC
def shopsC : List Cl := [([102, 111, 111, 100], -1), ([98, 114, 101, 97, 100], 0), ([99, 108, 111, 116, 104], -1), ([104, 97, 116, 115], 2)]
def shopsH (g1 g2 : Nat) : List Hd := [([98, 97, 107, 101, 114], 1, -1, ⟨none, 0, []⟩), ([98, 111, 110, 110, 101, 116, 115], -1, 3, ⟨none, 0, []⟩), ([99, 111, 110, 102, 101, 99, 116, 105, 111, 110, 101, 114], 0, -1, ⟨some ⟨g1, 0, none⟩, 1, [0]⟩), ([104, 97, 116, 116, 101, 114], 3, -1, ⟨none, 0, []⟩), ([109, 101, 114, 99, 101, 114], 2, -1, ⟨some ⟨g2, 0, none⟩, 1, [3]⟩), ([109, 105, 108, 108, 105, 110, 101, 114], -1, 1, ⟨none, 0, []⟩)]
set_option maxHeartbeats 1000000 in
theorem xI : Meets Tryz.prog F.qW [] { val := fun x : Nat × Nat × Nat × Nat => .agg #[.slice (some ⟨x.1, 0, none⟩) 4 4, .slice (some ⟨x.2.1, 0, none⟩) 6 6], LO := fun x => [Row (some ⟨x.1, 0, none⟩) (rows shopsC), RowsF (some ⟨x.2.1, 0, none⟩) (shopsH x.2.2.1 x.2.2.2) Hd.row] } := by
 refine i9 F.gx9 rfl r6 fun w0 => ?_; refine i8 ?_; refine y9 rfl (fun _ => T.hx6 _) fun g0 => ?_; refine k8 ?_; refine u4 _ rfl rfl (fun _ => T.bX ..) ?_; refine u4 _ rfl rfl (fun _ => T.gj6 ..) ?_; refine u4 _ rfl rfl (fun _ => T.bX ..) ?_; refine u4 _ rfl rfl (fun _ => T.bX ..) ?_; refine q7 _ rfl rfl (fun _ => T.aj0 ..) fun gC => ?_; refine C6 (rows shopsC) (List.prefix_refl _) ?_; refine u4 _ rfl rfl (fun _ => T.V3 ..) ?_; refine u4 _ rfl rfl (fun _ => T.V3 ..) ?_; refine q7 _ rfl rfl (fun _ => T.Z7 ..) fun g1 => ?_; refine C6 (rows [(0 : Int)]) (List.prefix_refl _) ?_; refine u4 _ rfl rfl (fun _ => T.yP ..) ?_; refine u4 _ rfl rfl (fun _ => T.V3 ..) ?_; refine q7 _ rfl rfl (fun _ => T.Z7 ..) fun g2 => ?_; refine C6 (rows [(3 : Int)]) (List.prefix_refl _) ?_; refine u4 _ rfl rfl (fun _ => T.tJ ..) ?_; refine u4 _ rfl rfl (fun _ => T.V3 ..) ?_; refine q7 _ rfl rfl (fun _ => T.bx1 ..) fun gH => ?_; refine C6 (rows (shopsH g1 g2)) (List.prefix_refl _) ?_; refine u4 _ rfl rfl (fun _ => T.yO ..) ?_; refine w4 rfl rfl (by first | exact .refl _ | exact perm2 _ _ _ | exact perm3 _ _ _ _ | exact perm4 _ _ _ _ _) T.v9 (by rfl) (by rfl) ?_; refine d8 (l5 ?_); refine C3 (α := Int) ?_; refine dq2 (Fs := (shopsH g1 g2).map Hd.row) (by intro F hF; left; simp only [shopsH, List.map_cons, List.map_nil, List.mem_cons, List.not_mem_nil, or_false] at hF; rcases hF with rfl | rfl | rfl | rfl | rfl | rfl <;> repeat constructor) ?_; refine tx5 (A := some ⟨gH, 0, none⟩) (ps := shopsH g1 g2) (f := Hd.row) mB m0 ?_; exact rY (gC, gH, g1, g2) rfl rfl T.v5 T.v9 rfl m0 rfl rfl trivial nil_sb ⟨mB, m0, trivial⟩
end Go.Proofs.YtcdopfjiadifhaaGreatDoor
end
section
namespace Go.Proofs.YtcdopfjiadifhaaGreatDoor
open Go Go.W
set_option maxRecDepth 20000
attribute [local irreducible] HL HC HQ HB Row Rows2 Blk Facts
instance : El Bool where
  default := false
  cells b := [.bool b]
  sz := 1
  len _ := rfl
  one a u h := by simp at h; subst h; rfl
def rdK (p : Int) (l : List Int) : List Bool := l.map fun v => decide (0 ≤ v ∧ v ≤ p)
theorem sz2 {p : Int} {l : List Int} {k : Nat} (hk : k < l.length) : rdK p (l.take (k + 1)) = rdK p (l.take k) ++ [decide (0 ≤ l.getD k default ∧ l.getD k default ≤ p)] := by
  unfold rdK; rw [List.take_succ_eq_append_getElem hk, A7 hk, List.map_append]; rfl
theorem px6 (p : Int) (l : List Int) : (rdK p l).length = l.length := by simp [rdK]
def reachK (t : Tr) (p : Int) (k : Nat) : List (List Bool) := (List.range k).map fun i : Nat => rdK p (stepsE t (i : Int)).1
theorem lq9 (t : Tr) (p : Int) (k : Nat) : reachK t p (k + 1) = reachK t p k ++ [rdK p (stepsE t (k : Int)).1] := by
  unfold reachK; rw [List.range_succ, List.map_append]; rfl
abbrev N0 : Sl Bool := ⟨none, 0, []⟩
theorem ux0 {ps r : List (Sl Bool)} {x : Sl Bool} {i : Nat} (h : ps.length = i) : (ps ++ x :: r).getD i default = x := by
  subst h; simp [List.getD_eq_getElem?_getD]
theorem set_cur {ps r : List (Sl Bool)} {x y : Sl Bool} {i : Nat} (h : ps.length = i) : (ps ++ x :: r).set i y = ps ++ y :: r := by
  subst h; simp
theorem vJ {A B : Option Addr} {ca cb : Nat} (cs : List Cl) (hs : List Hd) (p : Int) (hca : cs.length ≤ ca) (hcb : hs.length ≤ cb) (ha : ∀ h ∈ hs, h.2.2.2.l.length ≤ 1000000) (hn : hs.length ≤ 1000000) (hst : ∀ i : Nat, (stepsE (trOf cs hs) (i : Int)).1.length ≤ 1000000) : Meets Tryz.prog F.mZ [.agg #[.slice A cs.length ca, .slice B hs.length cb], int p] { LI := [Row A (rows cs), RowsF B hs Hd.row], inv := fun x : Nat × List (Sl Bool) => x.2.length = hs.length ∧ x.2.map (·.l) = reachK (trOf cs hs) p hs.length, val := fun x => .slice (some ⟨x.1, 0, none⟩) hs.length hs.length, LO := fun x => [Row (some ⟨x.1, 0, none⟩) (rows x.2), innerF x.2] } := by
 refine i9 F.dz8 rfl r6 fun w0 => ?_; refine i8 ?_; refine H6 rfl rfl fun gB => ?_; refine d5 rfl (d8 (j4 (Z5 (j8 ?_))))
 first | refine a9 ⟨_, 1, none⟩ rfl rfl T.t3 rfl ?_ | refine a9 _ rfl rfl T.t3 rfl ?_
 refine b8 (v := .slice B hs.length cb) rfl T.m6 rfl (j3 mB rfl) (l7 rfl T.B4 rfl ?_); refine jx5 (α := Sl Bool) (n := hs.length) (bytes := 24) (z := .slice none 0 0) N0 rfl T.gN (by kernel_rfl) rfl rfl rfl rfl (by omega) (by omega) fun go => ?_; refine d5 rfl (d8 (j4 (i8 (c7 rfl ?_)))); refine l7 rfl T.gN rfl ?_; refine c7 rfl (d8 (k9 ?_)); refine mj3 (Fs := ([] : List (Sl Bool)).map fun p => Row p.a (rows p.l)) (by intro F hF; cases hF) ?_; refine w3 (β := Nat × List (Sl Bool)) ⟨fun x => x.1 ≤ hs.length ∧ x.2.length = x.1 ∧ x.2.map (·.l) = reachK (trOf cs hs) p x.1, fun x => [(1, int p), (2, .pointer (c8 gB)), (5, .slice (c8 go) hs.length hs.length), (16, int hs.length), (17, int x.1)], fun x => [(go, Obj.cells (rows (x.2 ++ List.replicate (hs.length - x.1) N0)).toArray T.dC (0, 0))], fun x => [Blk gB (Obj.cells #[.slice A cs.length ca, .slice B hs.length cb] T.C2 (0, 0)), Row A (rows cs), RowsF B hs Hd.row, innerF x.2]⟩ (fun x => hs.length - x.1) (0, []) ⟨Nat.zero_le _, rfl, rfl⟩ mC (.refl _) mC fun x hx => ?_; obtain ⟨i, ps⟩ := x; obtain ⟨hi, hpl, hpm⟩ := hx; simp only at hi hpl hpm; have hs1 := hst i; refine i8 (B6 rfl rfl rfl (d8 (j4 ?_)))
 first | refine m3 rfl (fun hb1 => ?_) (fun hb1 => ?_) | refine j7 rfl (fun hb1 => ?_) (fun hb1 => ?_)
 ·have hb1' := hb1; try simp at hb1'
  have hi2 : i < hs.length := by omega
  obtain ⟨q, hq⟩ : ∃ q, hs.length - i = q + 1 := ⟨hs.length - i - 1, by omega⟩; refine k6 (j6 (j4 (k9 (i8 (c7 rfl (d5 rfl (k8 ?_))))))); refine C1 (cs := #[.slice A cs.length ca, .slice B hs.length cb]) rfl T.v5 T.v9 rfl mB rfl (c7 rfl ?_); refine k5 F.cq1 rfl rfl (wN cs hs (i : Int) hca hcb ha) p6 mC fun x hx => ?_; obtain ⟨xa, xc⟩ := x; refine c7 rfl (p8 rfl rfl rfl (p8 rfl rfl rfl (d5 rfl (d5 rfl (k8 (c7 rfl ?_)))))); refine l7 rfl T.t7 rfl ?_; refine c7 rfl (d8 (k9 ?_)); refine mS (hp' := [(go, Obj.cells (rows (ps ++ N0 :: List.replicate q N0)).toArray T.dC (0, 0))]) (by show List.Perm [(go, Obj.cells (rows (ps ++ List.replicate (hs.length - i) N0)).toArray T.dC (0, 0))] _; rw [hq]; exact .refl _) ?_; refine w3 (β := Nat × OutC × Hp) ⟨fun x => x.1 ≤ (stepsE (trOf cs hs) (i : Int)).1.length ∧ Grow T.bool 1 x.2.1.1 (rdK p ((stepsE (trOf cs hs) (i : Int)).1.take (x.1))).length x.2.1.2 (rows (rdK p ((stepsE (trOf cs hs) (i : Int)).1.take (x.1)))) x.2.2, fun x => [(1, int p), (2, .pointer (c8 gB)), (5, .slice (c8 go) hs.length hs.length), (6, int i), (16, int hs.length), (17, int i), (26, .slice xa (stepsE (trOf cs hs) (i : Int)).1.length xc), (27, int (stepsE (trOf cs hs) (i : Int)).1.length), (28, int x.1)], fun x => (go, Obj.cells (rows (ps ++ ⟨x.2.1.1, x.2.1.2, (rdK p ((stepsE (trOf cs hs) (i : Int)).1.take (x.1)))⟩ :: List.replicate q N0)).toArray T.dC (0, 0)) :: x.2.2, fun _ => [Row xa (rows (stepsE (trOf cs hs) (i : Int)).1), Blk gB (Obj.cells #[.slice A cs.length ca, .slice B hs.length cb] T.C2 (0, 0)), Row A (rows cs), RowsF B hs Hd.row, innerF ps]⟩ (fun x => (stepsE (trOf cs hs) (i : Int)).1.length - x.1) (0, (none, 0), []) ⟨Nat.zero_le _, Grow.nil _ _⟩ mC (.refl _) mC fun x hx => ?_; obtain ⟨j, ⟨na, nc⟩, og⟩ := x; obtain ⟨hj, hG⟩ := hx; simp only at hj hG; have hlen : (rdK p ((stepsE (trOf cs hs) (i : Int)).1.take (j))).length ≤ j := by rw [px6, List.length_take]; exact Nat.min_le_left _ _
  refine i8 (B6 rfl rfl rfl (d8 (j4 ?_)))
  first | refine m3 rfl (fun hb2 => ?_) (fun hb2 => ?_) | refine j7 rfl (fun hb2 => ?_) (fun hb2 => ?_)
  ·have hb2' := hb2; try simp at hb2'
   have hj2 : j < (stepsE (trOf cs hs) (i : Int)).1.length := by omega
   have hbs := sz2 (p := p) hj2; refine k6 (j6 (j4 (k9 (i8 ?_)))); refine v6 (α := Int) _ _ rfl T.t7 T.w9 rfl rfl rfl mB rfl (by omega) (by decide) (b8 rfl T.b9 rfl (d6 mB (c9 (by omega) rfl)) ?_); refine d5 rfl (d8 ?_); refine S6 (og) ([(go, Obj.cells (rows (ps ++ ⟨na, nc, (rdK p ((stepsE (trOf cs hs) (i : Int)).1.take (j)))⟩ :: List.replicate q N0)).toArray T.dC (0, 0))]) (List.perm_append_comm (l₁ := [_]) (l₂ := og)) 11 [10] mixed (by decide) (by decide) (by decide) rfl rfl rfl (l9 (fun w1 => c7 rfl (q_z rfl)) (l9 (fun w1 => c7 rfl (q_z rfl)) (l9 (fun w1 => c7 rfl (q_z rfl)) (l9 (fun w1 => c7 rfl (q_z rfl)) (l9 (fun w1 => y0 i (0 + i * 1) rfl T.gN T.rX rfl rfl rfl (by omega) rfl (q_z rfl)) ?_))))); refine l9 (fun w1 => b8 (v := .slice na (rdK p ((stepsE (trOf cs hs) (i : Int)).1.take (j))).length nc) rfl T.az5 rfl (iz5 (α := Sl Bool) (k := i) (f := 0) mB (by show 0 + i * 1 = i * 1 + 0; omega) (by rw [List.length_append, hpl]; simp) (by rw [ux0 hpl]; rfl)) (q_z rfl)) ?_; refine l9 (fun w1 => c7 rfl (q_z rfl)) (l9 (fun w1 => c7 rfl (q_z rfl)) ?_); refine l9 (fun w1 => k5 F.y8 rfl rfl (u3 _ _ _) p6 trivial fun _ _ => (q_z rfl)) ?_; refine X9 ⟨Nat, fun _ => True, fun g1 => .slice (c8 g1) 1 1, fun g1 => [Row (c8 g1) (rows [(decide (0 ≤ (stepsE (trOf cs hs) (i : Int)).1.getD j default ∧ (stepsE (trOf cs hs) (i : Int)).1.getD j default ≤ p))])]⟩ rfl rfl rfl ?_ ?_
   ·intro w1; refine q7 _ rfl rfl (fun _ => T.mq7 ..) fun gS => ?_; refine d4 ?_; refine E5 (rows [(decide (0 ≤ (stepsE (trOf cs hs) (i : Int)).1.getD j default ∧ (stepsE (trOf cs hs) (i : Int)).1.getD j default ≤ p))]) (List.prefix_refl _) ?_; exact J4 gS trivial rfl ⟨m0, trivial⟩
   refine iZ ⟨OutC × Hp, fun x => Grow T.bool 1 x.1.1 ((rdK p ((stepsE (trOf cs hs) (i : Int)).1.take (j))).length + 1) x.1.2 (rows ((rdK p ((stepsE (trOf cs hs) (i : Int)).1.take (j))) ++ [(decide (0 ≤ (stepsE (trOf cs hs) (i : Int)).1.getD j default ∧ (stepsE (trOf cs hs) (i : Int)).1.getD j default ≤ p))])) x.2, fun x => .slice x.1.1 ((rdK p ((stepsE (trOf cs hs) (i : Int)).1.take (j))).length + 1) x.1.2, fun _ => [], fun x => x.2⟩ rfl rfl rfl ?_ ?_
   ·intro g1 _; intro w1; refine O7 (hp' := []) ((rdK p ((stepsE (trOf cs hs) (i : Int)).1.take (j))).length + 1) (rows ((rdK p ((stepsE (trOf cs hs) (i : Int)).1.take (j))) ++ [(decide (0 ≤ (stepsE (trOf cs hs) (i : Int)).1.getD j default ∧ (stepsE (trOf cs hs) (i : Int)).1.getD j default ≤ p))])) T.rx4 rfl rfl rfl hG (by rw [List.append_nil]) (Src.row (news := rows [(decide (0 ≤ (stepsE (trOf cs hs) (i : Int)).1.getD j default ∧ (stepsE (trOf cs hs) (i : Int)).1.getD j default ≤ p))]) (m := 1) mB rfl (K5 _) (by decide)) rfl (D2 _ _).symm (by unfold maxLen; omega) (by omega) fun A' c' og' hG' => ?_; refine d4 ?_; exact O8 ((A', c'), og') hG' (fun _ => rfl) (List.sublist_append_left _ _) trivial
   refine D1 ⟨rfl, ?_⟩; intro g1 _ y hy; obtain ⟨⟨A', c'⟩, og'⟩ := y; refine y0 i (0 + i * 1) rfl T.gN T.rX rfl rfl rfl (by omega) rfl ?_; refine kR (α := Sl Bool) (k := i) (f := 0) (hp' := og') ⟨A', c', (rdK p ((stepsE (trOf cs hs) (i : Int)).1.take (j))) ++ [(decide (0 ≤ (stepsE (trOf cs hs) (i : Int)).1.getD j default ∧ (stepsE (trOf cs hs) (i : Int)).1.getD j default ≤ p))]⟩ rfl (by show 0 + i * 1 = i * 1 + 0; omega) rfl (List.perm_append_comm (l₁ := og') (l₂ := [_])) T.rX (by rw [List.length_append, hpl]; simp) (by decide) (by rw [ux0 hpl]; show [_] = [_]; rw [List.length_append]; rfl) rfl ?_; rw [set_cur hpl]; refine d4 (y6 (j6 (j8 ?_))); refine v4 _ rfl rfl rfl rfl r5 ?_; refine c7 rfl (d4 ?_); exact again _ (j + 1, (A', c'), og') ⟨by show j + 1 ≤ _; omega, by show Grow T.bool 1 A' (rdK p ((stepsE (trOf cs hs) (i : Int)).1.take (j + 1))).length c' (rows (rdK p ((stepsE (trOf cs hs) (i : Int)).1.take (j + 1)))) og'; rw [hbs, List.length_append]; exact hy⟩ (D5 (by omega)) mC (by show List.Sublist ((go, Obj.cells (rows (ps ++ ⟨A', c', (rdK p ((stepsE (trOf cs hs) (i : Int)).1.take (j + 1)))⟩ :: List.replicate q N0)).toArray T.dC (0, 0)) :: og') _; rw [hbs]; exact .refl _) mC
  have hb2' := hb2; try simp at hb2'
  have hj2 : j = (stepsE (trOf cs hs) (i : Int)).1.length := by omega
  subst hj2; refine u9 (D6 (u5 (y6 (j6 (j8 ?_))))); refine v4 _ rfl rfl rfl rfl r5 ?_; refine c7 rfl (d4 ?_); refine R8 (hp' := og ++ [(go, Obj.cells (rows (ps ++ ⟨na, nc, (rdK p ((stepsE (trOf cs hs) (i : Int)).1.take ((stepsE (trOf cs hs) (i : Int)).1.length)))⟩ :: List.replicate q N0)).toArray T.dC (0, 0))]) (List.perm_append_comm (l₁ := [_]) (l₂ := og)) (xR hG ?_); refine dq2 (ax8 (p := ((⟨na, nc, (rdK p ((stepsE (trOf cs hs) (i : Int)).1.take ((stepsE (trOf cs hs) (i : Int)).1.length)))⟩) : Sl Bool)) (ps := ps) (f := fun p => Row p.a (rows p.l)) mB mB) ?_; exact again _ (i + 1, ps ++ [⟨na, nc, (rdK p ((stepsE (trOf cs hs) (i : Int)).1.take ((stepsE (trOf cs hs) (i : Int)).1.length)))⟩]) ⟨by show i + 1 ≤ hs.length; omega, by show (ps ++ [_]).length = i + 1; simp [hpl], by show (ps ++ [_]).map (fun x : Sl Bool => x.l) = _; rw [lq9, List.map_append, hpm]; show _ ++ [rdK p (List.take _ _)] = _; rw [List.take_length]⟩ (D5 (by omega)) mC (by show List.Sublist [(go, Obj.cells (rows ((ps ++ [⟨na, nc, (rdK p ((stepsE (trOf cs hs) (i : Int)).1.take ((stepsE (trOf cs hs) (i : Int)).1.length)))⟩]) ++ List.replicate (hs.length - (i + 1)) N0)).toArray T.dC (0, 0))] _; rw [List.append_assoc, show hs.length - (i + 1) = q by omega]; exact .refl _) mC
 have hb1' := hb1; try simp at hb1'
 have hi2 : i = hs.length := by omega
 refine u9 (D6 (u5 (j6 (i8 (c7 rfl (d5 rfl (d8 (l5 ?_)))))))); refine E5 (rows ps) (by show rows ps <+: rows (ps ++ _); rw [D2]; exact List.prefix_append ..) ?_; exact ret1 (go, ps) rfl rfl rfl ⟨hpl.trans hi2, by show ps.map _ = _; rw [hpm, hi2]⟩ nil_sb mC
end Go.Proofs.YtcdopfjiadifhaaGreatDoor
end
section
namespace Go.Proofs.YtcdopfjiadifhaaGreatDoor
open Go Go.W
set_option maxRecDepth 20000
attribute [local irreducible] HL HC HQ HB Row Rows2 Blk Facts
theorem ux4 {l : List Int} {b : Int → Bool} {k : Nat} (hk : k < l.length) (h : (l.take k).any b = false) (h2 : b (l.getD k default) = false) : (l.take (k + 1)).any b = false := by
  rw [List.take_succ_eq_append_getElem hk, ← A7 hk, List.any_append, h]
  simpa using h2
theorem dK {A : Option Addr} {cp f : Nat} {cap : List Value} {L0 : List Fact} (l : List Int) (b : Int → Bool) (hl : l.length ≤ 1000000) (hcb : Callable Tryz.prog f) (hm : ∀ x ∈ l, Meets Tryz.prog f ([int x] ++ cap) { LI := L0, val := fun _ : Unit => .bool (b x) }) : Meets Tryz.prog F.U7 [.slice A l.length cp, .func (.func f) #[] cap.toArray] { LI := Row A (rows l) :: L0, inv := fun z : Int => (0 ≤ z ↔ l.any b = true), val := fun z => int z } := by
 refine i9 F.kM rfl r6 fun w0 => ?_; refine i8 (d5 rfl (d8 (j4 (i8 (c7 rfl ?_))))); refine l7 rfl T.t7 rfl ?_; refine c7 rfl (d8 (k9 ?_)); refine w3 (β := Nat) ⟨fun k => k ≤ l.length ∧ (l.take k).any b = false, fun k => [(0, .slice A l.length cp), (1, .func (.func f) #[] cap.toArray), (7, int l.length), (8, int k)], fun _ => [], fun _ => Row A (rows l) :: L0⟩ (fun k => l.length - k) 0 ⟨Nat.zero_le _, rfl⟩ mC (.refl _) ⟨m0, (LSub.of_mem fun F hF => List.mem_cons_of_mem _ hF)⟩ fun k hk => ?_; obtain ⟨hk, ht⟩ := hk; refine i8 (B6 rfl rfl rfl (d8 (j4 ?_)))
 first | refine m3 rfl (fun hb1 => ?_) (fun hb1 => ?_) | refine j7 rfl (fun hb1 => ?_) (fun hb1 => ?_)
 ·have hb1' := hb1; try simp at hb1'
  have hk2 : k < l.length := by omega
  refine k6 (j6 (j4 (k9 (i8 (c7 rfl (d5 rfl (k8 ?_))))))); refine c7 rfl (c7 rfl (c7 rfl ?_)); refine v6 (α := Int) _ _ rfl T.t7 T.w9 rfl rfl rfl mB rfl (by omega) (by decide) (b8 rfl T.b9 rfl (d6 mB (c9 (by omega) rfl)) ?_); refine W2 (vs := [int (l.getD k default)]) (cap := cap) hcb rfl rfl rfl (hm _ (w7 hk2)) p6 (LSub.of_mem fun F hF => List.mem_cons_of_mem _ hF) fun _ _ => ?_; refine d8 ?_
  first | refine m3 rfl (fun hb2 => ?_) (fun hb2 => ?_) | refine j7 rfl (fun hb2 => ?_) (fun hb2 => ?_)
  ·have hb2' := hb2; try simp at hb2'
   refine i8 (c7 rfl (d5 rfl (d8 (l5 (G8 (C4 (G8 ?_))))))); exact ret1 (k : Int) rfl rfl rfl ⟨fun _ => List.any_eq_true.2 ⟨_, w7 hk2, hb2⟩, fun _ => by omega⟩ nil_sb trivial
  have hb2' := hb2; try simp at hb2'
  refine k6 (y6 (j6 (j8 ?_))); refine v4 _ rfl rfl rfl rfl r5 ?_; refine c7 rfl (d4 ?_); exact again _ (k + 1) ⟨by show k + 1 ≤ l.length; omega, ux4 hk2 ht (by simpa using hb2)⟩ (D5 (by omega)) mC nil_sb ⟨by first | exact m0 | exact List.mem_cons_self .., LSub.of_mem fun F hF => by first | exact List.mem_cons_of_mem _ hF | exact List.mem_append_right _ (List.mem_cons_of_mem _ hF)⟩
 have hb1' := hb1; try simp at hb1'
 have hk2 : k = l.length := by omega
 rw [hk2, List.take_length] at ht; refine u9 (D6 (u5 (j6 (i8 (d5 rfl (d8 (l5 ?_))))))); exact ret1 (-1) rfl rfl rfl ⟨fun h => by omega, fun h => by rw [ht] at h; cases h⟩ (.refl _) trivial
theorem bI {A : Option Addr} {cp f : Nat} {cap : List Value} {L0 : List Fact} (l : List Int) (b : Int → Bool) (hl : l.length ≤ 1000000) (hcb : Callable Tryz.prog f) (hm : ∀ x ∈ l, Meets Tryz.prog f ([int x] ++ cap) { LI := L0, val := fun _ : Unit => .bool (b x) }) : Meets Tryz.prog F.P5 [.slice A l.length cp, .func (.func f) #[] cap.toArray] { LI := Row A (rows l) :: L0, val := fun _ : Unit => .bool (l.any b) } := by
 refine i9 F.gZ rfl r6 fun w0 => ?_; refine i8 (d5 rfl (k8 (c7 rfl (c7 rfl ?_)))); refine k5 F.jP rfl rfl (dK l b hl hcb hm) p6 ⟨m0, (LSub.of_mem fun F hF => List.mem_cons_of_mem _ hF)⟩ fun z hz => ?_; refine X2 rfl rfl rfl (d5 rfl (d8 (l5 ?_))); exact ret1 () rfl (congrArg (fun b => some (Value.bool b)) (by have hz : (0 ≤ z ↔ l.any b = true) := hz; cases e : l.any b <;> simp_all)) rfl trivial nil_sb trivial
theorem vV {g1 g2 : Nat} {A : Option Addr} {c : Nat} (ps : List (Sl Bool)) (v x : Nat) (hv : v < ps.length) (hx : x < (ps.getD v default).l.length) : Meets Tryz.prog F.nE [int x, .pointer (c8 g1), .pointer (c8 g2)] { LI := [Row (c8 g1) (rows [(⟨A, c, ps⟩ : Sl (Sl Bool))]), Row (c8 g2) (rows [(v : Int)]), Row A (rows ps), innerF ps], val := fun _ : Unit => .bool ((ps.getD v default).l.getD x default) } := by
 refine i9 F.gj2 rfl r6 fun w0 => ?_; refine i8 (d5 rfl (k8 ?_)); refine b8 (v := .slice A ps.length c) rfl T.gz7 rfl (d6 (A := some ⟨g1, 0, none⟩) mB (c9 (l := [(⟨A, c, ps⟩ : Sl (Sl Bool))]) (i := 0) Nat.zero_lt_one rfl)) (b8 (v := int v) rfl T.b9 rfl (d6 (A := some ⟨g2, 0, none⟩) mB (c9 (l := [(v : Int)]) (i := 0) Nat.zero_lt_one rfl)) (v6 (α := Sl Bool) ps v rfl T.gN T.rX rfl rfl rfl mB rfl hv (by decide) (b8 (v := .slice (ps.getD v default).a (ps.getD v default).l.length (ps.getD v default).c) rfl T.az5 rfl (d6 mB (c9 hv rfl)) ?_))); refine qj0 (F := Row (ps.getD v default).a (rows (ps.getD v default).l)) (Fs := ps.map fun p => Row p.a (rows p.l)) mB (List.mem_map.2 ⟨_, w7 hv, rfl⟩) ?_; refine c7 rfl (v6 (α := Bool) (ps.getD v default).l x rfl T.sq2 T.rW rfl rfl rfl mB rfl hx (by decide) (b8 (v := .bool ((ps.getD v default).l.getD x default)) rfl T.sO rfl (d6 mB (c9 hx rfl)) ?_)); refine d5 rfl (d8 (l5 ?_)); exact ret1 () rfl rfl rfl trivial nil_sb trivial
end Go.Proofs.YtcdopfjiadifhaaGreatDoor
end
section
namespace Go.Proofs.YtcdopfjiadifhaaGreatDoor
open Go Go.W
set_option maxRecDepth 20000
attribute [local irreducible] HL HC HQ HB Row Rows2 Blk Facts
theorem wO {A B : Option Addr} {ca cb : Nat} (cs : List Cl) (hs : List Hd) (hca : cs.length ≤ ca) (hcb : hs.length ≤ cb) (ha : ∀ h ∈ hs, h.2.2.2.l.length ≤ 1000000) : Meets Tryz.prog F.pZ [.agg #[.slice A cs.length ca, .slice B hs.length cb]] { LI := [Row A (rows cs), RowsF B hs Hd.row], val := fun _ : Unit => int (checkT (trOf cs hs)) } := by
 refine i9 F.gq7 rfl r6 fun w0 => ?_; refine i8 ?_; refine H6 rfl rfl fun gB => ?_; refine d5 rfl (k8 ?_)
 first | refine B5 rfl T.v5 T.v9 rfl mB (by rfl) ?_ | refine C1 rfl T.v5 T.v9 rfl mB (by rfl) ?_ | refine u7 rfl T.v5 T.v9 rfl rfl (t5 mB (t9 (by omega))) ?_
 refine k5 F.pS rfl rfl (iU cs hs hca hcb ha) p6 mC fun _ _ => ?_; refine d5 rfl (d8 (l5 ?_)); exact ret1 () rfl rfl rfl trivial nil_sb trivial
theorem qz4 {cs : List Cl} {hs : List Hd} (h0 : checkT (trOf cs hs) = 0) {i : Nat} (hi : i < hs.length) : (stepsE (trOf cs hs) (i : Int)).1.length = hs.length := by
  have hl := W1 cs hs; have hh : 0 ≤ (i : Int) ∧ (i : Int) ≤ ((trOf cs hs).hs.length : Int) - 1 := by omega
  rw [show stepsE (trOf cs hs) i = (stepsT (trOf cs hs) i, 0) by rw [stepsE, if_neg (not_not_intro (ask_one h0 hh))]]; show (stepsT (trOf cs hs) i).length = _; rw [ij3, hl]
theorem sx0 (cs : List Cl) (hs : List Hd) (hn : hs.length ≤ 1000000) (i : Nat) : (stepsE (trOf cs hs) (i : Int)).1.length ≤ 1000000 := by
  unfold stepsE
  split
  · simp
  show (stepsT (trOf cs hs) i).length ≤ _; rw [ij3, W1]; exact hn
def fndOK (hs : List Hd) (rs : List (List Bool)) (ws : List Int) (s : List Int) : Bool := (s.all fun k => decide (0 ≤ (hs.getD k.toNat default).2.1)) && ws.all fun w => s.any fun k => (rs.getD w.toNat default).getD k.toNat default
def fndH (pr : List Int) (s : List Int) : Hn := (s, 0, (s.map fun k => pr.getD k.toNat default).sum)
def fndL (hs : List Hd) (rs : List (List Bool)) (pr ws : List Int) (k : Nat) : List Hn := (((List.range k).map fun s => pickK s hs.length).filter (fndOK hs rs ws)).map (fndH pr)
def fndB (t : Tr) (hs : List Hd) (pr ws : List Int) (p : Int) : Hn × Bool := bestL ordP (fndL hs (reachK t p hs.length) pr ws (2 ^ hs.length))
def prB (x : Int) : Prop := 0 ≤ x ∧ x ≤ 999
instance (x : Int) : Decidable (prB x) := by unfold prB; infer_instance
def foundE (cs : List Cl) (hs : List Hd) (pr ws : List Int) (p : Int) : Hn :=
  if ¬ checkT (trOf cs hs) = 0 then ([], 0, checkT (trOf cs hs)) else if pr.length < hs.length then ([], 0, 7) else if hs.length < pr.length then ([], 0, 6)
  else if ¬ ∀ x ∈ pr, prB x then ([], 0, 1) else if ¬ ∀ w ∈ ws, 0 ≤ w ∧ w ≤ (hs.length : Int) - 1 then ([], 0, 3) else if ¬ (0 ≤ p ∧ p ≤ 6) then ([], 0, 1)
  else if (fndB (trOf cs hs) hs pr ws p).2 = false then ([], 0, 11) else ((fndB (trOf cs hs) hs pr ws p).1.1, (fndB (trOf cs hs) hs pr ws p).1.2.2, 0)
theorem sN (hs : List Hd) (rs : List (List Bool)) (pr ws : List Int) (k : Nat) : fndL hs rs pr ws (k + 1) = if fndOK hs rs ws (pickK k hs.length) = true then fndL hs rs pr ws k ++ [fndH pr (pickK k hs.length)] else fndL hs rs pr ws k := by
  unfold fndL; rw [List.range_succ, List.map_append, List.filter_append, List.map_append]
  by_cases e : fndOK hs rs ws (pickK k hs.length) = true
  · rw [if_pos e]; simp [e]
  rw [if_neg e]; simp [e]
theorem kj6 {hs : List Hd} {rs : List (List Bool)} {ws s : List Int} {j : Nat} (hj : j < s.length) (h : (hs.getD (s.getD j default).toNat default).2.1 < 0) : ¬ fndOK hs rs ws s = true := by
  intro e; unfold fndOK at e; rw [Bool.and_eq_true] at e; have := of_decide_eq_true (List.all_eq_true.1 e.1 _ (w7 hj))
  omega
theorem mj8 {hs : List Hd} {rs : List (List Bool)} {ws s : List Int} {j : Nat} (hj : j < ws.length) (h : (s.any fun k => (rs.getD (ws.getD j default).toNat default).getD k.toNat default) = false) : ¬ fndOK hs rs ws s = true := by
  intro e; unfold fndOK at e; rw [Bool.and_eq_true] at e; have := List.all_eq_true.1 e.2 _ (w7 hj); rw [h] at this
  cases this
theorem fnd_yes {hs : List Hd} {rs : List (List Bool)} {ws s : List Int} (h1 : ∀ k ∈ s, 0 ≤ (hs.getD k.toNat default).2.1) (h2 : ∀ w ∈ ws, (s.any fun k => (rs.getD w.toNat default).getD k.toNat default) = true) : fndOK hs rs ws s = true := by
  unfold fndOK; rw [Bool.and_eq_true]; exact ⟨List.all_eq_true.2 fun k hk => decide_eq_true (h1 k hk), List.all_eq_true.2 h2⟩
end Go.Proofs.YtcdopfjiadifhaaGreatDoor
end
