/- Texts of this claim, one behind another. -/

import Derived.Test.YtmpfpfbcejfijaaGreatDoorAAo
set_option linter.unusedVariables false
set_option linter.unusedSimpArgs false
section
namespace Go.Proofs.YtmpfpfbcejfijaaGreatDoor
open Go Go.W
set_option maxRecDepth 20000
attribute [local irreducible] HL HC HQ HB Row Rows2 Blk Facts
instance : El Bool where
  default := false
  cells b := [.bool b]
  sz := 1
  len _ := rfl
  one a u h := by simp at h; subst h; rfl
def rdK (p : Int) (l : List Int) : List Bool := l.map fun v => decide (0 ≤ v ∧ v ≤ p)
theorem lq0 {p : Int} {l : List Int} {k : Nat} (hk : k < l.length) : rdK p (l.take (k + 1)) = rdK p (l.take k) ++ [decide (0 ≤ l.getD k default ∧ l.getD k default ≤ p)] := by
  unfold rdK; rw [List.take_succ_eq_append_getElem hk, w4 hk, List.map_append]; rfl
theorem bz5 (p : Int) (l : List Int) : (rdK p l).length = l.length := by simp [rdK]
def reachK (t : Tr) (p : Int) (k : Nat) : List (List Bool) := (List.range k).map fun i : Nat => rdK p (stepsE t (i : Int)).1
theorem dq3 (t : Tr) (p : Int) (k : Nat) : reachK t p (k + 1) = reachK t p k ++ [rdK p (stepsE t (k : Int)).1] := by
  unfold reachK; rw [List.range_succ, List.map_append]; rfl
abbrev N0 : Sl Bool := ⟨none, 0, []⟩
theorem nj2 {ps r : List (Sl Bool)} {x : Sl Bool} {i : Nat} (h : ps.length = i) : (ps ++ x :: r).getD i default = x := by
  subst h; simp [List.getD_eq_getElem?_getD]
theorem set_cur {ps r : List (Sl Bool)} {x y : Sl Bool} {i : Nat} (h : ps.length = i) : (ps ++ x :: r).set i y = ps ++ y :: r := by
  subst h; simp
theorem bZ {A B : Option Addr} {ca cb : Nat} (cs : List Cl) (hs : List Hd) (p : Int) (hca : cs.length ≤ ca) (hcb : hs.length ≤ cb) (ha : ∀ h ∈ hs, h.2.2.2.l.length ≤ 1000000) (hn : hs.length ≤ 1000000) (hst : ∀ i : Nat, (stepsE (trOf cs hs) (i : Int)).1.length ≤ 1000000) : Meets Tryz.prog F.jG [.agg #[.slice A cs.length ca, .slice B hs.length cb], int p] { LI := [Row A (rows cs), RowsF B hs Hd.row], inv := fun x : Nat × List (Sl Bool) => x.2.length = hs.length ∧ x.2.map (·.l) = reachK (trOf cs hs) p hs.length, val := fun x => .slice (some ⟨x.1, 0, none⟩) hs.length hs.length, LO := fun x => [Row (some ⟨x.1, 0, none⟩) (rows x.2), innerF x.2] } := by
 refine j8 F.yQ rfl t4 fun w0 => ?_; refine j3 ?_; refine C4 rfl rfl fun gB => ?_; refine b9 rfl (d9 (j6 (X3 (k8 ?_))))
 first | refine a7 ⟨_, 1, none⟩ rfl rfl T.p6 rfl ?_ | refine a7 _ rfl rfl T.p6 rfl ?_
 refine a8 (v := .slice B hs.length cb) rfl T.m3 rfl (i8 mB rfl) (l9 rfl T.w8 rfl ?_); refine iq7 (α := Sl Bool) (n := hs.length) (bytes := 24) (z := .slice none 0 0) N0 rfl T.R7 (by kernel_rfl) rfl rfl rfl rfl (by omega) (by omega) fun go => ?_; refine b9 rfl (d9 (j6 (j3 (b8 rfl ?_)))); refine l9 rfl T.R7 rfl ?_; refine b8 rfl (d9 (l4 ?_)); refine dz5 (Fs := ([] : List (Sl Bool)).map fun p => Row p.a (rows p.l)) (by intro F hF; cases hF) ?_; refine v8 (β := Nat × List (Sl Bool)) ⟨fun x => x.1 ≤ hs.length ∧ x.2.length = x.1 ∧ x.2.map (·.l) = reachK (trOf cs hs) p x.1, fun x => [(1, int p), (2, .pointer (b4 gB)), (5, .slice (b4 go) hs.length hs.length), (16, int hs.length), (17, int x.1)], fun x => [(go, Obj.cells (rows (x.2 ++ List.replicate (hs.length - x.1) N0)).toArray T.aN (0, 0))], fun x => [Blk gB (Obj.cells #[.slice A cs.length ca, .slice B hs.length cb] T.z4 (0, 0)), Row A (rows cs), RowsF B hs Hd.row, innerF x.2]⟩ (fun x => hs.length - x.1) (0, []) ⟨Nat.zero_le _, rfl, rfl⟩ mC (.refl _) mC fun x hx => ?_; obtain ⟨i, ps⟩ := x; obtain ⟨hi, hpl, hpm⟩ := hx; simp only at hi hpl hpm; have hs1 := hst i; refine j3 (A7 rfl rfl rfl (d9 (j6 ?_)))
 first | refine m7 rfl (fun hb1 => ?_) (fun hb1 => ?_) | refine k4 rfl (fun hb1 => ?_) (fun hb1 => ?_)
 ·have hb1' := hb1; try simp at hb1'
  have hi2 : i < hs.length := by omega
  obtain ⟨q, hq⟩ : ∃ q, hs.length - i = q + 1 := ⟨hs.length - i - 1, by omega⟩; refine k7 (j9 (j6 (l4 (j3 (b8 rfl (b9 rfl (k9 ?_))))))); refine t7 (cs := #[.slice A cs.length ca, .slice B hs.length cb]) rfl T.t1 T.t5 rfl mB rfl (b8 rfl ?_); refine i9 F.xF rfl rfl (rR cs hs (i : Int) hca hcb ha) l5 mC fun x hx => ?_; obtain ⟨xa, xc⟩ := x; refine b8 rfl (l6 rfl rfl rfl (l6 rfl rfl rfl (b9 rfl (b9 rfl (k9 (b8 rfl ?_)))))); refine l9 rfl T.q9 rfl ?_; refine b8 rfl (d9 (l4 ?_)); refine mZ (hp' := [(go, Obj.cells (rows (ps ++ N0 :: List.replicate q N0)).toArray T.aN (0, 0))]) (by show List.Perm [(go, Obj.cells (rows (ps ++ List.replicate (hs.length - i) N0)).toArray T.aN (0, 0))] _; rw [hq]; exact .refl _) ?_; refine v8 (β := Nat × OutC × Hp) ⟨fun x => x.1 ≤ (stepsE (trOf cs hs) (i : Int)).1.length ∧ Grow T.bool 1 x.2.1.1 (rdK p ((stepsE (trOf cs hs) (i : Int)).1.take (x.1))).length x.2.1.2 (rows (rdK p ((stepsE (trOf cs hs) (i : Int)).1.take (x.1)))) x.2.2, fun x => [(1, int p), (2, .pointer (b4 gB)), (5, .slice (b4 go) hs.length hs.length), (6, int i), (16, int hs.length), (17, int i), (26, .slice xa (stepsE (trOf cs hs) (i : Int)).1.length xc), (27, int (stepsE (trOf cs hs) (i : Int)).1.length), (28, int x.1)], fun x => (go, Obj.cells (rows (ps ++ ⟨x.2.1.1, x.2.1.2, (rdK p ((stepsE (trOf cs hs) (i : Int)).1.take (x.1)))⟩ :: List.replicate q N0)).toArray T.aN (0, 0)) :: x.2.2, fun _ => [Row xa (rows (stepsE (trOf cs hs) (i : Int)).1), Blk gB (Obj.cells #[.slice A cs.length ca, .slice B hs.length cb] T.z4 (0, 0)), Row A (rows cs), RowsF B hs Hd.row, innerF ps]⟩ (fun x => (stepsE (trOf cs hs) (i : Int)).1.length - x.1) (0, (none, 0), []) ⟨Nat.zero_le _, Grow.nil _ _⟩ mC (.refl _) mC fun x hx => ?_; obtain ⟨j, ⟨na, nc⟩, og⟩ := x; obtain ⟨hj, hG⟩ := hx; simp only at hj hG; have hlen : (rdK p ((stepsE (trOf cs hs) (i : Int)).1.take (j))).length ≤ j := by rw [bz5, List.length_take]; exact Nat.min_le_left _ _
  refine j3 (A7 rfl rfl rfl (d9 (j6 ?_)))
  first | refine m7 rfl (fun hb2 => ?_) (fun hb2 => ?_) | refine k4 rfl (fun hb2 => ?_) (fun hb2 => ?_)
  ·have hb2' := hb2; try simp at hb2'
   have hj2 : j < (stepsE (trOf cs hs) (i : Int)).1.length := by omega
   have hbs := lq0 (p := p) hj2; refine k7 (j9 (j6 (l4 (j3 ?_)))); refine w3 (α := Int) _ _ rfl T.q9 T.v0 rfl rfl rfl mB rfl (by omega) (by decide) (a8 rfl T.a9 rfl (d8 mB (d4 (by omega) rfl)) ?_); refine b9 rfl (d9 ?_); refine R0 (og) ([(go, Obj.cells (rows (ps ++ ⟨na, nc, (rdK p ((stepsE (trOf cs hs) (i : Int)).1.take (j)))⟩ :: List.replicate q N0)).toArray T.aN (0, 0))]) (List.perm_append_comm (l₁ := [_]) (l₂ := og)) 11 [10] mixed (by decide) (by decide) (by decide) rfl rfl rfl (s7 (fun w1 => b8 rfl (q_z rfl)) (s7 (fun w1 => b8 rfl (q_z rfl)) (s7 (fun w1 => b8 rfl (q_z rfl)) (s7 (fun w1 => b8 rfl (q_z rfl)) (s7 (fun w1 => w7 i (0 + i * 1) rfl T.R7 T.aZ rfl rfl rfl (by omega) rfl (q_z rfl)) ?_))))); refine s7 (fun w1 => a8 (v := .slice na (rdK p ((stepsE (trOf cs hs) (i : Int)).1.take (j))).length nc) rfl T.cU rfl (uD (α := Sl Bool) (k := i) (f := 0) mB (by show 0 + i * 1 = i * 1 + 0; omega) (by rw [List.length_append, hpl]; simp) (by rw [nj2 hpl]; rfl)) (q_z rfl)) ?_; refine s7 (fun w1 => b8 rfl (q_z rfl)) (s7 (fun w1 => b8 rfl (q_z rfl)) ?_); refine s7 (fun w1 => i9 F.s8 rfl rfl (p7 _ _ _) l5 trivial fun _ _ => (q_z rfl)) ?_; refine cT ⟨Nat, fun _ => True, fun g1 => .slice (b4 g1) 1 1, fun g1 => [Row (b4 g1) (rows [(decide (0 ≤ (stepsE (trOf cs hs) (i : Int)).1.getD j default ∧ (stepsE (trOf cs hs) (i : Int)).1.getD j default ≤ p))])]⟩ rfl rfl rfl ?_ ?_
   ·intro w1; refine m6 _ rfl rfl (fun _ => T.gq2 ..) fun gS => ?_; refine d6 ?_; refine G9 (rows [(decide (0 ≤ (stepsE (trOf cs hs) (i : Int)).1.getD j default ∧ (stepsE (trOf cs hs) (i : Int)).1.getD j default ≤ p))]) (List.prefix_refl _) ?_; exact N8 gS trivial rfl ⟨m0, trivial⟩
   refine az8 ⟨OutC × Hp, fun x => Grow T.bool 1 x.1.1 ((rdK p ((stepsE (trOf cs hs) (i : Int)).1.take (j))).length + 1) x.1.2 (rows ((rdK p ((stepsE (trOf cs hs) (i : Int)).1.take (j))) ++ [(decide (0 ≤ (stepsE (trOf cs hs) (i : Int)).1.getD j default ∧ (stepsE (trOf cs hs) (i : Int)).1.getD j default ≤ p))])) x.2, fun x => .slice x.1.1 ((rdK p ((stepsE (trOf cs hs) (i : Int)).1.take (j))).length + 1) x.1.2, fun _ => [], fun x => x.2⟩ rfl rfl rfl ?_ ?_
   ·intro g1 _; intro w1; refine Z1 (hp' := []) ((rdK p ((stepsE (trOf cs hs) (i : Int)).1.take (j))).length + 1) (rows ((rdK p ((stepsE (trOf cs hs) (i : Int)).1.take (j))) ++ [(decide (0 ≤ (stepsE (trOf cs hs) (i : Int)).1.getD j default ∧ (stepsE (trOf cs hs) (i : Int)).1.getD j default ≤ p))])) T.kj8 rfl rfl rfl hG (by rw [List.append_nil]) (Src.row (news := rows [(decide (0 ≤ (stepsE (trOf cs hs) (i : Int)).1.getD j default ∧ (stepsE (trOf cs hs) (i : Int)).1.getD j default ≤ p))]) (m := 1) mB rfl (Q8 _) (by decide)) rfl (E9 _ _).symm (by unfold maxLen; omega) (by omega) fun A' c' og' hG' => ?_; refine d6 ?_; exact Y4 ((A', c'), og') hG' (fun _ => rfl) (List.sublist_append_left _ _) trivial
   refine D4 ⟨rfl, ?_⟩; intro g1 _ y hy; obtain ⟨⟨A', c'⟩, og'⟩ := y; refine w7 i (0 + i * 1) rfl T.R7 T.aZ rfl rfl rfl (by omega) rfl ?_; refine lM (α := Sl Bool) (k := i) (f := 0) (hp' := og') ⟨A', c', (rdK p ((stepsE (trOf cs hs) (i : Int)).1.take (j))) ++ [(decide (0 ≤ (stepsE (trOf cs hs) (i : Int)).1.getD j default ∧ (stepsE (trOf cs hs) (i : Int)).1.getD j default ≤ p))]⟩ rfl (by show 0 + i * 1 = i * 1 + 0; omega) rfl (List.perm_append_comm (l₁ := og') (l₂ := [_])) T.aZ (by rw [List.length_append, hpl]; simp) (by decide) (by rw [nj2 hpl]; show [_] = [_]; rw [List.length_append]; rfl) rfl ?_; rw [set_cur hpl]; refine d6 (z2 (j9 (k8 ?_))); refine y2 _ rfl rfl rfl rfl s9 ?_; refine b8 rfl (d6 ?_); exact again _ (j + 1, (A', c'), og') ⟨by show j + 1 ≤ _; omega, by show Grow T.bool 1 A' (rdK p ((stepsE (trOf cs hs) (i : Int)).1.take (j + 1))).length c' (rows (rdK p ((stepsE (trOf cs hs) (i : Int)).1.take (j + 1)))) og'; rw [hbs, List.length_append]; exact hy⟩ (A5 (by omega)) mC (by show List.Sublist ((go, Obj.cells (rows (ps ++ ⟨A', c', (rdK p ((stepsE (trOf cs hs) (i : Int)).1.take (j + 1)))⟩ :: List.replicate q N0)).toArray T.aN (0, 0)) :: og') _; rw [hbs]; exact .refl _) mC
  have hb2' := hb2; try simp at hb2'
  have hj2 : j = (stepsE (trOf cs hs) (i : Int)).1.length := by omega
  subst hj2; refine v5 (C3 (u9 (z2 (j9 (k8 ?_))))); refine y2 _ rfl rfl rfl rfl s9 ?_; refine b8 rfl (d6 ?_); refine mX (hp' := og ++ [(go, Obj.cells (rows (ps ++ ⟨na, nc, (rdK p ((stepsE (trOf cs hs) (i : Int)).1.take ((stepsE (trOf cs hs) (i : Int)).1.length)))⟩ :: List.replicate q N0)).toArray T.aN (0, 0))]) (List.perm_append_comm (l₁ := [_]) (l₂ := og)) (dz1 hG ?_); refine xZ (vB (p := ((⟨na, nc, (rdK p ((stepsE (trOf cs hs) (i : Int)).1.take ((stepsE (trOf cs hs) (i : Int)).1.length)))⟩) : Sl Bool)) (ps := ps) (f := fun p => Row p.a (rows p.l)) mB mB) ?_; exact again _ (i + 1, ps ++ [⟨na, nc, (rdK p ((stepsE (trOf cs hs) (i : Int)).1.take ((stepsE (trOf cs hs) (i : Int)).1.length)))⟩]) ⟨by show i + 1 ≤ hs.length; omega, by show (ps ++ [_]).length = i + 1; simp [hpl], by show (ps ++ [_]).map (fun x : Sl Bool => x.l) = _; rw [dq3, List.map_append, hpm]; show _ ++ [rdK p (List.take _ _)] = _; rw [List.take_length]⟩ (A5 (by omega)) mC (by show List.Sublist [(go, Obj.cells (rows ((ps ++ [⟨na, nc, (rdK p ((stepsE (trOf cs hs) (i : Int)).1.take ((stepsE (trOf cs hs) (i : Int)).1.length)))⟩]) ++ List.replicate (hs.length - (i + 1)) N0)).toArray T.aN (0, 0))] _; rw [List.append_assoc, show hs.length - (i + 1) = q by omega]; exact .refl _) mC
 have hb1' := hb1; try simp at hb1'
 have hi2 : i = hs.length := by omega
 refine v5 (C3 (u9 (j9 (j3 (b8 rfl (b9 rfl (d9 (l7 ?_)))))))); refine G9 (rows ps) (by show rows ps <+: rows (ps ++ _); rw [E9]; exact List.prefix_append ..) ?_; exact ret1 (go, ps) rfl rfl rfl ⟨hpl.trans hi2, by show ps.map _ = _; rw [hpm, hi2]⟩ nil_sb mC
end Go.Proofs.YtmpfpfbcejfijaaGreatDoor
end
section
namespace Go.Proofs.YtmpfpfbcejfijaaGreatDoor
open Go Go.W
set_option maxRecDepth 20000
attribute [local irreducible] HL HC HQ HB Row Rows2 Blk Facts
theorem nj5 {l : List Int} {b : Int → Bool} {k : Nat} (hk : k < l.length) (h : (l.take k).any b = false) (h2 : b (l.getD k default) = false) : (l.take (k + 1)).any b = false := by
  rw [List.take_succ_eq_append_getElem hk, ← w4 hk, List.any_append, h]
  simpa using h2
theorem aS {A : Option Addr} {cp f : Nat} {cap : List Value} {L0 : List Fact} (l : List Int) (b : Int → Bool) (hl : l.length ≤ 1000000) (hcb : Callable Tryz.prog f) (hm : ∀ x ∈ l, Meets Tryz.prog f ([int x] ++ cap) { LI := L0, val := fun _ : Unit => .bool (b x) }) : Meets Tryz.prog F.N2 [.slice A l.length cp, .func (.func f) #[] cap.toArray] { LI := Row A (rows l) :: L0, inv := fun z : Int => (0 ≤ z ↔ l.any b = true), val := fun z => int z } := by
 refine j8 F.gK rfl t4 fun w0 => ?_; refine j3 (b9 rfl (d9 (j6 (j3 (b8 rfl ?_))))); refine l9 rfl T.q9 rfl ?_; refine b8 rfl (d9 (l4 ?_)); refine v8 (β := Nat) ⟨fun k => k ≤ l.length ∧ (l.take k).any b = false, fun k => [(0, .slice A l.length cp), (1, .func (.func f) #[] cap.toArray), (7, int l.length), (8, int k)], fun _ => [], fun _ => Row A (rows l) :: L0⟩ (fun k => l.length - k) 0 ⟨Nat.zero_le _, rfl⟩ mC (.refl _) ⟨m0, (LSub.of_mem fun F hF => List.mem_cons_of_mem _ hF)⟩ fun k hk => ?_; obtain ⟨hk, ht⟩ := hk; refine j3 (A7 rfl rfl rfl (d9 (j6 ?_)))
 first | refine m7 rfl (fun hb1 => ?_) (fun hb1 => ?_) | refine k4 rfl (fun hb1 => ?_) (fun hb1 => ?_)
 ·have hb1' := hb1; try simp at hb1'
  have hk2 : k < l.length := by omega
  refine k7 (j9 (j6 (l4 (j3 (b8 rfl (b9 rfl (k9 ?_))))))); refine b8 rfl (b8 rfl (b8 rfl ?_)); refine w3 (α := Int) _ _ rfl T.q9 T.v0 rfl rfl rfl mB rfl (by omega) (by decide) (a8 rfl T.a9 rfl (d8 mB (d4 (by omega) rfl)) ?_); refine O8 (vs := [int (l.getD k default)]) (cap := cap) hcb rfl rfl rfl (hm _ (u0 hk2)) l5 (LSub.of_mem fun F hF => List.mem_cons_of_mem _ hF) fun _ _ => ?_; refine d9 ?_
  first | refine m7 rfl (fun hb2 => ?_) (fun hb2 => ?_) | refine k4 rfl (fun hb2 => ?_) (fun hb2 => ?_)
  ·have hb2' := hb2; try simp at hb2'
   refine j3 (b8 rfl (b9 rfl (d9 (l7 (C2 (w6 (C2 ?_))))))); exact ret1 (k : Int) rfl rfl rfl ⟨fun _ => List.any_eq_true.2 ⟨_, u0 hk2, hb2⟩, fun _ => by omega⟩ nil_sb trivial
  have hb2' := hb2; try simp at hb2'
  refine k7 (z2 (j9 (k8 ?_))); refine y2 _ rfl rfl rfl rfl s9 ?_; refine b8 rfl (d6 ?_); exact again _ (k + 1) ⟨by show k + 1 ≤ l.length; omega, nj5 hk2 ht (by simpa using hb2)⟩ (A5 (by omega)) mC nil_sb ⟨by first | exact m0 | exact List.mem_cons_self .., LSub.of_mem fun F hF => by first | exact List.mem_cons_of_mem _ hF | exact List.mem_append_right _ (List.mem_cons_of_mem _ hF)⟩
 have hb1' := hb1; try simp at hb1'
 have hk2 : k = l.length := by omega
 rw [hk2, List.take_length] at ht; refine v5 (C3 (u9 (j9 (j3 (b9 rfl (d9 (l7 ?_))))))); exact ret1 (-1) rfl rfl rfl ⟨fun h => by omega, fun h => by rw [ht] at h; cases h⟩ (.refl _) trivial
theorem L4 {A : Option Addr} {cp f : Nat} {cap : List Value} {L0 : List Fact} (l : List Int) (b : Int → Bool) (hl : l.length ≤ 1000000) (hcb : Callable Tryz.prog f) (hm : ∀ x ∈ l, Meets Tryz.prog f ([int x] ++ cap) { LI := L0, val := fun _ : Unit => .bool (b x) }) : Meets Tryz.prog F.K4 [.slice A l.length cp, .func (.func f) #[] cap.toArray] { LI := Row A (rows l) :: L0, val := fun _ : Unit => .bool (l.any b) } := by
 refine j8 F.bQ rfl t4 fun w0 => ?_; refine j3 (b9 rfl (k9 (b8 rfl (b8 rfl ?_)))); refine i9 F.dK rfl rfl (aS l b hl hcb hm) l5 ⟨m0, (LSub.of_mem fun F hF => List.mem_cons_of_mem _ hF)⟩ fun z hz => ?_; refine nX rfl rfl rfl (b9 rfl (d9 (l7 ?_))); exact ret1 () rfl (congrArg (fun b => some (Value.bool b)) (by have hz : (0 ≤ z ↔ l.any b = true) := hz; cases e : l.any b <;> simp_all)) rfl trivial nil_sb trivial
theorem rE {g1 g2 : Nat} {A : Option Addr} {c : Nat} (ps : List (Sl Bool)) (v x : Nat) (hv : v < ps.length) (hx : x < (ps.getD v default).l.length) : Meets Tryz.prog F.jL [int x, .pointer (b4 g1), .pointer (b4 g2)] { LI := [Row (b4 g1) (rows [(⟨A, c, ps⟩ : Sl (Sl Bool))]), Row (b4 g2) (rows [(v : Int)]), Row A (rows ps), innerF ps], val := fun _ : Unit => .bool ((ps.getD v default).l.getD x default) } := by
 refine j8 F.yT rfl t4 fun w0 => ?_; refine j3 (b9 rfl (k9 ?_)); refine a8 (v := .slice A ps.length c) rfl T.zT rfl (d8 (A := some ⟨g1, 0, none⟩) mB (d4 (l := [(⟨A, c, ps⟩ : Sl (Sl Bool))]) (i := 0) Nat.zero_lt_one rfl)) (a8 (v := int v) rfl T.a9 rfl (d8 (A := some ⟨g2, 0, none⟩) mB (d4 (l := [(v : Int)]) (i := 0) Nat.zero_lt_one rfl)) (w3 (α := Sl Bool) ps v rfl T.R7 T.aZ rfl rfl rfl mB rfl hv (by decide) (a8 (v := .slice (ps.getD v default).a (ps.getD v default).l.length (ps.getD v default).c) rfl T.cU rfl (d8 mB (d4 hv rfl)) ?_))); refine wV (F := Row (ps.getD v default).a (rows (ps.getD v default).l)) (Fs := ps.map fun p => Row p.a (rows p.l)) mB (List.mem_map.2 ⟨_, u0 hv, rfl⟩) ?_; refine b8 rfl (w3 (α := Bool) (ps.getD v default).l x rfl T.cz9 T.wO rfl rfl rfl mB rfl hx (by decide) (a8 (v := .bool ((ps.getD v default).l.getD x default)) rfl T.hZ rfl (d8 mB (d4 hx rfl)) ?_)); refine b9 rfl (d9 (l7 ?_)); exact ret1 () rfl rfl rfl trivial nil_sb trivial
theorem nR {g1 : Nat} {A : Option Addr} {c : Nat} (l : List Bool) (x : Nat) (hx : x < l.length) : Meets Tryz.prog F.dW [int x, .pointer (b4 g1)] { LI := [Row (b4 g1) (rows [(⟨A, c, l⟩ : Sl Bool)]), Row A (rows l)], val := fun _ : Unit => .bool (l.getD x default) } := by
 refine j8 F.wF rfl t4 fun w0 => ?_; refine j3 (b9 rfl (k9 ?_)); refine a8 (v := .slice A l.length c) rfl T.cU rfl (d8 (A := some ⟨g1, 0, none⟩) mB (d4 (l := [(⟨A, c, l⟩ : Sl Bool)]) (i := 0) Nat.zero_lt_one rfl)) (b8 rfl (w3 (α := Bool) l x rfl T.cz9 T.wO rfl rfl rfl mB rfl hx (by decide) (a8 (v := .bool (l.getD x default)) rfl T.hZ rfl (d8 mB (d4 hx rfl)) ?_))); refine b9 rfl (d9 (l7 ?_)); exact ret1 () rfl rfl rfl trivial nil_sb trivial
end Go.Proofs.YtmpfpfbcejfijaaGreatDoor
end
section
namespace Go.Proofs.YtmpfpfbcejfijaaGreatDoor
open Go Go.W
set_option maxRecDepth 20000
attribute [local irreducible] HL HC HQ HB Row Rows2 Blk Facts
theorem cQ {A B : Option Addr} {ca cb : Nat} (cs : List Cl) (hs : List Hd) (hca : cs.length ≤ ca) (hcb : hs.length ≤ cb) (ha : ∀ h ∈ hs, h.2.2.2.l.length ≤ 1000000) : Meets Tryz.prog F.lF [.agg #[.slice A cs.length ca, .slice B hs.length cb]] { LI := [Row A (rows cs), RowsF B hs Hd.row], val := fun _ : Unit => int (checkT (trOf cs hs)) } := by
 refine j8 F.zH rfl t4 fun w0 => ?_; refine j3 ?_; refine C4 rfl rfl fun gB => ?_; refine b9 rfl (k9 ?_)
 first | refine u1 rfl T.t1 T.t5 rfl mB (by rfl) ?_ | refine t7 rfl T.t1 T.t5 rfl mB (by rfl) ?_ | refine r8 rfl T.t1 T.t5 rfl rfl (m9 mB (q8 (by omega))) ?_
 refine i9 F.kX rfl rfl (cP cs hs hca hcb ha) l5 mC fun _ _ => ?_; refine b9 rfl (d9 (l7 ?_)); exact ret1 () rfl rfl rfl trivial nil_sb trivial
theorem ax2 {cs : List Cl} {hs : List Hd} (h0 : checkT (trOf cs hs) = 0) {i : Nat} (hi : i < hs.length) : (stepsE (trOf cs hs) (i : Int)).1.length = hs.length := by
  have hl := N4 cs hs; have hh : 0 ≤ (i : Int) ∧ (i : Int) ≤ ((trOf cs hs).hs.length : Int) - 1 := by omega
  rw [show stepsE (trOf cs hs) i = (stepsT (trOf cs hs) i, 0) by rw [stepsE, if_neg (not_not_intro (ask_one h0 hh))]]; show (stepsT (trOf cs hs) i).length = _; rw [aq6, hl]
theorem dj7 (cs : List Cl) (hs : List Hd) (hn : hs.length ≤ 1000000) (i : Nat) : (stepsE (trOf cs hs) (i : Int)).1.length ≤ 1000000 := by
  unfold stepsE
  split
  · simp
  show (stepsT (trOf cs hs) i).length ≤ _; rw [aq6, N4]; exact hn
def fndOK (hs : List Hd) (rs : List (List Bool)) (ws : List Int) (s : List Int) : Bool := (s.all fun k => decide (0 ≤ (hs.getD k.toNat default).2.1)) && ws.all fun w => s.any fun k => (rs.getD w.toNat default).getD k.toNat default
def fndH (pr : List Int) (s : List Int) : Hn := (s, 0, (s.map fun k => pr.getD k.toNat default).sum)
def fndL (hs : List Hd) (rs : List (List Bool)) (pr ws : List Int) (k : Nat) : List Hn := (((List.range k).map fun s => pickK s hs.length).filter (fndOK hs rs ws)).map (fndH pr)
def fndB (t : Tr) (hs : List Hd) (pr ws : List Int) (p : Int) : Hn × Bool := bestL ordP (fndL hs (reachK t p hs.length) pr ws (2 ^ hs.length))
def prB (x : Int) : Prop := 0 ≤ x ∧ x ≤ 999
instance (x : Int) : Decidable (prB x) := by unfold prB; infer_instance
def foundE (cs : List Cl) (hs : List Hd) (pr ws : List Int) (p : Int) : Hn :=
  if ¬ checkT (trOf cs hs) = 0 then ([], 0, checkT (trOf cs hs)) else if pr.length < hs.length then ([], 0, 7) else if hs.length < pr.length then ([], 0, 6)
  else if ¬ ∀ x ∈ pr, prB x then ([], 0, 1) else if ¬ ∀ w ∈ ws, 0 ≤ w ∧ w ≤ (hs.length : Int) - 1 then ([], 0, 3) else if ¬ (0 ≤ p ∧ p ≤ 6) then ([], 0, 1)
  else if (fndB (trOf cs hs) hs pr ws p).2 = false then ([], 0, 11) else ((fndB (trOf cs hs) hs pr ws p).1.1, (fndB (trOf cs hs) hs pr ws p).1.2.2, 0)
theorem nB (hs : List Hd) (rs : List (List Bool)) (pr ws : List Int) (k : Nat) : fndL hs rs pr ws (k + 1) = if fndOK hs rs ws (pickK k hs.length) = true then fndL hs rs pr ws k ++ [fndH pr (pickK k hs.length)] else fndL hs rs pr ws k := by
  unfold fndL; rw [List.range_succ, List.map_append, List.filter_append, List.map_append]
  by_cases e : fndOK hs rs ws (pickK k hs.length) = true
  · rw [if_pos e]; simp [e]
  rw [if_neg e]; simp [e]
theorem cq0 {hs : List Hd} {rs : List (List Bool)} {ws s : List Int} {j : Nat} (hj : j < s.length) (h : (hs.getD (s.getD j default).toNat default).2.1 < 0) : ¬ fndOK hs rs ws s = true := by
  intro e; unfold fndOK at e; rw [Bool.and_eq_true] at e; have := of_decide_eq_true (List.all_eq_true.1 e.1 _ (u0 hj))
  omega
theorem gj1 {hs : List Hd} {rs : List (List Bool)} {ws s : List Int} {j : Nat} (hj : j < ws.length) (h : (s.any fun k => (rs.getD (ws.getD j default).toNat default).getD k.toNat default) = false) : ¬ fndOK hs rs ws s = true := by
  intro e; unfold fndOK at e; rw [Bool.and_eq_true] at e; have := List.all_eq_true.1 e.2 _ (u0 hj); rw [h] at this
  cases this
theorem fnd_yes {hs : List Hd} {rs : List (List Bool)} {ws s : List Int} (h1 : ∀ k ∈ s, 0 ≤ (hs.getD k.toNat default).2.1) (h2 : ∀ w ∈ ws, (s.any fun k => (rs.getD w.toNat default).getD k.toNat default) = true) : fndOK hs rs ws s = true := by
  unfold fndOK; rw [Bool.and_eq_true]; exact ⟨List.all_eq_true.2 fun k hk => decide_eq_true (h1 k hk), List.all_eq_true.2 h2⟩
end Go.Proofs.YtmpfpfbcejfijaaGreatDoor
end
section
namespace Go.Proofs.YtmpfpfbcejfijaaGreatDoor
open Go Go.W
set_option maxRecDepth 20000
attribute [local irreducible] HL HC HQ HB Row Rows2 Blk Facts
def priP (pr s : List Int) : List Int := s.map fun k => pr.getD k.toNat default
theorem priP_at {pr s : List Int} {j : Nat} (hj : j < s.length) : (priP pr s).getD j default = pr.getD (s.getD j default).toNat default := by
  have h : j < (priP pr s).length := by simpa [priP] using hj
  rw [w4 h, w4 hj]
  simp [priP]
theorem dq8 (pr s : List Int) : (priP pr s).length = s.length := by simp [priP]
theorem priP_bd {pr s : List Int} (hp : ∀ x ∈ pr, prB x) (hs : ∀ v ∈ s, 0 ≤ v ∧ v < (pr.length : Int)) : ∀ v ∈ priP pr s, 0 ≤ v ∧ v ≤ 1000000000 := by
  intro v hv; obtain ⟨w, hw, rfl⟩ := List.mem_map.1 hv; have h1 := hs w hw; have h2 := hp _ (u0 (l := pr) (k := w.toNat) (by omega)); have h3 := h2.1; have h4 := h2.2
  omega
theorem X8 {A B PA WA : Option Addr} {ca cb pc wc : Nat} (cs : List Cl) (hs : List Hd) (pr ws : List Int) (p : Int) (hca : cs.length ≤ ca) (hcb : hs.length ≤ cb) (ha : ∀ h ∈ hs, h.2.2.2.l.length ≤ 1000000) (hpn : pr.length ≤ 1000000) (hwn : ws.length ≤ 1000000) : Meets Tryz.prog F.X9 [.agg #[.slice A cs.length ca, .slice B hs.length cb], .slice PA pr.length pc, .slice WA ws.length wc, int p] { LI := [Row A (rows cs), RowsF B hs Hd.row, Row PA (rows pr), Row WA (rows ws)], val := fun x : OutC => .tuple #[.slice x.1 (foundE cs hs pr ws p).1.length x.2, int (foundE cs hs pr ws p).2.1, int (foundE cs hs pr ws p).2.2], LO := fun x => [Row x.1 (rows (foundE cs hs pr ws p).1)] } := by
 refine j8 F.cx7 rfl t4 fun w0 => ?_; refine j3 ?_; refine C4 rfl rfl fun gT => ?_; refine b9 rfl (b9 rfl (b9 rfl (d9 (mj6 (j6 (j3 (az5 ?_))))))); refine t7 (cs := #[.slice A cs.length ca, .slice B hs.length cb]) rfl T.t1 T.t5 rfl mB rfl ?_; refine i9 F.lE rfl rfl (cQ cs hs hca hcb ha) l5 mC fun _ _ => ?_; refine b9 rfl (k9 (b8 rfl (C1 rfl rfl rfl (d9 ?_))))
 first | refine m7 rfl (fun hb1 => ?_) (fun hb1 => ?_) | refine k4 rfl (fun hb1 => ?_) (fun hb1 => ?_)
 ·have hb1' := hb1; try simp at hb1'
  refine j3 (b8 rfl (b9 rfl (b9 rfl (b9 rfl (d9 (J1 (lR ?_))))))); have hE : foundE cs hs pr ws p = ([], 0, checkT (trOf cs hs)) := by rw [foundE, if_pos hb1]
  refine A8 (α := Int) ?_; exact ret3 (none, 0) rfl rfl rfl rfl (by show Value.tuple #[.slice none (foundE cs hs pr ws p).1.length 0, int (foundE cs hs pr ws p).2.1, int (foundE cs hs pr ws p).2.2] = _; rw [hE] <;> rfl) rfl trivial nil_sb (by show LSub _ [Row none (rows (foundE cs hs pr ws p).1)]; rw [hE]; exact mC)
 have hb1' := hb1; try simp at hb1'
 have h0 : checkT (trOf cs hs) = 0 := Classical.not_not.1 hb1; have hok := dj3 h0; have hn6 := hok.h6; rw [N4] at hn6; refine k7 (j9 (j6 (j3 (b8 rfl ?_)))); refine l9 rfl T.q9 rfl ?_
 first | refine a7 ⟨_, 1, none⟩ rfl rfl T.p6 rfl ?_ | refine a7 _ rfl rfl T.p6 rfl ?_
 refine a8 (v := .slice B hs.length cb) rfl T.m3 rfl (i8 mB rfl) (l9 rfl T.w8 rfl ?_); refine A7 rfl rfl rfl (d9 ?_)
 first | refine m7 rfl (fun hb2 => ?_) (fun hb2 => ?_) | refine k4 rfl (fun hb2 => ?_) (fun hb2 => ?_)
 ·have hb2' := hb2; try simp at hb2'
  have h2 : pr.length < hs.length := by omega
  refine j3 (b9 rfl (b9 rfl (b9 rfl (d9 (J1 (lR ?_)))))); have hE : foundE cs hs pr ws p = ([], 0, 7) := by rw [foundE, if_neg (Classical.not_not.2 h0), if_pos h2]
  refine A8 (α := Int) ?_; exact ret3 (none, 0) rfl rfl rfl rfl (by show Value.tuple #[.slice none (foundE cs hs pr ws p).1.length 0, int (foundE cs hs pr ws p).2.1, int (foundE cs hs pr ws p).2.2] = _; rw [hE] <;> rfl) rfl trivial nil_sb (by show LSub _ [Row none (rows (foundE cs hs pr ws p).1)]; rw [hE]; exact mC)
 have hb2' := hb2; try simp at hb2'
 have h2 : ¬ pr.length < hs.length := by omega
 refine k7 (j9 (j6 (j3 (b8 rfl ?_)))); refine l9 rfl T.q9 rfl ?_
 first | refine a7 ⟨_, 1, none⟩ rfl rfl T.p6 rfl ?_ | refine a7 _ rfl rfl T.p6 rfl ?_
 refine a8 (v := .slice B hs.length cb) rfl T.m3 rfl (i8 mB rfl) (l9 rfl T.w8 rfl ?_); refine V7 rfl rfl rfl (d9 ?_)
 first | refine m7 rfl (fun hb3 => ?_) (fun hb3 => ?_) | refine k4 rfl (fun hb3 => ?_) (fun hb3 => ?_)
 ·have hb3' := hb3; try simp at hb3'
  have h3 : hs.length < pr.length := by omega
  refine j3 (b9 rfl (b9 rfl (b9 rfl (d9 (J1 (lR ?_)))))); have hE : foundE cs hs pr ws p = ([], 0, 6) := by rw [foundE, if_neg (Classical.not_not.2 h0), if_neg h2, if_pos h3]
  refine A8 (α := Int) ?_; exact ret3 (none, 0) rfl rfl rfl rfl (by show Value.tuple #[.slice none (foundE cs hs pr ws p).1.length 0, int (foundE cs hs pr ws p).2.1, int (foundE cs hs pr ws p).2.2] = _; rw [hE] <;> rfl) rfl trivial nil_sb (by show LSub _ [Row none (rows (foundE cs hs pr ws p).1)]; rw [hE]; exact mC)
 have hb3' := hb3; try simp at hb3'
 have h3 : ¬ hs.length < pr.length := by omega
 have hpl : pr.length = hs.length := by omega
 refine k7 (j9 (j6 (j3 (b8 rfl ?_)))); refine l9 rfl T.q9 rfl ?_; refine b8 rfl (d9 (l4 ?_)); refine v8 (β := Nat) ⟨fun k => k ≤ pr.length ∧ ∀ j, j < k → prB (pr.getD j default), fun k => [(1, .slice PA pr.length pc), (2, .slice WA ws.length wc), (4, .pointer (b4 gT)), (3, int p), (41, .slice PA pr.length pc), (42, int pr.length), (43, int k)], fun _ => [], fun _ => [Blk gT (Obj.cells #[.slice A cs.length ca, .slice B hs.length cb] T.z4 (0, 0)), Row A (rows cs), RowsF B hs Hd.row, Row PA (rows pr), Row WA (rows ws)]⟩ (fun k => pr.length - k) 0 ⟨Nat.zero_le _, fun j hj => absurd hj (Nat.not_lt_zero j)⟩ mC nil_sb mC fun k hk => ?_; obtain ⟨hk, hq⟩ := hk; refine j3 (A7 rfl rfl rfl (d9 (j6 ?_)))
 first | refine m7 rfl (fun hb4 => ?_) (fun hb4 => ?_) | refine k4 rfl (fun hb4 => ?_) (fun hb4 => ?_)
 ·have hb4' := hb4; try simp at hb4'
  have hk2 : k < pr.length := by omega
  refine k7 (j9 (j6 (l4 (j3 ?_)))); refine w3 (α := Int) _ _ rfl T.q9 T.v0 rfl rfl rfl mB rfl (by omega) (by decide) (a8 rfl T.a9 rfl (d8 mB (d4 (by omega) rfl)) ?_); refine b9 rfl (k9 (b8 rfl ?_)); refine i9 F.s8 rfl rfl (p7 _ _ _) l5 trivial fun _ _ => ?_; refine D5 rfl rfl (d9 ?_)
  first | refine m7 rfl (fun hb5 => ?_) (fun hb5 => ?_) | refine k4 rfl (fun hb5 => ?_) (fun hb5 => ?_)
  ·have hb5' := hb5; try simp at hb5'
   refine j3 (b9 rfl (b9 rfl (b9 rfl (d9 (l7 (C2 (w6 (Y6 ?_)))))))); refine w6 (lR ?_); have hE : foundE cs hs pr ws p = ([], 0, 1) := by rw [foundE, if_neg (Classical.not_not.2 h0), if_neg h2, if_neg h3, if_pos (mU (p := prB) hk2 (nbt hb5))]
   refine A8 (α := Int) ?_; exact ret3 (none, 0) rfl rfl rfl rfl (by show Value.tuple #[.slice none (foundE cs hs pr ws p).1.length 0, int (foundE cs hs pr ws p).2.1, int (foundE cs hs pr ws p).2.2] = _; rw [hE] <;> rfl) rfl trivial nil_sb (by show LSub _ [Row none (rows (foundE cs hs pr ws p).1)]; rw [hE]; exact mC)
  have hb5' := hb5; try simp at hb5'
  refine k7 (z2 (j9 (k8 ?_))); refine y2 _ rfl rfl rfl rfl s9 ?_; refine b8 rfl (d6 ?_); exact again _ (k + 1) ⟨by show k + 1 ≤ pr.length; omega, fun j hj => (Nat.lt_succ_iff_lt_or_eq.1 hj).elim (hq j) fun e => by subst e; exact nbf hb5⟩ (A5 (by omega)) mC nil_sb mC
 have hb4' := hb4; try simp at hb4'
 have hk2 : k = pr.length := by omega
 rw [hk2] at hq; have hq1 := cL (l := pr) (p := prB) hq; refine v5 (C3 (u9 (j9 (j6 (j3 (b8 rfl ?_)))))); refine l9 rfl T.q9 rfl ?_; refine b8 rfl (d9 (l4 ?_)); refine v8 (β := Nat) ⟨fun k => k ≤ ws.length ∧ ∀ j, j < k → (0 ≤ ws.getD j default ∧ ws.getD j default ≤ (hs.length : Int) - 1), fun k => [(1, .slice PA pr.length pc), (2, .slice WA ws.length wc), (4, .pointer (b4 gT)), (3, int p), (51, .slice WA ws.length wc), (52, int ws.length), (53, int k)], fun _ => [], fun _ => [Blk gT (Obj.cells #[.slice A cs.length ca, .slice B hs.length cb] T.z4 (0, 0)), Row A (rows cs), RowsF B hs Hd.row, Row PA (rows pr), Row WA (rows ws)]⟩ (fun k => ws.length - k) 0 ⟨Nat.zero_le _, fun j hj => absurd hj (Nat.not_lt_zero j)⟩ mC nil_sb mC fun k hk => ?_; obtain ⟨hk, hq⟩ := hk; refine j3 (A7 rfl rfl rfl (d9 (j6 ?_)))
 first | refine m7 rfl (fun hb6 => ?_) (fun hb6 => ?_) | refine k4 rfl (fun hb6 => ?_) (fun hb6 => ?_)
 ·have hb6' := hb6; try simp at hb6'
  have hk2 : k < ws.length := by omega
  refine k7 (j9 (j6 (l4 (j3 ?_)))); refine w3 (α := Int) _ _ rfl T.q9 T.v0 rfl rfl rfl mB rfl (by omega) (by decide) (a8 rfl T.a9 rfl (d8 mB (d4 (by omega) rfl)) ?_); refine b9 rfl (k9 (b8 rfl ?_))
  first | refine a7 ⟨_, 1, none⟩ rfl rfl T.p6 rfl ?_ | refine a7 _ rfl rfl T.p6 rfl ?_
  refine a8 (v := .slice B hs.length cb) rfl T.m3 rfl (i8 mB rfl) (l9 rfl T.w8 rfl (U6 _ rfl rfl rfl rfl s9 ?_)); refine i9 F.s8 rfl rfl (p7 _ _ _) l5 trivial fun _ _ => ?_; refine D5 rfl rfl (d9 ?_)
  first | refine m7 rfl (fun hb7 => ?_) (fun hb7 => ?_) | refine k4 rfl (fun hb7 => ?_) (fun hb7 => ?_)
  ·have hb7' := hb7; try simp at hb7'
   refine j3 (b9 rfl (b9 rfl (b9 rfl (d9 (l7 (C2 (w6 (Y6 ?_)))))))); refine w6 (lR ?_); have hE : foundE cs hs pr ws p = ([], 0, 3) := by rw [foundE, if_neg (Classical.not_not.2 h0), if_neg h2, if_neg h3, if_neg (Classical.not_not.2 hq1), if_pos (mU (p := fun w => 0 ≤ w ∧ w ≤ (hs.length : Int) - 1) hk2 (nbt hb7))]
   refine A8 (α := Int) ?_; exact ret3 (none, 0) rfl rfl rfl rfl (by show Value.tuple #[.slice none (foundE cs hs pr ws p).1.length 0, int (foundE cs hs pr ws p).2.1, int (foundE cs hs pr ws p).2.2] = _; rw [hE] <;> rfl) rfl trivial nil_sb (by show LSub _ [Row none (rows (foundE cs hs pr ws p).1)]; rw [hE]; exact mC)
  have hb7' := hb7; try simp at hb7'
  refine k7 (z2 (j9 (k8 ?_))); refine y2 _ rfl rfl rfl rfl s9 ?_; refine b8 rfl (d6 ?_); exact again _ (k + 1) ⟨by show k + 1 ≤ ws.length; omega, fun j hj => (Nat.lt_succ_iff_lt_or_eq.1 hj).elim (hq j) fun e => by subst e; exact nbf hb7⟩ (A5 (by omega)) mC nil_sb mC
 have hb6' := hb6; try simp at hb6'
 have hk2 : k = ws.length := by omega
 rw [hk2] at hq; have hq2 := cL (l := ws) (p := fun w => 0 ≤ w ∧ w ≤ (hs.length : Int) - 1) hq; refine v5 (C3 (u9 (j9 (j6 (j3 (b8 rfl ?_)))))); refine i9 F.s8 rfl rfl (p7 _ _ _) l5 trivial fun _ _ => ?_; refine D5 rfl rfl (d9 ?_)
 first | refine m7 rfl (fun hb8 => ?_) (fun hb8 => ?_) | refine k4 rfl (fun hb8 => ?_) (fun hb8 => ?_)
 ·have hb8' := hb8; try simp at hb8'
  have h8 := nbt hb8; refine j3 (b9 rfl (b9 rfl (b9 rfl (d9 (J1 (lR ?_)))))); have hE : foundE cs hs pr ws p = ([], 0, 1) := by rw [foundE, if_neg (Classical.not_not.2 h0), if_neg h2, if_neg h3, if_neg (Classical.not_not.2 hq1), if_neg (Classical.not_not.2 hq2), if_pos h8]
  refine A8 (α := Int) ?_; exact ret3 (none, 0) rfl rfl rfl rfl (by show Value.tuple #[.slice none (foundE cs hs pr ws p).1.length 0, int (foundE cs hs pr ws p).2.1, int (foundE cs hs pr ws p).2.2] = _; rw [hE] <;> rfl) rfl trivial nil_sb (by show LSub _ [Row none (rows (foundE cs hs pr ws p).1)]; rw [hE]; exact mC)
 have hb8' := hb8; try simp at hb8'
 have h8 := nbf hb8; refine k7 (j9 (j3 ?_)); refine u7 _ rfl rfl (fun _ => T.D6 ..) ?_; refine z1 rfl (fun _ => T.E6 _) fun gB => ?_; refine u3 (cs := offA ((⟨none, 0, []⟩, 0, 0) : Hv) false F.K1) rfl rfl (.refl _) T.E3 (by rfl) (by rfl) ?_; refine k9 ?_; refine t7 (cs := #[.slice A cs.length ca, .slice B hs.length cb]) rfl T.t1 T.t5 rfl mB rfl (b8 rfl ?_); refine i9 F.jY rfl rfl (bZ cs hs p hca hcb ha (by omega) (dj7 cs hs (by omega))) l5 mC fun x hx => ?_; obtain ⟨go, ps⟩ := x; obtain ⟨hpn2, hpm⟩ := hx; simp only at hpn2 hpm; refine z1 rfl (fun _ => T.gq9 _) fun g17 => ?_; refine D7 rfl rfl (.refl _) T.dj5 rfl rfl ?_; refine t8 (rows [((⟨some ⟨go, 0, none⟩, hs.length, ps⟩) : Sl (Sl Bool))]) (by show [Value.slice _ ps.length _] <+: [Value.slice _ hs.length _]; rw [hpn2]; exact List.prefix_refl _) ?_; refine gY (α := Int) ?_; refine d9 (j6 (dz4 (j9 (j6 (j3 ?_)))))
 first | refine a7 ⟨_, 1, none⟩ rfl rfl T.p6 rfl ?_ | refine a7 _ rfl rfl T.p6 rfl ?_
 refine a8 (v := .slice B hs.length cb) rfl T.m3 rfl (i8 mB rfl) (l9 rfl T.w8 rfl ?_); obtain ⟨N, hN⟩ : ∃ N, N = 2 ^ hs.length := ⟨_, rfl⟩; have hN2 : N ≤ 64 := by rw [hN]; exact Nat.pow_le_pow_right (n := 2) (by omega) hn6
 refine lq1 hs.length N hN rfl rfl rfl rfl (by omega) ?_; refine b8 rfl (d9 (l4 ?_)); refine v8 (β := Nat × Hv × Bool) ⟨fun x => x.1 ≤ N ∧ (x.2.1.dat, x.2.2) = bestL ordP (fndL hs (reachK (trOf cs hs) p hs.length) pr ws x.1) ∧ x.2.1.1.l.length ≤ 8, fun x => [(1, .slice PA pr.length pc), (2, .slice WA ws.length wc), (4, .pointer (b4 gT)), (16, .pointer (b4 gB)), (17, .pointer (b4 g17)), (75, int (N : Int)), (76, int x.1)], fun x => [(gB, Obj.cells (offA x.2.1 x.2.2 F.K1) T.v4 (0, 0))], fun x => [Blk gT (Obj.cells #[.slice A cs.length ca, .slice B hs.length cb] T.z4 (0, 0)), Row A (rows cs), RowsF B hs Hd.row, Row PA (rows pr), Row WA (rows ws), Row (b4 g17) (rows [((⟨some ⟨go, 0, none⟩, hs.length, ps⟩) : Sl (Sl Bool))]), Row (b4 go) (rows ps), innerF ps, x.2.1.row]⟩ (fun x => N - x.1) (0, ((⟨none, 0, []⟩, 0, 0) : Hv), false) ⟨Nat.zero_le _, rfl, Nat.zero_le _⟩ mC (.refl _) mC fun x hx => ?_; obtain ⟨k, y, ok⟩ := x; obtain ⟨hk, hb, hy⟩ := hx; simp only at hk hb hy; have hsl := mR k hs.length; have hpi : ∀ v ∈ (pickK k hs.length), 0 ≤ v ∧ v < (hs.length : Int) := fun v hv => dx1 hv; refine j3 (A7 rfl rfl rfl (d9 (j6 ?_)))
 first | refine m7 rfl (fun hb9 => ?_) (fun hb9 => ?_) | refine k4 rfl (fun hb9 => ?_) (fun hb9 => ?_)
 ·have hb9' := hb9; try simp at hb9'
  have hk2 : k < N := by omega
  refine k7 (j9 (j6 (l4 (j3 (b8 rfl (b9 rfl (k9 ?_))))))); refine b8 rfl (xO (k : Int) rfl T.cz8 T.rL rfl (wrap64 (by omega)) ?_)
  first | refine a7 ⟨_, 1, none⟩ rfl rfl T.p6 rfl ?_ | refine a7 _ rfl rfl T.p6 rfl ?_
  refine a8 (v := .slice B hs.length cb) rfl T.m3 rfl (i8 mB rfl) (l9 rfl T.w8 rfl ?_); refine i9 F.cC rfl rfl (V8 k hs.length (by omega) (by omega)) l5 trivial fun gc _ => ?_; refine u7 _ rfl rfl (fun _ => T.mN ..) ?_; refine z1 rfl (fun _ => T.aV _) fun gh => ?_; refine u3 (cs := #[.slice (b4 gc) (pickK k hs.length).length (pickK k hs.length).length, int 0, int 0]) rfl rfl (.refl _) T.z7 (by rfl) (by rfl) ?_; refine d9 (j6 (j3 ?_))
  first | refine a7 ⟨_, 0, none⟩ rfl rfl T.p8 rfl ?_ | refine a7 _ rfl rfl T.p8 rfl ?_
  refine a8 (v := .slice (b4 gc) (pickK k hs.length).length (pickK k hs.length).length) rfl T.d5 rfl (j0 mB rfl) (l9 rfl T.q9 rfl ?_); refine b8 rfl (d9 (l4 ?_)); refine v8 (β := Nat × Int) ⟨fun x => x.1 ≤ (pickK k hs.length).length ∧ x.2 = ((priP pr (pickK k hs.length)).take x.1).sum ∧ ∀ i, i < x.1 → 0 ≤ (hs.getD ((pickK k hs.length).getD i default).toNat default).2.1, fun x => [(1, .slice PA pr.length pc), (2, .slice WA ws.length wc), (4, .pointer (b4 gT)), (16, .pointer (b4 gB)), (17, .pointer (b4 g17)), (19, .pointer (b4 gh)), (75, int (N : Int)), (76, int k), (87, .slice (b4 gc) (pickK k hs.length).length (pickK k hs.length).length), (88, int (pickK k hs.length).length), (89, int x.1)], fun x => [(gh, Obj.cells #[.slice (b4 gc) (pickK k hs.length).length (pickK k hs.length).length, int 0, int x.2] T.L9 (0, 0)), (gB, Obj.cells (offA y ok F.K1) T.v4 (0, 0))], fun x => [Row (b4 gc) (rows (pickK k hs.length)), Blk gT (Obj.cells #[.slice A cs.length ca, .slice B hs.length cb] T.z4 (0, 0)), Row A (rows cs), RowsF B hs Hd.row, Row PA (rows pr), Row WA (rows ws), Row (b4 g17) (rows [((⟨some ⟨go, 0, none⟩, hs.length, ps⟩) : Sl (Sl Bool))]), Row (b4 go) (rows ps), innerF ps, y.row]⟩ (fun x => (pickK k hs.length).length - x.1) (0, 0) ⟨Nat.zero_le _, rfl, fun j hj => absurd hj (Nat.not_lt_zero j)⟩ mC (.refl _) mC fun x hx => ?_; obtain ⟨j, b⟩ := x; obtain ⟨hj, hbs, hjp⟩ := hx; simp only at hj hbs hjp; have hbb := pQ (priP_bd (pr := pr) hq1 (fun v hv => by have := hpi v hv; omega) : ∀ v ∈ (priP pr (pickK k hs.length)), 0 ≤ v ∧ v ≤ 1000000000) j; rw [← hbs] at hbb; refine j3 (A7 rfl rfl rfl (d9 (j6 ?_)))
  first | refine m7 rfl (fun hb10 => ?_) (fun hb10 => ?_) | refine k4 rfl (fun hb10 => ?_) (fun hb10 => ?_)
  ·have hb10' := hb10; try simp at hb10'
   have hj2 : j < (pickK k hs.length).length := by omega
   have hvj := hpi _ (u0 hj2); obtain ⟨v, hv⟩ : ∃ v : Nat, ((pickK k hs.length).getD j default) = (v : Int) := ⟨_, (Int.toNat_of_nonneg hvj.1).symm⟩; have hv2 : v < hs.length := by omega
   have hv3 : v < pr.length := by omega
   have hcv := hq1 _ (u0 hv3); have hcv1 := hcv.1; have hcv2 := hcv.2; have hb2' := lG (l := (priP pr (pickK k hs.length))) (k := j) (by rw [dq8]; exact hj2); rw [← hbs, priP_at hj2, hv, Int.toNat_natCast] at hb2'; refine k7 (j9 (j6 (l4 (j3 ?_)))); refine w3 (α := Int) _ _ rfl T.q9 T.v0 rfl rfl rfl mB rfl (by omega) (by decide) (a8 rfl T.a9 rfl (d8 mB (d4 (by omega) rfl)) ?_); refine b9 rfl (d9 (j6 (j3 ?_)))
   first | refine a7 ⟨_, 1, none⟩ rfl rfl T.p6 rfl ?_ | refine a7 _ rfl rfl T.p6 rfl ?_
   refine a8 (v := .slice B hs.length cb) rfl T.m3 rfl (i8 mB rfl) (b8 rfl (az4 (A := B) (ps := hs) (f := Hd.row) mB (w3 (α := Hd) hs v rfl T.w8 T.E8 rfl rfl hv mB rfl hv2 (by decide) ?_)))
   first | refine a7 ⟨_, 1, none⟩ rfl rfl T.z8 rfl ?_ | refine a7 _ rfl rfl T.z8 rfl ?_
   refine a8 (v := int (hs.getD v default).2.1) rfl T.a9 rfl (d7 mB (rows_get hv2 (j := 1) rfl)) ?_; refine A7 rfl rfl rfl (d9 ?_)
   first | refine m7 rfl (fun hb11 => ?_) (fun hb11 => ?_) | refine k4 rfl (fun hb11 => ?_) (fun hb11 => ?_)
   ·have hb11' := hb11; try simp at hb11'
    refine v5 (gD (sM rfl (C3 (sM rfl (gD (u9 (j9 (k8 ?_)))))))); refine y2 _ rfl rfl rfl rfl s9 ?_; refine b8 rfl (d6 ?_); have hy8 := hy; exact again _ (k + 1, y, ok) ⟨by show k + 1 ≤ N; omega, by show (Hv.dat y, ok) = bestL ordP (fndL hs (reachK (trOf cs hs) p hs.length) pr ws (k + 1)); rw [nB, if_neg (cq0 hj2 (by rw [hv, Int.toNat_natCast]; exact hb11))]; exact hb, hy8⟩ (A5 (by omega)) mC (.cons _ (.refl _)) mC
   have hb11' := hb11; try simp at hb11'
   refine k7 (j9 ?_); refine G8 6 mixed (by decide) (by decide) rfl rfl ?_
   apply n0 _ rfl rfl rfl
   ·intro w1
    first | refine a7 ⟨_, 2, none⟩ rfl rfl T.u4 rfl ?_ | refine a7 _ rfl rfl T.u4 rfl ?_
    refine d6 ?_; exact k6 rfl
   refine s7 (fun w1 => a8 (v := int b) rfl T.a9 rfl (i8 mB rfl) (q_z rfl)) (s7 (fun w1 => b8 rfl (q_z rfl)) (s7 (fun w1 => b8 rfl (q_z rfl)) (s7 (fun w1 => w3 (α := Int) pr v rfl T.q9 T.v0 rfl rfl hv mB rfl hv3 (by decide) (q_z rfl)) (s7 (fun w1 => a8 (v := int (pr.getD v default)) rfl T.a9 rfl (d8 mB (d4 hv3 rfl)) (q_z rfl)) ?_)))); refine D4 ⟨rfl, ?_⟩; refine y2 (a := b) (b := pr.getD v default) (b + pr.getD v default) rfl rfl rfl rfl s9 ?_
   first | refine a7 ⟨_, 2, none⟩ rfl rfl T.u4 rfl ?_ | refine a7 _ rfl rfl T.u4 rfl ?_
   refine D7 rfl rfl (.refl _) T.v0 rfl rfl ?_; refine d6 (z2 (j9 (k8 ?_))); refine y2 _ rfl rfl rfl rfl s9 ?_; refine b8 rfl (d6 ?_); exact again _ (j + 1, b + pr.getD v default) ⟨by show j + 1 ≤ _; omega, hb2'.symm, fun i hi => (Nat.lt_succ_iff_lt_or_eq.1 hi).elim (hjp i) fun e => by subst e; rw [hv, Int.toNat_natCast]; exact Int.not_lt.1 hb11⟩ (A5 (by omega)) mC (.refl _) mC
  have hb10' := hb10; try simp at hb10'
  have hj2 : j = (pickK k hs.length).length := by omega
  rw [hj2, List.take_of_length_le (Nat.le_of_eq (dq8 ..))] at hbs; rw [hj2] at hjp; have hall := cL (l := (pickK k hs.length)) (p := fun v => 0 ≤ (hs.getD v.toNat default).2.1) hjp; refine v5 (C3 (u9 (j9 (j6 (j3 (b8 rfl ?_)))))); refine l9 rfl T.q9 rfl ?_; refine b8 rfl (d9 (l4 ?_)); refine v8 (β := Nat) ⟨fun i => i ≤ ws.length ∧ ∀ q, q < i → ((pickK k hs.length).any fun x => (((reachK (trOf cs hs) p hs.length)).getD (ws.getD q default).toNat default).getD x.toNat default) = true, fun i => [(1, .slice PA pr.length pc), (2, .slice WA ws.length wc), (4, .pointer (b4 gT)), (16, .pointer (b4 gB)), (17, .pointer (b4 g17)), (19, .pointer (b4 gh)), (75, int (N : Int)), (76, int k), (109, .slice WA ws.length wc), (110, int ws.length), (111, int i)], fun _ => [(gh, Obj.cells #[.slice (b4 gc) (pickK k hs.length).length (pickK k hs.length).length, int 0, int b] T.L9 (0, 0)), (gB, Obj.cells (offA y ok F.K1) T.v4 (0, 0))], fun _ => [Row (b4 gc) (rows (pickK k hs.length)), Blk gT (Obj.cells #[.slice A cs.length ca, .slice B hs.length cb] T.z4 (0, 0)), Row A (rows cs), RowsF B hs Hd.row, Row PA (rows pr), Row WA (rows ws), Row (b4 g17) (rows [((⟨some ⟨go, 0, none⟩, hs.length, ps⟩) : Sl (Sl Bool))]), Row (b4 go) (rows ps), innerF ps, y.row]⟩ (fun i => ws.length - i) 0 ⟨Nat.zero_le _, fun j hj => absurd hj (Nat.not_lt_zero j)⟩ mC (.refl _) mC fun i hi => ?_; obtain ⟨hi, hq⟩ := hi; refine j3 (A7 rfl rfl rfl (d9 (j6 ?_)))
  first | refine m7 rfl (fun hb12 => ?_) (fun hb12 => ?_) | refine k4 rfl (fun hb12 => ?_) (fun hb12 => ?_)
  ·have hb12' := hb12; try simp at hb12'
   have hi2 : i < ws.length := by omega
   have hwi := hq2 _ (u0 hi2); obtain ⟨u, hu⟩ : ∃ u : Nat, (ws.getD i default) = (u : Int) := ⟨_, (Int.toNat_of_nonneg hwi.1).symm⟩; have hu2 : u < hs.length := by omega
   refine k7 (j9 (j6 (l4 (j3 ?_)))); refine w3 (α := Int) _ _ rfl T.q9 T.v0 rfl rfl rfl mB rfl (by omega) (by decide) (a8 rfl T.a9 rfl (d8 mB (d4 (by omega) rfl)) ?_); refine z1 rfl (fun _ => T.nj7 _) fun g23 => ?_; refine D7 rfl rfl (.refl _) T.v0 rfl rfl ?_; refine t8 (rows [(u : Int)]) (by show [int (u : Int)] <+: [int (ws.getD i default)]; rw [hu]; exact List.prefix_refl _) ?_; refine k9 ?_
   first | refine a7 ⟨_, 0, none⟩ rfl rfl T.p8 rfl ?_ | refine a7 _ rfl rfl T.p8 rfl ?_
   refine a8 (v := .slice (b4 gc) (pickK k hs.length).length (pickK k hs.length).length) rfl T.d5 rfl (j0 mB rfl) (bS rfl rfl rfl ?_); have hpu : (ps.getD u default).l = ((reachK (trOf cs hs) p hs.length)).getD u default := by rw [← hpm, w4 (l := ps.map (·.l)) (k := u) (by rw [List.length_map]; omega), w4 (l := ps) (k := u) (by omega), List.getElem_map]
   have hpl9 : (ps.getD u default).l.length = hs.length := by rw [hpu, w4 (by unfold reachK; simp; omega)]; unfold reachK; simp only [List.getElem_map, List.getElem_range]; rw [bz5, ax2 h0 hu2]
   refine i9 F.N6 rfl rfl (L4 (A := some ⟨gc, 0, none⟩) (cap := [.pointer (b4 g17), .pointer (b4 g23)]) (L0 := [Row (b4 g17) (rows [((⟨some ⟨go, 0, none⟩, hs.length, ps⟩) : Sl (Sl Bool))]), Row (b4 g23) (rows [(u : Int)]), Row (b4 go) (rows ps), innerF ps]) (pickK k hs.length) (fun x => (ps.getD u default).l.getD x.toNat default) (by omega) F.wG (fun x hx => by
     have h9 := hpi x hx; obtain ⟨x', rfl⟩ : ∃ x' : Nat, x = (x' : Int) := ⟨x.toNat, by omega⟩; rw [Int.toNat_natCast]
     exact rE ps u x' (by omega) (by omega))) l5 mC fun _ _ => ?_
   rw [hpu]; refine D5 rfl rfl (d9 ?_)
   first | refine m7 rfl (fun hb13 => ?_) (fun hb13 => ?_) | refine k4 rfl (fun hb13 => ?_) (fun hb13 => ?_)
   ·have hb13' := hb13; try simp at hb13'
    refine v5 (sM rfl (C3 (sM rfl (gD (u9 (j9 (k8 ?_))))))); refine y2 _ rfl rfl rfl rfl s9 ?_; refine b8 rfl (d6 ?_); have hy8 := hy; exact again _ (k + 1, y, ok) ⟨by show k + 1 ≤ N; omega, by show (Hv.dat y, ok) = bestL ordP (fndL hs (reachK (trOf cs hs) p hs.length) pr ws (k + 1)); rw [nB, if_neg (gj1 hi2 (by rw [hu, Int.toNat_natCast]; exact eq_false_of_ne_true (by simpa using hb13)))]; exact hb, hy8⟩ (A5 (by omega)) mC (.cons _ (.refl _)) mC
   have hb13' := hb13; try simp at hb13'
   refine k7 (z2 (j9 (k8 ?_))); refine y2 _ rfl rfl rfl rfl s9 ?_; refine b8 rfl (d6 ?_); exact again _ (i + 1) ⟨by show i + 1 ≤ ws.length; omega, fun q hq' => (Nat.lt_succ_iff_lt_or_eq.1 hq').elim (hq q) fun e => by subst e; rw [hu, Int.toNat_natCast]; simpa using hb13⟩ (A5 (by omega)) mC (.refl _) mC
  have hb12' := hb12; try simp at hb12'
  have hi2 : i = ws.length := by omega
  rw [hi2] at hq; have hall2 := cL (l := ws) (p := fun w => ((pickK k hs.length).any fun x => (((reachK (trOf cs hs) p hs.length)).getD w.toNat default).getD x.toNat default) = true) hq; refine v5 (C3 (u9 (j9 (k8 ?_)))); refine u1 (cs := #[.slice (b4 gc) (pickK k hs.length).length (pickK k hs.length).length, int 0, int b]) rfl T.E0 T.z7 rfl mB rfl ?_; refine i9 F.H4 rfl rfl (G1 jq2 ((⟨some ⟨gc, 0, none⟩, (pickK k hs.length).length, (pickK k hs.length)⟩, 0, b) : Hv) y ok (by show (pickK k hs.length).length ≤ 1000000; omega) (by omega)) (List.Perm.swap _ _ _) mC fun z hz => ?_; obtain ⟨z, zk⟩ := z; obtain ⟨hz, hzi⟩ := hz; refine d6 (z2 (j9 (k8 ?_))); refine y2 _ rfl rfl rfl rfl s9 ?_; refine b8 rfl (d6 ?_); have hyes := fnd_yes (ws := ws) (rs := (reachK (trOf cs hs) p hs.length)) hall hall2; have hXd : Hv.dat ((⟨some ⟨gc, 0, none⟩, (pickK k hs.length).length, (pickK k hs.length)⟩, 0, b) : Hv) = fndH pr (pickK k hs.length) := by show ((pickK k hs.length), (0 : Int), b) = _; rw [hbs]; rfl
  rcases hzi with rfl | rfl
  · have hy8 : ((⟨some ⟨gc, 0, none⟩, (pickK k hs.length).length, (pickK k hs.length)⟩, 0, b) : Hv).1.l.length ≤ 8 := by first | exact hy | (show (pickK k hs.length).length ≤ 8; omega)
    exact again _ (k + 1, ((⟨some ⟨gc, 0, none⟩, (pickK k hs.length).length, (pickK k hs.length)⟩, 0, b) : Hv), zk) ⟨by show k + 1 ≤ N; omega, by show (Hv.dat ((⟨some ⟨gc, 0, none⟩, (pickK k hs.length).length, (pickK k hs.length)⟩, 0, b) : Hv), zk) = bestL ordP (fndL hs (reachK (trOf cs hs) p hs.length) pr ws (k + 1)); rw [nB, if_pos hyes, bI, ← hb, ← hXd]; exact hz, hy8⟩ (A5 (by omega)) mC (by first | exact .cons_cons _ nil_sb | exact .cons _ (.refl _)) mC
  have hy8 : z.1.l.length ≤ 8 := by first | exact hy | (show (pickK k hs.length).length ≤ 8; omega)
  exact again _ (k + 1, z, zk) ⟨by show k + 1 ≤ N; omega, by show (Hv.dat z, zk) = bestL ordP (fndL hs (reachK (trOf cs hs) p hs.length) pr ws (k + 1)); rw [nB, if_pos hyes, bI, ← hb, ← hXd]; exact hz, hy8⟩ (A5 (by omega)) mC (by first | exact .cons_cons _ nil_sb | exact .cons _ (.refl _)) mC
 have hb9' := hb9; try simp at hb9'
 have hk2 : k = N := by omega
 rw [hk2, hN] at hb; have hb : (y.dat, ok) = fndB (trOf cs hs) hs pr ws p := hb; refine v5 (C3 (u9 (j9 (j6 (j3 ?_)))))
 first | refine a7 ⟨_, 3, none⟩ rfl rfl T.r7 rfl ?_ | refine a7 _ rfl rfl T.r7 rfl ?_
 refine a8 (v := .bool ok) rfl T.hZ rfl (j0 mB rfl) ?_; refine D5 rfl rfl (d9 ?_)
 first | refine m7 rfl (fun hb14 => ?_) (fun hb14 => ?_) | refine k4 rfl (fun hb14 => ?_) (fun hb14 => ?_)
 ·have hb14' := hb14; try simp at hb14'
  refine j3 (b9 rfl (b9 rfl (b9 rfl (d9 (J1 (lR ?_)))))); have hE : foundE cs hs pr ws p = ([], 0, 11) := by rw [foundE, if_neg (Classical.not_not.2 h0), if_neg h2, if_neg h3, if_neg (Classical.not_not.2 hq1), if_neg (Classical.not_not.2 hq2), if_neg (Classical.not_not.2 h8), ← hb]; exact if_pos (by simpa using hb14)
  refine A8 (α := Int) ?_; exact ret3 (none, 0) rfl rfl rfl rfl (by show Value.tuple #[.slice none (foundE cs hs pr ws p).1.length 0, int (foundE cs hs pr ws p).2.1, int (foundE cs hs pr ws p).2.2] = _; rw [hE] <;> rfl) rfl trivial nil_sb (by show LSub _ [Row none (rows (foundE cs hs pr ws p).1)]; rw [hE]; exact mC)
 have hb14' := hb14; try simp at hb14'
 refine k7 (j9 (j6 ?_)); refine G8 7 mixed (by decide) (by decide) rfl rfl ?_
 apply n0 _ rfl rfl rfl
 ·intro w1
  first | refine a7 ⟨_, 0, none⟩ rfl rfl T.l8 rfl ?_ | refine a7 _ rfl rfl T.l8 rfl ?_
  refine d6 ?_; exact k6 rfl
 apply n0 _ rfl rfl rfl
 ·intro w1
  first | refine a7 ⟨_, 0, none⟩ rfl rfl T.p8 rfl ?_ | refine a7 _ rfl rfl T.p8 rfl ?_
  refine d6 ?_; exact k6 rfl
 apply n0 _ rfl rfl rfl
 ·intro w1
  first | refine a8 rfl T.d5 rfl (i8 mB rfl) ?_ | refine a8 rfl T.d5 rfl (j0 mB rfl) ?_ | refine a8 rfl T.d5 rfl (d8 mB (d4 (by omega) rfl)) ?_ | refine a8 rfl T.d5 rfl (d7 mB (rows_get (by omega) rfl)) ?_ | refine a8 rfl T.d5 rfl (g4 mB rfl) ?_
  refine d6 ?_; exact k6 rfl
 apply n0 _ rfl rfl rfl
 ·intro w1
  first | refine a7 ⟨_, 0, none⟩ rfl rfl T.l8 rfl ?_ | refine a7 _ rfl rfl T.l8 rfl ?_
  refine d6 ?_; exact k6 rfl
 apply n0 _ rfl rfl rfl
 ·intro w1
  first | refine a7 ⟨_, 2, none⟩ rfl rfl T.u4 rfl ?_ | refine a7 _ rfl rfl T.u4 rfl ?_
  refine d6 ?_; exact k6 rfl
 apply n0 _ rfl rfl rfl
 ·intro w1
  first | refine a8 rfl T.a9 rfl (i8 mB rfl) ?_ | refine a8 rfl T.a9 rfl (j0 mB rfl) ?_ | refine a8 rfl T.a9 rfl (d8 mB (d4 (by omega) rfl)) ?_ | refine a8 rfl T.a9 rfl (d7 mB (rows_get (by omega) rfl)) ?_ | refine a8 rfl T.a9 rfl (g4 mB rfl) ?_
  refine d6 ?_; exact k6 rfl
 refine s7 (fun w1 => b9 rfl (q_z rfl)) ?_; refine D4 ⟨rfl, ?_⟩; refine b9 rfl (b9 rfl (d9 (l7 (lR ?_)))); have hE : foundE cs hs pr ws p = (y.1.l, y.2.2, 0) := by rw [foundE, if_neg (Classical.not_not.2 h0), if_neg h2, if_neg h3, if_neg (Classical.not_not.2 hq1), if_neg (Classical.not_not.2 hq2), if_neg (Classical.not_not.2 h8), ← hb]; exact if_neg (by simpa using hb14)
 exact ret3 (y.1.a, y.1.c) rfl rfl rfl rfl (by show Value.tuple #[.slice y.1.a (foundE cs hs pr ws p).1.length y.1.c, int (foundE cs hs pr ws p).2.1, int (foundE cs hs pr ws p).2.2] = _; rw [hE] <;> rfl) rfl trivial nil_sb (by show LSub _ [Row y.1.a (rows (foundE cs hs pr ws p).1)]; rw [hE]; exact mC)
end Go.Proofs.YtmpfpfbcejfijaaGreatDoor
end
section
namespace Go.Proofs.YtmpfpfbcejfijaaGreatDoor
open Go Go.W
set_option maxRecDepth 20000
attribute [local irreducible] HL HC HQ HB Row Rows2 Blk Facts
theorem jq1 : billsE ctrC [0, 0, 3] ctrA = ([9, 27, 120], 0) := by kernel_rfl
theorem jj9 : worthE ctrC [0, 0, 3] someA (1, 1, 1) = (8, 0) := by kernel_rfl
theorem lx0 : fillE G3 5 = ([0, 1], 80, 0) := by kernel_rfl
theorem hj3 : sheetsE 100 12 4 = (3, 44, 0) := by kernel_rfl
theorem jq0 (g1 g2 : Nat) : foundE shopsC (shopsH g1 g2) [5, 9, 4, 7, 6, 9] [1, 2] 1 = ([2, 3], 11, 0) := by kernel_rfl
theorem mx2 (x : Nat × Nat) : Meets Tryz.prog F.cI [saV ctrC (ctrP x.1) (ctrQ x.2)] { LI := saL (ctrP x.1) (ctrQ x.2), inv := fun y : OutC => 3 ≤ y.2, val := fun y => .tuple #[.slice y.1 3 y.2, int 0], LO := fun y => [Row y.1 (rows ([9, 27, 120] : List Int))] } := by
  have h := iJ ctrC (ctrP x.1) (ctrQ x.2) (show 3 ≤ 1000000 by decide) (show 3 ≤ 1000000 by decide); rw [show billsE ctrC (ctrP x.1).l (ctrQ x.2).l = ([9, 27, 120], 0) from jq1] at h; exact h
theorem mq5 (x : Nat × Nat) : Meets Tryz.prog F.cF [saV ctrC (ctrP x.1) (someQ x.2), adV (1, 1, 1)] { LI := saL (ctrP x.1) (someQ x.2), val := fun _ : Unit => .tuple #[int 8, int 0] } := by
  have h := iE ctrC (ctrP x.1) (someQ x.2) (1, 1, 1) (show 3 ≤ 1000000 by decide) (show 2 ≤ 1000000 by decide) (Nat.le_refl 2); rw [show worthE ctrC (ctrP x.1).l (someQ x.2).l (1, 1, 1) = (8, 0) from jj9] at h; exact h
theorem ex_fill (g : Nat) : Meets Tryz.prog F.iG [.slice (b4 g) 3 3, int 5] { LI := [Row (b4 g) (rows G3)], val := fun y : OutC => .tuple #[.slice y.1 2 y.2, int 80, int 0], LO := fun y => [Row y.1 (rows ([0, 1] : List Int))] } := by
  have h := kB (A := some ⟨g, 0, none⟩) (ca := 3) G3 5 (by decide); rw [lx0] at h; exact h
theorem kj0 : Meets Tryz.prog F.Z6 [int 100, int 12, int 4] { val := fun _ : Unit => .tuple #[int 3, int 44, int 0] } := by
  have h := dA 100 12 4; rw [hj3] at h; exact h
theorem mq9 (x : Nat × Nat × Nat × Nat) (g h : Nat) : Meets Tryz.prog F.X9 [.agg #[.slice (some ⟨x.1, 0, none⟩) 4 4, .slice (some ⟨x.2.1, 0, none⟩) 6 6], .slice (b4 g) 6 6, .slice (b4 h) 2 2, int 1] { LI := [Row (some ⟨x.1, 0, none⟩) (rows shopsC), RowsF (some ⟨x.2.1, 0, none⟩) (shopsH x.2.2.1 x.2.2.2) Hd.row, Row (b4 g) (rows ([5, 9, 4, 7, 6, 9] : List Int)), Row (b4 h) (rows ([1, 2] : List Int))], val := fun y : OutC => .tuple #[.slice y.1 2 y.2, int 11, int 0], LO := fun y => [Row y.1 (rows ([2, 3] : List Int))] } := by
  have h := X8 (A := some ⟨x.1, 0, none⟩) (B := some ⟨x.2.1, 0, none⟩) (PA := some ⟨g, 0, none⟩) (WA := some ⟨h, 0, none⟩) (ca := 4) (cb := 6) (pc := 6) (wc := 2) shopsC (shopsH x.2.2.1 x.2.2.2) [5, 9, 4, 7, 6, 9] [1, 2] 1 (by decide) (Nat.le_refl 6) (by intro h hh; simp only [shopsH, List.mem_cons, List.not_mem_nil, or_false] at hh; rcases hh with rfl | rfl | rfl | rfl | rfl | rfl <;> first | decide | exact (show 1 ≤ 1000000 by decide)) (by decide) (by decide); rw [jq0] at h; exact h
theorem mq8 {A B : Option Addr} {ca cb : Nat} : Meets Tryz.prog F.X1 [.slice A 3 ca, .slice B 3 cb] { LI := [Row A (rows ([9, 27, 120] : List Int)), Row B (rows ([9, 27, 120] : List Int))], val := fun _ : Unit => .bool true } := by
  have h := X0 (A := A) (B := B) (ca := ca) (cb := cb) [9, 27, 120] [9, 27, 120] (by decide); rw [decide_eq_true rfl] at h; exact h
theorem gj5 {A B : Option Addr} {ca cb : Nat} (a b : Int) : Meets Tryz.prog F.X1 [.slice A 2 ca, .slice B 2 cb] { LI := [Row A (rows [a, b]), Row B (rows [a, b])], val := fun _ : Unit => .bool true } := by
  have h := X0 (A := A) (B := B) (ca := ca) (cb := cb) [a, b] [a, b] (show 2 ≤ 9223372036854775806 by decide); rw [decide_eq_true rfl] at h; exact h
set_option maxHeartbeats 1000000 in
theorem qJ : Meets Tryz.prog F.iZ [] { val := fun _ : Unit => .bool true } := by
 refine j8 F.xV rfl t4 fun w0 => ?_; refine j3 (b9 rfl (k9 ?_)); refine i9 F.w5 rfl rfl (v7) l5 trivial fun x1 _ => ?_; refine i9 F.pH rfl rfl (mx2 x1) l5 mC fun y1 _ => ?_; refine b8 rfl (l6 rfl rfl rfl (l6 rfl rfl rfl (b9 rfl (b9 rfl (k9 ?_))))); refine i9 F.pC rfl rfl (gW) l5 trivial fun x2 _ => ?_; refine u7 _ rfl rfl (fun _ => T.z3 ..) ?_; refine i9 F.pE rfl rfl (mq5 x2) l5 mC fun _ _ => ?_; refine b8 rfl (l6 rfl rfl rfl (l6 rfl rfl rfl (b9 rfl (b9 rfl (k9 ?_))))); refine i9 F.V0 rfl rfl (N9) l5 trivial fun x3 _ => ?_; refine i9 F.tF rfl rfl (ex_fill x3) l5 mC fun y3 _ => ?_; refine b8 rfl (l6 rfl rfl rfl (l6 rfl rfl rfl (l6 rfl rfl rfl (b9 rfl (b9 rfl (b9 rfl (k9 ?_))))))); refine i9 F.O7 rfl rfl (K0) l5 trivial fun x4 _ => ?_; refine i9 F.bV rfl rfl (U9) l5 trivial fun x5 _ => ?_; refine m6 _ rfl rfl (fun _ => T.S9 ..) fun gw => ?_; refine t8 (rows ([1, 2] : List Int)) (List.prefix_refl _) ?_; refine i9 F.dX rfl rfl (mq9 x4 x5 gw) l5 mC fun y4 _ => ?_; refine b8 rfl (l6 rfl rfl rfl (l6 rfl rfl rfl (l6 rfl rfl rfl (b9 rfl (b9 rfl (b9 rfl (k9 ?_))))))); refine i9 F.mJ rfl rfl (kj0) l5 trivial fun _ _ => ?_; refine b8 rfl (l6 rfl rfl rfl (l6 rfl rfl rfl (l6 rfl rfl rfl (b9 rfl (b9 rfl (b9 rfl (k9 (b8 rfl ?_)))))))); refine D8 rfl rfl rfl (b8 rfl ?_); refine r5 rfl rfl ?_ ?_
 ·intro hg1; have hg1' := hg1; try simp at hg1'
  refine k5 rfl rfl hg1 (b8 rfl (k5 rfl rfl hg1 (D8 rfl rfl rfl ?_))); refine p_t rfl rfl (bt1 hg1) rfl (b8 rfl ?_); refine r5 rfl rfl ?_ ?_
  ·intro hg2; have hg2' := hg2; try simp at hg2'
   refine k5 rfl rfl hg2 (b8 rfl (k5 rfl rfl hg2 (D8 rfl rfl rfl ?_))); refine p_t rfl rfl (bt1 hg2) rfl (b8 rfl ?_); refine r5 rfl rfl ?_ ?_
   ·intro hg3; have hg3' := hg3; try simp at hg3'
    refine k5 rfl rfl hg3 (b8 rfl (k5 rfl rfl hg3 (D8 rfl rfl rfl ?_))); refine p_t rfl rfl (bt1 hg3) rfl (b8 rfl ?_); refine r5 rfl rfl ?_ ?_
    ·intro hg4; have hg4' := hg4; try simp at hg4'
     refine k5 rfl rfl hg4 (b8 rfl (k5 rfl rfl hg4 (D8 rfl rfl rfl ?_))); refine p_t rfl rfl (bt1 hg4) rfl (b8 rfl ?_); refine r5 rfl rfl ?_ ?_
     ·intro hg5; have hg5' := hg5; try simp at hg5'
      refine k5 rfl rfl hg5 (b8 rfl (k5 rfl rfl hg5 (D8 rfl rfl rfl ?_))); refine p_t rfl rfl (bt1 hg5) rfl (b8 rfl ?_); refine r5 rfl rfl ?_ ?_
      ·intro hg6; have hg6' := hg6; try simp at hg6'
       refine k5 rfl rfl hg6 (b8 rfl (k5 rfl rfl hg6 (D8 rfl rfl rfl ?_))); refine p_t rfl rfl (bt1 hg6) rfl (b8 rfl ?_); refine r5 rfl rfl ?_ ?_
       ·intro hg7; have hg7' := hg7; try simp at hg7'
        refine k5 rfl rfl hg7 (b8 rfl (k5 rfl rfl hg7 (D8 rfl rfl rfl ?_))); refine p_t rfl rfl (bt1 hg7) rfl (b8 rfl ?_); refine r5 rfl rfl ?_ ?_
        ·intro hg8; have hg8' := hg8; try simp at hg8'
         refine k5 rfl rfl hg8 (b8 rfl (k5 rfl rfl hg8 (D8 rfl rfl rfl ?_))); refine p_t rfl rfl (bt1 hg8) rfl (b8 rfl ?_); refine r5 rfl rfl ?_ ?_
         ·intro hg9; have hg9' := hg9; try simp at hg9'
          refine k5 rfl rfl hg9 (b8 rfl (k5 rfl rfl hg9 (D8 rfl rfl rfl ?_))); refine p_t rfl rfl (bt1 hg9) rfl (b8 rfl ?_); refine r5 rfl rfl ?_ ?_
          ·intro hg10; have hg10' := hg10; try simp at hg10'
           refine k5 rfl rfl hg10 (b8 rfl (k5 rfl rfl hg10 ?_)); refine m6 _ rfl rfl (fun _ => T.M9 ..) fun g40 => ?_; refine t8 (rows ([9, 27, 120] : List Int)) (List.prefix_refl _) (k5 rfl rfl hg10 ?_); refine i9 F.G7 rfl rfl (mq8) l5 mC fun _ _ => ?_; refine p_t rfl rfl (bt1 hg10) rfl (b8 rfl ?_); refine r5 rfl rfl ?_ ?_
           ·intro hg11; have hg11' := hg11; try simp at hg11'
            refine k5 rfl rfl hg11 (b8 rfl (k5 rfl rfl hg11 ?_)); refine m6 _ rfl rfl (fun _ => T.S9 ..) fun g45 => ?_; refine t8 (rows ([0, 1] : List Int)) (List.prefix_refl _) (k5 rfl rfl hg11 ?_); refine i9 F.G7 rfl rfl (gj5 0 1) l5 mC fun _ _ => ?_; refine p_t rfl rfl (bt1 hg11) rfl (b8 rfl ?_); refine r5 rfl rfl ?_ ?_
            ·intro hg12; have hg12' := hg12; try simp at hg12'
             refine k5 rfl rfl hg12 (b8 rfl (k5 rfl rfl hg12 ?_)); refine m6 _ rfl rfl (fun _ => T.S9 ..) fun g50 => ?_; refine t8 (rows ([2, 3] : List Int)) (List.prefix_refl _) (k5 rfl rfl hg12 ?_); refine i9 F.G7 rfl rfl (gj5 2 3) l5 mC fun _ _ => ?_; refine p_t rfl rfl (bt1 hg12) rfl ?_; refine b9 rfl (d9 (l7 ?_)); exact ret1 () rfl rfl rfl trivial nil_sb trivial
            intro hg12; have hg12' := hg12; try simp at hg12'
           intro hg11; have hg11' := hg11; try simp at hg11'
          intro hg10; have hg10' := hg10; try simp at hg10'
         intro hg9; have hg9' := hg9; try simp at hg9'
        intro hg8; have hg8' := hg8; try simp at hg8'
       intro hg7; have hg7' := hg7; try simp at hg7'
      intro hg6; have hg6' := hg6; try simp at hg6'
     intro hg5; have hg5' := hg5; try simp at hg5'
    intro hg4; have hg4' := hg4; try simp at hg4'
   intro hg3; have hg3' := hg3; try simp at hg3'
  intro hg2; have hg2' := hg2; try simp at hg2'
 intro hg1; have hg1' := hg1; try simp at hg1'
end Go.Proofs.YtmpfpfbcejfijaaGreatDoor
end
