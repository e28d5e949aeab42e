/- Texts of this claim, one behind another. -/
import Derived.ProofKit
import Derived.OpenShut
import Derived.ShutString
import Derived.ChangeOld
import Derived.Below
import Derived.SliceStrings
import Derived.ChangeSlices
import Derived.Deep.Slices
import Derived.Deep.Strs
import Derived.Test.YtcdopfjiadifhaaGreatDoorAAr
import Derived.Test.YtcdopfjiadifhaaGreatDoorAAp
import Derived.Test.YtcdopfjiadifhaaGreatDoorAAf
set_option linter.unusedVariables false
set_option linter.unusedSimpArgs false
section
namespace Go.Proofs.YtcdopfjiadifhaaGreatDoor
open Go Go.W
set_option maxRecDepth 20000
attribute [local irreducible] HL HC HQ HB Row Rows2 Blk Facts
def plW : Str := [32, 112, 108, 97, 105, 110]
def bdW : Str := [32, 98, 111, 108, 100, 32]
def cdW : Str := [32, 99, 97, 114, 100, 32]
def taW : Str := [116, 97, 114, 105, 102, 102, 32]
def spW : Str := [32]
def ofW : Str := [32, 111, 102, 102, 32]
def frW : Str := [32, 102, 114, 111, 109, 32]
def stW : Str := [10, 115, 116, 114, 101, 101, 116, 115]
def nlW : Str := [10]
def soW : Str := [115, 111, 108, 100, 10]
def wordE (x : Ad) : Str := if x.2.1 = 1 then itoaZ x.1 ++ plW else if x.2.1 = 2 then (itoaZ x.1 ++ bdW) ++ itoaZ x.2.2 else (itoaZ x.1 ++ cdW) ++ itoaZ x.2.2
theorem kz5 (x : Ad) : (wordE x).length ≤ 13 := by
  have h1 := G7 x.1; have h2 := G7 x.2.2; have e1 : plW.length = 6 := rfl; have e2 : bdW.length = 6 := rfl; have e3 : cdW.length = 6 := rfl; unfold wordE
  split
  · simp only [List.length_append]; omega
  split <;> simp only [List.length_append] <;> omega
def headE (c : Ch) : Str := taW ++ itoaZ c.1 ++ spW ++ itoaZ c.2.1 ++ spW ++ itoaZ c.2.2.1 ++ spW ++ itoaZ c.2.2.2.1 ++ ofW ++ itoaZ c.2.2.2.2.1 ++ frW ++ itoaZ c.2.2.2.2.2 ++ stW
def accP (c : Ch) : List Int → Str
  | [] => headE c
  | s :: l => accP c l ++ (spW ++ itoaZ s)
def accQ (a : Str) : List Ad → Str
  | [] => a ++ nlW
  | x :: l => accQ a l ++ (wordE x ++ nlW)
def wrE (c : Ch) (ss : List Int) (xs : List Ad) : Str := accQ (accP c ss.reverse) xs.reverse ++ soW
theorem mj2 (c : Ch) : (headE c).length ≤ 60 := by
  have h1 := G7 c.1; have h2 := G7 c.2.1; have h3 := G7 c.2.2.1; have h4 := G7 c.2.2.2.1; have h5 := G7 c.2.2.2.2.1; have h6 := G7 c.2.2.2.2.2; have e1 : taW.length = 7 := rfl; have e2 : spW.length = 1 := rfl; have e3 : ofW.length = 5 := rfl; have e4 : frW.length = 6 := rfl; have e5 : stW.length = 8 := rfl; unfold headE; simp only [List.length_append]
  omega
theorem mz3 (c : Ch) (l : List Int) : (accP c l).length ≤ 60 + 4 * l.length := by
  induction l with
  | nil => exact mj2 c
  | cons s l ih =>
    have h1 := G7 s; have e2 : spW.length = 1 := rfl; rw [accP]; simp only [List.length_append, List.length_cons]
    omega
theorem mz2 (a : Str) (l : List Ad) : (accQ a l).length ≤ a.length + 1 + 14 * l.length := by
  induction l with
  | nil => rw [accQ]; simp only [List.length_append, List.length_nil]; exact Nat.le_refl _
  | cons s l ih =>
    have h1 := kz5 s; have e2 : nlW.length = 1 := rfl; rw [accQ]; simp only [List.length_append, List.length_cons]
    omega
theorem lq7 {α : Type} [Inhabited α] {l : List α} {k : Nat} (h : k < l.length) : (l.take (k + 1)).reverse = l.getD k default :: (l.take k).reverse := by
  rw [List.take_succ_eq_append_getElem h, List.reverse_append, A7 h]
  rfl
theorem zv_pl (w : World) : (zeroValue T.iJ).run Tryz.prog w = .ok (.agg #[.pointer none]) w := by kernel_rfl
theorem zv_bd (w : World) : (zeroValue T.lK).run Tryz.prog w = .ok (.agg #[.pointer none, int 0]) w := by kernel_rfl
theorem jj3 (g : Nat) (i l : Int) (hi : 0 ≤ i ∧ i < 1000) : Meets Tryz.prog F.bU [int i, .iface T.iJ (.agg #[.pointer (c8 g)])] { LI := [TAB], val := fun _ : Unit => str (itoaZ i ++ plW) } := by
 have e1 : plW.length = 6 := rfl; have e2 : bdW.length = 6 := rfl; have e3 : cdW.length = 6 := rfl; have l1 := G7 i; have l2 := G7 l; refine i9 F.mY rfl r6 fun w0 => ?_; refine i8 (d5 rfl (k8 (c7 rfl ?_))); refine k5 F.D4 rfl rfl (K3 (i) hi) p6 mC fun _ _ => ?_; refine d5 rfl (d8 (j4 (i8 (c7 rfl (d8 (k9 (i8 ?_))))))); refine sB rfl ⟨_, Tryz.underlying124, rfl⟩ rfl ?_; refine p8 rfl rfl rfl (p8 rfl rfl rfl (d8 ?_)); refine c_t rfl (by first | rfl | assumption | exact bt1 (by assumption) | exact bt2 (by assumption)) ?_; refine i8 ?_; refine y9 rfl (fun _ => T.hx5 _) fun gA => ?_; refine w4 rfl rfl (by first | exact .refl _ | exact perm2 _ _ _ | exact perm3 _ _ _ _ | exact perm4 _ _ _ _ _) T.gq9 (by rfl) (by rfl) ?_; refine k8 (c7 rfl ?_); refine M6 (y' := plW) rfl rfl (by kernel_rfl) (by first | omega | (simp only [List.length_append]; omega)) ?_; refine d5 rfl (d8 (l5 (G8 ?_))); exact ret1 () rfl rfl rfl trivial nil_sb trivial
theorem jj2 (g : Nat) (i l : Int) (hi : 0 ≤ i ∧ i < 1000) (hl : 0 ≤ l ∧ l < 1000) : Meets Tryz.prog F.bU [int i, .iface T.lK (.agg #[.pointer (c8 g), int l])] { LI := [TAB], val := fun _ : Unit => str ((itoaZ i ++ bdW) ++ itoaZ l) } := by
 have e1 : plW.length = 6 := rfl; have e2 : bdW.length = 6 := rfl; have e3 : cdW.length = 6 := rfl; have l1 := G7 i; have l2 := G7 l; refine i9 F.mY rfl r6 fun w0 => ?_; refine i8 (d5 rfl (k8 (c7 rfl ?_))); refine k5 F.D4 rfl rfl (K3 (i) hi) p6 mC fun _ _ => ?_; refine d5 rfl (d8 (j4 (i8 (c7 rfl (d8 (k9 (i8 ?_))))))); refine zJ rfl ⟨_, Tryz.underlying124, rfl⟩ rfl rfl zv_pl ?_; refine p8 rfl rfl rfl (p8 rfl rfl rfl (d8 ?_)); refine c_f rfl (by first | rfl | assumption | exact bf1 (by assumption) | exact bf2 (by assumption)) ?_; refine i8 ?_; refine sB rfl ⟨_, Tryz.underlying126, rfl⟩ rfl ?_; refine p8 rfl rfl rfl (p8 rfl rfl rfl (d8 ?_)); refine c_t rfl (by first | rfl | assumption | exact bt1 (by assumption) | exact bt2 (by assumption)) ?_; refine i8 ?_; refine y9 rfl (fun _ => T.kx9 _) fun gA => ?_; refine w4 rfl rfl (by first | exact .refl _ | exact perm2 _ _ _ | exact perm3 _ _ _ _ | exact perm4 _ _ _ _ _) T.jq6 (by rfl) (by rfl) ?_; refine k8 (c7 rfl ?_); refine M6 (y' := bdW) rfl rfl (by kernel_rfl) (by first | omega | (simp only [List.length_append]; omega)) ?_
 first | refine a9 ⟨_, 1, none⟩ rfl rfl T.aS rfl ?_ | refine a9 _ rfl rfl T.aS rfl ?_
 first | refine b8 rfl T.b9 rfl (j0 mB rfl) ?_ | refine b8 rfl T.b9 rfl (j3 mB rfl) ?_ | refine b8 rfl T.b9 rfl (d6 mB (c9 (by omega) rfl)) ?_ | refine b8 rfl T.b9 rfl (d7 mB (rows_get (by omega) rfl)) ?_ | refine b8 rfl T.b9 rfl (j5 mB rfl) ?_
 refine k5 F.D4 rfl rfl (K3 (l) hl) p6 mC fun _ _ => ?_; refine M6 rfl rfl rfl (by first | omega | (simp only [List.length_append]; omega)) ?_; refine d5 rfl (d8 (l5 (G8 ?_))); exact ret1 () rfl rfl rfl trivial nil_sb trivial
theorem jj1 (g : Nat) (i l : Int) (hi : 0 ≤ i ∧ i < 1000) (hl : 0 ≤ l ∧ l < 1000) : Meets Tryz.prog F.bU [int i, .iface T.sQ (.agg #[.pointer (c8 g), int l])] { LI := [TAB], val := fun _ : Unit => str ((itoaZ i ++ cdW) ++ itoaZ l) } := by
 have e1 : plW.length = 6 := rfl; have e2 : bdW.length = 6 := rfl; have e3 : cdW.length = 6 := rfl; have l1 := G7 i; have l2 := G7 l; refine i9 F.mY rfl r6 fun w0 => ?_; refine i8 (d5 rfl (k8 (c7 rfl ?_))); refine k5 F.D4 rfl rfl (K3 (i) hi) p6 mC fun _ _ => ?_; refine d5 rfl (d8 (j4 (i8 (c7 rfl (d8 (k9 (i8 ?_))))))); refine zJ rfl ⟨_, Tryz.underlying124, rfl⟩ rfl rfl zv_pl ?_; refine p8 rfl rfl rfl (p8 rfl rfl rfl (d8 ?_)); refine c_f rfl (by first | rfl | assumption | exact bf1 (by assumption) | exact bf2 (by assumption)) ?_; refine i8 ?_; refine zJ rfl ⟨_, Tryz.underlying126, rfl⟩ rfl rfl zv_bd ?_; refine p8 rfl rfl rfl (p8 rfl rfl rfl (d8 ?_)); refine c_f rfl (by first | rfl | assumption | exact bf1 (by assumption) | exact bf2 (by assumption)) ?_; refine i8 ?_; refine sB rfl ⟨_, Tryz.underlying127, rfl⟩ rfl ?_; refine p8 rfl rfl rfl (p8 rfl rfl rfl (d8 ?_)); refine c_t rfl (by first | rfl | assumption | exact bt1 (by assumption) | exact bt2 (by assumption)) ?_; refine i8 ?_; refine y9 rfl (fun _ => T.kx8 _) fun gA => ?_; refine w4 rfl rfl (by first | exact .refl _ | exact perm2 _ _ _ | exact perm3 _ _ _ _ | exact perm4 _ _ _ _ _) T.jq5 (by rfl) (by rfl) ?_; refine k8 (c7 rfl ?_); refine M6 (y' := cdW) rfl rfl (by kernel_rfl) (by first | omega | (simp only [List.length_append]; omega)) ?_
 first | refine a9 ⟨_, 1, none⟩ rfl rfl T.aR rfl ?_ | refine a9 _ rfl rfl T.aR rfl ?_
 first | refine b8 rfl T.b9 rfl (j0 mB rfl) ?_ | refine b8 rfl T.b9 rfl (j3 mB rfl) ?_ | refine b8 rfl T.b9 rfl (d6 mB (c9 (by omega) rfl)) ?_ | refine b8 rfl T.b9 rfl (d7 mB (rows_get (by omega) rfl)) ?_ | refine b8 rfl T.b9 rfl (j5 mB rfl) ?_
 refine k5 F.D4 rfl rfl (K3 (l) hl) p6 mC fun _ _ => ?_; refine M6 rfl rfl rfl (by first | omega | (simp only [List.length_append]; omega)) ?_; refine d5 rfl (d8 (l5 (G8 ?_))); exact ret1 () rfl rfl rfl trivial nil_sb trivial
theorem kz4 (g : Nat) (x : Ad) (hi : 0 ≤ x.1 ∧ x.1 < 1000) (hl : 0 ≤ x.2.2 ∧ x.2.2 < 1000) : Meets Tryz.prog F.bU [int x.1, adI g x] { LI := [TAB], val := fun _ : Unit => str (wordE x) } := by
  unfold adI wordE
  split
  · exact jj3 g x.1 0 hi
  split
  · exact jj2 g x.1 x.2.2 hi hl
  exact jj1 g x.1 x.2.2 hi hl
def wrB (s : SaT) : Str × Int := if chkT s = 0 then (wrE s.1 s.2.1 s.2.2, 0) else ([], chkT s)
theorem wr_ok {c : Ch} {ss : List Int} {xs : List Ad} (h : chkS c ss xs = 0) : ((0 ≤ c.1 ∧ c.1 < 1000) ∧ (0 ≤ c.2.1 ∧ c.2.1 < 1000) ∧ (0 ≤ c.2.2.1 ∧ c.2.2.1 < 1000) ∧ (0 ≤ c.2.2.2.1 ∧ c.2.2.2.1 < 1000) ∧ (0 ≤ c.2.2.2.2.1 ∧ c.2.2.2.2.1 < 1000) ∧ (0 ≤ c.2.2.2.2.2 ∧ c.2.2.2.2.2 < 1000)) ∧ (∀ s ∈ ss, 0 ≤ s ∧ s < 1000) ∧ (∀ x ∈ xs, (0 ≤ x.1 ∧ x.1 < 1000) ∧ (0 ≤ x.2.2 ∧ x.2.2 < 1000)) := by
  obtain ⟨hc, h1, h5, hs, h8, ha⟩ := ij5 h; obtain ⟨c1, c2, c3, c4, c5, c6⟩ := hc; refine ⟨⟨by omega, by omega, by omega, by omega, by omega, by omega⟩, fun s m => ?_, fun x m => ?_⟩
  · have := hs s m; omega
  have := ha x m; omega
set_option maxHeartbeats 2000000 in
theorem lL (c : Ch) (ps : Sl Int) (qs : Sl Ad) (hn : ps.l.length ≤ 1000000) (hm : qs.l.length ≤ 1000000) : Meets Tryz.prog F.vU [saV c ps qs] { LI := TAB :: saL ps qs, val := fun _ : Unit => .tuple #[str (wrB (c, ps.l, qs.l)).1, int (wrB (c, ps.l, qs.l)).2] } := by
 have i1 := G7 c.1; have i2 := G7 c.2.1; have i3 := G7 c.2.2.1; have i4 := G7 c.2.2.2.1; have i5 := G7 c.2.2.2.2.1; have i6 := G7 c.2.2.2.2.2; have e1 : taW.length = 7 := rfl; have e2 : spW.length = 1 := rfl; have e3 : ofW.length = 5 := rfl; have e4 : frW.length = 6 := rfl; have e5 : stW.length = 8 := rfl; have e6 : nlW.length = 1 := rfl; have e7 : soW.length = 5 := rfl; have hlen := mj2 c; refine i9 F.kq7 rfl r6 fun w0 => ?_; refine i8 ?_; refine H6 rfl rfl fun gB => ?_; refine d5 rfl (d5 rfl (d8 (j4 (i8 ?_))))
 first | refine B5 rfl T.k7 T.j9 rfl mB (by rfl) ?_ | refine C1 rfl T.k7 T.j9 rfl mB (by rfl) ?_ | refine u7 rfl T.k7 T.j9 rfl rfl (t5 mB (t9 (by omega))) ?_
 refine k5 F.cD rfl rfl (X0 c ps qs hn hm) p6 mC fun _ _ => ?_; refine d5 rfl (k8 (c7 rfl (N5 rfl rfl rfl (d8 ?_))))
 first | refine m3 rfl (fun hb1 => ?_) (fun hb1 => ?_) | refine j7 rfl (fun hb1 => ?_) (fun hb1 => ?_)
 ·have hb1' := hb1; try simp at hb1'
  have h0 : ¬ chkT (c, ps.l, qs.l) = 0 := hb1; refine i8 (c7 rfl (d5 rfl (d5 rfl (d8 (N4 ?_))))); have hR : wrB (c, ps.l, qs.l) = ([], chkT (c, ps.l, qs.l)) := by rw [wrB, if_neg h0]
  rw [hR]; exact ret2 () rfl rfl rfl rfl rfl trivial nil_sb trivial
 have hb1' := hb1; try simp at hb1'
 have h0 : chkS c ps.l qs.l = 0 := Classical.not_not.1 hb1; obtain ⟨⟨hc1, hc2, hc3, hc4, hc5, hc6⟩, hp, hq⟩ := wr_ok h0; have hR : wrB (c, ps.l, qs.l) = (wrE c ps.l qs.l, 0) := by rw [wrB, if_pos (show chkT (c, ps.l, qs.l) = 0 from h0)]
 rw [hR]; refine k6 (j6 (j4 (Z5 ?_))); refine S6 ([]) ([]) (.refl _) 4 [] mixed (by decide) (by decide) (by decide) rfl rfl rfl ?_
 apply m8 _ rfl rfl rfl
 ·intro w1
  first | refine a9 ⟨_, 0, none⟩ rfl rfl T.B9 rfl ?_ | refine a9 _ rfl rfl T.B9 rfl ?_
  refine d4 ?_; exact k4 rfl
 apply m8 _ rfl rfl rfl
 ·intro w1
  first | refine u7 (cs := [int c.1, int c.2.1, int c.2.2.1, int c.2.2.2.1, int c.2.2.2.2.1, int c.2.2.2.2.2]) rfl T.H3 T.E2 rfl rfl (bS (o := 0) mB (dZ rfl)) ?_ | refine u7 (cs := [int c.1, int c.2.1, int c.2.2.1, int c.2.2.2.1, int c.2.2.2.2.1, int c.2.2.2.2.2]) rfl T.H3 T.E2 rfl rfl (lI (o := 0) mB (dZ rfl)) ?_
  refine d4 ?_; exact k4 rfl
 refine hb_ad ⟨Nat, fun _ => True, fun g => .pointer (c8 g), fun _ => [], fun g => [(g, Obj.cells #[int 0, int 0, int 0, int 0, int 0, int 0] T.cP (0, 0))]⟩ rfl rfl rfl ?_ ?_
 ·intro w1; refine y9 rfl (fun _ => T.rT _) fun gA => ?_; refine d4 ?_; exact O8 gA trivial (fun _ => rfl) (List.Sublist.refl _) trivial
 refine l9 (fun w1 => d5 rfl (q_z rfl)) ?_; refine D1 ⟨rfl, ?_⟩; intro gA _; refine w4 rfl rfl (by first | exact .refl _ | exact perm2 _ _ _ | exact perm3 _ _ _ _ | exact perm4 _ _ _ _ _) T.E2 (by rfl) (by rfl) ?_; refine d8 (j4 ?_); refine I5 34 mixed (by decide) (by decide) rfl rfl (l9 (fun w1 => c7 rfl (q_z rfl)) ?_)
 apply m8 _ rfl rfl rfl
 ·intro w1
  first | refine a9 ⟨_, 0, none⟩ rfl rfl T.M2 rfl ?_ | refine a9 _ rfl rfl T.M2 rfl ?_
  refine d4 ?_; exact k4 rfl
 apply m8 _ rfl rfl rfl
 ·intro w1
  first | refine b8 rfl T.b9 rfl (j3 mB rfl) ?_ | refine b8 rfl T.b9 rfl (j0 mB rfl) ?_ | refine b8 rfl T.b9 rfl (d6 mB (c9 (by omega) rfl)) ?_ | refine b8 rfl T.b9 rfl (d7 mB (rows_get (by omega) rfl)) ?_ | refine b8 rfl T.b9 rfl (j5 mB rfl) ?_
  refine d4 ?_; exact k4 rfl
 refine l9 (fun w1 => W2 (vs := [int c.1]) F.D4 rfl rfl rfl (K3 (c.1) hc1) p6 mC fun _ _ => (q_z rfl)) ?_; refine l9 (fun w1 => M6 (x' := taW) rfl (by kernel_rfl) rfl (by first | omega | (simp only [List.length_append]; omega)) (q_z rfl)) ?_; refine l9 (fun w1 => M6 (y' := spW) rfl rfl (by kernel_rfl) (by first | omega | (simp only [List.length_append]; omega)) (q_z rfl)) ?_; refine l9 (fun w1 => c7 rfl (q_z rfl)) ?_
 apply m8 _ rfl rfl rfl
 ·intro w1
  first | refine a9 ⟨_, 1, none⟩ rfl rfl T.M1 rfl ?_ | refine a9 _ rfl rfl T.M1 rfl ?_
  refine d4 ?_; exact k4 rfl
 apply m8 _ rfl rfl rfl
 ·intro w1
  first | refine b8 rfl T.b9 rfl (j3 mB rfl) ?_ | refine b8 rfl T.b9 rfl (j0 mB rfl) ?_ | refine b8 rfl T.b9 rfl (d6 mB (c9 (by omega) rfl)) ?_ | refine b8 rfl T.b9 rfl (d7 mB (rows_get (by omega) rfl)) ?_ | refine b8 rfl T.b9 rfl (j5 mB rfl) ?_
  refine d4 ?_; exact k4 rfl
 refine l9 (fun w1 => W2 (vs := [int c.2.1]) F.D4 rfl rfl rfl (K3 (c.2.1) hc2) p6 mC fun _ _ => (q_z rfl)) ?_; refine l9 (fun w1 => M6 rfl rfl rfl (by first | omega | (simp only [List.length_append]; omega)) (q_z rfl)) ?_; refine l9 (fun w1 => M6 (y' := spW) rfl rfl (by kernel_rfl) (by first | omega | (simp only [List.length_append]; omega)) (q_z rfl)) ?_; refine l9 (fun w1 => c7 rfl (q_z rfl)) ?_
 apply m8 _ rfl rfl rfl
 ·intro w1
  first | refine a9 ⟨_, 2, none⟩ rfl rfl T.M0 rfl ?_ | refine a9 _ rfl rfl T.M0 rfl ?_
  refine d4 ?_; exact k4 rfl
 apply m8 _ rfl rfl rfl
 ·intro w1
  first | refine b8 rfl T.b9 rfl (j3 mB rfl) ?_ | refine b8 rfl T.b9 rfl (j0 mB rfl) ?_ | refine b8 rfl T.b9 rfl (d6 mB (c9 (by omega) rfl)) ?_ | refine b8 rfl T.b9 rfl (d7 mB (rows_get (by omega) rfl)) ?_ | refine b8 rfl T.b9 rfl (j5 mB rfl) ?_
  refine d4 ?_; exact k4 rfl
 refine l9 (fun w1 => W2 (vs := [int c.2.2.1]) F.D4 rfl rfl rfl (K3 (c.2.2.1) hc3) p6 mC fun _ _ => (q_z rfl)) ?_; refine l9 (fun w1 => M6 rfl rfl rfl (by first | omega | (simp only [List.length_append]; omega)) (q_z rfl)) ?_; refine l9 (fun w1 => M6 (y' := spW) rfl rfl (by kernel_rfl) (by first | omega | (simp only [List.length_append]; omega)) (q_z rfl)) ?_; refine l9 (fun w1 => c7 rfl (q_z rfl)) ?_
 apply m8 _ rfl rfl rfl
 ·intro w1
  first | refine a9 ⟨_, 3, none⟩ rfl rfl T.L9 rfl ?_ | refine a9 _ rfl rfl T.L9 rfl ?_
  refine d4 ?_; exact k4 rfl
 apply m8 _ rfl rfl rfl
 ·intro w1
  first | refine b8 rfl T.b9 rfl (j3 mB rfl) ?_ | refine b8 rfl T.b9 rfl (j0 mB rfl) ?_ | refine b8 rfl T.b9 rfl (d6 mB (c9 (by omega) rfl)) ?_ | refine b8 rfl T.b9 rfl (d7 mB (rows_get (by omega) rfl)) ?_ | refine b8 rfl T.b9 rfl (j5 mB rfl) ?_
  refine d4 ?_; exact k4 rfl
 refine l9 (fun w1 => W2 (vs := [int c.2.2.2.1]) F.D4 rfl rfl rfl (K3 (c.2.2.2.1) hc4) p6 mC fun _ _ => (q_z rfl)) ?_; refine l9 (fun w1 => M6 rfl rfl rfl (by first | omega | (simp only [List.length_append]; omega)) (q_z rfl)) ?_; refine l9 (fun w1 => M6 (y' := ofW) rfl rfl (by kernel_rfl) (by first | omega | (simp only [List.length_append]; omega)) (q_z rfl)) ?_; refine l9 (fun w1 => c7 rfl (q_z rfl)) ?_
 apply m8 _ rfl rfl rfl
 ·intro w1
  first | refine a9 ⟨_, 4, none⟩ rfl rfl T.Q7 rfl ?_ | refine a9 _ rfl rfl T.Q7 rfl ?_
  refine d4 ?_; exact k4 rfl
 apply m8 _ rfl rfl rfl
 ·intro w1
  first | refine b8 rfl T.b9 rfl (j3 mB rfl) ?_ | refine b8 rfl T.b9 rfl (j0 mB rfl) ?_ | refine b8 rfl T.b9 rfl (d6 mB (c9 (by omega) rfl)) ?_ | refine b8 rfl T.b9 rfl (d7 mB (rows_get (by omega) rfl)) ?_ | refine b8 rfl T.b9 rfl (j5 mB rfl) ?_
  refine d4 ?_; exact k4 rfl
 refine l9 (fun w1 => W2 (vs := [int c.2.2.2.2.1]) F.D4 rfl rfl rfl (K3 (c.2.2.2.2.1) hc5) p6 mC fun _ _ => (q_z rfl)) ?_; refine l9 (fun w1 => M6 rfl rfl rfl (by first | omega | (simp only [List.length_append]; omega)) (q_z rfl)) ?_; refine l9 (fun w1 => M6 (y' := frW) rfl rfl (by kernel_rfl) (by first | omega | (simp only [List.length_append]; omega)) (q_z rfl)) ?_; refine l9 (fun w1 => c7 rfl (q_z rfl)) ?_
 apply m8 _ rfl rfl rfl
 ·intro w1
  first | refine a9 ⟨_, 5, none⟩ rfl rfl T.L8 rfl ?_ | refine a9 _ rfl rfl T.L8 rfl ?_
  refine d4 ?_; exact k4 rfl
 apply m8 _ rfl rfl rfl
 ·intro w1
  first | refine b8 rfl T.b9 rfl (j3 mB rfl) ?_ | refine b8 rfl T.b9 rfl (j0 mB rfl) ?_ | refine b8 rfl T.b9 rfl (d6 mB (c9 (by omega) rfl)) ?_ | refine b8 rfl T.b9 rfl (d7 mB (rows_get (by omega) rfl)) ?_ | refine b8 rfl T.b9 rfl (j5 mB rfl) ?_
  refine d4 ?_; exact k4 rfl
 refine l9 (fun w1 => W2 (vs := [int c.2.2.2.2.2]) F.D4 rfl rfl rfl (K3 (c.2.2.2.2.2) hc6) p6 mC fun _ _ => (q_z rfl)) ?_; refine D1 ⟨rfl, ?_⟩; refine M6 rfl rfl rfl (by first | omega | (simp only [List.length_append]; omega)) ?_; refine M6 (y' := stW) rfl rfl (by kernel_rfl) (by first | omega | (simp only [List.length_append]; omega)) ?_; refine d5 rfl (d8 (j4 (i8 ?_)))
 first | refine a9 ⟨_, 6, none⟩ rfl rfl T.q9 rfl ?_ | refine a9 _ rfl rfl T.q9 rfl ?_
 first | refine b8 rfl T.i7 rfl (j0 mB rfl) ?_ | refine b8 rfl T.i7 rfl (j3 mB rfl) ?_ | refine b8 rfl T.i7 rfl (d6 mB (c9 (by omega) rfl)) ?_ | refine b8 rfl T.i7 rfl (d7 mB (rows_get (by omega) rfl)) ?_ | refine b8 rfl T.i7 rfl (j5 mB rfl) ?_
 refine l7 rfl T.t7 rfl ?_; refine c7 rfl (d8 (k9 ?_)); refine w3 (β := Nat) ⟨fun k => k ≤ ps.l.length, fun k => [(1, .pointer (c8 gB)), (5, .func (.func 32) #[] #[]), (6, .pointer (c8 gA)), (7, str (accP c (ps.l.take k).reverse)), (57, .slice ps.a ps.l.length ps.c), (58, int ps.l.length), (59, int k)], fun _ => [(gA, Obj.cells #[int c.1, int c.2.1, int c.2.2.1, int c.2.2.2.1, int c.2.2.2.2.1, int c.2.2.2.2.2] T.cP (0, 0))], fun _ => Blk gB (Obj.cells (saC c ps qs) T.A3 (0, 0)) :: TAB :: saL ps qs⟩ (fun k => ps.l.length - k) 0 (Nat.zero_le _) mC (.refl _) mC fun k hk => ?_; simp only at hk; have hl1 := mz3 c (ps.l.take k).reverse; rw [List.length_reverse, List.length_take] at hl1; refine i8 (B6 rfl rfl rfl (d8 (j4 ?_)))
 first | refine m3 rfl (fun hb2 => ?_) (fun hb2 => ?_) | refine j7 rfl (fun hb2 => ?_) (fun hb2 => ?_)
 ·have hb2' := hb2; try simp at hb2'
  have hk2 : k < ps.l.length := by omega
  have hpk := hp _ (w7 hk2); have hi0 := G7 (ps.l.getD k default); refine k6 (j6 (j4 (k9 (i8 ?_)))); refine v6 (α := Int) _ _ rfl T.t7 T.w9 rfl rfl rfl mB rfl (by omega) (by decide) (b8 rfl T.b9 rfl (d6 mB (c9 (by omega) rfl)) ?_); refine d5 rfl (d8 (j8 (c7 rfl (c7 rfl (c7 rfl ?_))))); refine W2 (vs := [int (ps.l.getD k default)]) F.D4 rfl rfl rfl (K3 ((ps.l.getD k default)) hpk) p6 mC fun _ _ => ?_; refine M6 (x' := spW) rfl (by kernel_rfl) rfl (by first | omega | (simp only [List.length_append]; omega)) ?_; refine M6 rfl rfl rfl (by first | omega | (simp only [List.length_append]; omega)) ?_; refine d5 rfl (d4 (y6 (j6 (j8 ?_)))); refine v4 _ rfl rfl rfl rfl r5 ?_; refine c7 rfl (d4 ?_); have hacc : accP c (ps.l.take (k + 1)).reverse = accP c (ps.l.take k).reverse ++ (spW ++ itoaZ (ps.l.getD k default)) := by rw [lq7 hk2, accP]
  exact again _ (k + 1) (by show k + 1 ≤ ps.l.length; omega) (D5 (by omega)) ⟨rfl, rfl, rfl, by rw [hacc]; rfl, rfl, rfl, rfl, trivial⟩ (.refl _) mC
 have hb2' := hb2; try simp at hb2'
 obtain rfl : k = ps.l.length := by omega
 refine u9 (D6 (u5 (j6 (i8 (c7 rfl ?_))))); refine M6 (y' := nlW) rfl rfl (by kernel_rfl) (by first | omega | (simp only [List.length_append]; omega)) ?_; refine d5 rfl (k8 ?_)
 first | refine B5 rfl T.H3 T.E2 rfl mB (by rfl) ?_ | refine C1 rfl T.H3 T.E2 rfl mB (by rfl) ?_ | refine u7 rfl T.H3 T.E2 rfl rfl (t5 mB (t9 (by omega))) ?_
 refine k5 F.dz9 rfl rfl (tW c) p6 trivial fun tg _ => ?_; refine d5 rfl (d8 (j4 (i8 ?_)))
 first | refine a9 ⟨_, 7, none⟩ rfl rfl T.l4 rfl ?_ | refine a9 _ rfl rfl T.l4 rfl ?_
 first | refine b8 rfl T.d9 rfl (j0 mB rfl) ?_ | refine b8 rfl T.d9 rfl (j3 mB rfl) ?_ | refine b8 rfl T.d9 rfl (d6 mB (c9 (by omega) rfl)) ?_ | refine b8 rfl T.d9 rfl (d7 mB (rows_get (by omega) rfl)) ?_ | refine b8 rfl T.d9 rfl (j5 mB rfl) ?_
 refine l7 rfl T.w8 rfl ?_; refine c7 rfl (d8 (k9 ?_)); refine w3 (β := Nat) ⟨fun k => k ≤ qs.l.length, fun k => [(1, .pointer (c8 gB)), (7, str (accQ (accP c (ps.l.take ps.l.length).reverse) (qs.l.take k).reverse)), (10, .pointer (c8 tg)), (75, .slice qs.a qs.l.length qs.c), (76, int qs.l.length), (77, int k)], fun _ => [], fun _ => Blk gB (Obj.cells (saC c ps qs) T.A3 (0, 0)) :: TAB :: saL ps qs⟩ (fun k => qs.l.length - k) 0 (Nat.zero_le _) mC nil_sb mC fun k hk => ?_; simp only at hk; have hl2 := mz2 (accP c (ps.l.take ps.l.length).reverse) (qs.l.take k).reverse; rw [List.length_reverse, List.length_take] at hl2; refine i8 (B6 rfl rfl rfl (d8 (j4 ?_)))
 first | refine m3 rfl (fun hb3 => ?_) (fun hb3 => ?_) | refine j7 rfl (fun hb3 => ?_) (fun hb3 => ?_)
 ·have hb3' := hb3; try simp at hb3'
  have hk3 : k < qs.l.length := by omega
  have hqk := hq _ (w7 hk3); have hw0 := kz5 (qs.l.getD k default); refine k6 (j6 (j4 (k9 (i8 ?_)))); refine v6 (α := Ad) _ _ rfl T.w8 T.m4 rfl rfl rfl mB rfl (by omega) (by decide) (u7 rfl T.r8 T.m4 rfl rfl (t5 mB (t9 (by omega))) ?_); refine y9 rfl (fun _ => T.U5 _) fun gA => ?_; refine w4 rfl rfl (by first | exact .refl _ | exact perm2 _ _ _ | exact perm3 _ _ _ _ | exact perm4 _ _ _ _ _) T.m4 (by rfl) (by rfl) ?_; refine d8 ?_; refine I5 8 mixed (by decide) (by decide) rfl rfl (l9 (fun w1 => c7 rfl (q_z rfl)) ?_)
  apply m8 _ rfl rfl rfl
  ·intro w1
   first | refine a9 ⟨_, 0, none⟩ rfl rfl T.G4 rfl ?_ | refine a9 _ rfl rfl T.G4 rfl ?_
   refine d4 ?_; exact k4 rfl
  apply m8 _ rfl rfl rfl
  ·intro w1
   first | refine b8 rfl T.b9 rfl (j3 mB rfl) ?_ | refine b8 rfl T.b9 rfl (j0 mB rfl) ?_ | refine b8 rfl T.b9 rfl (d6 mB (c9 (by omega) rfl)) ?_ | refine b8 rfl T.b9 rfl (d7 mB (rows_get (by omega) rfl)) ?_ | refine b8 rfl T.b9 rfl (j5 mB rfl) ?_
   refine d4 ?_; exact k4 rfl
  refine l9 (fun w1 => c7 rfl (q_z rfl)) ?_
  apply m8 _ rfl rfl rfl
  ·intro w1
   first | refine B5 rfl T.r8 T.m4 rfl mB (by rfl) ?_ | refine C1 rfl T.r8 T.m4 rfl mB (by rfl) ?_ | refine u7 rfl T.r8 T.m4 rfl rfl (t5 mB (t9 (by omega))) ?_
   refine d4 ?_; exact k4 rfl
  refine l9 (fun w1 => k5 F.bA rfl rfl (Y2 tg (qs.l.getD k default)) p6 trivial fun _ _ => (q_z rfl)) ?_; refine l9 (fun w1 => k5 F.gz8 rfl rfl (kz4 tg (qs.l.getD k default) hqk.1 hqk.2) p6 mC fun _ _ => (q_z rfl)) ?_; refine l9 (fun w1 => M6 (y' := nlW) rfl rfl (by kernel_rfl) (by first | omega | (simp only [List.length_append]; omega)) (q_z rfl)) ?_; refine D1 ⟨rfl, ?_⟩; refine M6 rfl rfl rfl (by first | omega | (simp only [List.length_append]; omega)) ?_; refine d5 rfl (d4 (y6 (j6 (j8 ?_)))); refine v4 _ rfl rfl rfl rfl r5 ?_; refine c7 rfl (d4 ?_); have hacc : accQ (accP c (ps.l.take ps.l.length).reverse) (qs.l.take (k + 1)).reverse = accQ (accP c (ps.l.take ps.l.length).reverse) (qs.l.take k).reverse ++ (wordE (qs.l.getD k default) ++ nlW) := by rw [lq7 hk3, accQ]
  exact again _ (k + 1) (by show k + 1 ≤ qs.l.length; omega) (D5 (by omega)) ⟨rfl, by rw [hacc]; rfl, rfl, rfl, rfl, rfl, trivial⟩ nil_sb mC
 have hb3' := hb3; try simp at hb3'
 obtain rfl : k = qs.l.length := by omega
 refine u9 (D6 (u5 (j6 (i8 (c7 rfl ?_))))); refine M6 (y' := soW) rfl rfl (by kernel_rfl) (by first | omega | (simp only [List.length_append]; omega)) ?_; refine d5 rfl (d5 rfl (d8 (l5 ?_))); exact ret2 () rfl rfl rfl (by rw [List.take_length, List.take_length]; rfl) rfl trivial nil_sb trivial
end Go.Proofs.YtcdopfjiadifhaaGreatDoor
end
section
namespace Go.Proofs.YtcdopfjiadifhaaGreatDoor
open Go Go.W
set_option maxRecDepth 20000
attribute [local irreducible] HL HC HQ HB Row Rows2 Blk Facts
theorem kq0 {b : UInt8} : ∀ {p : Str} (q : Str), b ∉ p → cutB b (p ++ b :: q) = (p, q, true)
  | [], q, _ => by simp [cutB]
  | x :: p, q, h => by
    simp only [List.mem_cons, not_or] at h; have hx : ¬ x = b := fun e => h.1 e.symm
    simp [cutB, hx, kq0 q h.2]
theorem dz3 {b : UInt8} {s : Str} (h : ¬ (cutB b s).2.2 = false) : ∃ l r, b ∉ l ∧ s = l ++ b :: r := by
  rcases xQ b s with ⟨_, h2, _⟩ | ⟨i, _, h1, h2, h3, h5⟩
  · rw [h2] at h; exact absurd rfl h
  rw [List.getElem?_eq_getElem h1] at h3; have h4 : b :: s.drop (i + 1) = s.drop i := by rw [← Option.some.inj h3]; exact (List.drop_eq_getElem_cons h1).symm
  exact ⟨s.take i, s.drop (i + 1), h5, by rw [h4, List.take_append_drop]⟩
theorem qj2 {t : Str} (h : t.all isDig = true) {c : UInt8} (hc : isDig c = false) : c ∉ t := fun hm => by
  rw [List.all_eq_true.1 h c hm] at hc; cases hc
def joinB (b : UInt8) : List Str → Str
  | [] => []
  | [a] => a
  | a :: c :: r => a ++ b :: joinB b (c :: r)
theorem cx2 {b : UInt8} : ∀ {l : List Str}, l ≠ [] → (∀ w ∈ l, b ∉ w) → splitB b (joinB b l) = l
  | [], h, _ => absurd rfl h
  | [a], _, h => cx0 (h a List.mem_cons_self)
  | a :: c :: r, _, h => by
    rw [joinB, cx3 _ (h a List.mem_cons_self), cx2 (by simp) fun w hw => h w (List.mem_cons_of_mem _ hw)]
theorem mO (b : UInt8) : ∀ s : Str, joinB b (splitB b s) = s
  | [] => rfl
  | x :: r => by
    have ih := mO b r; have hl := dS b r; rw [splitB]
    cases hs : splitB b r with
    | nil => rw [hs] at hl; cases hl
    | cons a t =>
      rw [hs] at ih
      split
      · rename_i h; rw [joinB, ih, h]; rfl
      cases t with
      | nil => rw [joinB] at ih ⊢; rw [ih]
      | cons c t => rw [joinB] at ih ⊢; rw [List.cons_append, ih]
theorem lz6 {a b : UInt8} : ∀ {l : List Str}, a ∈ joinB b l → a = b ∨ ∃ w ∈ l, a ∈ w
  | [], h => by cases h
  | [x], h => .inr ⟨x, List.mem_cons_self, h⟩
  | x :: c :: r, h => by
    rw [joinB] at h
    rcases List.mem_append.1 h with h | h
    · exact .inr ⟨x, List.mem_cons_self, h⟩
    rcases List.mem_cons.1 h with h | h
    · exact .inl h
    rcases lz6 h with h | ⟨w, hw, h⟩
    · exact .inl h
    exact .inr ⟨w, List.mem_cons_of_mem _ hw, h⟩
def NB (z : Int) : Prop := 0 ≤ z ∧ z < 1000
def w0 (c : Ch) : List Str := [tariffS, itoaZ c.1, itoaZ c.2.1, itoaZ c.2.2.1, itoaZ c.2.2.2.1, offS0, itoaZ c.2.2.2.2.1, fromS, itoaZ c.2.2.2.2.2]
def w1 (ss : List Int) : List Str := streetsS :: ss.map itoaZ
def wA (x : Ad) : List Str := if x.2.1 = 1 then [itoaZ x.1, plainS] else if x.2.1 = 2 then [itoaZ x.1, boldS, itoaZ x.2.2] else [itoaZ x.1, cardS, itoaZ x.2.2]
def advT : List Ad → Str
  | [] => soldS ++ [10]
  | x :: r => joinB 32 (wA x) ++ 10 :: advT r
def textB (s : SaT) : Str := joinB 32 (w0 s.1) ++ 10 :: (joinB 32 (w1 s.2.1) ++ 10 :: advT s.2.2)
def WOK (w : Str) : Prop := (32 : UInt8) ∉ w ∧ (10 : UInt8) ∉ w
theorem bz2 {z : Int} (h : NB z) : WOK (itoaZ z) := ⟨qj2 (cz4 h.1 h.2).2.2 rfl, qj2 (cz4 h.1 h.2).2.2 rfl⟩
theorem cj7 {l : List Str} (h : ∀ w ∈ l, WOK w) : (10 : UInt8) ∉ joinB 32 l := fun hm => by
  rcases lz6 hm with h1 | ⟨w, hw, h1⟩
  · cases h1
  exact (h w hw).2 h1
theorem qG {l : List Str} (hl : l ≠ []) (h : ∀ w ∈ l, WOK w) : splitB 32 (joinB 32 l) = l := cx2 hl fun w hw => (h w hw).1
def AOK (x : Ad) : Prop := NB x.1 ∧ NB x.2.2 ∧ (1 ≤ x.2.1 ∧ x.2.1 ≤ 3) ∧ (x.2.1 = 1 → x.2.2 = 1)
def COK (c : Ch) : Prop := NB c.1 ∧ NB c.2.1 ∧ NB c.2.2.1 ∧ NB c.2.2.2.1 ∧ NB c.2.2.2.2.1 ∧ NB c.2.2.2.2.2
theorem w0_ok {c : Ch} (h : COK c) : ∀ w ∈ w0 c, WOK w := by
  obtain ⟨h1, h2, h3, h4, h5, h6⟩ := h; intro w hw; simp only [w0, List.mem_cons, List.not_mem_nil, or_false] at hw
  rcases hw with rfl | rfl | rfl | rfl | rfl | rfl | rfl | rfl | rfl <;> first | exact bz2 (by assumption) | exact ⟨by decide, by decide⟩
theorem w1_ok {ss : List Int} (h : ∀ s ∈ ss, NB s) : ∀ w ∈ w1 ss, WOK w := by
  intro w hw
  rcases List.mem_cons.1 hw with rfl | hw
  · exact ⟨by decide, by decide⟩
  obtain ⟨s, hs, rfl⟩ := List.mem_map.1 hw; exact bz2 (h s hs)
theorem wA_ok {x : Ad} (h : AOK x) : ∀ w ∈ wA x, WOK w := by
  obtain ⟨h1, h2, _⟩ := h; intro w hw; unfold wA at hw
  split at hw
  · simp only [List.mem_cons, List.not_mem_nil, or_false] at hw
    rcases hw with rfl | rfl <;> first | exact bz2 (by assumption) | exact ⟨by decide, by decide⟩
  split at hw
  all_goals
    simp only [List.mem_cons, List.not_mem_nil, or_false] at hw
    rcases hw with rfl | rfl | rfl <;> first | exact bz2 (by assumption) | exact ⟨by decide, by decide⟩
theorem nz {z : Int} (h : NB z) : numS (itoaZ z) = some z := (cz4 h.1 h.2).1
theorem ch_w0 {c : Ch} (h : COK c) : chS (w0 c) = some c := by
  obtain ⟨h1, h2, h3, h4, h5, h6⟩ := h; exact uq0 (y := c) rfl ⟨nz h1, nz h2, nz h3, nz h4, nz h5, nz h6⟩
theorem lz0 : ∀ {ss : List Int}, (∀ s ∈ ss, NB s) → numsS (ss.map itoaZ) = some ss
  | [], _ => rfl
  | s :: r, h => by
    rw [List.map_cons, numsS, nz (h s List.mem_cons_self), lz0 fun a ha => h a (List.mem_cons_of_mem _ ha)]
theorem st_w1 {ss : List Int} (h0 : ss ≠ []) (h : ∀ s ∈ ss, NB s) : stS (w1 ss) = some ss := by
  have h1 : 0 < ss.length := List.length_pos_iff.2 h0; unfold stS; rw [if_neg]
  · exact lz0 h
  have hl : (w1 ss).length = ss.length + 1 := by rw [w1, List.length_cons, List.length_map]
  intro h9
  rcases h9 with h9 | h9
  · omega
  exact h9 rfl
theorem adv_wA {x : Ad} (h : AOK x) : advS (wA x) = some x := by
  obtain ⟨z, k, l⟩ := x; obtain ⟨h1, h2, h3, h4⟩ := h; simp only at h1 h2 h3 h4; unfold wA
  simp only
  by_cases hk : k = 1
  · rw [if_pos hk]
    subst hk; obtain rfl := h4 rfl; show (if [itoaZ z, plainS].length = 2 then _ else _) = _; rw [if_pos (show [itoaZ z, plainS].length = 2 from rfl), if_neg (by show ¬ formB [itoaZ z, plainS] nmP = false; rw [show formB [itoaZ z, plainS] nmP = true from rfl]; simp)]; rw [show at_ [itoaZ z, plainS] 0 = itoaZ z from rfl, nz h1]
  rw [if_neg hk]
  by_cases hk2 : k = 2
  · rw [if_pos hk2]
    subst hk2; unfold advS; rw [if_neg (by simp), if_neg (by rintro ⟨_, h9⟩; exact absurd h9 (by show ¬ boldS = cardS; decide)), if_neg (by rw [show formB [itoaZ z, boldS, itoaZ l] nmB = true from rfl]; simp)]; exact wJ (nz h1) (nz h2)
  rw [if_neg hk2]; have : k = 3 := by omega
  subst this; unfold advS; rw [if_neg (by simp), if_pos ⟨rfl, rfl⟩]; exact wJ (nz h1) (nz h2)
theorem sE {n i p : Nat} {l r : Str} {st : SaT} (h : (10 : UInt8) ∉ l) : parseF (n + 1) i (l ++ 10 :: r) p st = if 1 < i ∧ l = soldS then (if r = [] then (some st, p) else (none, p + (l.length + 1))) else
    match takeW i (splitB 32 l) st with
    | none => (none, p)
    | some st' => parseF n (i + 1) r (p + (l.length + 1)) st' := by
  rw [parseF, kq0 r h, if_neg (by simp)]
  rfl
theorem adv_ne (x : Ad) : joinB 32 (wA x) ≠ soldS := fun h => by
  have h1 : (32 : UInt8) ∈ joinB 32 (wA x) := by
    unfold wA
    split
    · simp [joinB]
    split <;> simp [joinB]
  rw [h] at h1; exact absurd h1 (by decide)
theorem wA_ne (x : Ad) : wA x ≠ [] := by
  unfold wA
  split
  · simp
  split <;> simp
theorem iq7 : ∀ {xs : List Ad} {n i p : Nat} {st : SaT}, (∀ x ∈ xs, AOK x) → 1 < i → (advT xs).length < n → ∃ q, parseF n i (advT xs) p st = (some (st.1, st.2.1, st.2.2 ++ xs), q)
  | [], n, i, p, st, _, hi, hn => by
    obtain ⟨n, rfl⟩ : ∃ n0, n = n0 + 1 := ⟨n - 1, by omega⟩; rw [advT, sE (by decide), if_pos ⟨hi, rfl⟩, if_pos rfl, List.append_nil]; exact ⟨_, rfl⟩
  | x :: r, n, i, p, st, h, hi, hn => by
    obtain ⟨n, rfl⟩ : ∃ n0, n = n0 + 1 := ⟨n - 1, by omega⟩; have hx := h x List.mem_cons_self; rw [advT, List.length_append, List.length_cons] at hn; rw [advT, sE (cj7 (wA_ok hx)), if_neg (fun h9 => adv_ne x h9.2), qG (wA_ne x) (wA_ok hx), takeW, if_neg (by omega), if_neg (by omega), adv_wA hx]; obtain ⟨q, hq⟩ := iq7 (xs := r) (n := n) (i := i + 1) (p := p + ((joinB 32 (wA x)).length + 1)) (st := (st.1, st.2.1, st.2.2 ++ [x])) (fun a ha => h a (List.mem_cons_of_mem _ ha)) (by omega) (by omega); refine ⟨q, ?_⟩
    simp only
    rw [hq]
    simp
def SOK (s : SaT) : Prop := COK s.1 ∧ s.2.1 ≠ [] ∧ (∀ v ∈ s.2.1, NB v) ∧ ∀ x ∈ s.2.2, AOK x
theorem nx5 {s : SaT} (h : SOK s) : ∃ q, parseR (textB s) = (some s, q) := by
  obtain ⟨c, ss, xs⟩ := s; obtain ⟨h1, h2, h3, h4⟩ := h; simp only at h1 h2 h3 h4; unfold parseR
  obtain ⟨n, hn⟩ : ∃ n, (textB (c, ss, xs)).length + 1 = n + 1 + 1 := ⟨(textB (c, ss, xs)).length - 1, by
    have : 0 < (textB (c, ss, xs)).length := by unfold textB; simp only [List.length_append, List.length_cons]; omega
    omega⟩
  rw [hn]
  have hlen : (textB (c, ss, xs)).length = (joinB 32 (w0 c)).length + ((joinB 32 (w1 ss)).length + ((advT xs).length + 1) + 1) := by
    unfold textB; simp only [List.length_append, List.length_cons]
  unfold textB
  simp only
  rw [sE (cj7 (w0_ok h1)), if_neg (by omega), qG (by simp [w0]) (w0_ok h1), takeW, if_pos rfl, ch_w0 h1]
  simp only
  rw [sE (cj7 (w1_ok h3)), if_neg (by omega), qG (by simp [w1]) (w1_ok h3), takeW, if_neg (by omega), if_pos rfl, st_w1 h2 h3]
  simp only
  obtain ⟨q, hq⟩ := iq7 (xs := xs) (n := n) (i := 0 + 1 + 1) (p := 0 + ((joinB 32 (w0 c)).length + 1) + ((joinB 32 (w1 ss)).length + 1)) (st := (c, zeroSa.2.1 ++ ss, zeroSa.2.2)) h4 (by omega) (by omega); exact ⟨q, by rw [hq]; simp [zeroSa]⟩
theorem lz2 {t : Str} {z : Int} (h : numS t = some z) : t = itoaZ z ∧ NB z := by
  obtain ⟨h1, h2, h3⟩ := tx1 h; exact ⟨h1.symm, h2, by omega⟩
theorem sI : ∀ {l : List Str} {r : List Int}, numsS l = some r → l = r.map itoaZ ∧ ∀ v ∈ r, NB v
  | [], r, h => by cases h; exact ⟨rfl, fun v hv => by cases hv⟩
  | a :: l, r, h => by
    rw [numsS] at h
    cases ha : numS a with
    | none => rw [ha] at h; cases h
    | some y =>
      rw [ha] at h
      cases hl : numsS l with
      | none => rw [hl] at h; cases h
      | some q =>
        rw [hl] at h; cases h; obtain ⟨e1, e2⟩ := lz2 ha; obtain ⟨e3, e4⟩ := sI hl; refine ⟨by rw [List.map_cons, ← e1, ← e3], fun v hv => ?_⟩
        rcases List.mem_cons.1 hv with rfl | hv
        · exact e2
        exact e4 v hv
theorem st_back {w : List Str} {l : List Int} (h : stS w = some l) : w = w1 l ∧ ∀ v ∈ l, NB v := by
  unfold stS at h
  split at h
  · cases h
  rename_i h1
  simp only [not_or, Decidable.not_not] at h1; obtain ⟨h2, h3⟩ := sI h
  cases w with
  | nil => simp at h1
  | cons a r =>
    refine ⟨?_, h3⟩; have e : a = streetsS := h1.2; rw [w1, ← h2, e]
    rfl
theorem rH {w ns : List Str} (h : formB w ns = true) {k : Nat} (hk : k < ns.length) (h1 : ¬ ns.getD k default = []) : w.getD k default = ns.getD k default := by
  refine Classical.byContradiction fun h2 => ?_; rw [qj1 hk h1 (fun e => h2 e.symm)] at h
  cases h
theorem lj1 {w : List Str} {k : Int} {x : Ad} (h : twoS w k = some x) : at_ w 0 = itoaZ x.1 ∧ at_ w 2 = itoaZ x.2.2 ∧ x.2.1 = k := by
  unfold twoS at h
  split at h
  · rename_i a b h1
    cases h
    obtain ⟨h2, _⟩ := sI h1; simp only [List.map_cons, List.map_nil, List.cons.injEq, and_true] at h2; exact ⟨h2.1, h2.2, rfl⟩
  cases h
theorem ux6 {w : List Str} {x : Ad} (h : advS w = some x) : w = wA x := by
  unfold advS at h
  split at h
  · rename_i hl
    split at h
    · cases h
    rename_i hf
    have hf : formB w nmP = true := by simpa using hf
    split at h
    · rename_i z hz
      cases h
      obtain ⟨e, _⟩ := lz2 hz; have e1 := rH hf (k := 1) (by decide) (by decide)
      match w, hl with
      | [a, b], _ =>
        have ea : a = itoaZ z := e; have eb : b = plainS := e1; rw [ea, eb]
        rfl
    cases h
  split at h
  · rename_i h1
    obtain ⟨hl, h1⟩ := h1; obtain ⟨e1, e2, e3⟩ := lj1 h
    match w, hl with
    | [a, b, d], _ =>
      have ea : a = itoaZ x.1 := e1; have ed : d = itoaZ x.2.2 := e2; have eb : b = cardS := h1; rw [wA, if_neg (by omega), if_neg (by omega), ea, eb, ed]
  split at h
  · cases h
  rename_i hf
  have hf : formB w nmB = true := by simpa using hf
  obtain ⟨e1, e2, e3⟩ := lj1 h; have e4 := rH hf (k := 1) (by decide) (by decide); have hl := rG hf
  match w, hl with
  | [a, b, d], _ =>
    have ea : a = itoaZ x.1 := e1; have ed : d = itoaZ x.2.2 := e2; have eb : b = boldS := e4; rw [wA, if_neg (by omega), if_pos e3, ea, eb, ed]
theorem ch_back {w : List Str} {c : Ch} (h : chS w = some c) : w = w0 c := by
  unfold chS at h
  split at h
  · cases h
  rename_i hf
  have hf : formB w nm0 = true := by simpa using hf
  split at h
  · rename_i a b c2 d e f hn
    cases h
    obtain ⟨h2, _⟩ := sI hn; have hl := rG hf; have f0 := rH hf (k := 0) (by decide) (by decide); have f5 := rH hf (k := 5) (by decide) (by decide); have f7 := rH hf (k := 7) (by decide) (by decide)
    match w, hl with
    | [a0, a1, a2, a3, a4, a5, a6, a7, a8], _ =>
      have e0 : a0 = tariffS := f0; have e5 : a5 = offS0 := f5; have e7 : a7 = fromS := f7; have h3 : [a1, a2, a3, a4, a6, a8] = [itoaZ a, itoaZ b, itoaZ c2, itoaZ d, itoaZ e, itoaZ f] := h2; simp only [List.cons.injEq, and_true] at h3; obtain ⟨q1, q2, q3, q4, q6, q8⟩ := h3; rw [e0, e5, e7, q1, q2, q3, q4, q6, q8]
      rfl
  cases h
theorem cz2 : ∀ {n i : Nat} {s : Str} {p : Nat} {st st' : SaT} {q : Nat}, 1 < i → parseF n i s p st = (some st', q) → ∃ xs, s = advT xs ∧ st' = (st.1, st.2.1, st.2.2 ++ xs)
  | 0, i, s, p, st, st', q, _, h => by rw [parseF] at h; cases h
  | n + 1, i, s, p, st, st', q, hi, h => by
    by_cases hc : (cutB 10 s).2.2 = false
    · rw [parseF, if_pos hc] at h; cases h
    obtain ⟨l, r, hl, rfl⟩ := dz3 hc; rw [sE hl] at h
    split at h
    · rename_i h1
      split at h
      · rename_i hr
        cases h
        exact ⟨[], by rw [h1.2, hr]; rfl, by simp⟩
      cases h
    split at h
    · cases h
    rename_i st1 ht
    rw [takeW, if_neg (by omega), if_neg (by omega)] at ht
    split at ht
    · rename_i x hx
      cases ht
      obtain ⟨xs, e1, e2⟩ := cz2 (by omega) h; refine ⟨x :: xs, ?_, ?_⟩
      · rw [advT, ← ux6 hx, mO, e1]
      rw [e2]; simp
    cases ht
theorem lx9 {x : Str} {s : SaT} {q : Nat} (h : parseR x = (some s, q)) : x = textB s := by
  unfold parseR at h
  by_cases hc : (cutB 10 x).2.2 = false
  · rw [parseF, if_pos hc] at h; cases h
  obtain ⟨l, r, hl, rfl⟩ := dz3 hc; rw [sE hl, if_neg (by omega)] at h
  split at h
  · cases h
  rename_i st1 ht
  rw [takeW, if_pos rfl] at ht
  split at ht
  · rename_i c hch
    cases ht
    have hlen : (l ++ 10 :: r).length = l.length + r.length + 1 := by simp; omega
    rw [hlen] at h; rw [parseF] at h
    split at h
    · cases h
    rename_i hc2
    obtain ⟨l2, r2, hl2, rfl⟩ := dz3 hc2; rw [kq0 r2 hl2] at h; simp only at h; rw [if_neg (by omega)] at h
    split at h
    · cases h
    rename_i st2 ht2
    rw [takeW, if_neg (by omega), if_pos rfl] at ht2
    split at ht2
    · rename_i ss hss
      cases ht2
      obtain ⟨xs, e1, e2⟩ := cz2 (by omega) h; rw [e2]; show l ++ 10 :: (l2 ++ 10 :: r2) = joinB 32 (w0 c) ++ 10 :: (joinB 32 (w1 ss) ++ 10 :: advT xs); rw [← ch_back hch, ← (st_back hss).1, mO, mO, e1]
    cases ht2
  cases ht
theorem qq8 (x : Ad) : wordE x = joinB 32 (wA x) := by
  unfold wordE wA
  split
  · simp [joinB, plW, plainS]
  split
  · simp [joinB, bdW, boldS]
  simp [joinB, cdW, cardS]
theorem qq2 (a : Str) : ∀ l : List Ad, accQ a l = a ++ 10 :: (l.reverse.map (fun x => wordE x ++ [10])).flatten
  | [] => by simp [accQ, nlW]
  | x :: l => by
    rw [accQ, qq2 a l]
    simp [nlW]
theorem qq1 : ∀ xs : List Ad, (xs.map (fun x => wordE x ++ [10])).flatten ++ soW = advT xs
  | [] => rfl
  | x :: r => by
    rw [advT, ← qq1 r, ← qq8]
    simp
theorem qq3 (c : Ch) : ∀ l : List Int, accP c l = headE c ++ (l.reverse.map (fun s => 32 :: itoaZ s)).flatten
  | [] => by simp [accP]
  | x :: l => by
    rw [accP, qq3 c l]
    simp [spW]
theorem pz9 : ∀ (ss : List Int) (a : Str), joinB 32 (a :: ss.map itoaZ) = a ++ (ss.map (fun s => 32 :: itoaZ s)).flatten
  | [], a => by simp [joinB]
  | s :: r, a => by
    rw [List.map_cons, joinB, pz9 r]
    simp
theorem head_eq (c : Ch) : headE c = joinB 32 (w0 c) ++ 10 :: streetsS := by
  simp [headE, w0, joinB, taW, spW, ofW, frW, stW, tariffS, offS0, fromS, streetsS]
theorem kz2 (c : Ch) (ss : List Int) (xs : List Ad) : wrE c ss xs = textB (c, ss, xs) := by
  rw [wrE, qq2, qq3, head_eq, List.reverse_reverse, List.reverse_reverse]; show _ = joinB 32 (w0 c) ++ 10 :: (joinB 32 (streetsS :: ss.map itoaZ) ++ 10 :: advT xs); rw [pz9, ← qq1]
  simp
theorem sok_of {s : SaT} (h : chkT s = 0) : SOK s := by
  obtain ⟨⟨h1, h2, h3, h4, h5, h6⟩, hp, hq⟩ := wr_ok h; have hs := ij5 h
  have h9 : firstE s.2.1.length s.2.2 = 0 := by
    unfold chkT chkS at h
    repeat (split at h; · cases h)
    exact h
  refine ⟨⟨h1, h2, h3, h4, h5, h6⟩, (fun e => by have := hs.n1; rw [e] at this; cases this), hp, fun x hx => ⟨(hq x hx).1, (hq x hx).2, (hs.ad x hx).2.1, fun e => ?_⟩⟩; have h8 := firstE_zero h9 x hx; unfold adErr at h8
  split at h8
  · cases h8
  split at h8
  · cases h8
  split at h8
  · cases h8
  rename_i h7
  simp only [not_or, not_and, Decidable.not_not] at h7; exact h7.2 e
theorem nq4 {s : SaT} (h : chkT s = 0) (hl : (wrB s).1.length ≤ 250) : readB (wrB s).1 = (s, 0, 0) := by
  have e : (wrB s).1 = textB s := by rw [wrB, if_pos h]; exact kz2 _ _ _
  rw [e] at hl ⊢; obtain ⟨q, hq⟩ := nx5 (sok_of h); rw [readB, if_neg (by omega), hq]
  simp only
  rw [if_pos h]
theorem nj0 {x : Str} (h : (readB x).2.2 = 0) : wrB (readB x).1 = (x, 0) := by
  unfold readB at h ⊢
  split
  · rename_i h1; rw [if_pos h1] at h; cases h
  rename_i h1
  rw [if_neg h1] at h
  split
  · rename_i p hp
    rw [hp] at h; cases h
  rename_i s p hp
  rw [hp] at h; simp only at h
  split
  · rename_i h2
    rw [wrB]
    simp only
    rw [if_pos h2, kz2, lx9 hp]
  rename_i h2
  rw [if_neg h2] at h; exact absurd h h2
end Go.Proofs.YtcdopfjiadifhaaGreatDoor
end
section
namespace Go.Proofs.YtcdopfjiadifhaaGreatDoor
open Go Go.W
set_option maxRecDepth 20000
attribute [local irreducible] HL HC HQ HB Row Rows2 Blk Facts
theorem tQ {m z : Int} (h : ToInv m z) (hm : 0 ≤ m) : 0 ≤ z ∧ z ≤ m := by
  simp only [ToInv] at h; refine ⟨h.1, ?_⟩
  by_cases h1 : 1 ≤ m
  · exact h.2.1 h1
  have := h.2.2 (by omega); omega
theorem cj2 {lo hi z : Int} (h : FromInv lo hi z) (hm : lo ≤ hi) : lo ≤ z ∧ z ≤ hi := by
  simp only [FromInv] at h; refine ⟨h.1, ?_⟩
  by_cases h1 : lo < hi
  · exact h.2.1 h1
  have := h.2.2 (by omega); omega
theorem az0 {α : Type} {p : α → Prop} {l : List α} {x : α} (h : ∀ y ∈ l, p y) (hx : p x) : ∀ y ∈ l ++ [x], p y := fun y hy => (List.mem_append.1 hy).elim (h y) fun hy => by rw [List.mem_singleton.1 hy]; exact hx
theorem Z1 {g : Nat} {A B : Option Addr} {c cb : Nat} {nums : List Int} {s : Int × Int} (l : List Int) (hn : nums.length ≤ 9223372036854775807) (hs : DOK nums s) (hl : 0 < l.length) (hl2 : l.length ≤ 1000) :
    Meets Tryz.prog F.mM [.pointer (c8 g), .slice B l.length cb] { diceCon g A c nums s (fun x : Int => x ∈ l) (fun z => int z) (fun _ => []) with LI := [Row A (rows nums), Row B (rows l)] } := by
 refine i9 F.dj6 rfl r6 fun w0 => ?_; refine i8 (d5 rfl (k8 (c7 rfl (c7 rfl (c7 rfl ?_))))); refine l7 rfl T.t7 rfl (S1 _ rfl rfl rfl rfl r5 ?_); refine k5 F.E8 rfl rfl (C5 ((l.length : Int) - 1) hn hs (by omega)) p6 mC fun xs1 hs1 => ?_; obtain ⟨s1, z⟩ := xs1; obtain ⟨hs1, hz⟩ := hs1; simp only at hs1; have hz := tQ hz (by omega); obtain ⟨zn, rfl⟩ := Int.eq_ofNat_of_zero_le hz.1; have hzl : zn < l.length := by omega
 refine v6 (α := Int) _ _ rfl T.t7 T.w9 rfl rfl rfl mB rfl (by omega) (by decide) (b8 rfl T.b9 rfl (d6 mB (c9 (by omega) rfl)) ?_); refine d5 rfl (d8 (l5 ?_)); exact ret1 (s1, l.getD zn default) rfl rfl rfl ⟨hs1, w7 hzl⟩ (.refl _) trivial
theorem uY {g : Nat} {A : Option Addr} {c : Nat} {nums : List Int} {s : Int × Int} (n : Nat) (hn : nums.length ≤ 9223372036854775807) (hs : DOK nums s) (h1 : 1 ≤ n ∧ n ≤ 1000) :
    Meets Tryz.prog F.mN [.pointer (c8 g), int n] (diceCon g A c nums s (fun x : Ad => adErr n x = 0) (fun x => adV x) (fun _ => [])) := by
 refine i9 F.dj7 rfl r6 fun w0 => ?_; refine i8 ?_; refine y9 rfl (fun _ => T.U5 _) fun g4 => ?_; refine k8 (c7 rfl (c7 rfl ?_)); refine S1 _ rfl rfl rfl rfl r5 ?_; refine k5 F.E8 rfl rfl (C5 ((n : Int) - 1) hn hs (by omega)) (List.Perm.swap _ _ _) mC fun xs1 hs1 => ?_; obtain ⟨s1, z⟩ := xs1; obtain ⟨hs1, hz⟩ := hs1; simp only at hs1; have hz : 0 ≤ z ∧ z ≤ (n : Int) - 1 := tQ hz (by omega); refine c7 rfl ?_; refine k5 F.W7 rfl rfl (Q0 (1) (3) hn hs1 (by omega)) p6 mC fun xs2 hs2 => ?_; obtain ⟨s2, k⟩ := xs2; obtain ⟨hs2, hk⟩ := hs2; simp only at hs2; have hk : 1 ≤ k ∧ k ≤ 3 := cj2 hk (by omega); refine u4 _ rfl rfl (fun _ => T.D3 ..) ?_; refine y9 rfl (fun _ => T.U5 _) fun g5 => ?_; refine w4 (cs := #[int z, int k, int 1]) rfl rfl (.refl _) T.m4 (by rfl) (by rfl) ?_; refine d8 ?_; refine mT ⟨fun x : (Int × Int) × Int => DOK nums x.1 ∧ (1 ≤ x.2 ∧ x.2 ≤ 6) ∧ (k = 1 → x.2 = 1), fun x => [(4, .pointer (c8 g4)), (5, .pointer (c8 g5))], fun x => [(g5, Obj.cells #[int z, int k, int x.2] T.G9 (0, 0)), dice g A c nums x.1, (g4, Obj.cells #[int 0, int 0, int 0] T.G9 (0, 0))], fun _ => []⟩ ?_ ?_
 ·skip
  refine i8 ?_
  first | refine a9 ⟨_, 1, none⟩ rfl rfl T.I8 rfl ?_ | refine a9 _ rfl rfl T.I8 rfl ?_
  first | refine b8 rfl T.b9 rfl (j0 mB rfl) ?_ | refine b8 rfl T.b9 rfl (j3 mB rfl) ?_ | refine b8 rfl T.b9 rfl (d6 mB (c9 (by omega) rfl)) ?_ | refine b8 rfl T.b9 rfl (d7 mB (rows_get (by omega) rfl)) ?_ | refine b8 rfl T.b9 rfl (j5 mB rfl) ?_
  refine N5 rfl rfl rfl (d8 ?_)
  first | refine m3 rfl (fun hb1 => ?_) (fun hb1 => ?_) | refine j7 rfl (fun hb1 => ?_) (fun hb1 => ?_)
  ·have hb1' := hb1; try simp at hb1'
   refine j8 (c7 rfl ?_); refine k5 F.W7 rfl rfl (Q0 (1) (6) hn hs2 (by omega)) (List.Perm.swap _ _ _) mC fun xs3 hs3 => ?_; obtain ⟨s3, l⟩ := xs3; obtain ⟨hs3, hl⟩ := hs3; simp only at hs3; have hl : 1 ≤ l ∧ l ≤ 6 := cj2 hl (by omega)
   first | refine a9 ⟨_, 2, none⟩ rfl rfl T.G3 rfl ?_ | refine a9 _ rfl rfl T.G3 rfl ?_
   refine z9 rfl rfl (.swap _ _ _) T.w9 (by rfl) (by rfl) ?_; refine d4 ?_; exact Y0 _ (s3, l) ⟨hs3, hl, fun e => absurd e hb1⟩ mC (List.Sublist.refl _) trivial
  have hb1' := hb1; try simp at hb1'
  refine k6 ?_; exact Y0 _ (s2, 1) ⟨hs2, ⟨Int.le_refl 1, show (1 : Int) ≤ 6 by decide⟩, fun _ => rfl⟩ mC (List.Sublist.refl _) trivial
 intro x hx; obtain ⟨s4, l⟩ := x; obtain ⟨hs4, hl, hkl⟩ := hx; simp only at hs4 hl hkl; refine i8 ?_
 first | refine B5 rfl T.r8 T.m4 rfl mB (by rfl) ?_ | refine C1 rfl T.r8 T.m4 rfl mB (by rfl) ?_ | refine u7 rfl T.r8 T.m4 rfl rfl (t5 mB (t9 (by omega))) ?_
 refine w4 (cs := #[int z, int k, int l]) (hp' := [(g5, Obj.cells #[int z, int k, int l] T.G9 (0, 0)), dice g A c nums s4]) rfl rfl (show List.Perm ([(g5, Obj.cells #[int z, int k, int l] T.G9 (0, 0)), dice g A c nums s4, (g4, Obj.cells #[int 0, int 0, int 0] T.G9 (0, 0))]) ([(g4, Obj.cells #[int 0, int 0, int 0] T.G9 (0, 0)), (g5, Obj.cells #[int z, int k, int l] T.G9 (0, 0)), dice g A c nums s4]) from (R6 fun p => by simp only [List.countP_append, List.countP_cons, List.countP_nil]; omega)) T.m4 (by rfl) (by rfl) ?_; refine d8 (l5 ?_); have hko : k = 1 ∨ 1 < k := by omega
 refine rY (s4, (z, k, l)) rfl rfl T.r8 T.m4 rfl m0 rfl rfl ⟨hs4, by show adErr n (z, k, l) = 0; unfold adErr; simp only; rw [if_neg (by omega), if_neg (by omega), if_neg (by omega)]⟩ (.cons _ (.cons _ (.refl _))) trivial
end Go.Proofs.YtcdopfjiadifhaaGreatDoor
end
section
namespace Go.Proofs.YtcdopfjiadifhaaGreatDoor
open Go Go.W
set_option maxRecDepth 20000
attribute [local irreducible] HL HC HQ HB Row Rows2 Blk Facts
theorem az1 {n : Nat} : ∀ {xs : List Ad}, (∀ x ∈ xs, adErr n x = 0) → firstE n xs = 0
  | [], _ => rfl
  | x :: r, h => by rw [firstE, if_neg (fun e => e (h x (List.mem_cons_self ..)))]; exact az1 fun y hy => h y (List.mem_cons_of_mem _ hy)
theorem chk_mk {c : Ch} {ss : List Int} {xs : List Ad} (hc : ChOK c) (h1 : 1 ≤ ss.length ∧ ss.length ≤ 5) (hs : ∀ v ∈ ss, 0 ≤ v ∧ v ≤ 9) (hx : xs.length ≤ 8) (ha : ∀ x ∈ xs, adErr ss.length x = 0) : chkS c ss xs = 0 := by
  obtain ⟨q1, q2, q3, q4, q5, q6⟩ := hc; unfold chkS; rw [if_neg (Classical.not_not.2 (by intro v hv; simp only [chQ, List.mem_cons, List.not_mem_nil, or_false] at hv; rcases hv with rfl | rfl | rfl | rfl <;> assumption)), if_neg (by omega), if_neg (by omega), if_neg (by omega), if_neg (Classical.not_not.2 hs), if_neg (by omega)]; exact az1 ha
abbrev saB (g : Nat) (c : Ch) (sA : Option Addr) (sn sC : Nat) (aA : Option Addr) (an aC : Nat) : Nat × Obj := (g, .cells #[int c.1, int c.2.1, int c.2.2.1, int c.2.2.2.1, int c.2.2.2.2.1, int c.2.2.2.2.2, .slice sA sn sC, .slice aA an aC] T.A3 (0, 0))
abbrev SRes := Ch × Sl Int × Sl Ad
structure SOf (m : Nat) (x : SRes) : Prop where
  ok : chkS x.1 x.2.1.l x.2.2.l = 0
  x8 : x.2.2.l.length ≤ m
  ca : x.2.1.l.length ≤ x.2.1.c
  cb : x.2.2.l.length ≤ x.2.2.c
set_option maxHeartbeats 1000000 in
theorem xM {g : Nat} {A : Option Addr} {c : Nat} {nums : List Int} {s : Int × Int} (m : Nat) (hn : nums.length ≤ 9223372036854775807) (hs : DOK nums s) (hm : m ≤ 8) :
    Meets Tryz.prog F.rB [.pointer (c8 g), int m] (diceCon g A c nums s (SOf m) (fun x => saV x.1 x.2.1 x.2.2) (fun x => saL x.2.1 x.2.2)) := by
 refine i9 F.gz2 rfl r6 fun w0 => ?_; refine i8 ?_; refine y9 rfl (fun _ => T.H5 _) fun g4 => ?_; refine k8 (c7 rfl (c7 rfl ?_)); refine k5 F.E8 rfl rfl (C5 (30) hn hs (by omega)) (List.Perm.swap _ _ _) mC fun xs1 hs1 => ?_; obtain ⟨s1, z1⟩ := xs1; obtain ⟨hs1, hz1⟩ := hs1; simp only at hs1; have hz1 : 0 ≤ z1 ∧ z1 ≤ 30 := tQ hz1 (by omega); refine c7 rfl ?_; refine k5 F.E8 rfl rfl (C5 (200) hn hs1 (by omega)) p6 mC fun xs2 hs2 => ?_; obtain ⟨s2, z2⟩ := xs2; obtain ⟨hs2, hz2⟩ := hs2; simp only at hs2; have hz2 : 0 ≤ z2 ∧ z2 ≤ 200 := tQ hz2 (by omega); refine q7 _ rfl rfl (fun _ => T.gE ..) fun gS => ?_; refine C6 (rows ([0, z1, z2] : List Int)) (List.prefix_refl _) ?_; refine k5 F.cU rfl rfl (Z1 ([0, z1, z2]) hn hs2 (show 0 < 3 by decide) (show 3 ≤ 1000 by decide)) p6 mC fun xs3 hs3 => ?_; obtain ⟨s3, za⟩ := xs3; obtain ⟨hs3, hza⟩ := hs3; simp only at hs3
 have hza : 0 ≤ za ∧ za ≤ 200 := by
   have hm := hza; simp only [List.mem_cons, List.not_mem_nil, or_false] at hm; rcases hm with rfl | rfl | rfl <;> omega
 refine c7 rfl ?_; refine k5 F.E8 rfl rfl (C5 (90) hn hs3 (by omega)) p6 mC fun xs4 hs4 => ?_; obtain ⟨s4, zb⟩ := xs4; obtain ⟨hs4, hzb⟩ := hs4; simp only at hs4; have hzb : 0 ≤ zb ∧ zb ≤ 90 := tQ hzb (by omega); refine c7 rfl ?_; refine k5 F.E8 rfl rfl (C5 (30) hn hs4 (by omega)) p6 mC fun xs5 hs5 => ?_; obtain ⟨s5, zc⟩ := xs5; obtain ⟨hs5, hzc⟩ := hs5; simp only at hs5; have hzc : 0 ≤ zc ∧ zc ≤ 30 := tQ hzc (by omega); refine c7 rfl ?_; refine k5 F.E8 rfl rfl (C5 (99) hn hs5 (by omega)) p6 mC fun xs6 hs6 => ?_; obtain ⟨s6, zd⟩ := xs6; obtain ⟨hs6, hzd⟩ := hs6; simp only at hs6; have hzd : 0 ≤ zd ∧ zd ≤ 99 := tQ hzd (by omega); refine c7 rfl (c7 rfl ?_); refine k5 F.E8 rfl rfl (C5 (20) hn hs6 (by omega)) p6 mC fun xs7 hs7 => ?_; obtain ⟨s7, z7⟩ := xs7; obtain ⟨hs7, hz7⟩ := hs7; simp only at hs7; have hz7 : 0 ≤ z7 ∧ z7 ≤ 20 := tQ hz7 (by omega); refine q7 _ rfl rfl (fun _ => T.gE ..) fun gS => ?_; refine C6 (rows ([0, z7, 50] : List Int)) (List.prefix_refl _) ?_; refine k5 F.cU rfl rfl (Z1 ([0, z7, 50]) hn hs7 (show 0 < 3 by decide) (show 3 ≤ 1000 by decide)) p6 mC fun xs8 hs8 => ?_; obtain ⟨s8, ze⟩ := xs8; obtain ⟨hs8, hze⟩ := hs8; simp only at hs8
 have hze : 0 ≤ ze ∧ ze ≤ 50 := by
   have hm := hze; simp only [List.mem_cons, List.not_mem_nil, or_false] at hm; rcases hm with rfl | rfl | rfl <;> omega
 refine c7 rfl ?_; refine k5 F.W7 rfl rfl (Q0 (1) (3) hn hs8 (by omega)) p6 mC fun xs9 hs9 => ?_; obtain ⟨s9, zf⟩ := xs9; obtain ⟨hs9, hzf⟩ := hs9; simp only at hs9; have hzf : 1 ≤ zf ∧ zf ≤ 3 := cj2 hzf (by omega); refine u4 _ rfl rfl (fun _ => T.N3 ..) (u4 _ rfl rfl (fun _ => T.gj5 ..) ?_); refine y9 rfl (fun _ => T.H5 _) fun g5 => ?_; refine w4 (cs := #[int za, int zb, int zc, int zd, int ze, int zf, .slice none 0 0, .slice none 0 0]) rfl rfl (.refl _) T.j9 (by rfl) (by rfl) ?_; have hch : ChOK (za, zb, zc, zd, ze, zf) := ⟨by show 0 ≤ za ∧ za ≤ 999; omega, by show 0 ≤ zb ∧ zb ≤ 999; omega, by show 0 ≤ zc ∧ zc ≤ 999; omega, by show 0 ≤ zd ∧ zd ≤ 999; omega, by show 0 ≤ ze ∧ ze ≤ 50; omega, by show 1 ≤ zf ∧ zf ≤ 5; omega⟩; refine d8 (j4 (i8 (c7 rfl ?_))); refine k5 F.W7 rfl rfl (Q0 (1) (5) hn hs9 (by omega)) (List.Perm.swap _ _ _) mC fun xs10 hs10 => ?_; obtain ⟨s10, zn⟩ := xs10; obtain ⟨hs10, hzn⟩ := hs10; simp only at hs10; have hzn : 1 ≤ zn ∧ zn ≤ 5 := cj2 hzn (by omega); obtain ⟨zn, rfl⟩ := Int.eq_ofNat_of_zero_le (show 0 ≤ zn by omega); refine d5 rfl (d8 (k9 ?_)); refine w3 (β := List Int × OutC × Hp × Nat × (Int × Int)) ⟨fun ⟨l, o, og, i, s⟩ => Grow T.int 1 o.1 l.length o.2 (rows l) og ∧ l.length + i = zn ∧ (∀ v ∈ l, 0 ≤ v ∧ v ≤ 9) ∧ DOK nums s, fun ⟨l, o, og, i, s⟩ => [(0, .pointer (c8 g)), (1, int m), (4, .pointer (c8 g4)), (5, .pointer (c8 g5)), (6, int i)], fun ⟨l, o, og, i, s⟩ => dice g A c nums s :: saB g5 ((za, zb, zc, zd, ze, zf) : Ch) o.1 l.length o.2 none 0 0 :: saB g4 (0, 0, 0, 0, 0, 0) none 0 0 none 0 0 :: og, fun _ => [Row A (rows nums)]⟩ (fun x => x.2.2.2.1) ([], (none, 0), [], zn, s10) ⟨Grow.nil _ _, Nat.zero_add _, fun v hv => by simp at hv, hs10⟩ mC (.refl _) mC fun x hx => ?_; clear hs hs1 hs2 hs3 hs4 hs5 hs6 hs7 hs8 hs9 hs10; obtain ⟨l, o, og, i, s⟩ := x; obtain ⟨hG, hli, hok, hs⟩ := hx; refine j4 (i8 (c7 rfl (R0 rfl rfl rfl (d8 ?_))))
 first | refine m3 rfl (fun hb1 => ?_) (fun hb1 => ?_) | refine j7 rfl (fun hb1 => ?_) (fun hb1 => ?_)
 ·have hb1' := hb1; try simp at hb1'
  have hi0 : 0 < i := by omega
  refine k6 (j6 (j4 (k9 ?_))); refine S6 (dice g A c nums s :: og) ([saB g5 ((za, zb, zc, zd, ze, zf) : Ch) o.1 l.length o.2 none 0 0, saB g4 (0, 0, 0, 0, 0, 0) none 0 0 none 0 0]) (R6 fun p => by simp only [List.countP_append, List.countP_cons, List.countP_nil]; omega) 8 [6, 4] mixed (by decide) (by decide) (by decide) rfl rfl rfl ?_
  apply m8 _ rfl rfl rfl
  ·intro w1
   first | refine a9 ⟨_, 6, none⟩ rfl rfl T.q9 rfl ?_ | refine a9 _ rfl rfl T.q9 rfl ?_
   refine d4 ?_; exact k4 rfl
  apply m8 _ rfl rfl rfl
  ·intro w1
   first | refine b8 rfl T.i7 rfl (j3 mB rfl) ?_ | refine b8 rfl T.i7 rfl (j0 mB rfl) ?_ | refine b8 rfl T.i7 rfl (d6 mB (c9 (by omega) rfl)) ?_ | refine b8 rfl T.i7 rfl (d7 mB (rows_get (by omega) rfl)) ?_ | refine b8 rfl T.i7 rfl (j5 mB rfl) ?_
   refine d4 ?_; exact k4 rfl
  refine l9 (fun w1 => c7 rfl (q_z rfl)) (l9 (fun w1 => c7 rfl (q_z rfl)) ?_); refine iZ ⟨(Int × Int) × Int, fun x => DOK nums x.1 ∧ 0 ≤ x.2 ∧ x.2 ≤ 9, fun x => int x.2, fun _ => [], fun x => dice g A c nums x.1 :: og⟩ rfl rfl rfl ?_ ?_
  ·intro w1; refine k5 F.E8 rfl rfl (C5 (9) hn hs (by omega)) p6 mC fun xs1 hs1 => ?_; obtain ⟨s1, z⟩ := xs1; obtain ⟨hs1, hz⟩ := hs1; simp only at hs1; have hz : 0 ≤ z ∧ z ≤ 9 := tQ hz (by omega); refine d4 ?_; exact O8 (s1, z) ⟨hs1, hz⟩ (fun _ => rfl) (List.Sublist.refl _) trivial
  refine X9 ⟨Nat × Int, fun x => 0 ≤ x.2 ∧ x.2 ≤ 9, fun x => .slice (some ⟨x.1, 0, none⟩) 4 4, fun x => [Row (some ⟨x.1, 0, none⟩) (rows ([0, 0, 3, x.2] : List Int))]⟩ rfl rfl rfl ?_ ?_
  ·intro x hx; intro w1; refine q7 _ rfl rfl (fun _ => T.iz7 ..) fun gS => ?_; refine d4 ?_; refine E5 (rows ([0, 0, 3, x.2] : List Int)) (List.prefix_refl _) ?_; exact J4 (gS, x.2) hx.2 rfl ⟨m0, trivial⟩
  refine iZ ⟨(Int × Int) × Int, fun x => DOK nums x.1 ∧ 0 ≤ x.2 ∧ x.2 ≤ 9, fun x => int x.2, fun _ => [], fun x => dice g A c nums x.1 :: og⟩ rfl rfl rfl ?_ ?_
  ·intro y4 hy4 y5 hy5; intro w1; refine k5 F.cU rfl rfl (Z1 ([0, 0, 3, y5.2]) hn hy4.1 (show 0 < 4 by decide) (show 4 ≤ 1000 by decide)) p6 mC fun xs2 hs2 => ?_; obtain ⟨s2, z2⟩ := xs2; obtain ⟨hs2, hz2⟩ := hs2; simp only at hs2
   have hz2 : 0 ≤ z2 ∧ z2 ≤ 9 := by
     have hm := hz2; simp only [List.mem_cons, List.not_mem_nil, or_false] at hm; rcases hm with rfl | rfl | rfl | rfl <;> omega
   refine d4 ?_; exact O8 (s2, z2) ⟨hs2, hz2⟩ (fun _ => rfl) (List.Sublist.refl _) trivial
  refine X9 ⟨Nat × Int, fun x => 0 ≤ x.2 ∧ x.2 ≤ 9, fun x => .slice (some ⟨x.1, 0, none⟩) 1 1, fun x => [Row (some ⟨x.1, 0, none⟩) (rows [x.2])]⟩ rfl rfl rfl ?_ ?_
  ·intro x hx; intro w1; refine q7 _ rfl rfl (fun _ => T.Z7 ..) fun gS => ?_; refine d4 ?_; refine E5 (rows [x.2]) (List.prefix_refl _) ?_; exact J4 (gS, x.2) hx.2 rfl ⟨m0, trivial⟩
  refine D1 ⟨rfl, ?_⟩; intro _ _ _ _ x6 h6 x7 h7; obtain ⟨s2, _⟩ := x6; have hs2 : DOK nums s2 := h6.1; obtain ⟨g7, z⟩ := x7; simp only at h7; refine O7 (hp' := [dice g A c nums s2, saB g5 ((za, zb, zc, zd, ze, zf) : Ch) o.1 l.length o.2 none 0 0, saB g4 (0, 0, 0, 0, 0, 0) none 0 0 none 0 0]) (l.length + 1) (rows (l ++ [z])) T.cj3 rfl rfl rfl hG (show List.Perm (dice g A c nums s2 :: og ++ [saB g5 ((za, zb, zc, zd, ze, zf) : Ch) o.1 l.length o.2 none 0 0, saB g4 (0, 0, 0, 0, 0, 0) none 0 0 none 0 0]) (og ++ [dice g A c nums s2, saB g5 ((za, zb, zc, zd, ze, zf) : Ch) o.1 l.length o.2 none 0 0, saB g4 (0, 0, 0, 0, 0, 0) none 0 0 none 0 0]) from (R6 fun p => by simp only [List.countP_append, List.countP_cons, List.countP_nil]; omega)) (Src.row (news := rows [z]) (m := 1) mB rfl (K5 _) (by decide)) rfl (D2 _ _).symm (by unfold maxLen; omega) (by omega) fun A4 c4 og4 hG4 => ?_
  first | refine a9 ⟨_, 6, none⟩ rfl rfl T.q9 rfl ?_ | refine a9 _ rfl rfl T.q9 rfl ?_
  refine z9 (hp' := og4 ++ [dice g A c nums s2, saB g4 (0, 0, 0, 0, 0, 0) none 0 0 none 0 0]) rfl rfl (show List.Perm (og4 ++ [dice g A c nums s2, saB g5 ((za, zb, zc, zd, ze, zf) : Ch) o.1 l.length o.2 none 0 0, saB g4 (0, 0, 0, 0, 0, 0) none 0 0 none 0 0]) (saB g5 ((za, zb, zc, zd, ze, zf) : Ch) o.1 l.length o.2 none 0 0 :: (og4 ++ [dice g A c nums s2, saB g4 (0, 0, 0, 0, 0, 0) none 0 0 none 0 0])) from (R6 fun p => by simp only [List.countP_append, List.countP_cons, List.countP_nil]; omega)) T.jq3 (by rfl) (by rfl) ?_; refine d4 (y6 (j6 (j8 (c7 rfl ?_)))); refine S1 ((i - 1 : Nat) : Int) rfl rfl rfl (by omega) r5 ?_; refine d5 rfl (d4 ?_); have e1 : (l ++ [z]).length = l.length + 1 := List.length_append; refine R8 (show List.Perm (saB g5 ((za, zb, zc, zd, ze, zf) : Ch) A4 (l.length + 1) c4 none 0 0 :: (og4 ++ [dice g A c nums s2, saB g4 (0, 0, 0, 0, 0, 0) none 0 0 none 0 0])) (dice g A c nums s2 :: saB g5 ((za, zb, zc, zd, ze, zf) : Ch) A4 (l.length + 1) c4 none 0 0 :: saB g4 (0, 0, 0, 0, 0, 0) none 0 0 none 0 0 :: og4) from (R6 fun p => by simp only [List.countP_append, List.countP_cons, List.countP_nil]; omega)) ?_; exact again _ (l ++ [z], (A4, c4), og4, i - 1, s2) ⟨by show Grow _ _ _ (l ++ [_]).length _ _ _; rw [e1]; exact hG4, by rw [e1]; omega, az0 hok h7, hs2⟩ (by show i - 1 < i; omega) mC (by show List.Sublist (_ :: saB g5 _ _ (l ++ [_]).length _ _ _ _ :: _) _; rw [e1]; exact List.Sublist.refl _) mC
 have hb1' := hb1; try simp at hb1'
 obtain rfl : i = 0 := by omega
 refine u9 (D6 (u5 (j6 (dq1 ?_)))); obtain ⟨sA, sC⟩ := o; have hCle := hG.le; refine mj4 (og ++ [dice g A c nums s, saB g5 ((za, zb, zc, zd, ze, zf) : Ch) sA l.length sC none 0 0, saB g4 (0, 0, 0, 0, 0, 0) none 0 0 none 0 0]) (by intro p; simp only [List.countP_append, List.countP_cons, List.countP_nil]; omega) ?_; refine dq8 hG ?_; clear hG; refine j8 (c7 rfl (c7 rfl ?_)); refine k5 F.E8 rfl rfl (C5 (m) hn hs (by omega)) p6 mC fun xs11 hs11 => ?_; obtain ⟨s11, zm⟩ := xs11; obtain ⟨hs11, hzm⟩ := hs11; simp only at hs11; have hzm : 0 ≤ zm ∧ zm ≤ m := tQ hzm (by omega); obtain ⟨zm, rfl⟩ := Int.eq_ofNat_of_zero_le hzm.1; refine d5 rfl (d8 (k9 ?_)); refine w3 (β := List Ad × OutC × Hp × Nat × (Int × Int)) ⟨fun ⟨q, o, og, i, s⟩ => Grow T.G9 3 o.1 q.length o.2 (rows q) og ∧ q.length + i ≤ m ∧ (∀ x ∈ q, adErr l.length x = 0) ∧ DOK nums s, fun ⟨q, o, og, i, s⟩ => [(0, .pointer (c8 g)), (1, int m), (4, .pointer (c8 g4)), (5, .pointer (c8 g5)), (7, int i)], fun ⟨q, o, og, i, s⟩ => dice g A c nums s :: saB g5 ((za, zb, zc, zd, ze, zf) : Ch) sA l.length sC o.1 q.length o.2 :: saB g4 (0, 0, 0, 0, 0, 0) none 0 0 none 0 0 :: og, fun _ => [Row sA (rows l), Row A (rows nums)]⟩ (fun x => x.2.2.2.1) ([], (none, 0), [], zm, s11) ⟨Grow.nil _ _, by rw [List.length_nil]; omega, fun v hv => by simp at hv, hs11⟩ mC (.refl _) mC fun x hx => ?_; clear hs hs11; obtain ⟨q, o, og, i, s⟩ := x; obtain ⟨hG, hqi, hok2, hs⟩ := hx; refine j4 (i8 (c7 rfl (R0 rfl rfl rfl (d8 ?_))))
 first | refine m3 rfl (fun hb2 => ?_) (fun hb2 => ?_) | refine j7 rfl (fun hb2 => ?_) (fun hb2 => ?_)
 ·have hb2' := hb2; try simp at hb2'
  have hi0 : 0 < i := by omega
  refine k6 (j6 (j4 (k9 ?_))); refine S6 (dice g A c nums s :: og) ([saB g5 ((za, zb, zc, zd, ze, zf) : Ch) sA l.length sC o.1 q.length o.2, saB g4 (0, 0, 0, 0, 0, 0) none 0 0 none 0 0]) (R6 fun p => by simp only [List.countP_append, List.countP_cons, List.countP_nil]; omega) 8 [6] mixed (by decide) (by decide) (by decide) rfl rfl rfl ?_
  apply m8 _ rfl rfl rfl
  ·intro w1
   first | refine a9 ⟨_, 7, none⟩ rfl rfl T.l4 rfl ?_ | refine a9 _ rfl rfl T.l4 rfl ?_
   refine d4 ?_; exact k4 rfl
  apply m8 _ rfl rfl rfl
  ·intro w1
   first | refine b8 rfl T.d9 rfl (j3 mB rfl) ?_ | refine b8 rfl T.d9 rfl (j0 mB rfl) ?_ | refine b8 rfl T.d9 rfl (d6 mB (c9 (by omega) rfl)) ?_ | refine b8 rfl T.d9 rfl (d7 mB (rows_get (by omega) rfl)) ?_ | refine b8 rfl T.d9 rfl (j5 mB rfl) ?_
   refine d4 ?_; exact k4 rfl
  refine l9 (fun w1 => c7 rfl (q_z rfl)) ?_
  apply m8 _ rfl rfl rfl
  ·intro w1
   first | refine a9 ⟨_, 6, none⟩ rfl rfl T.q9 rfl ?_ | refine a9 _ rfl rfl T.q9 rfl ?_
   refine d4 ?_; exact k4 rfl
  apply m8 _ rfl rfl rfl
  ·intro w1
   first | refine b8 rfl T.i7 rfl (j3 mB rfl) ?_ | refine b8 rfl T.i7 rfl (j0 mB rfl) ?_ | refine b8 rfl T.i7 rfl (d6 mB (c9 (by omega) rfl)) ?_ | refine b8 rfl T.i7 rfl (d7 mB (rows_get (by omega) rfl)) ?_ | refine b8 rfl T.i7 rfl (j5 mB rfl) ?_
   refine d4 ?_; exact k4 rfl
  refine l9 (fun w1 => l7 rfl T.t7 rfl (q_z rfl)) ?_; refine iZ ⟨(Int × Int) × Ad, fun x => DOK nums x.1 ∧ adErr l.length x.2 = 0, fun x => adV x.2, fun _ => [], fun x => dice g A c nums x.1 :: og⟩ rfl rfl rfl ?_ ?_
  ·intro w1; refine k5 F.bq4 rfl rfl (uY l.length hn hs ⟨by omega, by omega⟩) p6 mC fun xs1 hs1 => ?_; obtain ⟨s1, z⟩ := xs1; obtain ⟨hs1, hz⟩ := hs1; simp only at hs1; refine d4 ?_; exact O8 (s1, z) ⟨hs1, hz⟩ (fun _ => rfl) (List.Sublist.refl _) trivial
  refine X9 ⟨Nat × Ad, fun x => adErr l.length x.2 = 0, fun x => .slice (some ⟨x.1, 0, none⟩) 1 1, fun x => [Row (some ⟨x.1, 0, none⟩) (rows [x.2])]⟩ rfl rfl rfl ?_ ?_
  ·intro x hx; intro w1; refine q7 _ rfl rfl (fun _ => T.K1 ..) fun gS => ?_; refine d4 ?_; refine E5 (rows [x.2]) (List.prefix_refl _) ?_; exact J4 (gS, x.2) hx.2 rfl ⟨m0, trivial⟩
  refine D1 ⟨rfl, ?_⟩; intro x6 h6 x7 h7; obtain ⟨s2, _⟩ := x6; have hs2 : DOK nums s2 := h6.1; obtain ⟨g7, z⟩ := x7; simp only at h7; refine O7 (hp' := [dice g A c nums s2, saB g5 ((za, zb, zc, zd, ze, zf) : Ch) sA l.length sC o.1 q.length o.2, saB g4 (0, 0, 0, 0, 0, 0) none 0 0 none 0 0]) (q.length + 1) (rows (q ++ [z])) T.O4 rfl rfl rfl hG (show List.Perm (dice g A c nums s2 :: og ++ [saB g5 ((za, zb, zc, zd, ze, zf) : Ch) sA l.length sC o.1 q.length o.2, saB g4 (0, 0, 0, 0, 0, 0) none 0 0 none 0 0]) (og ++ [dice g A c nums s2, saB g5 ((za, zb, zc, zd, ze, zf) : Ch) sA l.length sC o.1 q.length o.2, saB g4 (0, 0, 0, 0, 0, 0) none 0 0 none 0 0]) from (R6 fun p => by simp only [List.countP_append, List.countP_cons, List.countP_nil]; omega)) (Src.row (news := rows [z]) (m := 1) mB rfl (K5 _) (by decide)) rfl (D2 _ _).symm (by unfold maxLen; omega) (by omega) fun A4 c4 og4 hG4 => ?_
  first | refine a9 ⟨_, 7, none⟩ rfl rfl T.l4 rfl ?_ | refine a9 _ rfl rfl T.l4 rfl ?_
  refine z9 (hp' := og4 ++ [dice g A c nums s2, saB g4 (0, 0, 0, 0, 0, 0) none 0 0 none 0 0]) rfl rfl (show List.Perm (og4 ++ [dice g A c nums s2, saB g5 ((za, zb, zc, zd, ze, zf) : Ch) sA l.length sC o.1 q.length o.2, saB g4 (0, 0, 0, 0, 0, 0) none 0 0 none 0 0]) (saB g5 ((za, zb, zc, zd, ze, zf) : Ch) sA l.length sC o.1 q.length o.2 :: (og4 ++ [dice g A c nums s2, saB g4 (0, 0, 0, 0, 0, 0) none 0 0 none 0 0])) from (R6 fun p => by simp only [List.countP_append, List.countP_cons, List.countP_nil]; omega)) T.K2 (by rfl) (by rfl) ?_; refine d4 (y6 (j6 (j8 (c7 rfl ?_)))); refine S1 ((i - 1 : Nat) : Int) rfl rfl rfl (by omega) r5 ?_; refine d5 rfl (d4 ?_); have e1 : (q ++ [z]).length = q.length + 1 := List.length_append; refine R8 (show List.Perm (saB g5 ((za, zb, zc, zd, ze, zf) : Ch) sA l.length sC A4 (q.length + 1) c4 :: (og4 ++ [dice g A c nums s2, saB g4 (0, 0, 0, 0, 0, 0) none 0 0 none 0 0])) (dice g A c nums s2 :: saB g5 ((za, zb, zc, zd, ze, zf) : Ch) sA l.length sC A4 (q.length + 1) c4 :: saB g4 (0, 0, 0, 0, 0, 0) none 0 0 none 0 0 :: og4) from (R6 fun p => by simp only [List.countP_append, List.countP_cons, List.countP_nil]; omega)) ?_; exact again _ (q ++ [z], (A4, c4), og4, i - 1, s2) ⟨by show Grow _ _ _ (q ++ [_]).length _ _ _; rw [e1]; exact hG4, by rw [e1]; omega, az0 hok2 h7, hs2⟩ (by show i - 1 < i; omega) mC (by show List.Sublist (_ :: saB g5 _ _ _ _ _ (q ++ [_]).length _ :: _) _; rw [e1]; exact List.Sublist.refl _) mC
 have hb2' := hb2; try simp at hb2'
 obtain rfl : i = 0 := by omega
 refine u9 (D6 (u5 (j6 (j4 ?_)))); obtain ⟨aA, aC⟩ := o; have hQle := hG.le; refine mj4 (og ++ [saB g5 ((za, zb, zc, zd, ze, zf) : Ch) sA l.length sC aA q.length aC, saB g4 (0, 0, 0, 0, 0, 0) none 0 0 none 0 0, dice g A c nums s]) (by intro p; simp only [List.countP_append, List.countP_cons, List.countP_nil]; omega) ?_; refine dq8 hG ?_; clear hG; refine j8 ?_
 first | refine B5 rfl T.k7 T.j9 rfl mB (by rfl) ?_ | refine C1 rfl T.k7 T.j9 rfl mB (by rfl) ?_ | refine u7 rfl T.k7 T.j9 rfl rfl (t5 mB (t9 (by omega))) ?_
 refine w4 (cs := #[int za, int zb, int zc, int zd, int ze, int zf, .slice sA l.length sC, .slice aA q.length aC]) rfl rfl (.swap _ _ _) T.j9 (by rfl) (by rfl) ?_; refine d8 (l5 ?_); refine rY (s, (za, zb, zc, zd, ze, zf), ⟨sA, sC, l⟩, ⟨aA, aC, q⟩) rfl rfl T.k7 T.j9 rfl m0 rfl rfl ⟨hs, ⟨chk_mk hch ⟨by show 1 ≤ l.length; omega, by show l.length ≤ 5; omega⟩ hok (by show q.length ≤ 8; omega) hok2, by show q.length ≤ m; omega, hCle, hQle⟩⟩ (.cons _ (.cons _ (.refl _))) mC
end Go.Proofs.YtcdopfjiadifhaaGreatDoor
end
section
namespace Go.Proofs.YtcdopfjiadifhaaGreatDoor
open Go Go.W
set_option maxRecDepth 20000
attribute [local irreducible] HL HC HQ HB Row Rows2 Blk Facts
abbrev OutS := (OutC × Hp) × (OutC × Hp)
structure DupS (ss : List Int) (xs : List Ad) (x : OutS) : Prop where
  a : Grow T.int 1 x.1.1.1 ss.length x.1.1.2 (rows ss) x.1.2
  b : GrowE T.G9 3 x.2.1.1 xs.length x.2.1.2 (rows xs) x.2.2
def priceE (c : Ch) (ss : List Int) (xs : List Ad) (i : Int) : Int × Int := if ¬ chkS c ss xs = 0 then (0, chkS c ss xs) else if ¬ (0 ≤ i ∧ i ≤ (xs.length : Int) - 1) then (0, 3) else (priceN c (xs.getD i.toNat default), 0)
def owesK : List Int → List Cd → List Int × Int
  | b, [] => (b, 0)
  | b, r :: rs => if ¬ (0 ≤ r.1 ∧ r.1 ≤ (b.length : Int) - 1) then ([], 3) else if ¬ (0 ≤ r.2 ∧ r.2 ≤ 99999) then ([], 1) else owesK (b.set r.1.toNat (b.getD r.1.toNat default - r.2)) rs
def owesE (c : Ch) (ss : List Int) (xs : List Ad) (rs : List Cd) : List Int × Int := if ¬ chkS c ss xs = 0 then ([], chkS c ss xs) else if 8 < rs.length then ([], 6) else owesK (numsN 70 c ss xs) rs
end Go.Proofs.YtcdopfjiadifhaaGreatDoor
end
section
namespace Go.Proofs.YtcdopfjiadifhaaGreatDoor
open Go Go.W
set_option maxRecDepth 20000
attribute [local irreducible] HL HC HQ HB Row Rows2 Blk Facts
end Go.Proofs.YtcdopfjiadifhaaGreatDoor
end
section
namespace Go.Proofs.YtcdopfjiadifhaaGreatDoor
open Go Go.W
set_option maxRecDepth 20000
attribute [local irreducible] HL HC HQ HB Row Rows2 Blk Facts
end Go.Proofs.YtcdopfjiadifhaaGreatDoor
end
section
namespace Go.Proofs.YtcdopfjiadifhaaGreatDoor
open Go Go.W
set_option maxRecDepth 20000
attribute [local irreducible] HL HC HQ HB Row Rows2 Blk Facts
def chgB (c : Ch) : Bool := decide (0 ≤ c.1 ∧ c.1 ≤ 999) && decide (0 ≤ c.2.1 ∧ c.2.1 ≤ 999) && decide (0 ≤ c.2.2.1 ∧ c.2.2.1 ≤ 999) && decide (0 ≤ c.2.2.2.1 ∧ c.2.2.2.1 ≤ 999) && decide (0 ≤ c.2.2.2.2.1 ∧ c.2.2.2.2.1 ≤ 50) && decide (1 ≤ c.2.2.2.2.2 ∧ c.2.2.2.2.2 ≤ 5)
def bilL (c : Ch) (ss : List Int) (xs : List Ad) (k : Nat) : List Int := (List.range k).map (bilN c ss xs)
end Go.Proofs.YtcdopfjiadifhaaGreatDoor
end
section
namespace Go.Proofs.YtcdopfjiadifhaaGreatDoor
open Go Go.W
set_option maxRecDepth 20000
attribute [local irreducible] HL HC HQ HB Row Rows2 Blk Facts
abbrev sumsL (c : Ch) (xs : List Ad) (n k : Nat) : List Int := (List.range n).map (sumK c xs k)
end Go.Proofs.YtcdopfjiadifhaaGreatDoor
end
section
namespace Go.Proofs.YtcdopfjiadifhaaGreatDoor
open Go Go.W
set_option maxRecDepth 20000
attribute [local irreducible] HL HC HQ HB Row Rows2 Blk Facts
end Go.Proofs.YtcdopfjiadifhaaGreatDoor
end
section
namespace Go.W
open Go Go.RowKit
def GoQ {β : Type} (s : Sta β) (μ : β → Nat) (m : Option Nat) (l : Nat) (c : Cx) (Q : Exit → Act → World → Prop) : Exit → Act → World → Prop
  | .goto l', a, w => l' = l ∧ ∃ y, s.inv y ∧ (∀ k, m = some k → μ y < k) ∧ Ok c a (s.fr y) ∧ WI c.b w (s.hp y) (s.L y)
  | e, a, w => Q e a w
section
variable {c : Cx} {Q : Exit → Act → World → Prop} {fr : Fr} {hp : Hp} {L : List Fact}
end
end Go.W
end
section
namespace Go.Proofs.YtcdopfjiadifhaaGreatDoor
open Go Go.W
set_option maxRecDepth 20000
attribute [local irreducible] HL HC HQ HB Row Rows2 Blk Facts
def bilA (c : Ch) (ss : List Int) (xs : List Ad) (y : Ad) : Int := bilN c ss (xs ++ [y]) y.1.toNat
def chStep (c : Ch) (ss : List Int) (xs : List Ad) (o : Option (Ad × Int)) (y : Ad) : Option (Ad × Int) :=
  if ¬ adErr ss.length y = 0 then o else match o with
    | none => some (y, bilA c ss xs y)
    | some z => if bilA c ss xs y < z.2 then some (y, bilA c ss xs y) else some z
def xA : Option (Ad × Int) → Ad
  | none => (0, 0, 0)
  | some z => z.1
def xB : Option (Ad × Int) → Int
  | none => 0
  | some z => z.2
def chIn (c : Ch) (ss : List Int) (xs : List Ad) (cu ln : Int) (kd : Nat) (o : Option (Ad × Int)) (i : Nat) : Option (Ad × Int) := (List.range i).foldl (fun o (j : Nat) => chStep c ss xs o (cu, (kd : Int), ln + (j : Int))) o
def chOut (c : Ch) (ss : List Int) (xs : List Ad) (cu ln : Int) (k : Nat) : Option (Ad × Int) := (List.range k).foldl (fun o kd => chIn c ss xs cu ln (kd + 1) o (7 - ln).toNat) none
def cheapE (c : Ch) (ss : List Int) (xs : List Ad) (cu ln : Int) : Ad × Int × Int :=
  if ¬ chkS c ss xs = 0 then ((0, 0, 0), 0, chkS c ss xs) else if ¬ (0 ≤ cu ∧ cu ≤ (ss.length : Int) - 1) then ((0, 0, 0), 0, 3) else if ¬ (1 ≤ ln ∧ ln ≤ 6) then ((0, 0, 0), 0, 1) else if 8 ≤ xs.length then ((0, 0, 0), 0, 6)
  else (xA (chOut c ss xs cu ln 3), xB (chOut c ss xs cu ln 3), 0)
def chAt (c : Ch) (ss : List Int) (xs : List Ad) (cu ln : Int) (x : Nat × Nat) : Option (Ad × Int) := chIn c ss xs cu ln (x.1 + 1) (chOut c ss xs cu ln x.1) x.2
end Go.Proofs.YtcdopfjiadifhaaGreatDoor
end
section
namespace Go.Proofs.YtcdopfjiadifhaaGreatDoor
open Go Go.W
set_option maxRecDepth 20000
attribute [local irreducible] HL HC HQ HB Row Rows2 Blk Facts
def xC : Option (Ad × Int) → Int
  | none => -1
  | some z => z.2
def chItem (cu ln : Int) (kd j : Nat) : Ad := (cu, (kd : Int), ln + (j : Int))
def chList (cu ln : Int) (k : Nat) : List Ad := (List.range k).flatMap fun kd => (List.range (7 - ln).toNat).map fun j => chItem cu ln (kd + 1) j
def chNN (o : Option (Ad × Int)) : Prop := ∀ z, o = some z → 0 ≤ z.2
end Go.Proofs.YtcdopfjiadifhaaGreatDoor
end
section
namespace Go.Proofs.YtcdopfjiadifhaaGreatDoor
open Go Go.W
set_option maxRecDepth 20000
attribute [local irreducible] HL HC HQ HB Row Rows2 Blk Facts
abbrev Sx := Ch × Sl Int × Sl Ad
instance : El Sx where
  default := ((0, 0, 0, 0, 0, 0), ⟨none, 0, []⟩, ⟨none, 0, []⟩)
  cells x := [int x.1.1, int x.1.2.1, int x.1.2.2.1, int x.1.2.2.2.1, int x.1.2.2.2.2.1, int x.1.2.2.2.2.2, .slice x.2.1.a x.2.1.l.length x.2.1.c, .slice x.2.2.a x.2.2.l.length x.2.2.c]
  sz := 8
  len _ := rfl
  one a u h := by simp at h; rcases h with h | h | h | h | h | h | h | h <;> subst h <;> rfl
abbrev Sx.row (d : Sx) : Fact := Facts [Row d.2.1.a (rows d.2.1.l), Row d.2.2.a (rows d.2.2.l)]
theorem xO {pA qA : Option Addr} {pC qC : Nat} (c : Ch) (ps : Sl Int) (qs : Sl Ad) (hn : ps.l.length ≤ 1000000) (hm : qs.l.length ≤ 1000000) : Meets Tryz.prog F.rD [saV c ps qs, saV c ⟨pA, pC, ps.l⟩ ⟨qA, qC, qs.l⟩] { LI := [Row ps.a (rows ps.l), Row qs.a (rows qs.l), Row pA (rows ps.l), Row qA (rows qs.l)], val := fun _ : Unit => .bool true } := by
 refine i9 F.gz4 rfl r6 fun w0 => ?_; refine i8 ?_; refine H6 rfl rfl fun gB => ?_; refine H6 rfl rfl fun gC => ?_; refine d5 rfl (d8 (dq1 (Z5 (Z5 (j8 ?_)))))
 first | refine a9 ⟨_, 0, none⟩ rfl rfl T.B9 rfl ?_ | refine a9 _ rfl rfl T.B9 rfl ?_
 refine u7 (cs := [int c.1, int c.2.1, int c.2.2.1, int c.2.2.2.1, int c.2.2.2.2.1, int c.2.2.2.2.2]) rfl T.H3 T.E2 rfl rfl (lI (o := 0) mB (dZ rfl)) ?_
 first | refine a9 ⟨_, 0, none⟩ rfl rfl T.B9 rfl ?_ | refine a9 _ rfl rfl T.B9 rfl ?_
 refine u7 (cs := [int c.1, int c.2.1, int c.2.2.1, int c.2.2.2.1, int c.2.2.2.2.1, int c.2.2.2.2.2]) rfl T.H3 T.E2 rfl rfl (lI (o := 0) mB (dZ rfl)) (m7 _ rfl rfl rfl (fun _ => T.bq7 ..) (fun _ => T.bj9 ..) (c7 rfl ?_)); refine u6 rfl rfl ?_ ?_
 ·intro hg1; have hg1' := hg1; try simp at hg1'
  refine l3 rfl rfl hg1 ?_
  first | refine a9 ⟨_, 6, none⟩ rfl rfl T.q9 rfl ?_ | refine a9 _ rfl rfl T.q9 rfl ?_
  refine l3 rfl rfl hg1 ?_
  first | refine b8 rfl T.i7 rfl (j0 mB rfl) ?_ | refine b8 rfl T.i7 rfl (j3 mB rfl) ?_ | refine b8 rfl T.i7 rfl (d6 mB (c9 (by omega) rfl)) ?_ | refine b8 rfl T.i7 rfl (d7 mB (rows_get (by omega) rfl)) ?_ | refine b8 rfl T.i7 rfl (j5 mB rfl) ?_
  refine l3 rfl rfl hg1 ?_
  first | refine a9 ⟨_, 6, none⟩ rfl rfl T.q9 rfl ?_ | refine a9 _ rfl rfl T.q9 rfl ?_
  refine l3 rfl rfl hg1 ?_
  first | refine b8 rfl T.i7 rfl (j0 mB rfl) ?_ | refine b8 rfl T.i7 rfl (j3 mB rfl) ?_ | refine b8 rfl T.i7 rfl (d6 mB (c9 (by omega) rfl)) ?_ | refine b8 rfl T.i7 rfl (d7 mB (rows_get (by omega) rfl)) ?_ | refine b8 rfl T.i7 rfl (j5 mB rfl) ?_
  refine l3 rfl rfl hg1 ?_; refine k5 F.cA rfl rfl (bQ ps.l ps.l (by omega)) p6 mC fun _ _ => ?_; refine l3 rfl rfl hg1 (M7 rfl rfl ?_); refine p_f rfl rfl (bf1 hg1) rfl (c7 rfl ?_); refine u6 rfl rfl ?_ ?_
  ·intro hg2; have hg2' := hg2; try simp at hg2'
   refine l3 rfl rfl hg2 ?_
   first | refine a9 ⟨_, 7, none⟩ rfl rfl T.l4 rfl ?_ | refine a9 _ rfl rfl T.l4 rfl ?_
   refine l3 rfl rfl hg2 ?_
   first | refine b8 rfl T.d9 rfl (j0 mB rfl) ?_ | refine b8 rfl T.d9 rfl (j3 mB rfl) ?_ | refine b8 rfl T.d9 rfl (d6 mB (c9 (by omega) rfl)) ?_ | refine b8 rfl T.d9 rfl (d7 mB (rows_get (by omega) rfl)) ?_ | refine b8 rfl T.d9 rfl (j5 mB rfl) ?_
   refine l3 rfl rfl hg2 (l7 rfl T.w8 rfl (l3 rfl rfl hg2 ?_))
   first | refine a9 ⟨_, 7, none⟩ rfl rfl T.l4 rfl ?_ | refine a9 _ rfl rfl T.l4 rfl ?_
   refine l3 rfl rfl hg2 ?_
   first | refine b8 rfl T.d9 rfl (j0 mB rfl) ?_ | refine b8 rfl T.d9 rfl (j3 mB rfl) ?_ | refine b8 rfl T.d9 rfl (d6 mB (c9 (by omega) rfl)) ?_ | refine b8 rfl T.d9 rfl (d7 mB (rows_get (by omega) rfl)) ?_ | refine b8 rfl T.d9 rfl (j5 mB rfl) ?_
   refine l3 rfl rfl hg2 (l7 rfl T.w8 rfl ?_); refine l3 rfl rfl hg2 (N5 rfl rfl rfl ?_); refine p_f rfl rfl (bf1 hg2) rfl ?_; refine d8 ?_
   first | refine m3 rfl (fun hb1 => ?_) (fun hb1 => ?_) | refine j7 rfl (fun hb1 => ?_) (fun hb1 => ?_)
   ·have hb1' := hb1; try simp at hb1'
   have hb1' := hb1; try simp at hb1'
   refine k6 (j6 (j4 (i8 (d5 rfl (d8 (k9 ?_)))))); refine w3 (β := Nat) ⟨fun k => k ≤ qs.l.length, fun k => [(2, .pointer (c8 gB)), (3, .pointer (c8 gC)), (5, int k)], fun _ => [], fun _ => [Blk gC (.cells (saC c ⟨pA, pC, ps.l⟩ ⟨qA, qC, qs.l⟩) T.A3 (0, 0)), Blk gB (.cells (saC c ps qs) T.A3 (0, 0)), Row ps.a (rows ps.l), Row qs.a (rows qs.l), Row pA (rows ps.l), Row qA (rows qs.l)]⟩ (fun k => qs.l.length - k) 0 (Nat.zero_le _) mC nil_sb mC fun k hk => ?_; simp only at hk; refine j4 (i8 (c7 rfl ?_))
   first | refine a9 ⟨_, 7, none⟩ rfl rfl T.l4 rfl ?_ | refine a9 _ rfl rfl T.l4 rfl ?_
   first | refine b8 rfl T.d9 rfl (j0 mB rfl) ?_ | refine b8 rfl T.d9 rfl (j3 mB rfl) ?_ | refine b8 rfl T.d9 rfl (d6 mB (c9 (by omega) rfl)) ?_ | refine b8 rfl T.d9 rfl (d7 mB (rows_get (by omega) rfl)) ?_ | refine b8 rfl T.d9 rfl (j5 mB rfl) ?_
   refine l7 rfl T.w8 rfl ?_; refine B6 rfl rfl rfl (d8 ?_)
   first | refine m3 rfl (fun hb2 => ?_) (fun hb2 => ?_) | refine j7 rfl (fun hb2 => ?_) (fun hb2 => ?_)
   ·have hb2' := hb2; try simp at hb2'
    have hk2 : k < qs.l.length := by omega
    refine k6 (j6 (j4 (k9 (j4 ?_)))); refine I5 10 mixed (by decide) (by decide) rfl rfl ?_
    apply m8 _ rfl rfl rfl
    ·intro w1
     first | refine a9 ⟨_, 7, none⟩ rfl rfl T.l4 rfl ?_ | refine a9 _ rfl rfl T.l4 rfl ?_
     refine d4 ?_; exact k4 rfl
    apply m8 _ rfl rfl rfl
    ·intro w1
     first | refine b8 rfl T.d9 rfl (j3 mB rfl) ?_ | refine b8 rfl T.d9 rfl (j0 mB rfl) ?_ | refine b8 rfl T.d9 rfl (d6 mB (c9 (by omega) rfl)) ?_ | refine b8 rfl T.d9 rfl (d7 mB (rows_get (by omega) rfl)) ?_ | refine b8 rfl T.d9 rfl (j5 mB rfl) ?_
     refine d4 ?_; exact k4 rfl
    refine l9 (fun w1 => c7 rfl (q_z rfl)) (l9 (fun w1 => v6 (α := Ad) qs.l k rfl T.w8 T.m4 rfl rfl rfl mB rfl (hk2) (by decide) (q_z rfl)) (l9 (fun w1 => u7 rfl T.r8 T.m4 rfl rfl (t5 mB (t9 (by omega))) (q_z rfl)) ?_))
    apply m8 _ rfl rfl rfl
    ·intro w1
     first | refine a9 ⟨_, 7, none⟩ rfl rfl T.l4 rfl ?_ | refine a9 _ rfl rfl T.l4 rfl ?_
     refine d4 ?_; exact k4 rfl
    apply m8 _ rfl rfl rfl
    ·intro w1
     first | refine b8 rfl T.d9 rfl (j3 mB rfl) ?_ | refine b8 rfl T.d9 rfl (j0 mB rfl) ?_ | refine b8 rfl T.d9 rfl (d6 mB (c9 (by omega) rfl)) ?_ | refine b8 rfl T.d9 rfl (d7 mB (rows_get (by omega) rfl)) ?_ | refine b8 rfl T.d9 rfl (j5 mB rfl) ?_
     refine d4 ?_; exact k4 rfl
    refine l9 (fun w1 => c7 rfl (q_z rfl)) (l9 (fun w1 => v6 (α := Ad) qs.l k rfl T.w8 T.m4 rfl rfl rfl mB rfl (hk2) (by decide) (q_z rfl)) (l9 (fun w1 => u7 rfl T.r8 T.m4 rfl rfl (t5 mB (t9 (by omega))) (q_z rfl)) ?_)); refine D1 ⟨rfl, ?_⟩; refine m7 _ rfl rfl rfl (fun _ => T.dx7 ..) (fun _ => T.cz6 ..) ?_; refine d8 ?_
    first | refine m3 rfl (fun hb3 => ?_) (fun hb3 => ?_) | refine j7 rfl (fun hb3 => ?_) (fun hb3 => ?_)
    ·exact absurd rfl hb3
    have hb3' := hb3; try simp at hb3'
    refine k6 (y6 (j6 (j8 (c7 rfl ?_)))); refine v4 _ rfl rfl rfl rfl r5 ?_; refine d5 rfl (d4 ?_); exact again _ (k + 1) (by show k + 1 ≤ qs.l.length; omega) (D5 (by omega)) mC nil_sb mC
   have hb2' := hb2; try simp at hb2'
   refine u9 (D6 (u5 (j6 (i8 (d5 rfl (d8 (l5 ?_))))))); exact ret1 () rfl rfl rfl trivial nil_sb trivial
  intro hg2; have hg2' := hg2; try simp at hg2'
 intro hg1; have hg1' := hg1; try simp at hg1'
end Go.Proofs.YtcdopfjiadifhaaGreatDoor
end
section
namespace Go.W
open Go Go.RowKit Go.ChangeShapes Go.WideShapes
section
variable {H : Type} {enc : TypeId × Value → H} {P : Program} {w : World} {base : Nat} {spare : Nat → Bool} {held : Bool}
theorem row_of {α : Type} [El α] (h1 : El.sz α = 1) {a : Addr} {l : List α} (h : ∀ j (hj : j < l.length), ∃ v, El.cells l[j] = [v] ∧ w.cell? (a.add j) = some v) : (Row (some a) (rows l)).P w := by
  intro j u hu; refine ⟨a, rfl, ?_⟩
  have hj : j < l.length := by
    have := (List.getElem?_eq_some_iff.1 hu).1; rw [V8, h1, Nat.mul_one] at this; exact this
  obtain ⟨v, hv, hc⟩ := h j hj; have h2 := rows_get (l := l) (i := j) (j := 0) (v := v) hj (by simp [List.getD_eq_getElem?_getD, hj, hv]); rw [h1] at h2; simp only [Nat.mul_one, Nat.add_zero] at h2; rw [hu] at h2
  cases h2
  exact hc
theorem in_ints {t e : TypeId} {A : Option Addr} {n c fuel : Nat} {x : DataW H × List MemPlace} (ht : P.underlying t = some (.slice e)) (he : P.underlying e = some (.int .i64)) (hc : P.cellsOf e = 1)
    (h : DataW.trod enc P w base spare held fuel t [.slice A n c] = some x) : ∃ l : List Int, n = l.length ∧ l.length ≤ c ∧ c ≤ maxLen ∧ (Row A (rows l)).P w ∧ ∀ z ∈ l, I64 z := by
  rcases open_ints ht he hc h with ⟨hcs, _⟩ | ⟨a, len, cap, zs, hcs, _, hl, hm, hlen, _, hcell, hwf⟩
  · simp at hcs
    obtain ⟨rfl, rfl, rfl⟩ := hcs; exact ⟨[], rfl, Nat.le_refl _, by unfold maxLen; omega, Row.nil _ _, by intro z hz; simp at hz⟩
  simp at hcs
  obtain ⟨rfl, rfl, rfl⟩ := hcs; have hle : n ≤ zs.length := by rw [hlen]; split <;> omega
  have hlen2 : (zs.take n).length = n := by rw [List.length_take]; omega
  refine ⟨zs.take n, hlen2.symm, by rw [hlen2]; exact hl, hm, row_of rfl fun j hj => ?_, fun z hz => ?_⟩
  · rw [hlen2] at hj
    refine ⟨int zs[j], by simp [El.cells], ?_⟩; rw [hcell j (by omega)]
    simp [List.getD_eq_getElem?_getD, show j < zs.length by omega]
  have := hwf z (List.mem_of_mem_take hz)
  simp [Lit.wf, IntKind.min, IntKind.max, IntKind.signed, IntKind.bits] at this
  exact ⟨by omega, by omega⟩
theorem rj6 {f : Nat} {args : List Value} {LI : List Fact} (h : Meets P f args ({ LI := LI, val := fun _ : Unit => .bool true } : Con Unit)) (hL : ∀ F ∈ LI, F.P w) : CallsB P f args.toArray w fun v w' => v = .bool true ∧ Below w.heap.size w w' := by
  refine (h w ⟨Ext.refl _ _, by simp, by simp, by simp, hL, by simp, fun F hF k hk => .inr (.inr ⟨F, hF, hk⟩)⟩).mono fun v w' hp => ?_; obtain ⟨_, rfl, _, hwi⟩ := hp; exact ⟨rfl, hwi.ext.below⟩
end
end Go.W
end
section
namespace Go.W
open Go Go.RowKit Go.ChangeShapes Go.WideShapes Go.Deep
section
variable {H : Type} {enc : TypeId × Value → H} {P : Program} {w : World} {base : Nat} {spare : Nat → Bool} {held : Bool}
end
end Go.W
end
section
namespace Go.Proofs.YtcdopfjiadifhaaGreatDoor
open Go Go.W Go.RowKit Go.ChangeShapes Go.WideShapes Go.Deep
set_option maxRecDepth 20000
attribute [local irreducible] HL HC HQ HB Row Rows2 Blk Facts
section
variable {H : Type} {enc : TypeId × Value → H} {P : Program} {w : World} {base : Nat} {spare : Nat → Bool} {held : Bool}
end
end Go.Proofs.YtcdopfjiadifhaaGreatDoor
end
