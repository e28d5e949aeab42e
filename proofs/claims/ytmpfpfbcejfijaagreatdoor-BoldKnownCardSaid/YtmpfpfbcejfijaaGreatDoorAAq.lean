/- Texts of this claim, one behind another. -/

import Derived.Test.YtmpfpfbcejfijaaGreatDoorAAp
import Derived.Test.YtmpfpfbcejfijaaGreatDoorAAf
import Derived.Test.YtmpfpfbcejfijaaGreatDoorAAe
set_option linter.unusedVariables false
set_option linter.unusedSimpArgs false
section
namespace Go.Proofs.YtmpfpfbcejfijaaGreatDoor
open Go Go.W
set_option maxRecDepth 20000
attribute [local irreducible] HL HC HQ HB Row Rows2 Blk Facts
def digS : Str := [48, 49, 50, 51, 52, 53, 54, 55, 56, 57, 97, 98, 99, 100, 101, 102, 103, 104, 105, 106, 107, 108, 109, 110, 111, 112, 113, 114, 115, 116, 117, 118, 119, 120, 121, 122]
def prsS : Str := [48, 48, 48, 49, 48, 50, 48, 51, 48, 52, 48, 53, 48, 54, 48, 55, 48, 56, 48, 57, 49, 48, 49, 49, 49, 50, 49, 51, 49, 52, 49, 53, 49, 54, 49, 55, 49, 56, 49, 57, 50, 48, 50, 49, 50, 50, 50, 51, 50, 52, 50, 53, 50, 54, 50, 55, 50, 56, 50, 57, 51, 48, 51, 49, 51, 50, 51, 51, 51, 52, 51, 53, 51, 54, 51, 55, 51, 56, 51, 57, 52, 48, 52, 49, 52, 50, 52, 51, 52, 52, 52, 53, 52, 54, 52, 55, 52, 56, 52, 57, 53, 48, 53, 49, 53, 50, 53, 51, 53, 52, 53, 53, 53, 54, 53, 55, 53, 56, 53, 57, 54, 48, 54, 49, 54, 50, 54, 51, 54, 52, 54, 53, 54, 54, 54, 55, 54, 56, 54, 57, 55, 48, 55, 49, 55, 50, 55, 51, 55, 52, 55, 53, 55, 54, 55, 55, 55, 56, 55, 57, 56, 48, 56, 49, 56, 50, 56, 51, 56, 52, 56, 53, 56, 54, 56, 55, 56, 56, 56, 57, 57, 48, 57, 49, 57, 50, 57, 51, 57, 52, 57, 53, 57, 54, 57, 55, 57, 56, 57, 57]
def plS : Str := [32, 112, 108, 97, 105, 110]
def bdS : Str := [32, 98, 111, 108, 100, 32]
def cdS : Str := [32, 99, 97, 114, 100, 32]
def taS : Str := [116, 97, 114, 105, 102, 102, 32]
def spS : Str := [32]
def ofS : Str := [32, 111, 102, 102, 32]
def frS : Str := [32, 102, 114, 111, 109, 32]
def stS : Str := [10, 115, 116, 114, 101, 101, 116, 115]
def nlS : Str := [10]
def soS : Str := [115, 111, 108, 100, 10]
def itoaZ (z : Int) : Str := if z < 10 then (digS.drop z.toNat).take 1 else (prsS.drop (2 * z.toNat)).take 2
theorem D1 (z : Int) : (itoaZ z).length ≤ 2 := by
  unfold itoaZ
  split <;> simp only [List.length_take] <;> omega
def wordE (x : Ad) : Str := if x.2.1 = 1 then itoaZ x.1 ++ plS else if x.2.1 = 2 then (itoaZ x.1 ++ bdS) ++ itoaZ x.2.2 else (itoaZ x.1 ++ cdS) ++ itoaZ x.2.2
theorem cz7 (x : Ad) : (wordE x).length ≤ 12 := by
  have h1 := D1 x.1; have h2 := D1 x.2.2; have e1 : plS.length = 6 := rfl; have e2 : bdS.length = 6 := rfl; have e3 : cdS.length = 6 := rfl; unfold wordE
  split
  · simp only [List.length_append]; omega
  split <;> simp only [List.length_append] <;> omega
def headE (c : Ch) : Str := taS ++ itoaZ c.1 ++ spS ++ itoaZ c.2.1 ++ spS ++ itoaZ c.2.2.1 ++ spS ++ itoaZ c.2.2.2.1 ++ ofS ++ itoaZ c.2.2.2.2.1 ++ frS ++ itoaZ c.2.2.2.2.2 ++ stS
def accP (c : Ch) : List Int → Str
  | [] => headE c
  | s :: l => accP c l ++ (spS ++ itoaZ s)
def accQ (a : Str) : List Ad → Str
  | [] => a ++ nlS
  | x :: l => accQ a l ++ (wordE x ++ nlS)
def wrE (c : Ch) (ss : List Int) (xs : List Ad) : Str := accQ (accP c ss.reverse) xs.reverse ++ soS
theorem dz3 (c : Ch) : (headE c).length ≤ 60 := by
  have h1 := D1 c.1; have h2 := D1 c.2.1; have h3 := D1 c.2.2.1; have h4 := D1 c.2.2.2.1; have h5 := D1 c.2.2.2.2.1; have h6 := D1 c.2.2.2.2.2; have e1 : taS.length = 7 := rfl; have e2 : spS.length = 1 := rfl; have e3 : ofS.length = 5 := rfl; have e4 : frS.length = 6 := rfl; have e5 : stS.length = 8 := rfl; unfold headE; simp only [List.length_append]
  omega
theorem nq0 (c : Ch) (l : List Int) : (accP c l).length ≤ 60 + 3 * l.length := by
  induction l with
  | nil => exact dz3 c
  | cons s l ih =>
    have h1 := D1 s; have e2 : spS.length = 1 := rfl; rw [accP]; simp only [List.length_append, List.length_cons]
    omega
theorem nj9 (a : Str) (l : List Ad) : (accQ a l).length ≤ a.length + 1 + 13 * l.length := by
  induction l with
  | nil => rw [accQ]; simp only [List.length_append, List.length_nil]; exact Nat.le_refl _
  | cons s l ih =>
    have h1 := cz7 s; have e2 : nlS.length = 1 := rfl; rw [accQ]; simp only [List.length_append, List.length_cons]
    omega
theorem dq2 {α : Type} [Inhabited α] {l : List α} {k : Nat} (h : k < l.length) : (l.take (k + 1)).reverse = l.getD k default :: (l.take k).reverse := by
  rw [List.take_succ_eq_append_getElem h, List.reverse_append, w4 h]
  rfl
section
variable {c : Cx} {Q : Exit → Act → World → Prop} {fr : Fr} {hp : Hp} {L : List Fact} {ops : Array Oper} {rest : List Oper} {d : Tmp} {ty : TypeId} {pos : String} {af : Array Edge}
theorem uU {t : TypeId} {x lo hi : Operand} {s : Str} {kd kd' : IntKind} {z z' : Int} (l h : Nat) (hd : Nat.blt d c.n = true) (ht : c.P.underlying t = some .string)
    (hx : ev fr x = some (str s)) (hl : ev fr lo = some (.int kd z)) (hlz : z = (l : Int)) (hh : ev fr hi = some (.int kd' z')) (hhz : z' = (h : Int)) (hle : l ≤ h) (hle' : h ≤ s.length)
    (k : HL c ops Q rest ((d, str ((s.drop l).take (h - l))) :: fr) hp L) : HL c ops Q (⟨some d, .slice t x (some lo) (some hi) none, ty, pos, af, none⟩ :: rest) fr hp L :=
  B7 _ rfl rfl hd (fun a w ha _ => by
    have e1 : (ByteArray.mk s.toArray).size = s.length := rfl; simp only [execOp, ha.ev hx, Option.map_some, Option.map_none, ha.ev hl, ha.ev hh, Sem.run_bind, Instr.sliceAt, run_underlying ht]; simp only [Result.andThen_ok]
    simp [Instr.slice, Instr.sliceBounds, run_underlying ht, str, e1, iA hlz hle, iA hhz hle', dj6]) k
end
theorem zv_pl (w : World) : (zeroValue T.cA).run Tryz.prog w = .ok (.agg #[.pointer none]) w := by kernel_rfl
theorem zv_bd (w : World) : (zeroValue T.iD).run Tryz.prog w = .ok (.agg #[.pointer none, int 0]) w := by kernel_rfl
theorem dj8 (z : Int) (h0 : 0 ≤ z) (h : z < 100) : Meets Tryz.prog F.M4 [int z] { val := fun _ : Unit => str (itoaZ z) } := by
 refine j8 F.dN rfl t4 fun w0 => ?_; refine j3 (b9 rfl (d9 (j6 (j3 (b8 rfl (A7 rfl rfl rfl (d9 ?_)))))))
 first | refine m7 rfl (fun hb1 => ?_) (fun hb1 => ?_) | refine k4 rfl (fun hb1 => ?_) (fun hb1 => ?_)
 ·have hb1' := hb1; try simp at hb1'
  refine j3 (b8 rfl (b8 rfl ?_)); refine y2 _ rfl rfl rfl rfl s9 ?_; refine uU (s := digS) z.toNat (z.toNat + 1) rfl T.kU (by kernel_rfl) rfl (by omega) rfl (by omega) (Nat.le_succ _) (by show z.toNat + 1 ≤ 36; omega) ?_; refine b9 rfl (d9 (J1 ?_)); exact ret1 () rfl (by show some (str ((digS.drop z.toNat).take (z.toNat + 1 - z.toNat))) = some (str (itoaZ z)); rw [itoaZ, if_pos hb1, Nat.add_sub_cancel_left]) rfl trivial nil_sb trivial
 have hb1' := hb1; try simp at hb1'
 refine k7 (j9 (j3 (b8 rfl ?_))); refine ax5 _ rfl rfl rfl rfl s9 (b8 rfl (ax5 _ rfl rfl rfl rfl s9 (y2 _ rfl rfl rfl rfl s9 ?_))); refine uU (s := prsS) (2 * z.toNat) (2 * z.toNat + 2) rfl T.kU (by kernel_rfl) rfl (by omega) rfl (by omega) (Nat.le_add_right _ _) (by show 2 * z.toNat + 2 ≤ 200; omega) ?_; refine b9 rfl (d9 (l7 ?_)); exact ret1 () rfl (by show some (str ((prsS.drop (2 * z.toNat)).take (2 * z.toNat + 2 - 2 * z.toNat))) = some (str (itoaZ z)); rw [itoaZ, if_neg (by omega), Nat.add_sub_cancel_left]) rfl trivial nil_sb trivial
theorem vU (z : Int) (h0 : 0 ≤ z) (h : z < 100) : Meets Tryz.prog F.J3 [int z, int 10] { val := fun _ : Unit => str (itoaZ z) } := by
 refine j8 F.aG rfl t4 fun w0 => ?_; refine j3 (b9 rfl (d9 (j6 (j3 (b8 rfl (D8 rfl rfl rfl (d9 ?_))))))); refine c_t rfl (by first | rfl | assumption | exact bt1 (by assumption) | exact bt2 (by assumption)) ?_; refine j6 (j3 (b8 rfl (uV rfl rfl rfl (b8 rfl ?_)))); refine r5 rfl rfl ?_ ?_
 ·intro hg1; have hg1' := hg1; try simp at hg1'
  refine k5 rfl rfl hg1 (b8 rfl (k5 rfl rfl hg1 (A7 rfl rfl rfl ?_))); refine p_t rfl rfl (bt1 hg1) rfl ?_; refine d9 ?_
  first | refine m7 rfl (fun hb2 => ?_) (fun hb2 => ?_) | refine k4 rfl (fun hb2 => ?_) (fun hb2 => ?_)
  ·have hb2' := hb2; try simp at hb2'
   refine j3 (b8 rfl ?_); refine i9 F.cO rfl rfl (dj8 z h0 h) l5 trivial fun _ _ => ?_; refine b9 rfl (d9 (J1 (w6 ?_))); exact ret1 () rfl rfl rfl trivial nil_sb trivial
  exact absurd h (by omega)
 intro hg1; have hg1' := hg1; try simp at hg1'
 exact absurd h0 (by omega)
theorem dx9 (z : Int) (h0 : 0 ≤ z) (h : z < 100) : Meets Tryz.prog F.N3 [int z] { val := fun _ : Unit => str (itoaZ z) } := by
 refine j8 F.gX rfl t4 fun w0 => ?_; refine j3 (b9 rfl (k9 (b8 rfl ?_))); refine i9 F.Z3 rfl rfl (vU z h0 h) l5 trivial fun _ _ => ?_; refine b9 rfl (d9 (l7 ?_)); exact ret1 () rfl rfl rfl trivial nil_sb trivial
theorem H3 (z : Int) (h : 0 ≤ z ∧ z < 100) : Meets Tryz.prog F.iP [int z] { val := fun _ : Unit => str (itoaZ z) } := by
 refine j8 F.xK rfl t4 fun w0 => ?_; refine j3 (b9 rfl (k9 (b8 rfl ?_))); refine i9 F.dO rfl rfl (dx9 z h.1 h.2) l5 trivial fun _ _ => ?_; refine b9 rfl (d9 (l7 ?_)); exact ret1 () rfl rfl rfl trivial nil_sb trivial
theorem bq3 (g : Nat) (i l : Int) (hi : 0 ≤ i ∧ i < 100) : Meets Tryz.prog F.X6 [int i, .iface T.cA (.agg #[.pointer (b4 g)])] { val := fun _ : Unit => str (itoaZ i ++ plS) } := by
 have e1 : plS.length = 6 := rfl; have e2 : bdS.length = 6 := rfl; have e3 : cdS.length = 6 := rfl; have l1 := D1 i; have l2 := D1 l; refine j8 F.jF rfl t4 fun w0 => ?_; refine j3 (b9 rfl (k9 (b8 rfl ?_))); refine i9 F.A6 rfl rfl (H3 (i) hi) l5 trivial fun _ _ => ?_; refine b9 rfl (d9 (j6 (j3 (b8 rfl (d9 (l4 (j3 ?_))))))); refine tS rfl ⟨_, Tryz.underlying112, rfl⟩ rfl ?_; refine l6 rfl rfl rfl (l6 rfl rfl rfl (d9 ?_)); refine c_t rfl (by first | rfl | assumption | exact bt1 (by assumption) | exact bt2 (by assumption)) ?_; refine j3 ?_; refine z1 rfl (fun _ => T.aj4 _) fun gA => ?_; refine u3 rfl rfl (by first | exact .refl _ | exact perm2 _ _ _ | exact perm3 _ _ _ _ | exact perm4 _ _ _ _ _) T.zJ (by rfl) (by rfl) ?_; refine k9 (b8 rfl ?_); refine J2 (y' := plS) rfl rfl (by kernel_rfl) (by first | omega | (simp only [List.length_append]; omega)) ?_; refine b9 rfl (d9 (l7 (C2 ?_))); exact ret1 () rfl rfl rfl trivial nil_sb trivial
theorem bq2 (g : Nat) (i l : Int) (hi : 0 ≤ i ∧ i < 100) (hl : 0 ≤ l ∧ l < 100) : Meets Tryz.prog F.X6 [int i, .iface T.iD (.agg #[.pointer (b4 g), int l])] { val := fun _ : Unit => str ((itoaZ i ++ bdS) ++ itoaZ l) } := by
 have e1 : plS.length = 6 := rfl; have e2 : bdS.length = 6 := rfl; have e3 : cdS.length = 6 := rfl; have l1 := D1 i; have l2 := D1 l; refine j8 F.jF rfl t4 fun w0 => ?_; refine j3 (b9 rfl (k9 (b8 rfl ?_))); refine i9 F.A6 rfl rfl (H3 (i) hi) l5 trivial fun _ _ => ?_; refine b9 rfl (d9 (j6 (j3 (b8 rfl (d9 (l4 (j3 ?_))))))); refine tT rfl ⟨_, Tryz.underlying112, rfl⟩ rfl rfl zv_pl ?_; refine l6 rfl rfl rfl (l6 rfl rfl rfl (d9 ?_)); refine c_f rfl (by first | rfl | assumption | exact bf1 (by assumption) | exact bf2 (by assumption)) ?_; refine j3 ?_; refine tS rfl ⟨_, Tryz.underlying114, rfl⟩ rfl ?_; refine l6 rfl rfl rfl (l6 rfl rfl rfl (d9 ?_)); refine c_t rfl (by first | rfl | assumption | exact bt1 (by assumption) | exact bt2 (by assumption)) ?_; refine j3 ?_; refine z1 rfl (fun _ => T.cz4 _) fun gA => ?_; refine u3 rfl rfl (by first | exact .refl _ | exact perm2 _ _ _ | exact perm3 _ _ _ _ | exact perm4 _ _ _ _ _) T.bx5 (by rfl) (by rfl) ?_; refine k9 (b8 rfl ?_); refine J2 (y' := bdS) rfl rfl (by kernel_rfl) (by first | omega | (simp only [List.length_append]; omega)) ?_
 first | refine a7 ⟨_, 1, none⟩ rfl rfl T.V2 rfl ?_ | refine a7 _ rfl rfl T.V2 rfl ?_
 first | refine a8 rfl T.a9 rfl (j0 mB rfl) ?_ | refine a8 rfl T.a9 rfl (i8 mB rfl) ?_ | refine a8 rfl T.a9 rfl (d8 mB (d4 (by omega) rfl)) ?_ | refine a8 rfl T.a9 rfl (d7 mB (rows_get (by omega) rfl)) ?_ | refine a8 rfl T.a9 rfl (g4 mB rfl) ?_
 refine i9 F.A6 rfl rfl (H3 (l) hl) l5 trivial fun _ _ => ?_; refine J2 rfl rfl rfl (by first | omega | (simp only [List.length_append]; omega)) ?_; refine b9 rfl (d9 (l7 (C2 ?_))); exact ret1 () rfl rfl rfl trivial nil_sb trivial
theorem bq1 (g : Nat) (i l : Int) (hi : 0 ≤ i ∧ i < 100) (hl : 0 ≤ l ∧ l < 100) : Meets Tryz.prog F.X6 [int i, .iface T.nE (.agg #[.pointer (b4 g), int l])] { val := fun _ : Unit => str ((itoaZ i ++ cdS) ++ itoaZ l) } := by
 have e1 : plS.length = 6 := rfl; have e2 : bdS.length = 6 := rfl; have e3 : cdS.length = 6 := rfl; have l1 := D1 i; have l2 := D1 l; refine j8 F.jF rfl t4 fun w0 => ?_; refine j3 (b9 rfl (k9 (b8 rfl ?_))); refine i9 F.A6 rfl rfl (H3 (i) hi) l5 trivial fun _ _ => ?_; refine b9 rfl (d9 (j6 (j3 (b8 rfl (d9 (l4 (j3 ?_))))))); refine tT rfl ⟨_, Tryz.underlying112, rfl⟩ rfl rfl zv_pl ?_; refine l6 rfl rfl rfl (l6 rfl rfl rfl (d9 ?_)); refine c_f rfl (by first | rfl | assumption | exact bf1 (by assumption) | exact bf2 (by assumption)) ?_; refine j3 ?_; refine tT rfl ⟨_, Tryz.underlying114, rfl⟩ rfl rfl zv_bd ?_; refine l6 rfl rfl rfl (l6 rfl rfl rfl (d9 ?_)); refine c_f rfl (by first | rfl | assumption | exact bf1 (by assumption) | exact bf2 (by assumption)) ?_; refine j3 ?_; refine tS rfl ⟨_, Tryz.underlying115, rfl⟩ rfl ?_; refine l6 rfl rfl rfl (l6 rfl rfl rfl (d9 ?_)); refine c_t rfl (by first | rfl | assumption | exact bt1 (by assumption) | exact bt2 (by assumption)) ?_; refine j3 ?_; refine z1 rfl (fun _ => T.cz3 _) fun gA => ?_; refine u3 rfl rfl (by first | exact .refl _ | exact perm2 _ _ _ | exact perm3 _ _ _ _ | exact perm4 _ _ _ _ _) T.bx4 (by rfl) (by rfl) ?_; refine k9 (b8 rfl ?_); refine J2 (y' := cdS) rfl rfl (by kernel_rfl) (by first | omega | (simp only [List.length_append]; omega)) ?_
 first | refine a7 ⟨_, 1, none⟩ rfl rfl T.V1 rfl ?_ | refine a7 _ rfl rfl T.V1 rfl ?_
 first | refine a8 rfl T.a9 rfl (j0 mB rfl) ?_ | refine a8 rfl T.a9 rfl (i8 mB rfl) ?_ | refine a8 rfl T.a9 rfl (d8 mB (d4 (by omega) rfl)) ?_ | refine a8 rfl T.a9 rfl (d7 mB (rows_get (by omega) rfl)) ?_ | refine a8 rfl T.a9 rfl (g4 mB rfl) ?_
 refine i9 F.A6 rfl rfl (H3 (l) hl) l5 trivial fun _ _ => ?_; refine J2 rfl rfl rfl (by first | omega | (simp only [List.length_append]; omega)) ?_; refine b9 rfl (d9 (l7 (C2 ?_))); exact ret1 () rfl rfl rfl trivial nil_sb trivial
theorem cz6 (g : Nat) (x : Ad) (hi : 0 ≤ x.1 ∧ x.1 < 100) (hl : 0 ≤ x.2.2 ∧ x.2.2 < 100) : Meets Tryz.prog F.X6 [int x.1, adI g x] { val := fun _ : Unit => str (wordE x) } := by
  unfold adI wordE
  split
  · exact bq3 g x.1 0 hi
  split
  · exact bq2 g x.1 x.2.2 hi hl
  exact bq1 g x.1 x.2.2 hi hl
set_option maxHeartbeats 2000000 in
theorem uK (c : Ch) (ps : Sl Int) (qs : Sl Ad) (hn : ps.l.length ≤ 1000000) (hm : qs.l.length ≤ 1000000) (h0 : chkS c ps.l qs.l = 0) (hc1 : 0 ≤ c.1 ∧ c.1 < 100) (hc2 : 0 ≤ c.2.1 ∧ c.2.1 < 100) (hc3 : 0 ≤ c.2.2.1 ∧ c.2.2.1 < 100) (hc4 : 0 ≤ c.2.2.2.1 ∧ c.2.2.2.1 < 100) (hc5 : 0 ≤ c.2.2.2.2.1 ∧ c.2.2.2.2.1 < 100) (hc6 : 0 ≤ c.2.2.2.2.2 ∧ c.2.2.2.2.2 < 100) (hp : ∀ s ∈ ps.l, 0 ≤ s ∧ s < 100) (hq : ∀ x ∈ qs.l, (0 ≤ x.1 ∧ x.1 < 100) ∧ (0 ≤ x.2.2 ∧ x.2.2 < 100)) : Meets Tryz.prog F.jJ [saV c ps qs] { LI := saL ps qs, val := fun _ : Unit => .tuple #[str (wrE c ps.l qs.l), int 0] } := by
 have i1 := D1 c.1; have i2 := D1 c.2.1; have i3 := D1 c.2.2.1; have i4 := D1 c.2.2.2.1; have i5 := D1 c.2.2.2.2.1; have i6 := D1 c.2.2.2.2.2; have e1 : taS.length = 7 := rfl; have e2 : spS.length = 1 := rfl; have e3 : ofS.length = 5 := rfl; have e4 : frS.length = 6 := rfl; have e5 : stS.length = 8 := rfl; have e6 : nlS.length = 1 := rfl; have e7 : soS.length = 5 := rfl; have hlen := dz3 c; refine j8 F.cx2 rfl t4 fun w0 => ?_; refine j3 ?_; refine C4 rfl rfl fun gB => ?_; refine b9 rfl (b9 rfl (d9 (j6 (j3 ?_))))
 first | refine u1 rfl T.j5 T.j4 rfl mB (by rfl) ?_ | refine t7 rfl T.j5 T.j4 rfl mB (by rfl) ?_ | refine r8 rfl T.j5 T.j4 rfl rfl (m9 mB (q8 (by omega))) ?_
 refine i9 F.C9 rfl rfl (A4 c ps qs hn hm) l5 mC fun _ _ => ?_; refine b9 rfl (k9 (b8 rfl (C1 rfl rfl rfl (d9 ?_))))
 first | refine m7 rfl (fun hb1 => ?_) (fun hb1 => ?_) | refine k4 rfl (fun hb1 => ?_) (fun hb1 => ?_)
 ·exact absurd h0 hb1
 have hb1' := hb1; try simp at hb1'
 refine k7 (j9 (j6 (X3 ?_))); refine R0 ([]) ([]) (.refl _) 4 [] mixed (by decide) (by decide) (by decide) rfl rfl rfl ?_
 apply n0 _ rfl rfl rfl
 ·intro w1
  first | refine a7 ⟨_, 0, none⟩ rfl rfl T.A9 rfl ?_ | refine a7 _ rfl rfl T.A9 rfl ?_
  refine d6 ?_; exact k6 rfl
 apply n0 _ rfl rfl rfl
 ·intro w1
  first | refine r8 (cs := [int c.1, int c.2.1, int c.2.2.1, int c.2.2.2.1, int c.2.2.2.2.1, int c.2.2.2.2.2]) rfl T.G0 T.D3 rfl rfl (bG (o := 0) mB (hY rfl)) ?_ | refine r8 (cs := [int c.1, int c.2.1, int c.2.2.1, int c.2.2.2.1, int c.2.2.2.2.1, int c.2.2.2.2.2]) rfl T.G0 T.D3 rfl rfl (nD (o := 0) mB (hY rfl)) ?_
  refine d6 ?_; exact k6 rfl
 refine hb_ad ⟨Nat, fun _ => True, fun g => .pointer (b4 g), fun _ => [], fun g => [(g, Obj.cells #[int 0, int 0, int 0, int 0, int 0, int 0] T.Z9 (0, 0))]⟩ rfl rfl rfl ?_ ?_
 ·intro w1; refine z1 rfl (fun _ => T.mO _) fun gA => ?_; refine d6 ?_; exact Y4 gA trivial (fun _ => rfl) (List.Sublist.refl _) trivial
 refine s7 (fun w1 => b9 rfl (q_z rfl)) ?_; refine D4 ⟨rfl, ?_⟩; intro gA _; refine u3 rfl rfl (by first | exact .refl _ | exact perm2 _ _ _ | exact perm3 _ _ _ _ | exact perm4 _ _ _ _ _) T.D3 (by rfl) (by rfl) ?_; refine d9 (j6 ?_); refine G8 34 mixed (by decide) (by decide) rfl rfl (s7 (fun w1 => b8 rfl (q_z rfl)) ?_)
 apply n0 _ rfl rfl rfl
 ·intro w1
  first | refine a7 ⟨_, 0, none⟩ rfl rfl T.I8 rfl ?_ | refine a7 _ rfl rfl T.I8 rfl ?_
  refine d6 ?_; exact k6 rfl
 apply n0 _ rfl rfl rfl
 ·intro w1
  first | refine a8 rfl T.a9 rfl (i8 mB rfl) ?_ | refine a8 rfl T.a9 rfl (j0 mB rfl) ?_ | refine a8 rfl T.a9 rfl (d8 mB (d4 (by omega) rfl)) ?_ | refine a8 rfl T.a9 rfl (d7 mB (rows_get (by omega) rfl)) ?_ | refine a8 rfl T.a9 rfl (g4 mB rfl) ?_
  refine d6 ?_; exact k6 rfl
 refine s7 (fun w1 => O8 (vs := [int c.1]) F.A6 rfl rfl rfl (H3 (c.1) hc1) l5 trivial fun _ _ => (q_z rfl)) ?_; refine s7 (fun w1 => J2 (x' := taS) rfl (by kernel_rfl) rfl (by first | omega | (simp only [List.length_append]; omega)) (q_z rfl)) ?_; refine s7 (fun w1 => J2 (y' := spS) rfl rfl (by kernel_rfl) (by first | omega | (simp only [List.length_append]; omega)) (q_z rfl)) ?_; refine s7 (fun w1 => b8 rfl (q_z rfl)) ?_
 apply n0 _ rfl rfl rfl
 ·intro w1
  first | refine a7 ⟨_, 1, none⟩ rfl rfl T.I7 rfl ?_ | refine a7 _ rfl rfl T.I7 rfl ?_
  refine d6 ?_; exact k6 rfl
 apply n0 _ rfl rfl rfl
 ·intro w1
  first | refine a8 rfl T.a9 rfl (i8 mB rfl) ?_ | refine a8 rfl T.a9 rfl (j0 mB rfl) ?_ | refine a8 rfl T.a9 rfl (d8 mB (d4 (by omega) rfl)) ?_ | refine a8 rfl T.a9 rfl (d7 mB (rows_get (by omega) rfl)) ?_ | refine a8 rfl T.a9 rfl (g4 mB rfl) ?_
  refine d6 ?_; exact k6 rfl
 refine s7 (fun w1 => O8 (vs := [int c.2.1]) F.A6 rfl rfl rfl (H3 (c.2.1) hc2) l5 trivial fun _ _ => (q_z rfl)) ?_; refine s7 (fun w1 => J2 rfl rfl rfl (by first | omega | (simp only [List.length_append]; omega)) (q_z rfl)) ?_; refine s7 (fun w1 => J2 (y' := spS) rfl rfl (by kernel_rfl) (by first | omega | (simp only [List.length_append]; omega)) (q_z rfl)) ?_; refine s7 (fun w1 => b8 rfl (q_z rfl)) ?_
 apply n0 _ rfl rfl rfl
 ·intro w1
  first | refine a7 ⟨_, 2, none⟩ rfl rfl T.I6 rfl ?_ | refine a7 _ rfl rfl T.I6 rfl ?_
  refine d6 ?_; exact k6 rfl
 apply n0 _ rfl rfl rfl
 ·intro w1
  first | refine a8 rfl T.a9 rfl (i8 mB rfl) ?_ | refine a8 rfl T.a9 rfl (j0 mB rfl) ?_ | refine a8 rfl T.a9 rfl (d8 mB (d4 (by omega) rfl)) ?_ | refine a8 rfl T.a9 rfl (d7 mB (rows_get (by omega) rfl)) ?_ | refine a8 rfl T.a9 rfl (g4 mB rfl) ?_
  refine d6 ?_; exact k6 rfl
 refine s7 (fun w1 => O8 (vs := [int c.2.2.1]) F.A6 rfl rfl rfl (H3 (c.2.2.1) hc3) l5 trivial fun _ _ => (q_z rfl)) ?_; refine s7 (fun w1 => J2 rfl rfl rfl (by first | omega | (simp only [List.length_append]; omega)) (q_z rfl)) ?_; refine s7 (fun w1 => J2 (y' := spS) rfl rfl (by kernel_rfl) (by first | omega | (simp only [List.length_append]; omega)) (q_z rfl)) ?_; refine s7 (fun w1 => b8 rfl (q_z rfl)) ?_
 apply n0 _ rfl rfl rfl
 ·intro w1
  first | refine a7 ⟨_, 3, none⟩ rfl rfl T.I5 rfl ?_ | refine a7 _ rfl rfl T.I5 rfl ?_
  refine d6 ?_; exact k6 rfl
 apply n0 _ rfl rfl rfl
 ·intro w1
  first | refine a8 rfl T.a9 rfl (i8 mB rfl) ?_ | refine a8 rfl T.a9 rfl (j0 mB rfl) ?_ | refine a8 rfl T.a9 rfl (d8 mB (d4 (by omega) rfl)) ?_ | refine a8 rfl T.a9 rfl (d7 mB (rows_get (by omega) rfl)) ?_ | refine a8 rfl T.a9 rfl (g4 mB rfl) ?_
  refine d6 ?_; exact k6 rfl
 refine s7 (fun w1 => O8 (vs := [int c.2.2.2.1]) F.A6 rfl rfl rfl (H3 (c.2.2.2.1) hc4) l5 trivial fun _ _ => (q_z rfl)) ?_; refine s7 (fun w1 => J2 rfl rfl rfl (by first | omega | (simp only [List.length_append]; omega)) (q_z rfl)) ?_; refine s7 (fun w1 => J2 (y' := ofS) rfl rfl (by kernel_rfl) (by first | omega | (simp only [List.length_append]; omega)) (q_z rfl)) ?_; refine s7 (fun w1 => b8 rfl (q_z rfl)) ?_
 apply n0 _ rfl rfl rfl
 ·intro w1
  first | refine a7 ⟨_, 4, none⟩ rfl rfl T.G4 rfl ?_ | refine a7 _ rfl rfl T.G4 rfl ?_
  refine d6 ?_; exact k6 rfl
 apply n0 _ rfl rfl rfl
 ·intro w1
  first | refine a8 rfl T.a9 rfl (i8 mB rfl) ?_ | refine a8 rfl T.a9 rfl (j0 mB rfl) ?_ | refine a8 rfl T.a9 rfl (d8 mB (d4 (by omega) rfl)) ?_ | refine a8 rfl T.a9 rfl (d7 mB (rows_get (by omega) rfl)) ?_ | refine a8 rfl T.a9 rfl (g4 mB rfl) ?_
  refine d6 ?_; exact k6 rfl
 refine s7 (fun w1 => O8 (vs := [int c.2.2.2.2.1]) F.A6 rfl rfl rfl (H3 (c.2.2.2.2.1) hc5) l5 trivial fun _ _ => (q_z rfl)) ?_; refine s7 (fun w1 => J2 rfl rfl rfl (by first | omega | (simp only [List.length_append]; omega)) (q_z rfl)) ?_; refine s7 (fun w1 => J2 (y' := frS) rfl rfl (by kernel_rfl) (by first | omega | (simp only [List.length_append]; omega)) (q_z rfl)) ?_; refine s7 (fun w1 => b8 rfl (q_z rfl)) ?_
 apply n0 _ rfl rfl rfl
 ·intro w1
  first | refine a7 ⟨_, 5, none⟩ rfl rfl T.I4 rfl ?_ | refine a7 _ rfl rfl T.I4 rfl ?_
  refine d6 ?_; exact k6 rfl
 apply n0 _ rfl rfl rfl
 ·intro w1
  first | refine a8 rfl T.a9 rfl (i8 mB rfl) ?_ | refine a8 rfl T.a9 rfl (j0 mB rfl) ?_ | refine a8 rfl T.a9 rfl (d8 mB (d4 (by omega) rfl)) ?_ | refine a8 rfl T.a9 rfl (d7 mB (rows_get (by omega) rfl)) ?_ | refine a8 rfl T.a9 rfl (g4 mB rfl) ?_
  refine d6 ?_; exact k6 rfl
 refine s7 (fun w1 => O8 (vs := [int c.2.2.2.2.2]) F.A6 rfl rfl rfl (H3 (c.2.2.2.2.2) hc6) l5 trivial fun _ _ => (q_z rfl)) ?_; refine D4 ⟨rfl, ?_⟩; refine J2 rfl rfl rfl (by first | omega | (simp only [List.length_append]; omega)) ?_; refine J2 (y' := stS) rfl rfl (by kernel_rfl) (by first | omega | (simp only [List.length_append]; omega)) ?_; refine b9 rfl (d9 (j6 (j3 ?_)))
 first | refine a7 ⟨_, 6, none⟩ rfl rfl T.t9 rfl ?_ | refine a7 _ rfl rfl T.t9 rfl ?_
 first | refine a8 rfl T.d5 rfl (j0 mB rfl) ?_ | refine a8 rfl T.d5 rfl (i8 mB rfl) ?_ | refine a8 rfl T.d5 rfl (d8 mB (d4 (by omega) rfl)) ?_ | refine a8 rfl T.d5 rfl (d7 mB (rows_get (by omega) rfl)) ?_ | refine a8 rfl T.d5 rfl (g4 mB rfl) ?_
 refine l9 rfl T.q9 rfl ?_; refine b8 rfl (d9 (l4 ?_)); refine v8 (β := Nat) ⟨fun k => k ≤ ps.l.length, fun k => [(1, .pointer (b4 gB)), (5, .func (.func 51) #[] #[]), (6, .pointer (b4 gA)), (7, str (accP c (ps.l.take k).reverse)), (57, .slice ps.a ps.l.length ps.c), (58, int ps.l.length), (59, int k)], fun _ => [(gA, Obj.cells #[int c.1, int c.2.1, int c.2.2.1, int c.2.2.2.1, int c.2.2.2.2.1, int c.2.2.2.2.2] T.Z9 (0, 0))], fun _ => Blk gB (Obj.cells (saC c ps qs) T.m8 (0, 0)) :: saL ps qs⟩ (fun k => ps.l.length - k) 0 (Nat.zero_le _) mC (.refl _) mC fun k hk => ?_; simp only at hk; have hl1 := nq0 c (ps.l.take k).reverse; rw [List.length_reverse, List.length_take] at hl1; refine j3 (A7 rfl rfl rfl (d9 (j6 ?_)))
 first | refine m7 rfl (fun hb2 => ?_) (fun hb2 => ?_) | refine k4 rfl (fun hb2 => ?_) (fun hb2 => ?_)
 ·have hb2' := hb2; try simp at hb2'
  have hk2 : k < ps.l.length := by omega
  have hpk := hp _ (u0 hk2); have hi0 := D1 (ps.l.getD k default); refine k7 (j9 (j6 (l4 (j3 ?_)))); refine w3 (α := Int) _ _ rfl T.q9 T.v0 rfl rfl rfl mB rfl (by omega) (by decide) (a8 rfl T.a9 rfl (d8 mB (d4 (by omega) rfl)) ?_); refine b9 rfl (d9 (k8 (b8 rfl (b8 rfl (b8 rfl ?_))))); refine O8 (vs := [int (ps.l.getD k default)]) F.A6 rfl rfl rfl (H3 ((ps.l.getD k default)) hpk) l5 trivial fun _ _ => ?_; refine J2 (x' := spS) rfl (by kernel_rfl) rfl (by first | omega | (simp only [List.length_append]; omega)) ?_; refine J2 rfl rfl rfl (by first | omega | (simp only [List.length_append]; omega)) ?_; refine b9 rfl (d6 (z2 (j9 (k8 ?_)))); refine y2 _ rfl rfl rfl rfl s9 ?_; refine b8 rfl (d6 ?_); have hacc : accP c (ps.l.take (k + 1)).reverse = accP c (ps.l.take k).reverse ++ (spS ++ itoaZ (ps.l.getD k default)) := by rw [dq2 hk2, accP]
  exact again _ (k + 1) (by show k + 1 ≤ ps.l.length; omega) (A5 (by omega)) ⟨rfl, rfl, rfl, by rw [hacc]; rfl, rfl, rfl, rfl, trivial⟩ (.refl _) mC
 have hb2' := hb2; try simp at hb2'
 obtain rfl : k = ps.l.length := by omega
 refine v5 (C3 (u9 (j9 (j3 (b8 rfl ?_))))); refine J2 (y' := nlS) rfl rfl (by kernel_rfl) (by first | omega | (simp only [List.length_append]; omega)) ?_; refine b9 rfl (k9 ?_)
 first | refine u1 rfl T.G0 T.D3 rfl mB (by rfl) ?_ | refine t7 rfl T.G0 T.D3 rfl mB (by rfl) ?_ | refine r8 rfl T.G0 T.D3 rfl rfl (m9 mB (q8 (by omega))) ?_
 refine i9 F.qV rfl rfl (dU c) l5 trivial fun tg _ => ?_; refine b9 rfl (d9 (j6 (j3 ?_)))
 first | refine a7 ⟨_, 7, none⟩ rfl rfl T.p9 rfl ?_ | refine a7 _ rfl rfl T.p9 rfl ?_
 first | refine a8 rfl T.i7 rfl (j0 mB rfl) ?_ | refine a8 rfl T.i7 rfl (i8 mB rfl) ?_ | refine a8 rfl T.i7 rfl (d8 mB (d4 (by omega) rfl)) ?_ | refine a8 rfl T.i7 rfl (d7 mB (rows_get (by omega) rfl)) ?_ | refine a8 rfl T.i7 rfl (g4 mB rfl) ?_
 refine l9 rfl T.v9 rfl ?_; refine b8 rfl (d9 (l4 ?_)); refine v8 (β := Nat) ⟨fun k => k ≤ qs.l.length, fun k => [(1, .pointer (b4 gB)), (7, str (accQ (accP c (ps.l.take ps.l.length).reverse) (qs.l.take k).reverse)), (10, .pointer (b4 tg)), (75, .slice qs.a qs.l.length qs.c), (76, int qs.l.length), (77, int k)], fun _ => [], fun _ => Blk gB (Obj.cells (saC c ps qs) T.m8 (0, 0)) :: saL ps qs⟩ (fun k => qs.l.length - k) 0 (Nat.zero_le _) mC nil_sb mC fun k hk => ?_; simp only at hk; have hl2 := nj9 (accP c (ps.l.take ps.l.length).reverse) (qs.l.take k).reverse; rw [List.length_reverse, List.length_take] at hl2; refine j3 (A7 rfl rfl rfl (d9 (j6 ?_)))
 first | refine m7 rfl (fun hb3 => ?_) (fun hb3 => ?_) | refine k4 rfl (fun hb3 => ?_) (fun hb3 => ?_)
 ·have hb3' := hb3; try simp at hb3'
  have hk3 : k < qs.l.length := by omega
  have hqk := hq _ (u0 hk3); have hw0 := cz7 (qs.l.getD k default); refine k7 (j9 (j6 (l4 (j3 ?_)))); refine w3 (α := Ad) _ _ rfl T.v9 T.j7 rfl rfl rfl mB rfl (by omega) (by decide) (r8 rfl T.l3 T.j7 rfl rfl (m9 mB (q8 (by omega))) ?_); refine z1 rfl (fun _ => T.I2 _) fun gA => ?_; refine u3 rfl rfl (by first | exact .refl _ | exact perm2 _ _ _ | exact perm3 _ _ _ _ | exact perm4 _ _ _ _ _) T.j7 (by rfl) (by rfl) ?_; refine d9 ?_; refine G8 8 mixed (by decide) (by decide) rfl rfl (s7 (fun w1 => b8 rfl (q_z rfl)) ?_)
  apply n0 _ rfl rfl rfl
  ·intro w1
   first | refine a7 ⟨_, 0, none⟩ rfl rfl T.C8 rfl ?_ | refine a7 _ rfl rfl T.C8 rfl ?_
   refine d6 ?_; exact k6 rfl
  apply n0 _ rfl rfl rfl
  ·intro w1
   first | refine a8 rfl T.a9 rfl (i8 mB rfl) ?_ | refine a8 rfl T.a9 rfl (j0 mB rfl) ?_ | refine a8 rfl T.a9 rfl (d8 mB (d4 (by omega) rfl)) ?_ | refine a8 rfl T.a9 rfl (d7 mB (rows_get (by omega) rfl)) ?_ | refine a8 rfl T.a9 rfl (g4 mB rfl) ?_
   refine d6 ?_; exact k6 rfl
  refine s7 (fun w1 => b8 rfl (q_z rfl)) ?_
  apply n0 _ rfl rfl rfl
  ·intro w1
   first | refine u1 rfl T.l3 T.j7 rfl mB (by rfl) ?_ | refine t7 rfl T.l3 T.j7 rfl mB (by rfl) ?_ | refine r8 rfl T.l3 T.j7 rfl rfl (m9 mB (q8 (by omega))) ?_
   refine d6 ?_; exact k6 rfl
  refine s7 (fun w1 => i9 F.N5 rfl rfl (K6 tg (qs.l.getD k default)) l5 trivial fun _ _ => (q_z rfl)) ?_; refine s7 (fun w1 => i9 F.zU rfl rfl (cz6 tg (qs.l.getD k default) hqk.1 hqk.2) l5 trivial fun _ _ => (q_z rfl)) ?_; refine s7 (fun w1 => J2 (y' := nlS) rfl rfl (by kernel_rfl) (by first | omega | (simp only [List.length_append]; omega)) (q_z rfl)) ?_; refine D4 ⟨rfl, ?_⟩; refine J2 rfl rfl rfl (by first | omega | (simp only [List.length_append]; omega)) ?_; refine b9 rfl (d6 (z2 (j9 (k8 ?_)))); refine y2 _ rfl rfl rfl rfl s9 ?_; refine b8 rfl (d6 ?_); have hacc : accQ (accP c (ps.l.take ps.l.length).reverse) (qs.l.take (k + 1)).reverse = accQ (accP c (ps.l.take ps.l.length).reverse) (qs.l.take k).reverse ++ (wordE (qs.l.getD k default) ++ nlS) := by rw [dq2 hk3, accQ]
  exact again _ (k + 1) (by show k + 1 ≤ qs.l.length; omega) (A5 (by omega)) ⟨rfl, by rw [hacc]; rfl, rfl, rfl, rfl, rfl, trivial⟩ nil_sb mC
 have hb3' := hb3; try simp at hb3'
 obtain rfl : k = qs.l.length := by omega
 refine v5 (C3 (u9 (j9 (j3 (b8 rfl ?_))))); refine J2 (y' := soS) rfl rfl (by kernel_rfl) (by first | omega | (simp only [List.length_append]; omega)) ?_; refine b9 rfl (b9 rfl (d9 (l7 ?_))); exact ret2 () rfl rfl rfl (by rw [List.take_length, List.take_length]; rfl) rfl trivial nil_sb trivial
end Go.Proofs.YtmpfpfbcejfijaaGreatDoor
end
section
namespace Go.Proofs.YtmpfpfbcejfijaaGreatDoor
open Go Go.W
set_option maxRecDepth 20000
attribute [local irreducible] HL HC HQ HB Row Rows2 Blk Facts
theorem dz9 {α : Type} {p : α → Prop} {l : List α} {x : α} (h : ∀ y ∈ l, p y) (hx : p x) : ∀ y ∈ l ++ [x], p y := fun y hy => (List.mem_append.1 hy).elim (h y) fun hy => by rw [List.mem_singleton.1 hy]; exact hx
end Go.Proofs.YtmpfpfbcejfijaaGreatDoor
end
section
namespace Go.Proofs.YtmpfpfbcejfijaaGreatDoor
open Go Go.W
set_option maxRecDepth 20000
attribute [local irreducible] HL HC HQ HB Row Rows2 Blk Facts
theorem vD {n : Nat} : ∀ {xs : List Ad}, (∀ x ∈ xs, adErr n x = 0) → firstE n xs = 0
  | [], _ => rfl
  | x :: r, h => by rw [firstE, if_neg (fun e => e (h x (List.mem_cons_self ..)))]; exact vD fun y hy => h y (List.mem_cons_of_mem _ hy)
theorem chk_mk {c : Ch} {ss : List Int} {xs : List Ad} (hc : ChOK c) (h1 : 1 ≤ ss.length ∧ ss.length ≤ 5) (hs : ∀ v ∈ ss, 0 ≤ v ∧ v ≤ 9) (hx : xs.length ≤ 8) (ha : ∀ x ∈ xs, adErr ss.length x = 0) : chkS c ss xs = 0 := by
  obtain ⟨q1, q2, q3, q4, q5, q6⟩ := hc; unfold chkS; rw [if_neg (Classical.not_not.2 (by intro v hv; simp only [chQ, List.mem_cons, List.not_mem_nil, or_false] at hv; rcases hv with rfl | rfl | rfl | rfl <;> assumption)), if_neg (by omega), if_neg (by omega), if_neg (by omega), if_neg (Classical.not_not.2 hs), if_neg (by omega)]; exact vD ha
abbrev saB (g : Nat) (c : Ch) (sA : Option Addr) (sn sC : Nat) (aA : Option Addr) (an aC : Nat) : Nat × Obj := (g, .cells #[int c.1, int c.2.1, int c.2.2.1, int c.2.2.2.1, int c.2.2.2.2.1, int c.2.2.2.2.2, .slice sA sn sC, .slice aA an aC] T.m8 (0, 0))
abbrev SRes := Ch × Sl Int × Sl Ad
structure SOf (m : Nat) (x : SRes) : Prop where
  ok : chkS x.1 x.2.1.l x.2.2.l = 0
  x8 : x.2.2.l.length ≤ m
  ca : x.2.1.l.length ≤ x.2.1.c
  cb : x.2.2.l.length ≤ x.2.2.c
end Go.Proofs.YtmpfpfbcejfijaaGreatDoor
end
section
namespace Go.Proofs.YtmpfpfbcejfijaaGreatDoor
open Go Go.W
set_option maxRecDepth 20000
attribute [local irreducible] HL HC HQ HB Row Rows2 Blk Facts
abbrev OutS := (OutC × Hp) × (OutC × Hp)
structure DupS (ss : List Int) (xs : List Ad) (x : OutS) : Prop where
  a : Grow T.int 1 x.1.1.1 ss.length x.1.1.2 (rows ss) x.1.2
  b : GrowE T.v6 3 x.2.1.1 xs.length x.2.1.2 (rows xs) x.2.2
def priceE (c : Ch) (ss : List Int) (xs : List Ad) (i : Int) : Int × Int := if ¬ chkS c ss xs = 0 then (0, chkS c ss xs) else if ¬ (0 ≤ i ∧ i ≤ (xs.length : Int) - 1) then (0, 3) else (priceN c (xs.getD i.toNat default), 0)
def owesK : List Int → List Cd → List Int × Int
  | b, [] => (b, 0)
  | b, r :: rs => if ¬ (0 ≤ r.1 ∧ r.1 ≤ (b.length : Int) - 1) then ([], 3) else if ¬ (0 ≤ r.2 ∧ r.2 ≤ 99999) then ([], 1) else owesK (b.set r.1.toNat (b.getD r.1.toNat default - r.2)) rs
def owesE (c : Ch) (ss : List Int) (xs : List Ad) (rs : List Cd) : List Int × Int := if ¬ chkS c ss xs = 0 then ([], chkS c ss xs) else if 8 < rs.length then ([], 6) else owesK (numsN 31 c ss xs) rs
theorem pY (b : List Int) {rs : List Cd} {k : Nat} (hk : k < rs.length) : owesK b (rs.drop k) = if ¬ (0 ≤ (rs.getD k default).1 ∧ (rs.getD k default).1 ≤ (b.length : Int) - 1) then ([], 3) else if ¬ (0 ≤ (rs.getD k default).2 ∧ (rs.getD k default).2 ≤ 99999) then ([], 1) else owesK (b.set (rs.getD k default).1.toNat (b.getD (rs.getD k default).1.toNat default - (rs.getD k default).2)) (rs.drop (k + 1)) := by
  rw [hJ hk, owesK]
theorem set_bd {b : List Int} {j : Nat} {v lo hi lo2 : Int} (h : ∀ x ∈ b, lo ≤ x ∧ x ≤ hi) (hv : lo2 ≤ v ∧ v ≤ hi) (hl : lo2 ≤ lo) : ∀ x ∈ b.set j v, lo2 ≤ x ∧ x ≤ hi := fun x hx => by
  rcases List.mem_or_eq_of_mem_set hx with h1 | rfl
  · have := h x h1; omega
  exact hv
theorem iF (c : Ch) (ps : Sl Int) (qs : Sl Ad) (i : Int) (hn : ps.l.length ≤ 1000000) (hm : qs.l.length ≤ 1000000) : Meets Tryz.prog F.cG [saV c ps qs, int i] { LI := saL ps qs, val := fun _ : Unit => .tuple #[int (priceE c ps.l qs.l i).1, int (priceE c ps.l qs.l i).2] } := by
 refine j8 F.cx5 rfl t4 fun w0 => ?_; refine j3 ?_; refine C4 rfl rfl fun gB => ?_; refine b9 rfl (b9 rfl (d9 (j6 (j3 ?_))))
 first | refine u1 rfl T.j5 T.j4 rfl mB (by rfl) ?_ | refine t7 rfl T.j5 T.j4 rfl mB (by rfl) ?_ | refine r8 rfl T.j5 T.j4 rfl rfl (m9 mB (q8 (by omega))) ?_
 refine i9 F.C9 rfl rfl (A4 c ps qs hn hm) l5 mC fun _ _ => ?_; refine b9 rfl (k9 (b8 rfl (C1 rfl rfl rfl (d9 ?_))))
 first | refine m7 rfl (fun hb1 => ?_) (fun hb1 => ?_) | refine k4 rfl (fun hb1 => ?_) (fun hb1 => ?_)
 ·have hb1' := hb1; try simp at hb1'
  refine j3 (b8 rfl (b9 rfl (b9 rfl (d9 (J1 ?_))))); exact ret2 () rfl rfl rfl (by show Value.tuple #[int (priceE c ps.l qs.l i).1, int (priceE c ps.l qs.l i).2] = _; unfold priceE; rw [if_pos hb1]) rfl trivial nil_sb trivial
 have hb1' := hb1; try simp at hb1'
 have h0 : chkS c ps.l qs.l = 0 := Classical.not_not.1 hb1; have hsa := nW h0; refine k7 (j9 (j6 (j3 (b8 rfl ?_))))
 first | refine a7 ⟨_, 7, none⟩ rfl rfl T.p9 rfl ?_ | refine a7 _ rfl rfl T.p9 rfl ?_
 first | refine a8 rfl T.i7 rfl (j0 mB rfl) ?_ | refine a8 rfl T.i7 rfl (i8 mB rfl) ?_ | refine a8 rfl T.i7 rfl (d8 mB (d4 (by omega) rfl)) ?_ | refine a8 rfl T.i7 rfl (d7 mB (rows_get (by omega) rfl)) ?_ | refine a8 rfl T.i7 rfl (g4 mB rfl) ?_
 refine l9 rfl T.v9 rfl (U6 _ rfl rfl rfl rfl s9 ?_); refine i9 F.s8 rfl rfl (p7 _ _ _) l5 trivial fun _ _ => ?_; refine D5 rfl rfl (d9 ?_)
 first | refine m7 rfl (fun hb2 => ?_) (fun hb2 => ?_) | refine k4 rfl (fun hb2 => ?_) (fun hb2 => ?_)
 ·have hb2' := hb2; try simp at hb2'
  refine j3 (b9 rfl (b9 rfl (d9 (J1 ?_)))); exact ret2 () rfl rfl rfl (by show Value.tuple #[int (priceE c ps.l qs.l i).1, int (priceE c ps.l qs.l i).2] = _; unfold priceE; rw [if_neg hb1, if_pos (nbt hb2)]) rfl trivial nil_sb trivial
 have hb2' := hb2; try simp at hb2'
 have hi := nbf hb2; obtain ⟨k, rfl⟩ := Int.eq_ofNat_of_zero_le hi.1; have hk : k < qs.l.length := by omega
 have hxk := hsa.ad _ (u0 hk); refine k7 (j9 (j6 ?_)); refine G8 8 mixed (by decide) (by decide) rfl rfl ?_
 apply n0 _ rfl rfl rfl
 ·intro w1
  first | refine a7 ⟨_, 0, none⟩ rfl rfl T.A9 rfl ?_ | refine a7 _ rfl rfl T.A9 rfl ?_
  refine d6 ?_; exact k6 rfl
 refine s7 (fun w1 => r8 (cs := [int c.1, int c.2.1, int c.2.2.1, int c.2.2.2.1, int c.2.2.2.2.1, int c.2.2.2.2.2]) rfl T.G0 T.D3 rfl rfl (nD (o := 0) mB (hY rfl)) (q_z rfl)) ?_; refine cT ⟨Nat, fun _ => True, fun g => .pointer (b4 g), fun g => [tarL g c]⟩ rfl rfl rfl ?_ ?_
 ·intro w1; refine i9 F.qV rfl rfl (dU c) l5 trivial fun tg _ => ?_; refine d6 ?_; exact N8 tg trivial rfl mC
 apply n0 _ rfl rfl rfl
 ·intro w1
  first | refine a7 ⟨_, 7, none⟩ rfl rfl T.p9 rfl ?_ | refine a7 _ rfl rfl T.p9 rfl ?_
  refine d6 ?_; exact k6 rfl
 apply n0 _ rfl rfl rfl
 ·intro w1
  first | refine a8 rfl T.i7 rfl (i8 mB rfl) ?_ | refine a8 rfl T.i7 rfl (j0 mB rfl) ?_ | refine a8 rfl T.i7 rfl (d8 mB (d4 (by omega) rfl)) ?_ | refine a8 rfl T.i7 rfl (d7 mB (rows_get (by omega) rfl)) ?_ | refine a8 rfl T.i7 rfl (g4 mB rfl) ?_
  refine d6 ?_; exact k6 rfl
 refine s7 (fun w1 => b8 rfl (q_z rfl)) (s7 (fun w1 => w3 (α := Ad) _ _ rfl T.v9 T.j7 rfl rfl rfl mB rfl (by omega) (by decide) (q_z rfl)) (s7 (fun w1 => r8 rfl T.l3 T.j7 rfl rfl (m9 mB (q8 (by omega))) (q_z rfl)) ?_)); refine D4 ⟨rfl, ?_⟩; intro tg _; refine i9 F.N5 rfl rfl (K6 tg (qs.l.getD k default)) l5 trivial fun _ _ => ?_; refine iq6 (c := c) rfl rfl rfl hsa.ch hxk.2.2 mB ?_; refine b9 rfl (b9 rfl (d9 (l7 ?_))); exact ret2 () rfl rfl rfl (by show Value.tuple #[int (priceE c ps.l qs.l (k : Int)).1, int (priceE c ps.l qs.l (k : Int)).2] = _; unfold priceE; rw [if_neg hb1, if_neg (Classical.not_not.2 hi), Int.toNat_natCast]) rfl trivial nil_sb trivial
theorem wE {R : Option Addr} {rc : Nat} (c : Ch) (ps : Sl Int) (qs : Sl Ad) (rs : List Cd) (hn : ps.l.length ≤ 1000000) (hm : qs.l.length ≤ 1000000) (hr : rs.length ≤ 1000000) : Meets Tryz.prog F.nF [saV c ps qs, .slice R rs.length rc] { LI := Row R (rows rs) :: saL ps qs, inv := fun x : OutC => (owesE c ps.l qs.l rs).1.length ≤ x.2, val := fun x => .tuple #[.slice x.1 (owesE c ps.l qs.l rs).1.length x.2, int (owesE c ps.l qs.l rs).2], LO := fun x => [Row x.1 (rows (owesE c ps.l qs.l rs).1)] } := by
 refine j8 F.gq4 rfl t4 fun w0 => ?_; refine j3 ?_; refine C4 rfl rfl fun gB => ?_; refine b9 rfl (b9 rfl (d9 (j6 (j3 ?_))))
 first | refine u1 rfl T.j5 T.j4 rfl mB (by rfl) ?_ | refine t7 rfl T.j5 T.j4 rfl mB (by rfl) ?_ | refine r8 rfl T.j5 T.j4 rfl rfl (m9 mB (q8 (by omega))) ?_
 refine i9 F.C9 rfl rfl (A4 c ps qs hn hm) l5 mC fun _ _ => ?_; refine b9 rfl (k9 (b8 rfl (C1 rfl rfl rfl (d9 ?_))))
 first | refine m7 rfl (fun hb1 => ?_) (fun hb1 => ?_) | refine k4 rfl (fun hb1 => ?_) (fun hb1 => ?_)
 ·have hb1' := hb1; try simp at hb1'
  refine j3 (b8 rfl (b9 rfl (b9 rfl (d9 (J1 ?_))))); refine A8 (α := Int) ?_; have hE : (owesE c ps.l qs.l rs) = ([], chkS c ps.l qs.l) := by rw [owesE, if_pos hb1]
  exact ret2 (none, 0) rfl rfl rfl (by show Value.tuple #[.slice none (owesE c ps.l qs.l rs).1.length 0, int (owesE c ps.l qs.l rs).2] = _; rw [hE]; rfl) rfl (by show (owesE c ps.l qs.l rs).1.length ≤ 0; rw [hE]; exact Nat.le_refl _) nil_sb (by show LSub _ [Row none (rows (owesE c ps.l qs.l rs).1)]; rw [hE]; exact ⟨m0, trivial⟩)
 have hb1' := hb1; try simp at hb1'
 have h0 : chkS c ps.l qs.l = 0 := Classical.not_not.1 hb1; have hsa := nW h0; have hn5 := hsa.n5; refine k7 (j9 (j6 (j3 (b8 rfl ?_)))); refine l9 rfl T.aD rfl ?_; refine V7 rfl rfl rfl (d9 ?_)
 first | refine m7 rfl (fun hb2 => ?_) (fun hb2 => ?_) | refine k4 rfl (fun hb2 => ?_) (fun hb2 => ?_)
 ·have hb2' := hb2; try simp at hb2'
  have hb2 : 8 < rs.length := by omega
  refine j3 (b9 rfl (b9 rfl (d9 (J1 ?_)))); refine A8 (α := Int) ?_; have hE : (owesE c ps.l qs.l rs) = ([], 6) := by rw [owesE, if_neg hb1, if_pos hb2]
  exact ret2 (none, 0) rfl rfl rfl (by show Value.tuple #[.slice none (owesE c ps.l qs.l rs).1.length 0, int (owesE c ps.l qs.l rs).2] = _; rw [hE]; rfl) rfl (by show (owesE c ps.l qs.l rs).1.length ≤ 0; rw [hE]; exact Nat.le_refl _) nil_sb (by show LSub _ [Row none (rows (owesE c ps.l qs.l rs).1)]; rw [hE]; exact ⟨m0, trivial⟩)
 have hb2' := hb2; try simp at hb2'
 have hb2 : ¬ 8 < rs.length := by omega
 refine k7 (j9 (j3 ?_))
 first | refine u1 rfl T.j5 T.j4 rfl mB (by rfl) ?_ | refine t7 rfl T.j5 T.j4 rfl mB (by rfl) ?_ | refine r8 rfl T.j5 T.j4 rfl rfl (m9 mB (q8 (by omega))) ?_
 refine i9 F.R2 rfl rfl (M0 c ps qs hsa) l5 mC fun go _ => ?_; refine b9 rfl (d9 (j6 (j3 (b8 rfl ?_)))); refine l9 rfl T.aD rfl ?_; refine b8 rfl (d9 (l4 ?_)); refine v8 (β := Nat × List Int) ⟨fun x => x.1 ≤ rs.length ∧ x.2.length = ps.l.length ∧ (∀ v ∈ x.2, -(100000 * (x.1 : Int)) ≤ v ∧ v ≤ 1000000000) ∧ owesK (numsN 31 c ps.l qs.l) rs = owesK x.2 (rs.drop x.1), fun x => [(7, .slice (b4 go) ps.l.length ps.l.length), (20, .slice R rs.length rc), (21, int rs.length), (22, int x.1)], fun x => [(go, Obj.cells (rows (x.2)).toArray T.int (0, 0))], fun _ => Row R (rows rs) :: saL ps qs⟩ (fun x => rs.length - x.1) (0, numsN 31 c ps.l qs.l) ⟨Nat.zero_le _, L5 .., fun v hv => by have := sF hsa v hv; omega, rfl⟩ mC (.cons_cons _ nil_sb) mC fun x hx => ?_; obtain ⟨k, bs⟩ := x; obtain ⟨hk, hbl, hbb, hoe⟩ := hx; simp only at hk hbl hbb hoe; refine j3 (A7 rfl rfl rfl (d9 (j6 ?_)))
 first | refine m7 rfl (fun hb3 => ?_) (fun hb3 => ?_) | refine k4 rfl (fun hb3 => ?_) (fun hb3 => ?_)
 ·have hb3' := hb3; try simp at hb3'
  have hk3 : k < rs.length := by omega
  refine k7 (j9 (j6 (l4 (j3 ?_)))); refine w3 (α := Cd) _ _ rfl T.aD T.bN rfl rfl rfl mB rfl (by omega) (by decide) (r8 rfl T.vR T.bN rfl rfl (m9 mB (q8 (by omega))) ?_); refine z1 rfl (fun _ => T.yY _) fun g9 => ?_; refine u3 (cs := #[int (rs.getD k default).1, int (rs.getD k default).2]) rfl rfl (.refl _) T.bN (by rfl) (by rfl) ?_; refine d9 (j6 (j3 ?_))
  first | refine a7 ⟨_, 0, none⟩ rfl rfl T.P8 rfl ?_ | refine a7 _ rfl rfl T.P8 rfl ?_
  first | refine a8 rfl T.a9 rfl (j0 mB rfl) ?_ | refine a8 rfl T.a9 rfl (i8 mB rfl) ?_ | refine a8 rfl T.a9 rfl (d8 mB (d4 (by omega) rfl)) ?_ | refine a8 rfl T.a9 rfl (d7 mB (rows_get (by omega) rfl)) ?_ | refine a8 rfl T.a9 rfl (g4 mB rfl) ?_
  refine b8 rfl (l9 rfl T.q9 rfl (U6 _ rfl rfl rfl rfl s9 ?_)); refine i9 F.s8 rfl rfl (p7 _ _ _) l5 trivial fun _ _ => ?_; refine D5 rfl rfl (d9 ?_)
  first | refine m7 rfl (fun hb4 => ?_) (fun hb4 => ?_) | refine k4 rfl (fun hb4 => ?_) (fun hb4 => ?_)
  ·have hb4' := hb4; try simp at hb4'
   refine j3 (b9 rfl (b9 rfl (d9 (J1 (C2 (w6 (Y6 ?_))))))); refine w6 ?_; refine A8 (α := Int) ?_; have hE : (owesE c ps.l qs.l rs) = ([], 3) := by rw [owesE, if_neg hb1, if_neg hb2, hoe, pY _ hk3]; rw [if_pos (by rw [hbl]; exact nbt hb4)]
   exact ret2 (none, 0) rfl rfl rfl (by show Value.tuple #[.slice none (owesE c ps.l qs.l rs).1.length 0, int (owesE c ps.l qs.l rs).2] = _; rw [hE]; rfl) rfl (by show (owesE c ps.l qs.l rs).1.length ≤ 0; rw [hE]; exact Nat.le_refl _) nil_sb (by show LSub _ [Row none (rows (owesE c ps.l qs.l rs).1)]; rw [hE]; exact ⟨m0, trivial⟩)
  have hb4' := hb4; try simp at hb4'
  refine k7 (j9 (j6 (j3 ?_)))
  first | refine a7 ⟨_, 1, none⟩ rfl rfl T.P7 rfl ?_ | refine a7 _ rfl rfl T.P7 rfl ?_
  first | refine a8 rfl T.a9 rfl (j0 mB rfl) ?_ | refine a8 rfl T.a9 rfl (i8 mB rfl) ?_ | refine a8 rfl T.a9 rfl (d8 mB (d4 (by omega) rfl)) ?_ | refine a8 rfl T.a9 rfl (d7 mB (rows_get (by omega) rfl)) ?_ | refine a8 rfl T.a9 rfl (g4 mB rfl) ?_
  refine i9 F.s8 rfl rfl (p7 _ _ _) l5 trivial fun _ _ => ?_; refine D5 rfl rfl (d9 ?_)
  first | refine m7 rfl (fun hb5 => ?_) (fun hb5 => ?_) | refine k4 rfl (fun hb5 => ?_) (fun hb5 => ?_)
  ·have hb5' := hb5; try simp at hb5'
   refine j3 (b9 rfl (b9 rfl (d9 (J1 (C2 (w6 (Y6 ?_))))))); refine w6 ?_; refine A8 (α := Int) ?_; have hE : (owesE c ps.l qs.l rs) = ([], 1) := by rw [owesE, if_neg hb1, if_neg hb2, hoe, pY _ hk3]; rw [if_neg (by rw [hbl]; exact Classical.not_not.2 (nbf hb4)), if_pos (nbt hb5)]
   exact ret2 (none, 0) rfl rfl rfl (by show Value.tuple #[.slice none (owesE c ps.l qs.l rs).1.length 0, int (owesE c ps.l qs.l rs).2] = _; rw [hE]; rfl) rfl (by show (owesE c ps.l qs.l rs).1.length ≤ 0; rw [hE]; exact Nat.le_refl _) nil_sb (by show LSub _ [Row none (rows (owesE c ps.l qs.l rs).1)]; rw [hE]; exact ⟨m0, trivial⟩)
  have hb5' := hb5; try simp at hb5'
  have h4 := nbf hb4; have h5 := nbf hb5; obtain ⟨m, hme⟩ := Int.eq_ofNat_of_zero_le h4.1; have hm2 : m < bs.length := by omega
  have hvb := hbb _ (u0 hm2); have hkk : k < 9 := by omega
  refine k7 (j9 ?_); refine G8 7 mixed (by decide) (by decide) rfl rfl (s7 (fun w1 => b8 rfl (q_z rfl)) ?_)
  apply n0 _ rfl rfl rfl
  ·intro w1
   first | refine a7 ⟨_, 0, none⟩ rfl rfl T.P8 rfl ?_ | refine a7 _ rfl rfl T.P8 rfl ?_
   refine d6 ?_; exact k6 rfl
  apply n0 _ rfl rfl rfl
  ·intro w1
   first | refine a8 rfl T.a9 rfl (i8 mB rfl) ?_ | refine a8 rfl T.a9 rfl (j0 mB rfl) ?_ | refine a8 rfl T.a9 rfl (d8 mB (d4 (by omega) rfl)) ?_ | refine a8 rfl T.a9 rfl (d7 mB (rows_get (by omega) rfl)) ?_ | refine a8 rfl T.a9 rfl (g4 mB rfl) ?_
   refine d6 ?_; exact k6 rfl
  refine s7 (fun w1 => w7 m (m * 1) rfl T.q9 T.v0 rfl rfl hme (by omega) (by omega) (q_z rfl)) ?_; refine s7 (fun w1 => a8 (v := int (bs.getD m default)) rfl T.a9 rfl (uD (α := Int) (k := m) (f := 0) (l := bs) (t := T.int) (fz := (0, 0)) (by repeat constructor) rfl hm2 rfl) (q_z rfl)) ?_
  apply n0 _ rfl rfl rfl
  ·intro w1
   first | refine a7 ⟨_, 1, none⟩ rfl rfl T.P7 rfl ?_ | refine a7 _ rfl rfl T.P7 rfl ?_
   refine d6 ?_; exact k6 rfl
  apply n0 _ rfl rfl rfl
  ·intro w1
   first | refine a8 rfl T.a9 rfl (i8 mB rfl) ?_ | refine a8 rfl T.a9 rfl (j0 mB rfl) ?_ | refine a8 rfl T.a9 rfl (d8 mB (d4 (by omega) rfl)) ?_ | refine a8 rfl T.a9 rfl (d7 mB (rows_get (by omega) rfl)) ?_ | refine a8 rfl T.a9 rfl (g4 mB rfl) ?_
   refine d6 ?_; exact k6 rfl
  refine D4 ⟨rfl, ?_⟩; refine U6 _ rfl rfl rfl rfl s9 (w7 m (m * 1) rfl T.q9 T.v0 rfl rfl hme (by omega) (by omega) (lM (α := Int) (k := m) (f := 0) (bs.getD m default - (rs.getD k default).2) rfl rfl rfl (.swap _ _ _) T.v0 hm2 (by decide) rfl rfl ?_)); refine d6 (z2 (j9 (k8 ?_))); refine y2 _ rfl rfl rfl rfl s9 ?_; refine b8 rfl (d6 ?_); exact again _ (k + 1, (bs.set m (bs.getD m default - (rs.getD k default).2))) ⟨by show k + 1 ≤ rs.length; omega, by show ((bs.set m (bs.getD m default - (rs.getD k default).2))).length = _; rw [List.length_set]; exact hbl, by show ∀ v ∈ (bs.set m (bs.getD m default - (rs.getD k default).2)), -(100000 * ((k + 1 : Nat) : Int)) ≤ v ∧ v ≤ 1000000000; exact set_bd hbb (by omega) (by omega), by show _ = owesK (bs.set m (bs.getD m default - (rs.getD k default).2)) (rs.drop (k + 1)); rw [hoe, pY _ hk3, if_neg (by rw [hbl]; exact Classical.not_not.2 h4), if_neg (Classical.not_not.2 h5), hme, Int.toNat_natCast]⟩ (A5 (by omega)) mC (.cons_cons _ nil_sb) mC
 have hb3' := hb3; try simp at hb3'
 obtain rfl : k = rs.length := by omega
 rw [List.drop_length, owesK] at hoe; refine v5 (C3 (u9 (j9 (j3 (b8 rfl (b9 rfl (b9 rfl (d9 ?_)))))))); refine l7 ?_; have hE : (owesE c ps.l qs.l rs) = (bs, 0) := by rw [owesE, if_neg hb1, if_neg hb2, hoe]
 refine G9 (rows bs) (List.prefix_refl _) ?_; exact ret2 (some ⟨go, 0, none⟩, ps.l.length) rfl rfl rfl (by show Value.tuple #[.slice (b4 go) (owesE c ps.l qs.l rs).1.length ps.l.length, int (owesE c ps.l qs.l rs).2] = _; rw [hE]; show Value.tuple #[.slice (b4 go) bs.length ps.l.length, int 0] = _; rw [hbl]) rfl (by show (owesE c ps.l qs.l rs).1.length ≤ ps.l.length; rw [hE]; exact Nat.le_of_eq hbl) nil_sb (by show LSub _ [Row (b4 go) (rows (owesE c ps.l qs.l rs).1)]; rw [hE]; exact ⟨m0, trivial⟩)
end Go.Proofs.YtmpfpfbcejfijaaGreatDoor
end
section
namespace Go.Proofs.YtmpfpfbcejfijaaGreatDoor
open Go Go.W
set_option maxRecDepth 20000
attribute [local irreducible] HL HC HQ HB Row Rows2 Blk Facts
end Go.Proofs.YtmpfpfbcejfijaaGreatDoor
end
section
namespace Go.Proofs.YtmpfpfbcejfijaaGreatDoor
open Go Go.W
set_option maxRecDepth 20000
attribute [local irreducible] HL HC HQ HB Row Rows2 Blk Facts
theorem nums_at {how : Nat} {c : Ch} {ss : List Int} {xs : List Ad} {i : Nat} (hi : i < ss.length) : (numsN how c ss xs).getD i default = if how = 31 then bilN c ss xs i else sumN c xs i - bilN c ss xs i := W4 _ hi
theorem bill_at (c : Ch) (ss : List Int) (xs : List Ad) {i : Nat} (hi : i < ss.length) : (numsN 31 c ss xs).getD i default = bilN c ss xs i := nums_at hi
abbrev sumsL (c : Ch) (xs : List Ad) (n k : Nat) : List Int := (List.range n).map (sumK c xs k)
end Go.Proofs.YtmpfpfbcejfijaaGreatDoor
end
section
namespace Go.Proofs.YtmpfpfbcejfijaaGreatDoor
open Go Go.W
set_option maxRecDepth 20000
attribute [local irreducible] HL HC HQ HB Row Rows2 Blk Facts
theorem chk_ads {c : Ch} {ss : List Int} {xs : List Ad} (h : chkS c ss xs = 0) : ∀ x ∈ xs, adErr ss.length x = 0 := by
  refine firstE_zero ?_; unfold chkS at h
  repeat' split at h
  all_goals first | exact h | cases h
theorem mz2 {c : Ch} {ss : List Int} {xs : List Ad} {x : Ad} (h : chkS c ss xs = 0) (hx : adErr ss.length x = 0) (hl : xs.length ≤ 7) : chkS c ss (xs ++ [x]) = 0 := by
  have hs := nW h; exact chk_mk hs.ch ⟨hs.n1, hs.n5⟩ hs.st (by rw [List.length_append, List.length_singleton]; omega) (dz9 (chk_ads h) hx)
end Go.Proofs.YtmpfpfbcejfijaaGreatDoor
end
section
namespace Go.W
open Go Go.RowKit
def GoQ {β : Type} (s : Sta β) (μ : β → Nat) (m : Option Nat) (l : Nat) (c : Cx) (Q : Exit → Act → World → Prop) : Exit → Act → World → Prop
  | .goto l', a, w => l' = l ∧ ∃ y, s.inv y ∧ (∀ k, m = some k → μ y < k) ∧ Ok c a (s.fr y) ∧ WI c.b w (s.hp y) (s.L y)
  | e, a, w => Q e a w
section
variable {c : Cx} {Q : Exit → Act → World → Prop} {fr : Fr} {hp : Hp} {L : List Fact}
theorem hc_goto {β : Type} (s : Sta β) (μ : β → Nat) {l : Nat} {body x : Code} (hl : findLabel body l = some (.seq .skip x))
    (first : (∀ y, s.inv y → HC c x (GoQ s μ none l c Q) (s.fr y) (s.hp y) (s.L y)) → HC c body (GoQ s μ none l c Q) fr hp L)
    (round : ∀ y, s.inv y → HC c x (GoQ s μ (some (μ y)) l c Q) (s.fr y) (s.hp y) (s.L y)) : HC c (.scope body) Q fr hp L := by
  have weak : ∀ m, ∀ e a w, GoQ s μ m l c Q e a w → GoQ s μ none l c Q e a w := fun m e a w h => by
    cases e <;> first | exact h | (obtain ⟨h1, y, h2, _, h3⟩ := h; exact ⟨h1, y, h2, (fun k e => by cases e), h3⟩)
  have hf := first fun y hy a w ha hw => hQ (round y hy a w ha hw) fun e a w h => weak _ e a w h
  intro a w ha hw; refine kq1 hl (fun m a w => ∃ y, μ y = m ∧ s.inv y ∧ Ok c a (s.fr y) ∧ WI c.b w (s.hp y) (s.L y)) (hQ (hf a w ha hw) fun e a w h => ?_) fun m a w ⟨y, hm, hy, hok, hwi⟩ => ?_
  · cases e <;> first | exact h | (obtain ⟨h1, y, h2, _, h3, h4⟩ := h; exact ⟨h1, μ y, y, rfl, h2, h3, h4⟩)
  have hr : HC c (.seq .skip x) (GoQ s μ (some (μ y)) l c Q) (s.fr y) (s.hp y) (s.L y) := j6 (k7 (j9 (round y hy))); refine hQ (hr a w hok hwi) fun e a w h => ?_
  cases e <;> first | exact h | (obtain ⟨h1, z, h2, h5, h3, h4⟩ := h; exact ⟨h1, μ z, by rw [← hm]; exact h5 _ rfl, z, rfl, h2, h3, h4⟩)
theorem hc_jump {l : Nat} (h : HQ c Q (.goto l) fr hp L) : HC c (.goto l) Q fr hp L := fun a w ha hw => mx8 (h a w ha hw)
theorem jj1 {K : Act → World → Prop} {l : Nat} (h : HQ c Q (.goto l) fr hp L) : HQ c (Exit.then K Q) (.goto l) fr hp L := fun a w ha hw => h a w ha hw
theorem yE {β : Type} {s : Sta β} {μ : β → Nat} {m : Option Nat} {l : Nat} (h : HQ c Q .ret fr hp L) : HQ c (GoQ s μ m l c Q) .ret fr hp L := fun a w ha hw => h a w ha hw
theorem mq1 {β : Type} (s : Sta β) {μ : β → Nat} {m l : Nat} (y : β) (hy : s.inv y) (hlt : μ y < m) (h1 : FrSub fr (s.fr y)) (h2 : (s.hp y).Sublist hp) (h3 : LSub L (s.L y)) :
    HQ c (GoQ s μ (some m) l c Q) (.goto l) fr hp L := fun a w ha hw => ⟨rfl, y, hy, fun k e => by cases e; exact hlt, ha.sub h1, hw.weak h2 h3.mem⟩
theorem mq0 {β : Type} (s : Sta β) {μ : β → Nat} {l : Nat} {x : Code} (H : ∀ y, s.inv y → HC c x (GoQ s μ none l c Q) (s.fr y) (s.hp y) (s.L y)) (y : β) (hy : s.inv y) (h1 : FrSub fr (s.fr y)) (h2 : (s.hp y).Sublist hp) (h3 : LSub L (s.L y)) :
    HC c (.seq (.label l) x) (GoQ s μ none l c Q) fr hp L := j6 (dz4 (j9 (mj5 h1 h2 h3 (H y hy))))
theorem U5 {β : Type} {k : Con β} {fn : Func} {w0 : World} (x : β) {t u r : Tmp} {ty e : TypeId} {g n : Nat} {cs : Array Value} {fz : Nat × Nat} {v2 v3 : Value} (hres : fn.results = #[.cell t ty, .tmp u, .tmp r]) (hv : lk fr t = some (.pointer (b4 g))) (hv2 : lk fr u = some v2) (hv3 : lk fr r = some v3) (ht : IsR c.P ty) (hz : Sz c.P ty n) (hn : cs.size = n)
    (hm : (g, Obj.cells cs e fz) ∈ hp) (hk : k.val x = .tuple #[.agg cs, v2, v3]) (hb : c.b = k.entry w0) (hi : k.inv x) (h2 : (k.hpO x).Sublist hp) (h3 : LSub L (k.LO x)) (hD : c.D = [] := by rfl) : HQ c (postB c.P fn (k.post w0)) .ret fr hp L :=
  rU x (fun a w ha hw => by
    obtain ⟨dd, ht, hr⟩ := ht; have h1 := hw.own _ hm; simp only at h1
    have hl : (loadVar ty ⟨g, 0, none⟩).run c.P w = .ok (.agg cs) w := by
      have hagg : (isAgg ty).run c.P w = .ok true w := by
        unfold isAgg; rw [Sem.run_bind, run_underlying ht w]
        cases dd <;> simp_all [TypeDesc.isRow]
      have hc := run_loadCells_list (P := c.P) w ⟨g, 0, none⟩ cs.toList (fun j u hu => by rw [Y1, Nat.zero_add]; simp at hu; simp [World.cell?, h1, hu]); have hs := N7 hz w; simp only [loadVar, Sem.run_bind, hagg, Result.andThen_ok, if_true, hs, ← hn]; have e : cs.size = cs.toList.length := by simp
      rw [e, hc]
      simp
    have hv' := ha.at_ _ _ hv; have hv2' := ha.at_ _ _ hv2; have hv3' := ha.at_ _ _ hv3; rw [hk]; unfold results; rw [hres]; have h5 : a.tmps[t]?.getD undef = .pointer (b4 g) := by simpa using hv'
    have h6 : a.tmps[u]?.getD undef = v2 := by simpa using hv2'
    have h7 : a.tmps[r]?.getD undef = v3 := by simpa using hv3'
    simp [h5, h6, h7, asAddr, hl]) hb hi h2 h3 hD
end
end Go.W
end
section
namespace Go.Proofs.YtmpfpfbcejfijaaGreatDoor
open Go Go.W
set_option maxRecDepth 20000
attribute [local irreducible] HL HC HQ HB Row Rows2 Blk Facts
def bilA (c : Ch) (ss : List Int) (xs : List Ad) (y : Ad) : Int := bilN c ss (xs ++ [y]) y.1.toNat
def chStep (c : Ch) (ss : List Int) (xs : List Ad) (o : Option (Ad × Int)) (y : Ad) : Option (Ad × Int) :=
  if ¬ adErr ss.length y = 0 then o else match o with
    | none => some (y, bilA c ss xs y)
    | some z => if bilA c ss xs y < z.2 then some (y, bilA c ss xs y) else some z
def xA : Option (Ad × Int) → Ad
  | none => (0, 0, 0)
  | some z => z.1
def xB : Option (Ad × Int) → Int
  | none => 0
  | some z => z.2
def chIn (c : Ch) (ss : List Int) (xs : List Ad) (cu ln : Int) (kd : Nat) (o : Option (Ad × Int)) (i : Nat) : Option (Ad × Int) := (List.range i).foldl (fun o (j : Nat) => chStep c ss xs o (cu, (kd : Int), ln + (j : Int))) o
def chOut (c : Ch) (ss : List Int) (xs : List Ad) (cu ln : Int) (k : Nat) : Option (Ad × Int) := (List.range k).foldl (fun o kd => chIn c ss xs cu ln (kd + 1) o (7 - ln).toNat) none
theorem kq6 (c : Ch) (ss : List Int) (xs : List Ad) (cu ln : Int) (kd : Nat) (o : Option (Ad × Int)) (i : Nat) : chIn c ss xs cu ln kd o (i + 1) = chStep c ss xs (chIn c ss xs cu ln kd o i) (cu, (kd : Int), ln + (i : Int)) := by
  unfold chIn; rw [List.range_succ, List.foldl_append]; rfl
theorem hz7 (c : Ch) (ss : List Int) (xs : List Ad) (cu ln : Int) (k : Nat) : chOut c ss xs cu ln (k + 1) = chIn c ss xs cu ln (k + 1) (chOut c ss xs cu ln k) (7 - ln).toNat := by
  unfold chOut; rw [List.range_succ, List.foldl_append]; rfl
theorem ch_err {c : Ch} {ss : List Int} {xs : List Ad} {o : Option (Ad × Int)} {y : Ad} (h : ¬ adErr ss.length y = 0) : chStep c ss xs o y = o := if_pos h
theorem iz3 {c : Ch} {ss : List Int} {xs : List Ad} {o : Option (Ad × Int)} {y : Ad} (h : adErr ss.length y = 0) (h2 : o.isSome = false ∨ bilA c ss xs y < xB o) : chStep c ss xs o y = some (y, bilA c ss xs y) := by
  unfold chStep; rw [if_neg (fun e => e h)]
  cases o with
  | none => rfl
  | some z => exact if_pos (h2.elim (fun e => by cases e) fun e => e)
theorem ch_keep {c : Ch} {ss : List Int} {xs : List Ad} {o : Option (Ad × Int)} {y : Ad} (h : adErr ss.length y = 0) (h2 : o.isSome = true) (h3 : ¬ bilA c ss xs y < xB o) : chStep c ss xs o y = o := by
  unfold chStep; rw [if_neg (fun e => e h)]
  cases o with
  | none => cases h2
  | some z => exact if_neg h3
def cheapE (c : Ch) (ss : List Int) (xs : List Ad) (cu ln : Int) : Ad × Int × Int :=
  if ¬ chkS c ss xs = 0 then ((0, 0, 0), 0, chkS c ss xs) else if ¬ (0 ≤ cu ∧ cu ≤ (ss.length : Int) - 1) then ((0, 0, 0), 0, 3) else if ¬ (1 ≤ ln ∧ ln ≤ 6) then ((0, 0, 0), 0, 1) else if 8 ≤ xs.length then ((0, 0, 0), 0, 6)
  else (xA (chOut c ss xs cu ln 3), xB (chOut c ss xs cu ln 3), 0)
def chAt (c : Ch) (ss : List Int) (xs : List Ad) (cu ln : Int) (x : Nat × Nat) : Option (Ad × Int) := chIn c ss xs cu ln (x.1 + 1) (chOut c ss xs cu ln x.1) x.2
theorem kq7 (c : Ch) (ss : List Int) (xs : List Ad) (cu : Int) {ln : Int} {k i : Nat} (h : ln + (i : Int) + 1 = 7) : chAt c ss xs cu ln (k + 1, 0) = chAt c ss xs cu ln (k, i + 1) := by
  show chIn c ss xs cu ln (k + 1 + 1) (chOut c ss xs cu ln (k + 1)) 0 = chIn c ss xs cu ln (k + 1) (chOut c ss xs cu ln k) (i + 1); rw [hz7, show (7 - ln).toNat = i + 1 by omega]
  rfl
theorem nC (c : Ch) (ss : List Int) (xs : List Ad) (cu ln : Int) (k i : Nat) : chAt c ss xs cu ln (k, i + 1) = chStep c ss xs (chAt c ss xs cu ln (k, i)) (cu, ((k + 1 : Nat) : Int), ln + (i : Int)) := kq6 ..
theorem cj0 : ∀ {b : Bool}, ((!b) == false) = true → b = true := by decide
theorem dx3 : ∀ {b : Bool}, ((!b) == false) = false → b = false := by decide
set_option maxHeartbeats 1000000 in
theorem aQ (c : Ch) (ps : Sl Int) (qs : Sl Ad) (cu ln : Int) (hn : ps.l.length ≤ 1000000) (hm : qs.l.length ≤ 1000000) (hqc0 : qs.l.length ≤ qs.c) : Meets Tryz.prog F.R3 [saV c ps qs, int cu, int ln] { LI := saL ps qs, val := fun _ : Unit => .tuple #[adV (cheapE c ps.l qs.l cu ln).1, int (cheapE c ps.l qs.l cu ln).2.1, int (cheapE c ps.l qs.l cu ln).2.2] } := by
 refine j8 F.wJ rfl t4 fun w0 => ?_; refine j3 ?_; refine C4 rfl rfl fun gB => ?_; refine z1 rfl (fun _ => T.I2 _) fun g6 => ?_; refine b9 rfl (b9 rfl (d9 ?_)); refine hc_goto (⟨fun x => (chkS c ps.l qs.l = 0 ∧ (0 ≤ cu ∧ cu ≤ (ps.l.length : Int) - 1) ∧ (1 ≤ ln ∧ ln ≤ 6) ∧ qs.l.length ≤ 7) ∧ x.1 ≤ 2 ∧ ln + (x.2 : Int) ≤ 6, fun x => [(1, int cu), (2, int ln), (3, .pointer (b4 gB)), (6, .pointer (b4 g6)), (7, int (xB (chAt c ps.l qs.l cu ln x))), (12, .bool ((chAt c ps.l qs.l cu ln x)).isSome), (10, int (x.1 + 1 : Nat)), (11, int (ln + (x.2 : Int)))], fun x => [(g6, Obj.cells #[int (xA (chAt c ps.l qs.l cu ln x)).1, int (xA (chAt c ps.l qs.l cu ln x)).2.1, int (xA (chAt c ps.l qs.l cu ln x)).2.2] T.v6 (0, 0))], fun _ => [Blk gB (.cells (saC c ps qs) T.m8 (0, 0)), Row ps.a (rows ps.l), Row qs.a (rows qs.l)]⟩ : Sta (Nat × Nat)) (fun x => (3 - x.1) * 10 + (10 - x.2)) (l := 0) rfl ?_ ?_
 ·refine fun hgo => ?_; refine j6 (j3 ?_)
  first | refine u1 rfl T.j5 T.j4 rfl mB (by rfl) ?_ | refine t7 rfl T.j5 T.j4 rfl mB (by rfl) ?_ | refine r8 rfl T.j5 T.j4 rfl rfl (m9 mB (q8 (by omega))) ?_
  refine i9 F.C9 rfl rfl (A4 c ps qs hn hm) l5 mC fun _ _ => ?_; refine b9 rfl (k9 (b8 rfl (C1 rfl rfl rfl (d9 ?_))))
  first | refine m7 rfl (fun hb1 => ?_) (fun hb1 => ?_) | refine k4 rfl (fun hb1 => ?_) (fun hb1 => ?_)
  ·have hb1' := hb1; try simp at hb1'
   refine j3 ?_; refine u7 _ rfl rfl (fun _ => T.V6 ..) (b8 rfl (u3 (cs := #[int 0, int 0, int 0]) rfl rfl (.refl _) T.j7 (by rfl) (by rfl) ?_)); refine b9 rfl (b9 rfl (d9 (J1 (yE ?_)))); have hE : (cheapE c ps.l qs.l cu ln) = ((0, 0, 0), 0, chkS c ps.l qs.l) := by unfold cheapE; rw [if_pos hb1]
   exact U5 () rfl rfl rfl rfl T.l3 T.j7 (cs := #[int 0, int 0, int 0]) rfl m0 (by show Value.tuple #[adV (cheapE c ps.l qs.l cu ln).1, int (cheapE c ps.l qs.l cu ln).2.1, int (cheapE c ps.l qs.l cu ln).2.2] = _; rw [hE]) rfl trivial nil_sb trivial
  have hb1' := hb1; try simp at hb1'
  have h0 : chkS c ps.l qs.l = 0 := Classical.not_not.1 hb1; have hsa := nW h0; have hn5 := hsa.n5; refine k7 (j9 (j6 (l4 (j3 (b8 rfl ?_)))))
  first | refine a7 ⟨_, 6, none⟩ rfl rfl T.t9 rfl ?_ | refine a7 _ rfl rfl T.t9 rfl ?_
  first | refine a8 rfl T.d5 rfl (j0 mB rfl) ?_ | refine a8 rfl T.d5 rfl (i8 mB rfl) ?_ | refine a8 rfl T.d5 rfl (d8 mB (d4 (by omega) rfl)) ?_ | refine a8 rfl T.d5 rfl (d7 mB (rows_get (by omega) rfl)) ?_ | refine a8 rfl T.d5 rfl (g4 mB rfl) ?_
  refine l9 rfl T.q9 rfl (U6 _ rfl rfl rfl rfl s9 ?_); refine i9 F.s8 rfl rfl (p7 _ _ _) l5 trivial fun _ _ => ?_; refine D5 rfl rfl (b9 rfl (d9 ?_))
  first | refine m7 rfl (fun hb2 => ?_) (fun hb2 => ?_) | refine k4 rfl (fun hb2 => ?_) (fun hb2 => ?_)
  ·have hb2' := hb2; try simp at hb2'
   refine j3 ?_; refine u7 _ rfl rfl (fun _ => T.V6 ..) (u3 (cs := #[int 0, int 0, int 0]) rfl rfl (.refl _) T.j7 (by rfl) (by rfl) ?_); refine b9 rfl (b9 rfl (d9 (l7 (C2 (yE ?_))))); have hE : (cheapE c ps.l qs.l cu ln) = ((0, 0, 0), 0, 3) := by unfold cheapE; rw [if_neg hb1, if_pos (nbt hb2)]
   exact U5 () rfl rfl rfl rfl T.l3 T.j7 (cs := #[int 0, int 0, int 0]) rfl m0 (by show Value.tuple #[adV (cheapE c ps.l qs.l cu ln).1, int (cheapE c ps.l qs.l cu ln).2.1, int (cheapE c ps.l qs.l cu ln).2.2] = _; rw [hE]) rfl trivial nil_sb trivial
  have hb2' := hb2; try simp at hb2'
  have hcu := nbf hb2; refine j3 (b8 rfl ?_); refine i9 F.s8 rfl rfl (p7 _ _ _) l5 trivial fun _ _ => ?_; refine D5 rfl rfl (b9 rfl (d9 ?_))
  first | refine m7 rfl (fun hb3 => ?_) (fun hb3 => ?_) | refine k4 rfl (fun hb3 => ?_) (fun hb3 => ?_)
  ·have hb3' := hb3; try simp at hb3'
   refine j3 ?_; refine u7 _ rfl rfl (fun _ => T.V6 ..) (u3 (cs := #[int 0, int 0, int 0]) rfl rfl (.refl _) T.j7 (by rfl) (by rfl) ?_); refine b9 rfl (b9 rfl (d9 (l7 (C2 (yE ?_))))); have hE : (cheapE c ps.l qs.l cu ln) = ((0, 0, 0), 0, 1) := by unfold cheapE; rw [if_neg hb1, if_neg (Classical.not_not.2 hcu), if_pos (nbt hb3)]
   exact U5 () rfl rfl rfl rfl T.l3 T.j7 (cs := #[int 0, int 0, int 0]) rfl m0 (by show Value.tuple #[adV (cheapE c ps.l qs.l cu ln).1, int (cheapE c ps.l qs.l cu ln).2.1, int (cheapE c ps.l qs.l cu ln).2.2] = _; rw [hE]) rfl trivial nil_sb trivial
  have hb3' := hb3; try simp at hb3'
  have hln := nbf hb3; refine j3 ?_
  first | refine a7 ⟨_, 7, none⟩ rfl rfl T.p9 rfl ?_ | refine a7 _ rfl rfl T.p9 rfl ?_
  first | refine a8 rfl T.i7 rfl (j0 mB rfl) ?_ | refine a8 rfl T.i7 rfl (i8 mB rfl) ?_ | refine a8 rfl T.i7 rfl (d8 mB (d4 (by omega) rfl)) ?_ | refine a8 rfl T.i7 rfl (d7 mB (rows_get (by omega) rfl)) ?_ | refine a8 rfl T.i7 rfl (g4 mB rfl) ?_
  refine l9 rfl T.v9 rfl ?_; refine nX rfl rfl rfl (b9 rfl (d9 ?_))
  first | refine m7 rfl (fun hb4 => ?_) (fun hb4 => ?_) | refine k4 rfl (fun hb4 => ?_) (fun hb4 => ?_)
  ·have hb4' := hb4; try simp at hb4'
   refine j3 ?_; refine u7 _ rfl rfl (fun _ => T.V6 ..) (u3 (cs := #[int 0, int 0, int 0]) rfl rfl (.refl _) T.j7 (by rfl) (by rfl) ?_); refine b9 rfl (b9 rfl (d9 (l7 (C2 (yE ?_))))); have hE : (cheapE c ps.l qs.l cu ln) = ((0, 0, 0), 0, 6) := by unfold cheapE; rw [if_neg hb1, if_neg (Classical.not_not.2 hcu), if_neg (Classical.not_not.2 hln), if_pos (by omega)]
   exact U5 () rfl rfl rfl rfl T.l3 T.j7 (cs := #[int 0, int 0, int 0]) rfl m0 (by show Value.tuple #[adV (cheapE c ps.l qs.l cu ln).1, int (cheapE c ps.l qs.l cu ln).2.1, int (cheapE c ps.l qs.l cu ln).2.2] = _; rw [hE]) rfl trivial nil_sb trivial
  have hb4' := hb4; try simp at hb4'
  have hq7 : qs.l.length ≤ 7 := by omega
  refine k7 (z2 (j9 (j6 ?_))); refine mZ (.swap _ _ _) ?_; refine X3 (k8 (b8 rfl (b9 rfl (b9 rfl (k9 (b9 rfl (d9 ?_))))))); exact mq0 (⟨fun x => (chkS c ps.l qs.l = 0 ∧ (0 ≤ cu ∧ cu ≤ (ps.l.length : Int) - 1) ∧ (1 ≤ ln ∧ ln ≤ 6) ∧ qs.l.length ≤ 7) ∧ x.1 ≤ 2 ∧ ln + (x.2 : Int) ≤ 6, fun x => [(1, int cu), (2, int ln), (3, .pointer (b4 gB)), (6, .pointer (b4 g6)), (7, int (xB (chAt c ps.l qs.l cu ln x))), (12, .bool ((chAt c ps.l qs.l cu ln x)).isSome), (10, int (x.1 + 1 : Nat)), (11, int (ln + (x.2 : Int)))], fun x => [(g6, Obj.cells #[int (xA (chAt c ps.l qs.l cu ln x)).1, int (xA (chAt c ps.l qs.l cu ln x)).2.1, int (xA (chAt c ps.l qs.l cu ln x)).2.2] T.v6 (0, 0))], fun _ => [Blk gB (.cells (saC c ps qs) T.m8 (0, 0)), Row ps.a (rows ps.l), Row qs.a (rows qs.l)]⟩ : Sta (Nat × Nat)) hgo (0, 0) ⟨⟨h0, hcu, hln, hq7⟩, Nat.zero_le _, by show ln + ((0 : Nat) : Int) ≤ 6; omega⟩ ⟨rfl, rfl, rfl, rfl, rfl, rfl, rfl, congrArg (fun z => some (int z)) (Int.add_zero ln).symm, trivial⟩ (.refl _) mC
 rintro ⟨k, i⟩ ⟨⟨h0, hcu, hln, hq7⟩, hk, hi⟩; simp only at hk hi; have hsa := nW h0; have hn5 := hsa.n5; have hqc : qs.l.length ≤ qs.c := hqc0; refine j3 (b8 rfl (b8 rfl (b8 rfl ?_))); refine u7 _ rfl rfl (fun _ => T.z3 ..) ?_; refine z1 rfl (fun _ => T.I2 _) fun gx => ?_; refine u3 (cs := #[int cu, int (k + 1 : Nat), int (ln + (i : Int))]) rfl rfl (.refl _) T.j7 (by rfl) (by rfl) ?_; refine d9 ?_; refine jB ⟨fun _ : Unit => True, fun _ => [(1, int cu), (2, int ln), (3, .pointer (b4 gB)), (6, .pointer (b4 g6)), (7, int (xB (chAt c ps.l qs.l cu ln (k, i + 1)))), (12, .bool ((chAt c ps.l qs.l cu ln (k, i + 1))).isSome), (10, int (k + 1 : Nat)), (11, int (ln + (i : Int)))], fun _ => [(g6, Obj.cells #[int (xA (chAt c ps.l qs.l cu ln (k, i + 1))).1, int (xA (chAt c ps.l qs.l cu ln (k, i + 1))).2.1, int (xA (chAt c ps.l qs.l cu ln (k, i + 1))).2.2] T.v6 (0, 0))], fun _ => [Blk gB (.cells (saC c ps qs) T.m8 (0, 0)), Row ps.a (rows ps.l), Row qs.a (rows qs.l)]⟩ ?_ ?_
 ·skip
  refine j3 ?_
  first | refine u1 rfl T.j5 T.j4 rfl mB (by rfl) ?_ | refine t7 rfl T.j5 T.j4 rfl mB (by rfl) ?_ | refine r8 rfl T.j5 T.j4 rfl rfl (m9 mB (q8 (by omega))) ?_
  first | refine u1 rfl T.l3 T.j7 rfl mB (by rfl) ?_ | refine t7 rfl T.l3 T.j7 rfl mB (by rfl) ?_ | refine r8 rfl T.l3 T.j7 rfl rfl (m9 mB (q8 (by omega))) ?_
  refine i9 F.Q5 rfl rfl (M5 c ps qs ((cu, ((k + 1 : Nat) : Int), ln + (i : Int)) : Ad) hn) l5 mC fun _ _ => ?_; refine D8 rfl rfl rfl (d9 ?_)
  first | refine m7 rfl (fun hb5 => ?_) (fun hb5 => ?_) | refine k4 rfl (fun hb5 => ?_) (fun hb5 => ?_)
  ·have hb5' := hb5; try simp at hb5'
   have hadr : adErr ps.l.length ((cu, ((k + 1 : Nat) : Int), ln + (i : Int)) : Ad) = 0 := hb5; obtain ⟨m, hme⟩ := Int.eq_ofNat_of_zero_le hcu.1; have hm2 : m < ps.l.length := by omega
   have h0q : chkS c ps.l (qs.l ++ [((cu, ((k + 1 : Nat) : Int), ln + (i : Int)) : Ad)]) = 0 := mz2 h0 hadr hq7; have hbv : (numsN 31 c ps.l (qs.l ++ [((cu, ((k + 1 : Nat) : Int), ln + (i : Int)) : Ad)])).getD m default = bilA c ps.l qs.l ((cu, ((k + 1 : Nat) : Int), ln + (i : Int)) : Ad) := by rw [bill_at c ps.l _ hm2]; show _ = bilN c ps.l _ cu.toNat; rw [hme, Int.toNat_natCast]
   refine j3 ?_
   first | refine u1 rfl T.j5 T.j4 rfl mB (by rfl) ?_ | refine t7 rfl T.j5 T.j4 rfl mB (by rfl) ?_ | refine r8 rfl T.j5 T.j4 rfl rfl (m9 mB (q8 (by omega))) ?_
   first | refine u1 rfl T.l3 T.j7 rfl mB (by rfl) ?_ | refine t7 rfl T.l3 T.j7 rfl mB (by rfl) ?_ | refine r8 rfl T.l3 T.j7 rfl rfl (m9 mB (q8 (by omega))) ?_
   refine i9 F.sY rfl rfl (jV c ps qs ((cu, ((k + 1 : Nat) : Int), ln + (i : Int)) : Ad) (by omega) hqc) l5 mC fun q hq => ?_; obtain ⟨qa, qc, ql⟩ := q; obtain ⟨hq1, hq2⟩ := hq; obtain rfl : ql = qs.l ++ [((cu, ((k + 1 : Nat) : Int), ln + (i : Int)) : Ad)] := hq1; refine i9 F.R2 rfl rfl (M0 c ps ⟨qa, qc, qs.l ++ [((cu, ((k + 1 : Nat) : Int), ln + (i : Int)) : Ad)]⟩ (nW h0q)) l5 mC fun gb _ => ?_; refine t8 (rows (numsN 31 c ps.l (qs.l ++ [((cu, ((k + 1 : Nat) : Int), ln + (i : Int)) : Ad)]))) (List.prefix_refl _) (b8 rfl ?_); refine w3 (α := Int) (numsN 31 c ps.l (qs.l ++ [((cu, ((k + 1 : Nat) : Int), ln + (i : Int)) : Ad)])) m rfl T.q9 T.v0 rfl rfl hme mB (by rw [L5]) (by rw [L5]; exact hm2) (by decide) ?_; refine a8 (v := int (bilA c ps.l qs.l ((cu, ((k + 1 : Nat) : Int), ln + (i : Int)) : Ad))) rfl T.a9 rfl (d8 mB (by rw [← hbv]; exact d4 (by rw [L5]; exact hm2) rfl)) ?_; refine b9 rfl (k9 (b8 rfl (D5 rfl rfl (b8 rfl ?_)))); refine r5 rfl rfl ?_ ?_
   ·intro hg1; have hg1' := hg1; try simp at hg1'
    have hso := cj0 hg1; refine k5 rfl rfl hg1 (b8 rfl (k5 rfl rfl hg1 (b8 rfl (k5 rfl rfl hg1 (A7 rfl rfl rfl ?_))))); refine p_f rfl rfl (bf1 hg1) rfl ?_; refine d9 ?_
    first | refine m7 rfl (fun hb6 => ?_) (fun hb6 => ?_) | refine k4 rfl (fun hb6 => ?_) (fun hb6 => ?_)
    ·have hb6' := hb6; try simp at hb6'
     refine k8 ?_
     first | refine u1 rfl T.l3 T.j7 rfl mB (by rfl) ?_ | refine t7 rfl T.l3 T.j7 rfl mB (by rfl) ?_ | refine r8 rfl T.l3 T.j7 rfl rfl (m9 mB (q8 (by omega))) ?_
     refine b8 rfl (u3 (cs := #[int cu, int (k + 1 : Nat), int (ln + (i : Int))]) (hp' := [(gx, Obj.cells #[int cu, int (k + 1 : Nat), int (ln + (i : Int))] T.v6 (0, 0))]) rfl rfl (.swap _ _ _) T.j7 (by rfl) (by rfl) ?_); refine b9 rfl (b9 rfl (d6 ?_)); have hst : (chAt c ps.l qs.l cu ln (k, i + 1)) = some (((cu, ((k + 1 : Nat) : Int), ln + (i : Int)) : Ad), bilA c ps.l qs.l ((cu, ((k + 1 : Nat) : Int), ln + (i : Int)) : Ad)) := by rw [nC]; exact iz3 hadr (.inr hb6)
     exact O1 _ () trivial ⟨rfl, rfl, rfl, rfl, congrArg (fun o => some (int (xB o))) hst.symm, congrArg (fun o => some (Value.bool (Option.isSome o))) hst.symm, rfl, rfl, trivial⟩ (by show List.Sublist [(g6, Obj.cells #[int (xA (chAt c ps.l qs.l cu ln (k, i + 1))).1, int (xA (chAt c ps.l qs.l cu ln (k, i + 1))).2.1, int (xA (chAt c ps.l qs.l cu ln (k, i + 1))).2.2] T.v6 (0, 0))] _; rw [hst]; exact .cons_cons _ nil_sb) mC
    have hb6' := hb6; try simp at hb6'
    refine k7 ?_; have hst : (chAt c ps.l qs.l cu ln (k, i + 1)) = (chAt c ps.l qs.l cu ln (k, i)) := by rw [nC]; exact ch_keep hadr hso hb6
    exact O1 _ () trivial ⟨rfl, rfl, rfl, rfl, congrArg (fun o => some (int (xB o))) hst.symm, congrArg (fun o => some (Value.bool (Option.isSome o))) hst.symm, rfl, rfl, trivial⟩ (by show List.Sublist [(g6, Obj.cells #[int (xA (chAt c ps.l qs.l cu ln (k, i + 1))).1, int (xA (chAt c ps.l qs.l cu ln (k, i + 1))).2.1, int (xA (chAt c ps.l qs.l cu ln (k, i + 1))).2.2] T.v6 (0, 0))] _; rw [hst]; exact .cons _ (.refl _)) mC
   intro hg1; have hg1' := hg1; try simp at hg1'
   have hso := dx3 hg1; refine u2 rfl rfl rfl rfl rfl hg1 (u2 rfl rfl rfl rfl rfl hg1 (u2 rfl rfl rfl rfl rfl hg1 ?_)); refine p_t rfl rfl (bt2 hg1) rfl ?_; refine d9 (c_t rfl rfl (k8 ?_))
   first | refine u1 rfl T.l3 T.j7 rfl mB (by rfl) ?_ | refine t7 rfl T.l3 T.j7 rfl mB (by rfl) ?_ | refine r8 rfl T.l3 T.j7 rfl rfl (m9 mB (q8 (by omega))) ?_
   refine b8 rfl (u3 (cs := #[int cu, int (k + 1 : Nat), int (ln + (i : Int))]) (hp' := [(gx, Obj.cells #[int cu, int (k + 1 : Nat), int (ln + (i : Int))] T.v6 (0, 0))]) rfl rfl (.swap _ _ _) T.j7 (by rfl) (by rfl) ?_); refine b9 rfl (b9 rfl (d6 ?_)); have hst : (chAt c ps.l qs.l cu ln (k, i + 1)) = some (((cu, ((k + 1 : Nat) : Int), ln + (i : Int)) : Ad), bilA c ps.l qs.l ((cu, ((k + 1 : Nat) : Int), ln + (i : Int)) : Ad)) := by rw [nC]; exact iz3 hadr (.inl hso)
   exact O1 _ () trivial ⟨rfl, rfl, rfl, rfl, congrArg (fun o => some (int (xB o))) hst.symm, congrArg (fun o => some (Value.bool (Option.isSome o))) hst.symm, rfl, rfl, trivial⟩ (by show List.Sublist [(g6, Obj.cells #[int (xA (chAt c ps.l qs.l cu ln (k, i + 1))).1, int (xA (chAt c ps.l qs.l cu ln (k, i + 1))).2.1, int (xA (chAt c ps.l qs.l cu ln (k, i + 1))).2.2] T.v6 (0, 0))] _; rw [hst]; exact .cons_cons _ nil_sb) mC
  have hb5' := hb5; try simp at hb5'
  refine k7 ?_; have hst : (chAt c ps.l qs.l cu ln (k, i + 1)) = (chAt c ps.l qs.l cu ln (k, i)) := by rw [nC]; exact ch_err hb5
  exact O1 _ () trivial ⟨rfl, rfl, rfl, rfl, congrArg (fun o => some (int (xB o))) hst.symm, congrArg (fun o => some (Value.bool (Option.isSome o))) hst.symm, rfl, rfl, trivial⟩ (by show List.Sublist [(g6, Obj.cells #[int (xA (chAt c ps.l qs.l cu ln (k, i + 1))).1, int (xA (chAt c ps.l qs.l cu ln (k, i + 1))).2.1, int (xA (chAt c ps.l qs.l cu ln (k, i + 1))).2.2] T.v6 (0, 0))] _; rw [hst]; exact .cons _ (.refl _)) mC
 refine fun _ _ => ?_; refine jB ⟨fun x : Nat × Nat => x.1 ≤ 3 ∧ (chAt c ps.l qs.l cu ln x) = (chAt c ps.l qs.l cu ln (k, i + 1)) ∧ (ln + (x.2 : Int) ≤ 6) ∧ (3 - x.1) * 10 + (10 - x.2) < (3 - k) * 10 + (10 - i) ∧ (x.1 = 3 → x.2 = 0), fun x => [(1, int cu), (2, int ln), (3, .pointer (b4 gB)), (6, .pointer (b4 g6)), (7, int (xB (chAt c ps.l qs.l cu ln x))), (12, .bool ((chAt c ps.l qs.l cu ln x)).isSome), (10, int (x.1 + 1 : Nat)), (11, int (ln + (x.2 : Int)))], fun x => [(g6, Obj.cells #[int (xA (chAt c ps.l qs.l cu ln x)).1, int (xA (chAt c ps.l qs.l cu ln x)).2.1, int (xA (chAt c ps.l qs.l cu ln x)).2.2] T.v6 (0, 0))], fun _ => [Blk gB (.cells (saC c ps qs) T.m8 (0, 0)), Row ps.a (rows ps.l), Row qs.a (rows qs.l)]⟩ ?_ ?_
 ·skip
  refine j3 (b8 rfl ?_); refine y2 _ rfl rfl rfl rfl s9 ?_; refine b9 rfl (k9 (b8 rfl (V7 rfl rfl rfl (d9 ?_))))
  first | refine m7 rfl (fun hb7 => ?_) (fun hb7 => ?_) | refine k4 rfl (fun hb7 => ?_) (fun hb7 => ?_)
  ·have hb7' := hb7; try simp at hb7'
   refine k8 (b8 rfl ?_); refine y2 _ rfl rfl rfl rfl s9 ?_; refine b8 rfl (b9 rfl (b9 rfl (d6 ?_))); have hne := kq7 c ps.l qs.l cu (ln := ln) (k := k) (i := i) (by omega); exact O1 _ (k + 1, 0) ⟨by show k + 1 ≤ 3; omega, hne, by show ln + ((0 : Nat) : Int) ≤ 6; omega, by show (3 - (k + 1)) * 10 + 10 < (3 - k) * 10 + (10 - i); omega, fun _ => rfl⟩ ⟨rfl, rfl, rfl, rfl, congrArg (fun o => some (int (xB o))) hne.symm, congrArg (fun o => some (Value.bool (Option.isSome o))) hne.symm, rfl, congrArg (fun z => some (int z)) (Int.add_zero ln).symm, trivial⟩ (by show List.Sublist [(g6, Obj.cells #[int (xA (chAt c ps.l qs.l cu ln (k + 1, 0))).1, int (xA (chAt c ps.l qs.l cu ln (k + 1, 0))).2.1, int (xA (chAt c ps.l qs.l cu ln (k + 1, 0))).2.2] T.v6 (0, 0))] _; rw [hne]; exact .refl _) mC
  have hb7' := hb7; try simp at hb7'
  refine k7 ?_; exact O1 _ (k, i + 1) ⟨by show k ≤ 3; omega, rfl, by show ln + ((i + 1 : Nat) : Int) ≤ 6; omega, by show (3 - k) * 10 + (10 - (i + 1)) < (3 - k) * 10 + (10 - i); omega, fun e => by simp only at e; omega⟩ ⟨rfl, rfl, rfl, rfl, rfl, rfl, rfl, congrArg (fun z => some (int z)) (show ln + (i : Int) + 1 = ln + ((i + 1 : Nat) : Int) by omega), trivial⟩ (.refl _) mC
 rintro ⟨k2, i2⟩ ⟨h2k, h2e, h2i, h2m, h2z⟩; simp only at h2k h2e h2i h2m h2z; refine j6 (j3 (b8 rfl (uV rfl rfl rfl (d9 ?_))))
 first | refine m7 rfl (fun hb8 => ?_) (fun hb8 => ?_) | refine k4 rfl (fun hb8 => ?_) (fun hb8 => ?_)
 ·have hb8' := hb8; try simp at hb8'
  have h2l : k2 ≤ 2 := by omega
  refine hc_jump (jj1 ?_); exact mq1 (⟨fun x => (chkS c ps.l qs.l = 0 ∧ (0 ≤ cu ∧ cu ≤ (ps.l.length : Int) - 1) ∧ (1 ≤ ln ∧ ln ≤ 6) ∧ qs.l.length ≤ 7) ∧ x.1 ≤ 2 ∧ ln + (x.2 : Int) ≤ 6, fun x => [(1, int cu), (2, int ln), (3, .pointer (b4 gB)), (6, .pointer (b4 g6)), (7, int (xB (chAt c ps.l qs.l cu ln x))), (12, .bool ((chAt c ps.l qs.l cu ln x)).isSome), (10, int (x.1 + 1 : Nat)), (11, int (ln + (x.2 : Int)))], fun x => [(g6, Obj.cells #[int (xA (chAt c ps.l qs.l cu ln x)).1, int (xA (chAt c ps.l qs.l cu ln x)).2.1, int (xA (chAt c ps.l qs.l cu ln x)).2.2] T.v6 (0, 0))], fun _ => [Blk gB (.cells (saC c ps qs) T.m8 (0, 0)), Row ps.a (rows ps.l), Row qs.a (rows qs.l)]⟩ : Sta (Nat × Nat)) (k2, i2) ⟨⟨h0, hcu, hln, hq7⟩, by show k2 ≤ 2; omega, h2i⟩ h2m mC (.refl _) mC
 have hb8' := hb8; try simp at hb8'
 obtain rfl : k2 = 3 := by omega
 obtain rfl : i2 = 0 := h2z rfl; have hE : (cheapE c ps.l qs.l cu ln) = (xA (chAt c ps.l qs.l cu ln (3, 0)), xB (chAt c ps.l qs.l cu ln (3, 0)), 0) := by unfold cheapE; rw [if_neg (fun e => e h0), if_neg (Classical.not_not.2 hcu), if_neg (Classical.not_not.2 hln), if_neg (by omega)]; rfl
 refine k7 (j9 (j3 ?_))
 first | refine u1 rfl T.l3 T.j7 rfl mB (by rfl) ?_ | refine t7 rfl T.l3 T.j7 rfl mB (by rfl) ?_ | refine r8 rfl T.l3 T.j7 rfl rfl (m9 mB (q8 (by omega))) ?_
 refine b8 rfl (u3 (cs := #[int (xA (chAt c ps.l qs.l cu ln (3, 0))).1, int (xA (chAt c ps.l qs.l cu ln (3, 0))).2.1, int (xA (chAt c ps.l qs.l cu ln (3, 0))).2.2]) rfl rfl (.refl _) T.j7 (by rfl) (by rfl) ?_); refine b9 rfl (b9 rfl (d9 (l7 (yE ?_)))); exact U5 () rfl rfl rfl rfl T.l3 T.j7 (cs := #[int (xA (chAt c ps.l qs.l cu ln (3, 0))).1, int (xA (chAt c ps.l qs.l cu ln (3, 0))).2.1, int (xA (chAt c ps.l qs.l cu ln (3, 0))).2.2]) rfl m0 (by show Value.tuple #[adV (cheapE c ps.l qs.l cu ln).1, int (cheapE c ps.l qs.l cu ln).2.1, int (cheapE c ps.l qs.l cu ln).2.2] = _; rw [hE]) rfl trivial nil_sb trivial
end Go.Proofs.YtmpfpfbcejfijaaGreatDoor
end
section
namespace Go.W
open Go Go.RowKit
end Go.W
end
section
namespace Go.Proofs.YtmpfpfbcejfijaaGreatDoor
open Go Go.W
set_option maxRecDepth 20000
attribute [local irreducible] HL HC HQ HB Row Rows2 Blk Facts
abbrev lsts (ps : List (Sl Int)) : List (List Int) := ps.map (·.l)
abbrev OutSL := List (Sl Int) × OutC
def upI (f n : Nat) : List Int := (List.range' f (n - f)).map fun i : Nat => (i : Int)
def subK (m f n k : Nat) : List (List Int) := ((List.range' f (k - f)).map fun i : Nat => (combos m (upI (i + 1) n)).map ((i : Int) :: ·)).flatten
structure Tot (o : Hn → Hn → Int) : Prop where
  tr : ∀ {x y z}, o x y < 0 → o y z < 0 → o x z < 0
  to : ∀ {x y}, ¬ x.1 = y.1 → o x y < 0 ∨ o y x < 0
  ir : ∀ {x y}, x.1 = y.1 → x.2 = y.2 → ¬ o x y < 0
def BestIs (o : Hn → Hn → Int) (S : Hn → Prop) (b : Hn) : Prop := S b ∧ ∀ x, S x → ¬ o x b < 0
end Go.Proofs.YtmpfpfbcejfijaaGreatDoor
end
section
namespace Go.Proofs.YtmpfpfbcejfijaaGreatDoor
open Go Go.W
set_option maxRecDepth 20000
attribute [local irreducible] HL HC HQ HB Row Rows2 Blk Facts
def handL (cs : List Cd) (ks : List Int) : Hn := (ks, (linL cs ks).sum, (priL cs ks).sum)
def fillS (cs : List Cd) (room : Int) (st : Hn) (x : List Int) : Hn := if (handL cs x).2.1 ≤ room ∧ ordF (handL cs x) st < 0 then handL cs x else st
def fillO (cs : List Cd) (room : Int) : Nat → Hn
  | 0 => handL cs []
  | m + 1 => (combos (m + 1) (upI 0 cs.length)).foldl (fillS cs room) (fillO cs room m)
def FitS (cs : List Cd) (room : Int) (x : Hn) : Prop := ∃ c, c.Sublist (upI 0 cs.length) ∧ x = handL cs c ∧ (handL cs c).2.1 ≤ room
def fillB (cs : List Cd) (room : Int) : Hn := (bestL ordF (handsK cs room (2 ^ cs.length))).1
end Go.Proofs.YtmpfpfbcejfijaaGreatDoor
end
section
namespace Go.Proofs.YtmpfpfbcejfijaaGreatDoor
open Go Go.W
set_option maxRecDepth 20000
attribute [local irreducible] HL HC HQ HB Row Rows2 Blk Facts
def ExS (cs : List Cd) (room : Int) (x : Hn) : Prop := ∃ c, c.Sublist (upI 0 cs.length) ∧ x = handL cs c ∧ (handL cs c).2.1 = room
end Go.Proofs.YtmpfpfbcejfijaaGreatDoor
end
section
namespace Go.Proofs.YtmpfpfbcejfijaaGreatDoor
open Go Go.W
set_option maxRecDepth 20000
attribute [local irreducible] HL HC HQ HB Row Rows2 Blk Facts
def nearB (t : Tr) (p : Int) (w : Int) (k : Int) : Bool := decide (0 ≤ (stepsT t w).getD k.toNat default ∧ (stepsT t w).getD k.toNat default ≤ p)
def FoundS (hs : List Hd) (rs : List (List Bool)) (pr ws : List Int) (x : Hn) : Prop := ∃ c, c.Sublist (upI 0 hs.length) ∧ fndOK hs rs ws c = true ∧ x = fndH pr c
end Go.Proofs.YtmpfpfbcejfijaaGreatDoor
end
