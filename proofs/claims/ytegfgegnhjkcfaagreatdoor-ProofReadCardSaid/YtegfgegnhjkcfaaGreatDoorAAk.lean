/- Texts of this claim, one behind another. -/
import Derived.ProofKit
import Derived.OpenShut
import Derived.ShutString
import Derived.ChangeOld
import Derived.Below
import Derived.SliceStrings
import Derived.ChangeSlices
import Derived.Deep.Slices
import Derived.Test.YtegfgegnhjkcfaaGreatDoorAAj
import Derived.Test.YtegfgegnhjkcfaaGreatDoorAAi
import Derived.Test.YtegfgegnhjkcfaaGreatDoorAAf
set_option linter.unusedVariables false
set_option linter.unusedSimpArgs false
section
namespace Go.Proofs.YtegfgegnhjkcfaaGreatDoor
open Go Go.W
set_option maxRecDepth 20000
attribute [local irreducible] HL HC HQ HB Row Rows2 Blk Facts
theorem el_str : ElS Tryz.prog T.mU T.string T.u8 := ElS.of Tryz.underlying36 T.j8 (by kernel_rfl)
abbrev bldO (g : Nat) (P : Option Addr) (A : Option Addr) (n cap : Nat) : Nat × Obj := (g, Obj.cells #[.pointer P, .slice A n cap] T.lO (0, 0))
theorem sC (v : Value) (w : World) : (callFunc 72 [v].toArray).run Tryz.prog w = .ok (.value v) w := by
  show (callFunc 72 #[v]).run Tryz.prog w = _; rw [run_callFunc_extern Tryz.func72 (by kernel_rfl) (by kernel_rfl) (by kernel_rfl) (e := Extern.AbiNoEscape.same) (by kernel_rfl)]
  rfl
theorem lA (g : Nat) (A : Option Addr) (n cap : Nat) : Meets Tryz.prog F.r8 [.pointer (i5 g)] { hpI := [bldO g none A n cap], hpO := fun _ => [bldO g (i5 g) A n cap], val := fun _ : Unit => .tuple #[] } := by
 refine c1 F.E0 rfl j9 fun w0 => ?_; refine b7 (a6 rfl (d5 rfl rfl ?_)); refine a3 ⟨g, 0, none⟩ rfl rfl T.A9 rfl (a4 (v := .pointer none) rfl T.C9 rfl (a9 m0 rfl) (qZ rfl Tryz.underlying69 rfl rfl ?_)); refine a8 ?_; refine c_t rfl (by first | rfl | assumption | exact bt1 (by assumption) | exact bt2 (by assumption)) ?_; refine c7 (a6 rfl (a6 rfl ?_)); refine vN (cs := #[.pointer none, .slice A n cap]) rfl Tryz.underlying69 Tryz.underlying132 (by kernel_rfl) (show 0 < 2 by decide) rfl m0 (rB rfl rfl (sC _) (rT (cs := #[.pointer none, .slice A n cap]) rfl Tryz.underlying132 Tryz.underlying69 (by kernel_rfl) (by kernel_rfl) rfl m0 (d5 rfl rfl (a3 ⟨g, 0, none⟩ rfl rfl T.A9 rfl (n1 rfl rfl (.refl _) T.bP (by rfl) (by rfl) ?_))))); refine b5 ?_; exact ret0n () rfl rfl rfl trivial (.refl _) trivial
theorem kZ (g : Nat) (A : Option Addr) (n cap : Nat) : Meets Tryz.prog F.r8 [.pointer (i5 g)] { hpI := [bldO g (i5 g) A n cap], hpO := fun _ => [bldO g (i5 g) A n cap], val := fun _ : Unit => .tuple #[] } := by
 refine c1 F.E0 rfl j9 fun w0 => ?_; refine b7 (a6 rfl (d5 rfl rfl ?_)); refine a3 ⟨g, 0, none⟩ rfl rfl T.A9 rfl (a4 (v := .pointer (i5 g)) rfl T.C9 rfl (a9 m0 rfl) (qZ rfl Tryz.underlying69 rfl rfl ?_)); refine a8 ?_; refine c_f rfl (by first | rfl | assumption | exact bf1 (by assumption) | exact bf2 (by assumption)) ?_; refine b7 (a6 rfl (d5 rfl rfl ?_)); refine a3 ⟨g, 0, none⟩ rfl rfl T.A9 rfl (a4 (v := .pointer (i5 g)) rfl T.C9 rfl (a9 m0 rfl) (a6 rfl (tW rfl Tryz.underlying69 (by kernel_rfl) rfl rfl ?_))); refine a8 ?_; refine c_f rfl (by first | rfl | assumption | exact bf1 (by assumption) | exact bf2 (by assumption)) ?_; refine c4 ?_; exact ret0n () rfl rfl rfl trivial (.refl _) trivial
theorem mI (g : Nat) (P A : Option Addr) (n cap : Nat) (h : P = none ∨ P = some ⟨g, 0, none⟩) : Meets Tryz.prog F.r8 [.pointer (i5 g)] { hpI := [bldO g P A n cap], hpO := fun _ => [bldO g (i5 g) A n cap], val := fun _ : Unit => .tuple #[] } := by
  rcases h with rfl | rfl
  · exact lA g A n cap
  exact kZ g A n cap
structure Bld (g : Nat) (s : Str) (P A : Option Addr) (cap : Nat) (og : Hp) : Prop where
  p : P = none ∨ P = some ⟨g, 0, none⟩
  g : Grow T.u8 1 A s.length cap (byteV s) og
theorem Bld.new (g : Nat) : Bld g [] none none 0 [] := ⟨.inl rfl, Grow.nil _ _⟩
abbrev BSt := Option Addr × Nat × Hp
abbrev bldH (g : Nat) (s : Str) (P : Option Addr) (x : BSt) : Hp := bldO g P x.1 s.length x.2.1 :: x.2.2
theorem E3 (g : Nat) (s t : Str) (P : Option Addr) (x : BSt) (hb : Bld g s P x.1 x.2.1 x.2.2) (hl : s.length + t.length ≤ 140737488355328) : Meets Tryz.prog F.v8 [.pointer (i5 g), str t] { hpI := bldH g s P x, inv := fun y : BSt => Bld g (s ++ t) (i5 g) y.1 y.2.1 y.2.2, hpO := fun y => bldH g (s ++ t) (i5 g) y, val := fun _ => .tuple #[int t.length, .nilIface] } := by
 obtain ⟨A, cap, og⟩ := x; obtain ⟨hP, hG⟩ := hb; simp only at hG; refine c1 F.O5 rfl j9 fun w0 => ?_; refine b7 (b4 rfl (b4 rfl (j6 (a6 rfl ?_)))); refine c8 F.P4 rfl rfl (mI g P A s.length cap hP) k6 trivial fun _ _ => ?_; refine j6 (a6 rfl (a6 rfl (d5 rfl rfl ?_))); refine a3 ⟨g, 1, none⟩ rfl rfl T.t3 rfl (a4 (v := .slice A s.length cap) rfl T.M4 rfl (a9 m0 rfl) (a6 rfl ?_)); refine rV (hp' := [bldO g (i5 g) A s.length cap]) (s ++ t).length (byteV (s ++ t)) el_str rfl rfl rfl hG (List.perm_append_comm (l₁ := [_])) List.length_append.symm (tD _ _).symm (by rw [List.length_append]; exact hl) fun A2 c2 o2 hG2 => ?_; refine d5 rfl rfl (a3 ⟨g, 1, none⟩ rfl rfl T.t3 rfl (n1 (hp' := o2) rfl rfl (List.perm_append_comm (l₂ := [_])) T.vH (by rfl) (by rfl) ?_)); refine j6 (a6 rfl ?_); refine p7 rfl T.j8 rfl ?_; refine b4 rfl (b4 rfl (a8 (g2 ?_))); exact ret2 (A2, c2, o2) rfl rfl rfl rfl rfl ⟨.inr rfl, hG2⟩ (.refl _) trivial
theorem tI (g : Nat) (s : Str) (P : Option Addr) (x : BSt) (hb : Bld g s P x.1 x.2.1 x.2.2) (h0 : s ≠ []) : Meets Tryz.prog F.v9 [.pointer (i5 g)] { hpI := bldH g s P x, val := fun _ : Unit => str s } := by
 obtain ⟨A, cap, og⟩ := x; obtain ⟨hP, hG⟩ := hb; simp only at hG; have hle := hG.le; have hs0 : s.length ≠ 0 := by simpa using h0
 obtain ⟨gb, rfl⟩ : ∃ gb : Nat, A = some ⟨gb, 0, none⟩ := by
   rcases hG.2 with ⟨_, h, _⟩ | ⟨gb, _, h, _⟩
   · exact absurd h hs0
   exact ⟨gb, h⟩
 refine c1 F.H3 rfl j9 fun w0 => ?_; refine b7 (b4 rfl (a8 (b8 (z7 ?_)))); refine A8 10 mixed (by decide) (by decide) rfl rfl (i7 (fun w1 => a6 rfl (q_z rfl)) (i7 (fun w1 => d5 rfl rfl (q_z rfl)) (i7 (fun w1 => a3 ⟨g, 1, none⟩ rfl rfl T.t3 rfl (q_z rfl)) (i7 (fun w1 => a4 (v := .slice (i5 gb) s.length cap) rfl T.M4 rfl (b9 (List.mem_append_right _ List.mem_cons_self) rfl) (q_z rfl)) (i7 (fun w1 => tV (pt := T.P_uint8) rfl rfl (by omega) (q_z rfl)) (i7 (fun w1 => a6 rfl (q_z rfl)) (i7 (fun w1 => d5 rfl rfl (q_z rfl)) ?_))))))); refine i7 (fun w1 => a3 ⟨g, 1, none⟩ rfl rfl T.t3 rfl (q_z rfl)) (i7 (fun w1 => a4 (v := .slice (i5 gb) s.length cap) rfl T.M4 rfl (b9 (List.mem_append_right _ List.mem_cons_self) rfl) (q_z rfl)) (i7 (fun w1 => j0 rfl T.J2 rfl (q_z rfl)) ?_)); refine t6 ⟨rfl, ?_⟩; refine nC (hp' := []) rfl Tryz.underlying103 (by kernel_rfl) h0 rfl rfl hG (by show List.Perm ([] ++ og) (og ++ []); rw [List.append_nil, List.nil_append]) ?_; refine b4 rfl (a8 (g2 ?_)); exact ret1 () rfl rfl rfl trivial i2 trivial
section
variable {c : Cx} {Q : Exit → Act → World → Prop} {fr : Fr} {hp : Hp} {L : List Fact} {ops : Array Oper} {rest : List Oper} {d : Tmp} {ty : TypeId} {pos : String} {af : Array Edge}
theorem rS {t : TypeId} {x : Operand} {n cap : Nat} (hd : Nat.blt d c.n = true) (hx : ev fr x = some (.slice none n cap)) (k : HL c ops Q rest ((d, .pointer none) :: fr) hp L) :
    HL c ops Q (⟨some d, .call ⟨.builtin .unsafeSliceData, #[x], #[t]⟩, ty, pos, af, none⟩ :: rest) fr hp L :=
  l4 _ rfl rfl hd (fun a w ha hw => by
    simp only [execOp, resolve, invoke, builtin, Sem.run_bind, Sem.run_pure, Result.andThen_ok, List.map_toArray, List.map_cons, List.map_nil, ha.ev hx]
    rfl) k
theorem lR {pt it : TypeId} {x y : Operand} (hd : Nat.blt d c.n = true) (hx : ev fr x = some (.pointer none)) (hy : ev fr y = some (int (0 : Nat))) (k : HL c ops Q rest ((d, str []) :: fr) hp L) :
    HL c ops Q (⟨some d, .call ⟨.builtin .unsafeString, #[x, y], #[pt, it]⟩, ty, pos, af, none⟩ :: rest) fr hp L :=
  l4 _ rfl rfl hd (fun a w ha hw => by
    simp only [execOp, resolve, invoke, builtin, Sem.run_bind, Sem.run_pure, Result.andThen_ok, List.map_toArray, List.map_cons, List.map_nil, ha.ev hx, ha.ev hy]
    rfl) k
end
theorem qR (g : Nat) : Meets Tryz.prog F.v9 [.pointer (i5 g)] { hpI := [bldO g none none 0 0], val := fun _ : Unit => str [] } := by
 refine c1 F.H3 rfl j9 fun w0 => ?_; refine b7 (b4 rfl (a8 (b8 (z7 ?_)))); refine A8 10 mixed (by decide) (by decide) rfl rfl (i7 (fun w1 => a6 rfl (q_z rfl)) (i7 (fun w1 => d5 rfl rfl (q_z rfl)) (i7 (fun w1 => a3 ⟨g, 1, none⟩ rfl rfl T.t3 rfl (q_z rfl)) (i7 (fun w1 => a4 (v := .slice none 0 0) rfl T.M4 rfl (b9 m0 rfl) (q_z rfl)) (i7 (fun w1 => rS rfl rfl (q_z rfl)) (i7 (fun w1 => a6 rfl (q_z rfl)) (i7 (fun w1 => d5 rfl rfl (q_z rfl)) ?_))))))); refine i7 (fun w1 => a3 ⟨g, 1, none⟩ rfl rfl T.t3 rfl (q_z rfl)) (i7 (fun w1 => a4 (v := .slice none 0 0) rfl T.M4 rfl (b9 m0 rfl) (q_z rfl)) (i7 (fun w1 => j0 rfl T.J2 rfl (q_z rfl)) ?_)); refine t6 ⟨rfl, ?_⟩; refine lR rfl rfl rfl (b4 rfl (a8 (g2 ?_))); exact ret1 () rfl rfl rfl trivial i2 trivial
end Go.Proofs.YtegfgegnhjkcfaaGreatDoor
end
section
namespace Go.Proofs.YtegfgegnhjkcfaaGreatDoor
open Go Go.W
set_option maxRecDepth 20000
attribute [local irreducible] HL HC HQ HB Row Rows2 Blk Facts
def kindS (k : Int) : Str := (K4.drop k.toNat).take (k.toNat + 1 - k.toNat)
def wrM (m : Mk) : Str := ((kindS m.1 ++ itoaZ m.2.1) ++ (if m.1 = 3 then [] else [32] ++ m.2.2)) ++ [47]
def wrS (l : List Mk) : Str := (l.map wrM).flatten
def wErr (m : Mk) : Int := if m.1 < 1 ∨ 3 < m.1 then 8 else if m.2.1 < 0 ∨ 99 < m.2.1 then 1 else textErr m
def wE (l : List Mk) : Int := if 12 < l.length then 6 else firstErr wErr l
theorem tK {l : List Mk} {k : Nat} (hk : k < l.length) : wrS (l.take (k + 1)) = wrS (l.take k) ++ wrM l[k] := by
  unfold wrS; rw [List.take_succ_eq_append_getElem hk, List.map_append, List.flatten_append]
  simp
theorem uM (k : Int) : (kindS k).length ≤ 1 := by
  unfold kindS; rw [List.length_take]; omega
theorem tO {m : Mk} (h : textErr m = 0) : m.2.2.length ≤ 10 := by
  unfold textErr at h
  split at h
  · unfold lineErr at h
    split at h
    · cases h
    split at h
    · cases h
    omega
  split at h
  · cases h
  rename_i h1
  simp only [Decidable.not_not] at h1; rw [h1]; simp
theorem rM {m : Mk} (h : wErr m = 0) : (1 ≤ m.1 ∧ m.1 ≤ 3) ∧ (0 ≤ m.2.1 ∧ m.2.1 < 100) ∧ textErr m = 0 := by
  unfold wErr at h
  split at h
  · cases h
  split at h
  · cases h
  exact ⟨by omega, by omega, h⟩
theorem wrM_len {m : Mk} (h : wErr m = 0) : (wrM m).length ≤ 15 := by
  have h1 := uM m.1; have h2 := uN m.2.1; have h3 := tO (rM h).2.2; unfold wrM; simp only [List.length_append, List.length_cons, List.length_nil]
  split <;> simp only [List.length_append, List.length_cons, List.length_nil] <;> omega
theorem rI {l : List Mk} (h : firstErr wErr l = 0) : (wrS l).length ≤ 15 * l.length := by
  have h1 := O4 h; unfold wrS; clear h
  induction l with
  | nil => simp
  | cons m l ih =>
    have := ih fun a ha => h1 a (List.mem_cons_of_mem _ ha); have h2 := wrM_len (h1 m List.mem_cons_self); simp only [List.map_cons, List.flatten_cons, List.length_append, List.length_cons]
    omega
theorem wrM_ne (m : Mk) : wrM m ≠ [] := by unfold wrM; simp
theorem yP {l : List Mk} (h : l ≠ []) : wrS l ≠ [] := by
  cases l with
  | nil => exact absurd rfl h
  | cons m l => unfold wrS; simp [wrM_ne]
set_option maxHeartbeats 2000000 in
theorem V5 {A : Option Addr} {ca : Nat} (l : List Mk) (hl : l.length ≤ 1000000) : Meets Tryz.prog F.cM [.slice A l.length ca] { LI := [Row A (rows l)], val := fun _ : Unit => .tuple #[str (if wE l = 0 then wrS l else []), int (wE l)] } := by
 refine c1 F.pZ rfl j9 fun w0 => ?_; refine b7 (b4 rfl (b4 rfl (a8 (b8 (b7 (a6 rfl ?_)))))); refine j0 rfl T.j2 rfl ?_; refine A5 rfl rfl rfl (a8 ?_)
 first | refine i4 rfl (fun hb1 => ?_) (fun hb1 => ?_) | refine c5 rfl (fun hb1 => ?_) (fun hb1 => ?_)
 ·have hb1' := hb1; try simp at hb1'
  have hE : wE l = 6 := by rw [wE, if_pos (by omega)]
  refine b7 (b4 rfl (b4 rfl (a8 (t5 ?_)))); exact ret2 () rfl rfl rfl (by rw [hE]; rfl) rfl trivial i2 trivial
 have hb1' := hb1; try simp at hb1'
 have hE : wE l = firstErr wErr l := by rw [wE, if_neg (by omega)]
 refine c4 (c3 (b7 ?_)); refine p8 rfl (fun _ => T.iK _) fun g => ?_; refine a8 (b8 (b7 (a6 rfl ?_))); refine j0 rfl T.j2 rfl ?_; refine a6 rfl (a8 (i8 ?_)); refine s9 (β := Nat × Option Addr × BSt) ⟨fun z : Nat × Option Addr × BSt => z.1 ≤ l.length ∧ firstErr wErr (l.take z.1) = 0 ∧ Bld g (wrS (l.take z.1)) z.2.1 z.2.2.1 z.2.2.2.1 z.2.2.2.2 ∧ (z.1 = 0 → z.2 = (none, none, 0, [])), fun z => [(4, .pointer (i5 g)), (11, .slice A l.length ca), (12, int l.length), (13, int z.1)], fun z => bldH g (wrS (l.take z.1)) z.2.1 z.2.2, fun _ => [Row A (rows l)]⟩ (fun z => l.length - z.1) (0, none, none, 0, []) ⟨Nat.zero_le _, rfl, Bld.new g, fun _ => rfl⟩ mC (.refl _) mC fun z hz => ?_; obtain ⟨k, P, x⟩ := z; obtain ⟨hkl, ht, hb, h00⟩ := hz; simp only at hkl ht hb h00; have hwl := rI ht; rw [List.length_take] at hwl; have hl12 : l.length ≤ 12 := by omega
 refine b7 (r9 rfl rfl rfl (a8 (b8 ?_)))
 first | refine i4 rfl (fun hb2 => ?_) (fun hb2 => ?_) | refine c5 rfl (fun hb2 => ?_) (fun hb2 => ?_)
 ·have hb2' := hb2; try simp at hb2'
  simp only at hb2; have hk : k < l.length := by omega
  have hm1 : l.getD k default = l[k] := y8 hk; refine c4 (c3 (b8 (i8 (b7 ?_)))); refine r6 (α := Mk) _ _ rfl T.j2 T.d3 rfl rfl rfl mB rfl (by omega) (by decide) (p6 rfl T.i6 T.d3 rfl rfl (k8 mB (n2 hk)) ?_); rw [hm1]; refine p8 rfl (fun _ => T.t8 _) fun gm => ?_; refine l5 (cs := #[int l[k].1, int l[k].2.1, str l[k].2.2]) rfl rfl (.refl _) T.d3 (by rfl) (by rfl) ?_; refine a8 (mF (z7 (c7 ?_)))
  first | refine a3 ⟨_, 0, none⟩ rfl rfl T.g0 rfl ?_ | refine a3 _ rfl rfl T.g0 rfl ?_
  refine a4 (v := int l[k].1) rfl T.a5 rfl (b9 mB rfl) ?_; refine r9 rfl rfl rfl (a6 rfl ?_); refine k9 rfl rfl ?_ ?_
  ·intro hg1; have hg1' := hg1; try simp at hg1'
   refine d7 rfl rfl hg1 ?_
   first | refine a3 ⟨_, 0, none⟩ rfl rfl T.g0 rfl ?_ | refine a3 _ rfl rfl T.g0 rfl ?_
   refine d7 rfl rfl hg1 (a4 (v := int l[k].1) rfl T.a5 rfl (b9 mB rfl) ?_); refine d7 rfl rfl hg1 (A5 rfl rfl rfl ?_); refine p_f rfl rfl (bf1 hg1) rfl ?_; refine a8 ?_
   first | refine i4 rfl (fun hb3 => ?_) (fun hb3 => ?_) | refine c5 rfl (fun hb3 => ?_) (fun hb3 => ?_)
   ·have hb3' := hb3; try simp at hb3'
    refine b7 (b4 rfl (b4 rfl (a8 (t5 (s8 (k5 (E1 ?_))))))); refine k5 ?_; have hE2 : wE l = 8 := by rw [hE, G3 hk ht (by rw [show wErr l[k] = 8 from if_pos (by omega)]; decide)]; exact if_pos (by omega)
    exact ret2 () rfl rfl rfl (by rw [hE2]; rfl) rfl trivial i2 trivial
   have hb3' := hb3; try simp at hb3'
   refine c4 (c3 (b8 (b7 ?_)))
   first | refine a3 ⟨_, 1, none⟩ rfl rfl T.c9 rfl ?_ | refine a3 _ rfl rfl T.c9 rfl ?_
   refine a4 (v := int l[k].2.1) rfl T.a5 rfl (b9 mB rfl) ?_; refine r9 rfl rfl rfl (a6 rfl ?_); refine k9 rfl rfl ?_ ?_
   ·intro hg2; have hg2' := hg2; try simp at hg2'
    refine d7 rfl rfl hg2 ?_
    first | refine a3 ⟨_, 1, none⟩ rfl rfl T.c9 rfl ?_ | refine a3 _ rfl rfl T.c9 rfl ?_
    refine d7 rfl rfl hg2 (a4 (v := int l[k].2.1) rfl T.a5 rfl (b9 mB rfl) ?_); refine d7 rfl rfl hg2 (A5 rfl rfl rfl ?_); refine p_f rfl rfl (bf1 hg2) rfl ?_; refine a8 ?_
    first | refine i4 rfl (fun hb4 => ?_) (fun hb4 => ?_) | refine c5 rfl (fun hb4 => ?_) (fun hb4 => ?_)
    ·have hb4' := hb4; try simp at hb4'
     refine b7 (b4 rfl (b4 rfl (a8 (t5 (s8 (k5 (E1 ?_))))))); refine k5 ?_; have hE2 : wE l = 1 := by rw [hE, G3 hk ht (by rw [show wErr l[k] = 1 from (if_neg (by omega)).trans (if_pos (by omega))]; decide)]; exact (if_neg (by omega)).trans (if_pos (by omega))
     exact ret2 () rfl rfl rfl (by rw [hE2]; rfl) rfl trivial i2 trivial
    have hb4' := hb4; try simp at hb4'
    refine c4 (c3 (b8 (b7 ?_))); refine u4 rfl T.i6 T.d3 rfl (cs := #[int l[k].1, int l[k].2.1, str l[k].2.2]) mB (by rfl) ?_; refine c8 F.C4 rfl rfl (y6 l[k]) (hpR := bldH g (wrS (l.take k)) P x) (.refl _) trivial fun _ _ => ?_; refine b4 rfl (j6 (a6 rfl (u5 rfl rfl rfl (a8 ?_))))
    first | refine i4 rfl (fun hb5 => ?_) (fun hb5 => ?_) | refine c5 rfl (fun hb5 => ?_) (fun hb5 => ?_)
    ·have hb5' := hb5; try simp at hb5'
     refine b7 (a6 rfl (b4 rfl (b4 rfl (a8 (t5 (s8 (k5 ?_))))))); refine s8 ?_; have hw : wErr l[k] = textErr l[k] := (if_neg (by omega)).trans (if_neg (by omega)); have hE2 : wE l = textErr l[k] := by rw [hE, G3 hk ht (by rw [hw]; exact hb5), hw]
     exact ret2 () rfl rfl rfl (by rw [hE2, if_neg hb5]; rfl) rfl trivial i2 trivial
    have hb5' := hb5; try simp at hb5'
    have hte : textErr l[k] = 0 := by simpa using hb5
    have hw : wErr l[k] = 0 := ((if_neg (by omega)).trans (if_neg (by omega))).trans hte; have he1 : firstErr wErr (l.take (k + 1)) = 0 := by rw [X7 hk ht]; exact hw
    have hkd := uM l[k].1; have hit := uN l[k].2.1; have htx := tO hte; refine c4 (c3 (b8 ?_)); refine A8 9 mixed (by decide) (by decide) rfl rfl ?_
    apply j4 _ rfl rfl rfl
    ·intro w1
     first | refine a3 ⟨_, 0, none⟩ rfl rfl T.g0 rfl ?_ | refine a3 _ rfl rfl T.g0 rfl ?_
     refine b5 ?_; exact d8 rfl
    refine i7 (fun w1 => a4 (v := int l[k].1) rfl T.a5 rfl (b9 (List.mem_append_right _ List.mem_cons_self) rfl) (q_z rfl)) ?_
    apply j4 _ rfl rfl rfl
    ·intro w1
     first | refine a3 ⟨_, 0, none⟩ rfl rfl T.g0 rfl ?_ | refine a3 _ rfl rfl T.g0 rfl ?_
     refine b5 ?_; exact d8 rfl
    refine i7 (fun w1 => a4 (v := int l[k].1) rfl T.a5 rfl (b9 (List.mem_append_right _ List.mem_cons_self) rfl) (q_z rfl)) (i7 (fun w1 => p9 _ rfl rfl rfl rfl n3 (q_z rfl)) ?_); refine i7 (fun w1 => cB (s := K4) l[k].1.toNat (l[k].1.toNat + 1) rfl T.j8 rfl rfl (by omega) rfl (by omega) (Nat.le_succ _) (by show l[k].1.toNat + 1 ≤ 4; omega) (q_z rfl)) ?_
    apply j4 _ rfl rfl rfl
    ·intro w1
     first | refine a3 ⟨_, 1, none⟩ rfl rfl T.c9 rfl ?_ | refine a3 _ rfl rfl T.c9 rfl ?_
     refine b5 ?_; exact d8 rfl
    refine i7 (fun w1 => a4 (v := int l[k].2.1) rfl T.a5 rfl (b9 (List.mem_append_right _ List.mem_cons_self) rfl) (q_z rfl)) ?_; refine i7 (fun w1 => c8 F.lP rfl rfl (vV l[k].2.1 ⟨by omega, by omega⟩) k6 trivial fun _ _ => (q_z rfl)) ?_; refine t6 ⟨rfl, ?_⟩; refine zH (x' := kindS l[k].1) (y' := itoaZ l[k].2.1) rfl rfl rfl (by omega) ?_; refine c8 F.r5 rfl rfl (E3 g (wrS (l.take k)) (kindS l[k].1 ++ itoaZ l[k].2.1) P x hb (by simp only [List.length_append, List.length_cons, List.length_nil]; omega)) (show List.Perm (bldH g (wrS (l.take k)) P x) (bldH g (wrS (l.take k)) P x ++ []) from by rw [List.append_nil]) trivial fun y1 hy1 => ?_; refine mR (hp' := bldH g ((wrS (l.take k)) ++ (kindS l[k].1 ++ itoaZ l[k].2.1)) (i5 g) y1) (show List.Perm (bldH g ((wrS (l.take k)) ++ (kindS l[k].1 ++ itoaZ l[k].2.1)) (i5 g) y1 ++ []) (bldH g ((wrS (l.take k)) ++ (kindS l[k].1 ++ itoaZ l[k].2.1)) (i5 g) y1) from by rw [List.append_nil]) ?_; refine a8 (b8 (b7 ?_))
    first | refine a3 ⟨_, 0, none⟩ rfl rfl T.g0 rfl ?_ | refine a3 _ rfl rfl T.g0 rfl ?_
    refine a4 (v := int l[k].1) rfl T.a5 rfl (b9 mB rfl) ?_; refine u5 rfl rfl rfl (a8 ?_)
    first | refine i4 rfl (fun hb6 => ?_) (fun hb6 => ?_) | refine c5 rfl (fun hb6 => ?_) (fun hb6 => ?_)
    ·have hb6' := hb6; try simp at hb6'
     refine c7 ?_
     first | refine a3 ⟨_, 2, none⟩ rfl rfl T.k7 rfl ?_ | refine a3 _ rfl rfl T.k7 rfl ?_
     refine a4 (v := str l[k].2.2) rfl T.i3 rfl (b9 mB rfl) ?_; refine zH (x' := [32]) (y' := l[k].2.2) rfl rfl rfl (by simp only [List.length_cons, List.length_nil]; omega) ?_; refine c8 F.r5 rfl rfl (E3 g ((wrS (l.take k)) ++ (kindS l[k].1 ++ itoaZ l[k].2.1)) ([32] ++ l[k].2.2) (i5 g) y1 hy1 (by simp only [List.length_append, List.length_cons, List.length_nil]; omega)) (show List.Perm (bldH g ((wrS (l.take k)) ++ (kindS l[k].1 ++ itoaZ l[k].2.1)) (i5 g) y1) (bldH g ((wrS (l.take k)) ++ (kindS l[k].1 ++ itoaZ l[k].2.1)) (i5 g) y1 ++ []) from by rw [List.append_nil]) trivial fun y2 hy2 => ?_; refine mR (hp' := bldH g (((wrS (l.take k)) ++ (kindS l[k].1 ++ itoaZ l[k].2.1)) ++ ([32] ++ l[k].2.2)) (i5 g) y2) (show List.Perm (bldH g (((wrS (l.take k)) ++ (kindS l[k].1 ++ itoaZ l[k].2.1)) ++ ([32] ++ l[k].2.2)) (i5 g) y2 ++ []) (bldH g (((wrS (l.take k)) ++ (kindS l[k].1 ++ itoaZ l[k].2.1)) ++ ([32] ++ l[k].2.2)) (i5 g) y2) from by rw [List.append_nil]) ?_; refine a8 (c7 ?_); refine c8 F.r5 rfl rfl (E3 g (((wrS (l.take k)) ++ (kindS l[k].1 ++ itoaZ l[k].2.1)) ++ ([32] ++ l[k].2.2)) ([47]) (i5 g) y2 hy2 (by simp only [List.length_append, List.length_cons, List.length_nil]; omega)) (show List.Perm (bldH g (((wrS (l.take k)) ++ (kindS l[k].1 ++ itoaZ l[k].2.1)) ++ ([32] ++ l[k].2.2)) (i5 g) y2) (bldH g (((wrS (l.take k)) ++ (kindS l[k].1 ++ itoaZ l[k].2.1)) ++ ([32] ++ l[k].2.2)) (i5 g) y2 ++ []) from by rw [List.append_nil]) trivial fun y3 hy3 => ?_; refine mR (hp' := bldH g ((((wrS (l.take k)) ++ (kindS l[k].1 ++ itoaZ l[k].2.1)) ++ ([32] ++ l[k].2.2)) ++ ([47])) (i5 g) y3) (show List.Perm (bldH g ((((wrS (l.take k)) ++ (kindS l[k].1 ++ itoaZ l[k].2.1)) ++ ([32] ++ l[k].2.2)) ++ ([47])) (i5 g) y3 ++ []) (bldH g ((((wrS (l.take k)) ++ (kindS l[k].1 ++ itoaZ l[k].2.1)) ++ ([32] ++ l[k].2.2)) ++ ([47])) (i5 g) y3) from by rw [List.append_nil]) ?_; refine b5 (q6 (c3 (c7 ?_))); refine p9 _ rfl rfl rfl rfl n3 ?_; refine a6 rfl (b5 ?_); have hsn : ((((wrS (l.take k)) ++ (kindS l[k].1 ++ itoaZ l[k].2.1)) ++ ([32] ++ l[k].2.2)) ++ [47]) = wrS (l.take (k + 1)) := by rw [tK hk, wrM, if_neg hb6]; simp only [List.append_assoc, List.append_nil, List.nil_append]
     rw [hsn] at hy3 ⊢; exact again _ (k + 1, some ⟨g, 0, none⟩, y3) ⟨by show k + 1 ≤ l.length; omega, he1, hy3, fun h => absurd h (by show ¬ k + 1 = 0; omega)⟩ (z4 (by omega)) mC (.refl _) mC
    have hb6' := hb6; try simp at hb6'
    refine c4 (c3 (c7 ?_)); refine c8 F.r5 rfl rfl (E3 g ((wrS (l.take k)) ++ (kindS l[k].1 ++ itoaZ l[k].2.1)) ([47]) (i5 g) y1 hy1 (by simp only [List.length_append, List.length_cons, List.length_nil]; omega)) (show List.Perm (bldH g ((wrS (l.take k)) ++ (kindS l[k].1 ++ itoaZ l[k].2.1)) (i5 g) y1) (bldH g ((wrS (l.take k)) ++ (kindS l[k].1 ++ itoaZ l[k].2.1)) (i5 g) y1 ++ []) from by rw [List.append_nil]) trivial fun y3 hy3 => ?_; refine mR (hp' := bldH g (((wrS (l.take k)) ++ (kindS l[k].1 ++ itoaZ l[k].2.1)) ++ ([47])) (i5 g) y3) (show List.Perm (bldH g (((wrS (l.take k)) ++ (kindS l[k].1 ++ itoaZ l[k].2.1)) ++ ([47])) (i5 g) y3 ++ []) (bldH g (((wrS (l.take k)) ++ (kindS l[k].1 ++ itoaZ l[k].2.1)) ++ ([47])) (i5 g) y3) from by rw [List.append_nil]) ?_; refine b5 (q6 (c3 (c7 ?_))); refine p9 _ rfl rfl rfl rfl n3 ?_; refine a6 rfl (b5 ?_); have hsn : (((wrS (l.take k)) ++ (kindS l[k].1 ++ itoaZ l[k].2.1)) ++ [47]) = wrS (l.take (k + 1)) := by rw [tK hk, wrM, if_pos (by omega)]; simp only [List.append_assoc, List.append_nil, List.nil_append]
    rw [hsn] at hy3 ⊢; exact again _ (k + 1, some ⟨g, 0, none⟩, y3) ⟨by show k + 1 ≤ l.length; omega, he1, hy3, fun h => absurd h (by show ¬ k + 1 = 0; omega)⟩ (z4 (by omega)) mC (.refl _) mC
   intro hg2; have hg2' := hg2; try simp at hg2'
   refine k4 rfl rfl rfl rfl rfl hg2 (k4 rfl rfl rfl rfl rfl hg2 (k4 rfl rfl rfl rfl rfl hg2 ?_)); refine p_t rfl rfl (bt2 hg2) rfl ?_; refine a8 (c_t rfl rfl (b7 (b4 rfl (b4 rfl (a8 (t5 (E1 ?_))))))); refine tr_tr (s8 ?_); have hE2 : wE l = 1 := by rw [hE, G3 hk ht (by rw [show wErr l[k] = 1 from (if_neg (by omega)).trans (if_pos (by omega))]; decide)]; exact (if_neg (by omega)).trans (if_pos (by omega))
   exact ret2 () rfl rfl rfl (by rw [hE2]; rfl) rfl trivial i2 trivial
  intro hg1; have hg1' := hg1; try simp at hg1'
  refine k4 rfl rfl rfl rfl rfl hg1 (k4 rfl rfl rfl rfl rfl hg1 (k4 rfl rfl rfl rfl rfl hg1 ?_)); refine p_t rfl rfl (bt2 hg1) rfl ?_; refine a8 (c_t rfl rfl (b7 (b4 rfl (b4 rfl (a8 (t5 (E1 ?_))))))); refine tr_tr (s8 ?_); have hE2 : wE l = 8 := by rw [hE, G3 hk ht (by rw [show wErr l[k] = 8 from if_pos (by omega)]; decide)]; exact if_pos (by omega)
  exact ret2 () rfl rfl rfl (by rw [hE2]; rfl) rfl trivial i2 trivial
 have hb2' := hb2; try simp at hb2'
 simp only at hb2; have hk : k = l.length := by omega
 refine n5 (A3 (n4 (c3 (b7 ?_)))); have he : firstErr wErr l = 0 := by rw [hk, List.take_length] at ht; exact ht
 have hEz : wE l = 0 := by rw [hE, he]
 rw [hk, List.take_length] at hb
 by_cases hl0 : l = []
 ·subst hl0; obtain ⟨rfl, rfl⟩ : P = none ∧ x = (none, 0, []) := by have := h00 (by rw [hk]; rfl); injection this with a b; exact ⟨a, b⟩
  refine c8 F.G7 rfl rfl (qR g) (hpR := []) (by subst hk; exact .refl _) trivial fun _ _ => ?_; refine b4 rfl (b4 rfl (a8 (g2 ?_))); exact ret2 () rfl rfl rfl (by rw [hEz, if_pos rfl]; rfl) rfl trivial i2 trivial
 refine c8 F.G7 rfl rfl (tI g (wrS l) P x hb (yP hl0)) (hpR := []) (show List.Perm (bldH g (wrS (l.take k)) P x) (bldH g (wrS l) P x ++ []) from by rw [hk, List.take_length, List.append_nil]) trivial fun _ _ => ?_; refine b4 rfl (b4 rfl (a8 (g2 ?_))); exact ret2 () rfl rfl rfl (by rw [hEz, if_pos rfl]) rfl trivial i2 trivial
end Go.Proofs.YtegfgegnhjkcfaaGreatDoor
end
section
namespace Go.Proofs.YtegfgegnhjkcfaaGreatDoor
open Go Go.W
set_option maxRecDepth 20000
attribute [local irreducible] HL HC HQ HB Row Rows2 Blk Facts
theorem tB {b : UInt8} : ∀ {p : Str} (q : Str), b ∉ p → cutB b (p ++ b :: q) = (p, q, true)
  | [], q, _ => by simp [cutB]
  | x :: p, q, h => by
    simp only [List.mem_cons, not_or] at h; have hx : ¬ x = b := fun e => h.1 e.symm
    simp [cutB, hx, tB q h.2]
theorem wX {b : UInt8} : ∀ {p : Str}, b ∉ p → cutB b p = (p, [], false)
  | [], _ => by simp [cutB]
  | x :: p, h => by
    simp only [List.mem_cons, not_or] at h; have hx : ¬ x = b := fun e => h.1 e.symm
    simp [cutB, hx, wX h.2]
theorem uU {b : UInt8} {s : Str} (h : (cutB b s).2.2 = true) : s = (cutB b s).1 ++ b :: (cutB b s).2.1 := by
  rcases R9 b s with ⟨_, h2, _⟩ | ⟨i, _, h1, h2, h3, _⟩
  · rw [h2] at h; cases h
  rw [h2]; show s = s.take i ++ b :: s.drop (i + 1); rw [List.getElem?_eq_getElem h1] at h3; have h4 : b :: s.drop (i + 1) = s.drop i := by rw [← Option.some.inj h3]; exact (List.drop_eq_getElem_cons h1).symm
  rw [h4, List.take_append_drop]
theorem aq8 {b : UInt8} {s : Str} (h : (cutB b s).2.2 = false) : cutB b s = (s, [], false) := by
  rcases R9 b s with ⟨_, h2, _⟩ | ⟨i, _, h1, h2, h3, _⟩
  · exact h2
  rw [h2] at h; cases h
theorem wV {t : Str} (h : t.all isDig = true) {c : UInt8} (hc : isDig c = false) : c ∉ t := fun hm => by
  rw [List.all_eq_true.1 h c hm] at hc; cases hc
theorem zA {m : Mk} (h : textErr m = 0) : (47 : UInt8) ∉ m.2.2 := by
  unfold textErr at h
  split at h
  · unfold lineErr at h
    split at h
    · cases h
    split at h
    · cases h
    split at h
    · cases h
    rename_i h3
    intro hm; exact h3 (List.any_eq_true.2 ⟨47, hm, rfl⟩)
  split at h
  · cases h
  rename_i h1
  simp only [Decidable.not_not] at h1; rw [h1]; simp
def wrB (m : Mk) : Str := (kindS m.1 ++ itoaZ m.2.1) ++ (if m.1 = 3 then [] else [32] ++ m.2.2)
theorem uL {k : Int} (h : 1 ≤ k ∧ k ≤ 3) : ∃ c : UInt8, kindS k = [c] ∧ c ≠ 47 ∧ Lib.indexByte K4 c = k := by
  have : k = 1 ∨ k = 2 ∨ k = 3 := by omega
  rcases this with rfl | rfl | rfl
  · exact ⟨43, rfl, by decide, rfl⟩
  · exact ⟨61, rfl, by decide, rfl⟩
  exact ⟨45, rfl, by decide, rfl⟩
theorem wrB_not {m : Mk} (h : wErr m = 0) : (47 : UInt8) ∉ wrB m := by
  obtain ⟨h1, h2, h3⟩ := rM h; obtain ⟨c, hc, hc47, _⟩ := uL h1; have hd := (uC h2.1 h2.2).2.2; have hn := wV hd (c := 47) rfl; have ht := zA h3; unfold wrB; rw [hc]; intro hm; simp only [List.mem_append, List.mem_cons, List.not_mem_nil, or_false] at hm
  rcases hm with (hm | hm) | hm
  · exact hc47 hm.symm
  · exact hn hm
  split at hm
  · simp at hm
  simp only [List.mem_append, List.mem_cons, List.not_mem_nil, or_false] at hm
  rcases hm with hm | hm
  · exact absurd hm (by decide)
  exact ht hm
theorem mark_wr {m : Mk} (h : wErr m = 0) : markS (wrB m) = some m := by
  obtain ⟨h1, h2, h3⟩ := rM h; obtain ⟨c, hc, hc47, hci⟩ := uL h1; obtain ⟨k, z, t⟩ := m; simp only at h1 h2 hc hci; obtain ⟨hz, _, hd⟩ := uC h2.1 h2.2; have hn := wV hd (c := 32) rfl; unfold wrB
  simp only
  rw [hc]; show markK (Lib.indexByte K4 c) (itoaZ z ++ _) = _; rw [hci]; unfold markK
  by_cases hk : k = 3
  · rw [if_pos hk, List.append_nil, wX hn]
    have ht : t = [] := by
      rw [textErr, if_neg (by simpa using hk)] at h3
      split at h3
      · cases h3
      rename_i h4; simpa using h4
    subst ht; rw [if_neg (by simp only [hk]; decide)]; simp only [hz]; rw [if_pos h3]
  rw [if_neg hk]; rw [show itoaZ z ++ ([32] ++ t) = itoaZ z ++ 32 :: t from rfl, tB t hn]; rw [if_neg (by simp only [hk]; simp; omega)]; simp only [hz]; rw [if_pos h3]
theorem tL (m : Mk) (l : List Mk) : wrS (m :: l) = wrB m ++ 47 :: wrS l := by
  show (wrB m ++ [47]) ++ wrS l = _; rw [List.append_assoc]
  rfl
theorem wQ : ∀ {l : List Mk} (n : Nat) (ms : List Mk), (∀ m ∈ l, wErr m = 0) → (wrS l).length ≤ n → readF n (wrS l) ms = (ms ++ l, true)
  | [], n, ms, _, _ => by rw [List.append_nil]; exact kH n ms
  | m :: l, n, ms, h, hn => by
    have hm := h m List.mem_cons_self; have hne : wrS (m :: l) ≠ [] := yP (by simp); have hc := tB (wrS l) (wrB_not hm); rw [← tL] at hc; obtain ⟨h1, h2, h3⟩ := gV (ms := ms) hne hn hc; rw [h1, contR, if_pos rfl]; simp only [mark_wr hm]; rw [wQ (n - 1) (ms ++ [m]) (fun a ha => h a (List.mem_cons_of_mem _ ha)) h2, List.append_assoc]
    rfl
theorem M2 {α : Type} {f : α → Int} : ∀ {l : List α}, (∀ a ∈ l, f a = 0) → firstErr f l = 0
  | [], _ => rfl
  | a :: l, h => by rw [firstErr, if_pos (h a List.mem_cons_self)]; exact M2 fun b hb => h b (List.mem_cons_of_mem _ hb)
theorem mark_ok {s : Str} {m : Mk} (h : markS s = some m) : wrB m = s ∧ wErr m = 0 := by
  cases s with
  | nil => cases h
  | cons c r =>
    rw [markS] at h; unfold markK at h
    split at h
    · cases h
    rename_i h1
    simp only [not_or, Decidable.not_not] at h1; obtain ⟨h1, h2⟩ := h1
    split at h
    · cases h
    rename_i z hz
    split at h
    · rename_i ht
      cases h
      obtain ⟨h4, h5, h6⟩ := aj0 hz
      have hK : (Lib.indexByte K4 c = 1 ∧ c = 43) ∨ (Lib.indexByte K4 c = 2 ∧ c = 61) ∨ (Lib.indexByte K4 c = 3 ∧ c = 45) := by
        have h7 := R9 c K4
        rcases h7 with ⟨e, _⟩ | ⟨i, e, hi, _, hg, _⟩
        · omega
        have hi4 : i < 4 := hi; have : i = 1 ∨ i = 2 ∨ i = 3 := by omega
        rcases this with rfl | rfl | rfl
        · exact .inl ⟨e, (Option.some.inj hg).symm⟩
        · exact .inr (.inl ⟨e, (Option.some.inj hg).symm⟩)
        exact .inr (.inr ⟨e, (Option.some.inj hg).symm⟩)
      refine ⟨?_, ?_⟩
      · unfold wrB
        simp only
        rw [h4]; have hk1 : kindS (Lib.indexByte K4 c) = [c] := by rcases hK with ⟨e, rfl⟩ | ⟨e, rfl⟩ | ⟨e, rfl⟩ <;> rfl
        rw [hk1]
        by_cases hk : Lib.indexByte K4 c = 3
        · rw [if_pos hk]
          have hf : (cutB 32 r).2.2 = false := by rw [h2]; simp [hk]
          rw [aq8 hf]
          simp
        rw [if_neg hk]; have hf : (cutB 32 r).2.2 = true := by rw [h2]; simp [hk]
        have := uU hf; show ([c] ++ (cutB 32 r).1) ++ ([32] ++ (cutB 32 r).2.1) = c :: r
        conv => rhs; rw [this]
        simp
      unfold wErr; have hk : ¬ (Lib.indexByte K4 c < 1 ∨ 3 < Lib.indexByte K4 c) := by rcases hK with ⟨e, _⟩ | ⟨e, _⟩ | ⟨e, _⟩ <;> omega
      rw [if_neg hk, if_neg (by simp only; omega)]; exact ht
    cases h
theorem wJ : ∀ (n : Nat) (s : Str) (ms : List Mk), s.length ≤ n → (readF n s ms).2 = true → ∃ l, (readF n s ms).1 = ms ++ l ∧ (∀ m ∈ l, wErr m = 0) ∧ wrS l = s
  | 0, s, ms, hn, _ => ⟨[], by rw [List.append_nil]; rfl, by simp, by have : s = [] := List.length_eq_zero_iff.1 (by omega); rw [this]; rfl⟩
  | n + 1, s, ms, hn, h => by
    by_cases hs : s = []
    · subst hs
      exact ⟨[], by rw [List.append_nil, kH], by simp, rfl⟩
    rw [readF, if_neg hs] at h ⊢
    split at h
    · cases h
    rename_i hc
    rw [if_neg hc]; have hc2 : (cutB 47 s).2.2 = true := by simpa using hc
    have he := uU hc2
    split at h
    · cases h
    rename_i m hm
    obtain ⟨h1, h2⟩ := mark_ok hm
    have hlen : (cutB 47 s).2.1.length ≤ n := by
      have := congrArg List.length he; simp only [List.length_append, List.length_cons] at this
      omega
    obtain ⟨l, e1, e2, e3⟩ := wJ n _ _ hlen h; refine ⟨m :: l, ?_, ?_, ?_⟩
    · simp only [e1]
      rw [List.append_assoc]; rfl
    · intro a ha
      rcases List.mem_cons.1 ha with rfl | ha
      · exact h2
      exact e2 a ha
    rw [tL, h1, e3]; exact he.symm
theorem vM {l : List Mk} (h : ∀ m ∈ l, wErr m = 0) (hl : l.length ≤ 10) : wE l = 0 ∧ readE (wrS l) = (l, 0, 0) := by
  have h1 := M2 h; have h2 := rI h1; refine ⟨by rw [wE, if_neg (by omega)]; exact h1, ?_⟩; have h3 := wQ (wrS l).length [] h (Nat.le_refl _); unfold readE; rw [h3, if_neg (by omega), if_neg (by simp), if_neg (by simp; omega)]
  rfl
theorem vD {s : Str} (h : (readE s).2.2 = 0) : wE (readE s).1 = 0 ∧ wrS (readE s).1 = s := by
  unfold readE at h ⊢
  split at h
  · cases h
  rename_i h0
  rw [if_neg h0]
  split at h
  · cases h
  rename_i h1
  rw [if_neg h1]
  split at h
  · cases h
  rename_i h2
  rw [if_neg h2]; obtain ⟨l, e1, e2, e3⟩ := wJ s.length s [] (Nat.le_refl _) (by simpa using h1); rw [e1, List.nil_append] at h2 ⊢; exact ⟨by rw [wE, if_neg h2]; exact M2 e2, e3⟩
theorem xA : ∀ s ∈ lineWords, lineErr s = 0 := by decide +kernel
theorem uK {l : List Mk} (h : MarksOK 6 l) : ∀ m ∈ l, wErr m = 0 := fun m hm => by
  have hv := h.v _ hm
  have ht : textErr m = 0 := by
    rcases h.t _ hm with ⟨h1, h2⟩ | ⟨h1, h2⟩
    · rw [textErr, if_neg (not_not_intro h1), if_neg (not_not_intro h2)]
    rw [textErr, if_pos h1]; exact xA _ h2
  unfold wErr; rw [if_neg (by omega), if_neg (by omega)]; exact ht
end Go.Proofs.YtegfgegnhjkcfaaGreatDoor
end
section
namespace Go.Proofs.YtegfgegnhjkcfaaGreatDoor
open Go Go.W
set_option maxRecDepth 20000
attribute [local irreducible] HL HC HQ HB Row Rows2 Blk Facts
def seed0r : Int × Int := (0, 11400714819323198485)
theorem dok0r (nums : List Int) : DOK nums seed0r := ⟨by decide, by simp [seed0r], by decide, by decide⟩
theorem xI (s : Str) : (readE s).1.length ≤ 12 := by
  unfold readE
  split
  · simp
  split
  · simp
  split
  · simp
  show (readF s.length s []).1.length ≤ 12
  omega
set_option maxHeartbeats 2000000 in
theorem bN {N : Option Addr} {cn : Nat} (nums : List Int) (hn : nums.length ≤ 9223372036854775807) (s : Str) :
    Meets Tryz.prog F.bH [.slice N nums.length cn, str s] { LI := [Row N (rows nums)], val := fun _ : Unit => .bool true } := by
 refine c1 F.jO rfl j9 fun w0 => ?_; refine b7 (b4 rfl (a8 (b8 (b7 (a6 rfl ?_))))); refine p7 rfl T.j8 rfl ?_; refine A5 rfl rfl rfl (a8 ?_)
 first | refine i4 rfl (fun hb1 => ?_) (fun hb1 => ?_) | refine c5 rfl (fun hb1 => ?_) (fun hb1 => ?_)
 ·have hb1' := hb1; try simp at hb1'
  refine b7 ?_; refine c8 F.G9 rfl rfl (C6) k6 trivial fun _ _ => ?_; refine b4 rfl (a8 (t5 ?_)); exact ret1 () rfl rfl rfl trivial i2 trivial
 have hb1' := hb1; try simp at hb1'
 refine c4 (c3 (b7 (a6 rfl ?_))); refine c8 F.nT rfl rfl (jP nums) k6 ⟨m0, trivial⟩ fun gd _ => ?_; refine c8 F.nU rfl rfl (jQ 6 10 hn (dok0r nums) (by omega)) (.refl _) mC fun r hr => ?_; obtain ⟨s2, y, om⟩ := r; obtain ⟨hs2, hy10, hyo, hyc⟩ := hr; simp only at hy10 hyo hyc; obtain ⟨hw1, hw2⟩ := vM (uK hyo) hy10; have hwl := rI (M2 (uK hyo)); refine b4 rfl (j6 (a6 rfl ?_)); have hc1 := V5 (A := om.1) (ca := om.2) y (by omega); rw [hw1] at hc1; refine c8 F.cL rfl rfl hc1 k6 mC fun _ _ => ?_; refine a6 rfl (i9 rfl rfl rfl (i9 rfl rfl rfl (b4 rfl (b4 rfl (j6 (a6 rfl ?_)))))); have hc2 := Z5 (wrS y) (by omega); rw [hw2] at hc2
 dsimp only at hc2
 refine c8 F.gK rfl rfl hc2 k6 trivial fun z1 _ => ?_; refine a6 rfl (i9 rfl rfl rfl (i9 rfl rfl rfl (i9 rfl rfl rfl (b4 rfl (b4 rfl (b4 rfl (a8 (b8 (b7 ?_))))))))); refine a6 rfl (u5 rfl rfl rfl (a6 rfl ?_)); refine k9 rfl rfl ?_ ?_
 ·intro hg1; have hg1' := hg1; try simp at hg1'
  refine d7 rfl rfl hg1 (a6 rfl (d7 rfl rfl hg1 (u5 rfl rfl rfl ?_))); refine p_f rfl rfl (bf1 hg1) rfl (a6 rfl ?_); refine k9 rfl rfl ?_ ?_
  ·intro hg2; have hg2' := hg2; try simp at hg2'
   refine d7 rfl rfl hg2 (a6 rfl (d7 rfl rfl hg2 (u5 rfl rfl rfl ?_))); refine p_f rfl rfl (bf1 hg2) rfl (a6 rfl ?_); refine k9 rfl rfl ?_ ?_
   ·intro hg3; have hg3' := hg3; try simp at hg3'
    refine d7 rfl rfl hg3 (a6 rfl (d7 rfl rfl hg3 (a6 rfl (d7 rfl rfl hg3 ?_)))); refine c8 F.cS rfl rfl (V9 y y (by omega)) k6 mC fun _ _ => ?_; refine d7 rfl rfl hg3 (iR rfl rfl ?_); refine p_f rfl rfl (bf1 hg3) rfl ?_; refine a8 ?_
    first | refine i4 rfl (fun hb2 => ?_) (fun hb2 => ?_) | refine c5 rfl (fun hb2 => ?_) (fun hb2 => ?_)
    ·exact absurd hb2 (by simp)
    have hb2' := hb2; try simp at hb2'
    refine c4 (c3 (b7 (a6 rfl ?_))); obtain ⟨E, hE⟩ : ∃ E, readE s = E := ⟨_, rfl⟩; have hwr := vD (s := s); have hc3 := Z5 s (by omega); rw [hE] at hc3 hwr; have hEl : E.1.length ≤ 1000000 := by have := xI s; rw [hE] at this; omega
    refine c8 F.gK rfl rfl hc3 k6 trivial fun z2 _ => ?_; refine a6 rfl (i9 rfl rfl rfl (i9 rfl rfl rfl (i9 rfl rfl rfl (b4 rfl (b4 rfl (b4 rfl (a8 (b8 (b7 ?_))))))))); refine a6 rfl (u5 rfl rfl rfl (a8 ?_))
    first | refine i4 rfl (fun hb3 => ?_) (fun hb3 => ?_) | refine c5 rfl (fun hb3 => ?_) (fun hb3 => ?_)
    ·have hb3' := hb3; try simp at hb3'
     refine b7 ?_; refine c8 F.G9 rfl rfl (C6) k6 trivial fun _ _ => ?_; refine b4 rfl (a8 (t5 ?_)); exact ret1 () rfl rfl rfl trivial i2 trivial
    have hb3' := hb3; try simp at hb3'
    have hE0 : E.2.2 = 0 := by simpa using hb3
    obtain ⟨hq1, hq2⟩ := hwr hE0; refine c4 (c3 (b7 (a6 rfl ?_))); have hc4 := V5 (A := z2.1) (ca := z2.2) E.1 hEl; rw [hq1, hq2] at hc4; refine c8 F.cL rfl rfl hc4 k6 mC fun _ _ => ?_; refine a6 rfl (i9 rfl rfl rfl (i9 rfl rfl rfl (b4 rfl (b4 rfl (j6 (a6 rfl (t7 rfl rfl rfl (a6 rfl ?_)))))))); refine k9 rfl rfl ?_ ?_
    ·intro hg4; have hg4' := hg4; try simp at hg4'
     refine d7 rfl rfl hg4 (a6 rfl (d7 rfl rfl hg4 (a6 rfl (d7 rfl rfl hg4 (W5 rfl rfl rfl ?_))))); refine p_t rfl rfl (bt1 hg4) rfl (a6 rfl ?_); refine k9 rfl rfl ?_ ?_
     ·intro hg5; have hg5' := hg5; try simp at hg5'
      refine d7 rfl rfl hg5 ?_; refine c8 F.G9 rfl rfl (C6) k6 trivial fun _ _ => ?_; refine p_t rfl rfl (bt1 hg5) rfl ?_; refine b4 rfl (a8 (g2 ?_)); exact ret1 () rfl rfl rfl trivial i2 trivial
     intro hg5; have hg5' := hg5; try simp at hg5'
    intro hg4; have hg4' := hg4; try simp at hg4'
   intro hg3; have hg3' := hg3; try simp at hg3'
  intro hg2; have hg2' := hg2; try simp at hg2'
 intro hg1; have hg1' := hg1; try simp at hg1'
end Go.Proofs.YtegfgegnhjkcfaaGreatDoor
end
section
namespace Go.W
open Go Go.RowKit Go.ChangeShapes Go.WideShapes
section
variable {H : Type} {enc : TypeId × Value → H} {P : Program} {w : World} {base : Nat} {spare : Nat → Bool} {held : Bool}
theorem row_of {α : Type} [El α] (h1 : El.sz α = 1) {a : Addr} {l : List α} (h : ∀ j (hj : j < l.length), ∃ v, El.cells l[j] = [v] ∧ w.cell? (a.add j) = some v) : (Row (some a) (rows l)).P w := by
  intro j u hu; refine ⟨a, rfl, ?_⟩
  have hj : j < l.length := by
    have := (List.getElem?_eq_some_iff.1 hu).1; rw [K6, h1, Nat.mul_one] at this; exact this
  obtain ⟨v, hv, hc⟩ := h j hj; have h2 := rows_get (l := l) (i := j) (j := 0) (v := v) hj (by simp [List.getD_eq_getElem?_getD, hj, hv]); rw [h1] at h2; simp only [Nat.mul_one, Nat.add_zero] at h2; rw [hu] at h2
  cases h2
  exact hc
theorem in_ints {t e : TypeId} {A : Option Addr} {n c fuel : Nat} {x : DataW H × List MemPlace} (ht : P.underlying t = some (.slice e)) (he : P.underlying e = some (.int .i64)) (hc : P.cellsOf e = 1)
    (h : DataW.trod enc P w base spare held fuel t [.slice A n c] = some x) : ∃ l : List Int, n = l.length ∧ l.length ≤ c ∧ c ≤ maxLen ∧ (Row A (rows l)).P w ∧ ∀ z ∈ l, I64 z := by
  rcases open_ints ht he hc h with ⟨hcs, _⟩ | ⟨a, len, cap, zs, hcs, _, hl, hm, hlen, _, hcell, hwf⟩
  · simp at hcs
    obtain ⟨rfl, rfl, rfl⟩ := hcs; exact ⟨[], rfl, Nat.le_refl _, by unfold maxLen; omega, Row.nil _ _, by intro z hz; simp at hz⟩
  simp at hcs
  obtain ⟨rfl, rfl, rfl⟩ := hcs; have hle : n ≤ zs.length := by rw [hlen]; split <;> omega
  have hlen2 : (zs.take n).length = n := by rw [List.length_take]; omega
  refine ⟨zs.take n, hlen2.symm, by rw [hlen2]; exact hl, hm, row_of rfl fun j hj => ?_, fun z hz => ?_⟩
  · rw [hlen2] at hj
    refine ⟨int zs[j], by simp [El.cells], ?_⟩; rw [hcell j (by omega)]
    simp [List.getD_eq_getElem?_getD, show j < zs.length by omega]
  have := hwf z (List.mem_of_mem_take hz)
  simp [Lit.wf, IntKind.min, IntKind.max, IntKind.signed, IntKind.bits] at this
  exact ⟨by omega, by omega⟩
theorem xR {f : Nat} {args : List Value} {LI : List Fact} (h : Meets P f args ({ LI := LI, val := fun _ : Unit => .bool true } : Con Unit)) (hL : ∀ F ∈ LI, F.P w) : Calls P f args.toArray w fun e w' => e = .returned (.bool true) ∧ Below w.heap.size w w' := by
  refine (h w ⟨Ext.refl _ _, by simp, by simp, by simp, hL, by simp, fun F hF k hk => .inr (.inr ⟨F, hF, hk⟩)⟩).mono fun e w' hp => ?_; obtain ⟨_, rfl, _, hwi⟩ := hp; exact ⟨rfl, hwi.ext.below⟩
end
end Go.W
end
