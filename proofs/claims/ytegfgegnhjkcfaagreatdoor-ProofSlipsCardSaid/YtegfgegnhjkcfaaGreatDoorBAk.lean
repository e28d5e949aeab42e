/- Texts of this claim, one behind another. -/
import Derived.Conc.LoneCalls
import Derived.Laws.CopyRow
import Derived.Laws.Tables
import Derived.Test.YtegfgegnhjkcfaaGreatDoorBAj
import Derived.Test.YtegfgegnhjkcfaaGreatDoorBAg
import Derived.Test.YtegfgegnhjkcfaaGreatDoorBAf
set_option linter.unusedVariables false
set_option linter.unusedSimpArgs false
section
namespace Go.Proofs.YtegfgegnhjkcfaaGreatDoor
open Go Go.W
set_option maxRecDepth 20000
attribute [local irreducible] HL HC HQ HB Row Rows2 Blk Facts
theorem el_str : ElS Tryz.prog T.qN T.string T.u8 := ElS.of Tryz.underlying36 T.i2 (by kernel_rfl)
abbrev bldO (g : Nat) (P : Option Addr) (A : Option Addr) (n cap : Nat) : Nat × Obj := (g, Obj.cells #[.pointer P, .slice A n cap] T.pI (0, 0))
theorem vK (v : Value) (w : World) : (callFunc 72 [v].toArray).run Tryz.prog w = .ok (.value v) w := by
  show (callFunc 72 #[v]).run Tryz.prog w = _; rw [run_callFunc_extern Tryz.func72 (by kernel_rfl) (by kernel_rfl) (by kernel_rfl) (e := Extern.AbiNoEscape.same) (by kernel_rfl)]
  rfl
theorem nR (g : Nat) (A : Option Addr) (n cap : Nat) : Meets Tryz.prog F.u7 [.pointer (j4 g)] { hpI := [bldO g none A n cap], hpO := fun _ => [bldO g (j4 g) A n cap], val := fun _ : Unit => .tuple #[] } := by
 refine c4 F.H9 rfl l5 fun w0 => ?_; refine a9 (a5 rfl (i5 rfl rfl ?_)); refine a3 ⟨g, 0, none⟩ rfl rfl T.D6 rfl (a4 (v := .pointer none) rfl T.G9 rfl (b7 m0 rfl) (uI rfl Tryz.underlying69 rfl rfl ?_)); refine a7 ?_; refine c_t rfl (by first | rfl | assumption | exact bt1 (by assumption) | exact bt2 (by assumption)) ?_; refine c6 (a5 rfl (a5 rfl ?_)); refine yS (cs := #[.pointer none, .slice A n cap]) rfl Tryz.underlying69 Tryz.underlying132 (by kernel_rfl) (show 0 < 2 by decide) rfl m0 (uK rfl rfl (vK _) (vE (cs := #[.pointer none, .slice A n cap]) rfl Tryz.underlying132 Tryz.underlying69 (by kernel_rfl) (by kernel_rfl) rfl m0 (i5 rfl rfl (a3 ⟨g, 0, none⟩ rfl rfl T.D6 rfl (n7 rfl rfl (.refl _) T.dP (by rfl) (by rfl) ?_))))); refine b3 ?_; exact ret0n () rfl rfl rfl trivial (.refl _) trivial
theorem nQ (g : Nat) (A : Option Addr) (n cap : Nat) : Meets Tryz.prog F.u7 [.pointer (j4 g)] { hpI := [bldO g (j4 g) A n cap], hpO := fun _ => [bldO g (j4 g) A n cap], val := fun _ : Unit => .tuple #[] } := by
 refine c4 F.H9 rfl l5 fun w0 => ?_; refine a9 (a5 rfl (i5 rfl rfl ?_)); refine a3 ⟨g, 0, none⟩ rfl rfl T.D6 rfl (a4 (v := .pointer (j4 g)) rfl T.G9 rfl (b7 m0 rfl) (uI rfl Tryz.underlying69 rfl rfl ?_)); refine a7 ?_; refine c_f rfl (by first | rfl | assumption | exact bf1 (by assumption) | exact bf2 (by assumption)) ?_; refine a9 (a5 rfl (i5 rfl rfl ?_)); refine a3 ⟨g, 0, none⟩ rfl rfl T.D6 rfl (a4 (v := .pointer (j4 g)) rfl T.G9 rfl (b7 m0 rfl) (a5 rfl (xG rfl Tryz.underlying69 (by kernel_rfl) rfl rfl ?_))); refine a7 ?_; refine c_f rfl (by first | rfl | assumption | exact bf1 (by assumption) | exact bf2 (by assumption)) ?_; refine c3 ?_; exact ret0n () rfl rfl rfl trivial (.refl _) trivial
theorem qA (g : Nat) (P A : Option Addr) (n cap : Nat) (h : P = none ∨ P = some ⟨g, 0, none⟩) : Meets Tryz.prog F.u7 [.pointer (j4 g)] { hpI := [bldO g P A n cap], hpO := fun _ => [bldO g (j4 g) A n cap], val := fun _ : Unit => .tuple #[] } := by
  rcases h with rfl | rfl
  · exact nR g A n cap
  exact nQ g A n cap
structure Bld (g : Nat) (s : Str) (P A : Option Addr) (cap : Nat) (og : Hp) : Prop where
  p : P = none ∨ P = some ⟨g, 0, none⟩
  g : Grow T.u8 1 A s.length cap (byteV s) og
theorem Bld.new (g : Nat) : Bld g [] none none 0 [] := ⟨.inl rfl, Grow.nil _ _⟩
abbrev BSt := Option Addr × Nat × Hp
abbrev bldH (g : Nat) (s : Str) (P : Option Addr) (x : BSt) : Hp := bldO g P x.1 s.length x.2.1 :: x.2.2
theorem I2 (g : Nat) (s t : Str) (P : Option Addr) (x : BSt) (hb : Bld g s P x.1 x.2.1 x.2.2) (hl : s.length + t.length ≤ 140737488355328) : Meets Tryz.prog F.A9 [.pointer (j4 g), str t] { hpI := bldH g s P x, inv := fun y : BSt => Bld g (s ++ t) (j4 g) y.1 y.2.1 y.2.2, hpO := fun y => bldH g (s ++ t) (j4 g) y, val := fun _ => .tuple #[int t.length, .nilIface] } := by
 obtain ⟨A, cap, og⟩ := x; obtain ⟨hP, hG⟩ := hb; simp only at hG; refine c4 F.S1 rfl l5 fun w0 => ?_; refine a9 (a8 rfl (a8 rfl (k9 (a5 rfl ?_)))); refine d6 F.U0 rfl rfl (qA g P A s.length cap hP) n6 trivial fun _ _ => ?_; refine k9 (a5 rfl (a5 rfl (i5 rfl rfl ?_))); refine a3 ⟨g, 1, none⟩ rfl rfl T.y4 rfl (a4 (v := .slice A s.length cap) rfl T.P4 rfl (b7 m0 rfl) (a5 rfl ?_)); refine vF (hp' := [bldO g (j4 g) A s.length cap]) (s ++ t).length (byteV (s ++ t)) el_str rfl rfl rfl hG (List.perm_append_comm (l₁ := [_])) List.length_append.symm (wP _ _).symm (by rw [List.length_append]; exact hl) fun A2 c2 o2 hG2 => ?_; refine i5 rfl rfl (a3 ⟨g, 1, none⟩ rfl rfl T.y4 rfl (n7 (hp' := o2) rfl rfl (List.perm_append_comm (l₂ := [_])) T.yO (by rfl) (by rfl) ?_)); refine k9 (a5 rfl ?_); refine l4 rfl T.i2 rfl ?_; refine a8 rfl (a8 rfl (a7 (i6 ?_))); exact ret2 (A2, c2, o2) rfl rfl rfl rfl rfl ⟨.inr rfl, hG2⟩ (.refl _) trivial
theorem wU (g : Nat) (s : Str) (P : Option Addr) (x : BSt) (hb : Bld g s P x.1 x.2.1 x.2.2) (h0 : s ≠ []) : Meets Tryz.prog F.B0 [.pointer (j4 g)] { hpI := bldH g s P x, val := fun _ : Unit => str s } := by
 obtain ⟨A, cap, og⟩ := x; obtain ⟨hP, hG⟩ := hb; simp only at hG; have hle := hG.le; have hs0 : s.length ≠ 0 := by simpa using h0
 obtain ⟨gb, rfl⟩ : ∃ gb : Nat, A = some ⟨gb, 0, none⟩ := by
   rcases hG.2 with ⟨_, h, _⟩ | ⟨gb, _, h, _⟩
   · exact absurd h hs0
   exact ⟨gb, h⟩
 refine c4 F.K6 rfl l5 fun w0 => ?_; refine a9 (a8 rfl (a7 (b5 (C9 ?_)))); refine z6 10 mixed (by decide) (by decide) rfl rfl (j5 (fun w1 => a5 rfl (q_z rfl)) (j5 (fun w1 => i5 rfl rfl (q_z rfl)) (j5 (fun w1 => a3 ⟨g, 1, none⟩ rfl rfl T.y4 rfl (q_z rfl)) (j5 (fun w1 => a4 (v := .slice (j4 gb) s.length cap) rfl T.P4 rfl (c8 (List.mem_append_right _ List.mem_cons_self) rfl) (q_z rfl)) (j5 (fun w1 => xF (pt := T.P_uint8) rfl rfl (by omega) (q_z rfl)) (j5 (fun w1 => a5 rfl (q_z rfl)) (j5 (fun w1 => i5 rfl rfl (q_z rfl)) ?_))))))); refine j5 (fun w1 => a3 ⟨g, 1, none⟩ rfl rfl T.y4 rfl (q_z rfl)) (j5 (fun w1 => a4 (v := .slice (j4 gb) s.length cap) rfl T.P4 rfl (c8 (List.mem_append_right _ List.mem_cons_self) rfl) (q_z rfl)) (j5 (fun w1 => j9 rfl T.B5 rfl (q_z rfl)) ?_)); refine v6 ⟨rfl, ?_⟩; refine rC (hp' := []) rfl Tryz.underlying103 (by kernel_rfl) h0 rfl rfl hG (by show List.Perm ([] ++ og) (og ++ []); rw [List.append_nil, List.nil_append]) ?_; refine a8 rfl (a7 (i6 ?_)); exact ret1 () rfl rfl rfl trivial i1 trivial
section
variable {c : Cx} {Q : Exit → Act → World → Prop} {fr : Fr} {hp : Hp} {L : List Fact} {ops : Array Oper} {rest : List Oper} {d : Tmp} {ty : TypeId} {pos : String} {af : Array Edge}
theorem vD {t : TypeId} {x : Operand} {n cap : Nat} (hd : Nat.blt d c.n = true) (hx : ev fr x = some (.slice none n cap)) (k : HL c ops Q rest ((d, .pointer none) :: fr) hp L) :
    HL c ops Q (⟨some d, .call ⟨.builtin .unsafeSliceData, #[x], #[t]⟩, ty, pos, af, none⟩ :: rest) fr hp L :=
  n9 _ rfl rfl hd (fun a w ha hw => by
    simp only [execOp, resolve, invoke, builtin, Sem.run_bind, Sem.run_pure, Result.andThen_ok, List.map_toArray, List.map_cons, List.map_nil, ha.ev hx]
    rfl) k
theorem pL {pt it : TypeId} {x y : Operand} (hd : Nat.blt d c.n = true) (hx : ev fr x = some (.pointer none)) (hy : ev fr y = some (int (0 : Nat))) (k : HL c ops Q rest ((d, str []) :: fr) hp L) :
    HL c ops Q (⟨some d, .call ⟨.builtin .unsafeString, #[x, y], #[pt, it]⟩, ty, pos, af, none⟩ :: rest) fr hp L :=
  n9 _ rfl rfl hd (fun a w ha hw => by
    simp only [execOp, resolve, invoke, builtin, Sem.run_bind, Sem.run_pure, Result.andThen_ok, List.map_toArray, List.map_cons, List.map_nil, ha.ev hx, ha.ev hy]
    rfl) k
end
theorem uA (g : Nat) : Meets Tryz.prog F.B0 [.pointer (j4 g)] { hpI := [bldO g none none 0 0], val := fun _ : Unit => str [] } := by
 refine c4 F.K6 rfl l5 fun w0 => ?_; refine a9 (a8 rfl (a7 (b5 (C9 ?_)))); refine z6 10 mixed (by decide) (by decide) rfl rfl (j5 (fun w1 => a5 rfl (q_z rfl)) (j5 (fun w1 => i5 rfl rfl (q_z rfl)) (j5 (fun w1 => a3 ⟨g, 1, none⟩ rfl rfl T.y4 rfl (q_z rfl)) (j5 (fun w1 => a4 (v := .slice none 0 0) rfl T.P4 rfl (c8 m0 rfl) (q_z rfl)) (j5 (fun w1 => vD rfl rfl (q_z rfl)) (j5 (fun w1 => a5 rfl (q_z rfl)) (j5 (fun w1 => i5 rfl rfl (q_z rfl)) ?_))))))); refine j5 (fun w1 => a3 ⟨g, 1, none⟩ rfl rfl T.y4 rfl (q_z rfl)) (j5 (fun w1 => a4 (v := .slice none 0 0) rfl T.P4 rfl (c8 m0 rfl) (q_z rfl)) (j5 (fun w1 => j9 rfl T.B5 rfl (q_z rfl)) ?_)); refine v6 ⟨rfl, ?_⟩; refine pL rfl rfl rfl (a8 rfl (a7 (i6 ?_))); exact ret1 () rfl rfl rfl trivial i1 trivial
end Go.Proofs.YtegfgegnhjkcfaaGreatDoor
end
section
namespace Go.Proofs.YtegfgegnhjkcfaaGreatDoor
open Go Go.W
set_option maxRecDepth 20000
attribute [local irreducible] HL HC HQ HB Row Rows2 Blk Facts
def kindS (k : Int) : Str := (K4.drop k.toNat).take (k.toNat + 1 - k.toNat)
def wrM (m : Mk) : Str := ((kindS m.1 ++ itoaZ m.2.1) ++ (if m.1 = 3 then [] else [32] ++ m.2.2)) ++ [47]
def wrS (l : List Mk) : Str := (l.map wrM).flatten
def wErr (m : Mk) : Int := if m.1 < 1 ∨ 3 < m.1 then 8 else if m.2.1 < 0 ∨ 99 < m.2.1 then 1 else textErr m
def wE (l : List Mk) : Int := if 12 < l.length then 6 else firstErr wErr l
theorem kR {l : List Mk} {k : Nat} (hk : k < l.length) : wrS (l.take (k + 1)) = wrS (l.take k) ++ wrM l[k] := by
  unfold wrS; rw [List.take_succ_eq_append_getElem hk, List.map_append, List.flatten_append]
  simp
theorem rX (k : Int) : (kindS k).length ≤ 1 := by
  unfold kindS; rw [List.length_take]; omega
theorem qS {m : Mk} (h : textErr m = 0) : m.2.2.length ≤ 10 := by
  unfold textErr at h
  split at h
  · unfold lineErr at h
    split at h
    · cases h
    split at h
    · cases h
    omega
  split at h
  · cases h
  rename_i h1
  simp only [Decidable.not_not] at h1; rw [h1]; simp
theorem zN {m : Mk} (h : wErr m = 0) : (1 ≤ m.1 ∧ m.1 ≤ 3) ∧ (0 ≤ m.2.1 ∧ m.2.1 < 100) ∧ textErr m = 0 := by
  unfold wErr at h
  split at h
  · cases h
  split at h
  · cases h
  exact ⟨by omega, by omega, h⟩
theorem wrM_len {m : Mk} (h : wErr m = 0) : (wrM m).length ≤ 15 := by
  have h1 := rX m.1; have h2 := rZ m.2.1; have h3 := qS (zN h).2.2; unfold wrM; simp only [List.length_append, List.length_cons, List.length_nil]
  split <;> simp only [List.length_append, List.length_cons, List.length_nil] <;> omega
theorem uS {l : List Mk} (h : firstErr wErr l = 0) : (wrS l).length ≤ 15 * l.length := by
  have h1 := R7 h; unfold wrS; clear h
  induction l with
  | nil => simp
  | cons m l ih =>
    have := ih fun a ha => h1 a (List.mem_cons_of_mem _ ha); have h2 := wrM_len (h1 m List.mem_cons_self); simp only [List.map_cons, List.flatten_cons, List.length_append, List.length_cons]
    omega
theorem wrM_ne (m : Mk) : wrM m ≠ [] := by unfold wrM; simp
theorem wrS_ne {l : List Mk} (h : l ≠ []) : wrS l ≠ [] := by
  cases l with
  | nil => exact absurd rfl h
  | cons m l => unfold wrS; simp [wrM_ne]
set_option maxHeartbeats 2000000 in
theorem lH {A : Option Addr} {ca : Nat} (l : List Mk) (hl : l.length ≤ 1000000) : Meets Tryz.prog F.gO [.slice A l.length ca] { LI := [Row A (rows l)], val := fun _ : Unit => .tuple #[str (if wE l = 0 then wrS l else []), int (wE l)] } := by
 refine c4 F.tG rfl l5 fun w0 => ?_; refine a9 (a8 rfl (a8 rfl (a7 (b5 (a9 (a5 rfl ?_)))))); refine j9 rfl T.j3 rfl ?_; refine v9 rfl rfl rfl (a7 ?_)
 first | refine i8 rfl (fun hb1 => ?_) (fun hb1 => ?_) | refine b9 rfl (fun hb1 => ?_) (fun hb1 => ?_)
 ·have hb1' := hb1; try simp at hb1'
  have hE : wE l = 6 := by rw [wE, if_pos (by omega)]
  refine a9 (a8 rfl (a8 rfl (a7 (s6 ?_)))); exact ret2 () rfl rfl rfl (by rw [hE]; rfl) rfl trivial i1 trivial
 have hb1' := hb1; try simp at hb1'
 have hE : wE l = firstErr wErr l := by rw [wE, if_neg (by omega)]
 refine c3 (b6 (a9 ?_)); refine r9 rfl (fun _ => T.kP _) fun g => ?_; refine a7 (b5 (a9 (a5 rfl ?_))); refine j9 rfl T.j3 rfl ?_; refine a5 rfl (a7 (j0 ?_)); refine s9 (β := Nat × Option Addr × BSt) ⟨fun z : Nat × Option Addr × BSt => z.1 ≤ l.length ∧ firstErr wErr (l.take z.1) = 0 ∧ Bld g (wrS (l.take z.1)) z.2.1 z.2.2.1 z.2.2.2.1 z.2.2.2.2 ∧ (z.1 = 0 → z.2 = (none, none, 0, [])), fun z => [(4, .pointer (j4 g)), (11, .slice A l.length ca), (12, int l.length), (13, int z.1)], fun z => bldH g (wrS (l.take z.1)) z.2.1 z.2.2, fun _ => [Row A (rows l)]⟩ (fun z => l.length - z.1) (0, none, none, 0, []) ⟨Nat.zero_le _, rfl, Bld.new g, fun _ => rfl⟩ mC (.refl _) mC fun z hz => ?_; obtain ⟨k, P, x⟩ := z; obtain ⟨hkl, ht, hb, h00⟩ := hz; simp only at hkl ht hb h00; have hwl := uS ht; rw [List.length_take] at hwl; have hl12 : l.length ≤ 12 := by omega
 refine a9 (r6 rfl rfl rfl (a7 (b5 ?_)))
 first | refine i8 rfl (fun hb2 => ?_) (fun hb2 => ?_) | refine b9 rfl (fun hb2 => ?_) (fun hb2 => ?_)
 ·have hb2' := hb2; try simp at hb2'
  simp only at hb2; have hk : k < l.length := by omega
  have hm1 : l.getD k default = l[k] := B1 hk; refine c3 (b6 (b5 (j0 (a9 ?_)))); refine r7 (α := Mk) _ _ rfl T.j3 T.c7 rfl rfl rfl mB rfl (by omega) (by decide) (r8 rfl T.j2 T.c7 rfl rfl (n3 mB (q8 hk)) ?_); rw [hm1]; refine r9 rfl (fun _ => T.u1 _) fun gm => ?_; refine n1 (cs := #[int l[k].1, int l[k].2.1, str l[k].2.2]) rfl rfl (.refl _) T.c7 (by rfl) (by rfl) ?_; refine a7 (kK (C9 (c6 ?_)))
  first | refine a3 ⟨_, 0, none⟩ rfl rfl T.d9 rfl ?_ | refine a3 _ rfl rfl T.d9 rfl ?_
  refine a4 (v := int l[k].1) rfl T.a6 rfl (c8 mB rfl) ?_; refine r6 rfl rfl rfl (a5 rfl ?_); refine l3 rfl rfl ?_ ?_
  ·intro hg1; have hg1' := hg1; try simp at hg1'
   refine c9 rfl rfl hg1 ?_
   first | refine a3 ⟨_, 0, none⟩ rfl rfl T.d9 rfl ?_ | refine a3 _ rfl rfl T.d9 rfl ?_
   refine c9 rfl rfl hg1 (a4 (v := int l[k].1) rfl T.a6 rfl (c8 mB rfl) ?_); refine c9 rfl rfl hg1 (v9 rfl rfl rfl ?_); refine p_f rfl rfl (bf1 hg1) rfl ?_; refine a7 ?_
   first | refine i8 rfl (fun hb3 => ?_) (fun hb3 => ?_) | refine b9 rfl (fun hb3 => ?_) (fun hb3 => ?_)
   ·have hb3' := hb3; try simp at hb3'
    refine a9 (a8 rfl (a8 rfl (a7 (s6 (t5 (l6 (C3 ?_))))))); refine l6 ?_; have hE2 : wE l = 8 := by rw [hE, G0 hk ht (by rw [show wErr l[k] = 8 from if_pos (by omega)]; decide)]; exact if_pos (by omega)
    exact ret2 () rfl rfl rfl (by rw [hE2]; rfl) rfl trivial i1 trivial
   have hb3' := hb3; try simp at hb3'
   refine c3 (b6 (b5 (a9 ?_)))
   first | refine a3 ⟨_, 1, none⟩ rfl rfl T.d8 rfl ?_ | refine a3 _ rfl rfl T.d8 rfl ?_
   refine a4 (v := int l[k].2.1) rfl T.a6 rfl (c8 mB rfl) ?_; refine r6 rfl rfl rfl (a5 rfl ?_); refine l3 rfl rfl ?_ ?_
   ·intro hg2; have hg2' := hg2; try simp at hg2'
    refine c9 rfl rfl hg2 ?_
    first | refine a3 ⟨_, 1, none⟩ rfl rfl T.d8 rfl ?_ | refine a3 _ rfl rfl T.d8 rfl ?_
    refine c9 rfl rfl hg2 (a4 (v := int l[k].2.1) rfl T.a6 rfl (c8 mB rfl) ?_); refine c9 rfl rfl hg2 (v9 rfl rfl rfl ?_); refine p_f rfl rfl (bf1 hg2) rfl ?_; refine a7 ?_
    first | refine i8 rfl (fun hb4 => ?_) (fun hb4 => ?_) | refine b9 rfl (fun hb4 => ?_) (fun hb4 => ?_)
    ·have hb4' := hb4; try simp at hb4'
     refine a9 (a8 rfl (a8 rfl (a7 (s6 (t5 (l6 (C3 ?_))))))); refine l6 ?_; have hE2 : wE l = 1 := by rw [hE, G0 hk ht (by rw [show wErr l[k] = 1 from (if_neg (by omega)).trans (if_pos (by omega))]; decide)]; exact (if_neg (by omega)).trans (if_pos (by omega))
     exact ret2 () rfl rfl rfl (by rw [hE2]; rfl) rfl trivial i1 trivial
    have hb4' := hb4; try simp at hb4'
    refine c3 (b6 (b5 (a9 ?_))); refine z2 rfl T.j2 T.c7 rfl (cs := #[int l[k].1, int l[k].2.1, str l[k].2.2]) mB (by rfl) ?_; refine d6 F.G4 rfl rfl (C1 l[k]) (hpR := bldH g (wrS (l.take k)) P x) (.refl _) trivial fun _ _ => ?_; refine a8 rfl (k9 (a5 rfl (u9 rfl rfl rfl (a7 ?_))))
    first | refine i8 rfl (fun hb5 => ?_) (fun hb5 => ?_) | refine b9 rfl (fun hb5 => ?_) (fun hb5 => ?_)
    ·have hb5' := hb5; try simp at hb5'
     refine a9 (a5 rfl (a8 rfl (a8 rfl (a7 (s6 (t5 (l6 ?_))))))); refine t5 ?_; have hw : wErr l[k] = textErr l[k] := (if_neg (by omega)).trans (if_neg (by omega)); have hE2 : wE l = textErr l[k] := by rw [hE, G0 hk ht (by rw [hw]; exact hb5), hw]
     exact ret2 () rfl rfl rfl (by rw [hE2, if_neg hb5]; rfl) rfl trivial i1 trivial
    have hb5' := hb5; try simp at hb5'
    have hte : textErr l[k] = 0 := by simpa using hb5
    have hw : wErr l[k] = 0 := ((if_neg (by omega)).trans (if_neg (by omega))).trans hte; have he1 : firstErr wErr (l.take (k + 1)) = 0 := by rw [R8 hk ht]; exact hw
    have hkd := rX l[k].1; have hit := rZ l[k].2.1; have htx := qS hte; refine c3 (b6 (b5 ?_)); refine z6 9 mixed (by decide) (by decide) rfl rfl ?_
    apply k7 _ rfl rfl rfl
    ·intro w1
     first | refine a3 ⟨_, 0, none⟩ rfl rfl T.d9 rfl ?_ | refine a3 _ rfl rfl T.d9 rfl ?_
     refine b3 ?_; exact i3 rfl
    refine j5 (fun w1 => a4 (v := int l[k].1) rfl T.a6 rfl (c8 (List.mem_append_right _ List.mem_cons_self) rfl) (q_z rfl)) ?_
    apply k7 _ rfl rfl rfl
    ·intro w1
     first | refine a3 ⟨_, 0, none⟩ rfl rfl T.d9 rfl ?_ | refine a3 _ rfl rfl T.d9 rfl ?_
     refine b3 ?_; exact i3 rfl
    refine j5 (fun w1 => a4 (v := int l[k].1) rfl T.a6 rfl (c8 (List.mem_append_right _ List.mem_cons_self) rfl) (q_z rfl)) (j5 (fun w1 => p7 _ rfl rfl rfl rfl l9 (q_z rfl)) ?_); refine j5 (fun w1 => S3 (s := K4) l[k].1.toNat (l[k].1.toNat + 1) rfl T.i2 rfl rfl (by omega) rfl (by omega) (Nat.le_succ _) (by show l[k].1.toNat + 1 ≤ 4; omega) (q_z rfl)) ?_
    apply k7 _ rfl rfl rfl
    ·intro w1
     first | refine a3 ⟨_, 1, none⟩ rfl rfl T.d8 rfl ?_ | refine a3 _ rfl rfl T.d8 rfl ?_
     refine b3 ?_; exact i3 rfl
    refine j5 (fun w1 => a4 (v := int l[k].2.1) rfl T.a6 rfl (c8 (List.mem_append_right _ List.mem_cons_self) rfl) (q_z rfl)) ?_; refine j5 (fun w1 => d6 F.dD rfl rfl (rY l[k].2.1 ⟨by omega, by omega⟩) n6 trivial fun _ _ => (q_z rfl)) ?_; refine v6 ⟨rfl, ?_⟩; refine Q0 (x' := kindS l[k].1) (y' := itoaZ l[k].2.1) rfl rfl rfl (by omega) ?_; refine d6 F.u6 rfl rfl (I2 g (wrS (l.take k)) (kindS l[k].1 ++ itoaZ l[k].2.1) P x hb (by simp only [List.length_append, List.length_cons, List.length_nil]; omega)) (show List.Perm (bldH g (wrS (l.take k)) P x) (bldH g (wrS (l.take k)) P x ++ []) from by rw [List.append_nil]) trivial fun y1 hy1 => ?_; refine qL (hp' := bldH g ((wrS (l.take k)) ++ (kindS l[k].1 ++ itoaZ l[k].2.1)) (j4 g) y1) (show List.Perm (bldH g ((wrS (l.take k)) ++ (kindS l[k].1 ++ itoaZ l[k].2.1)) (j4 g) y1 ++ []) (bldH g ((wrS (l.take k)) ++ (kindS l[k].1 ++ itoaZ l[k].2.1)) (j4 g) y1) from by rw [List.append_nil]) ?_; refine a7 (b5 (a9 ?_))
    first | refine a3 ⟨_, 0, none⟩ rfl rfl T.d9 rfl ?_ | refine a3 _ rfl rfl T.d9 rfl ?_
    refine a4 (v := int l[k].1) rfl T.a6 rfl (c8 mB rfl) ?_; refine u9 rfl rfl rfl (a7 ?_)
    first | refine i8 rfl (fun hb6 => ?_) (fun hb6 => ?_) | refine b9 rfl (fun hb6 => ?_) (fun hb6 => ?_)
    ·have hb6' := hb6; try simp at hb6'
     refine c6 ?_
     first | refine a3 ⟨_, 2, none⟩ rfl rfl T.k6 rfl ?_ | refine a3 _ rfl rfl T.k6 rfl ?_
     refine a4 (v := str l[k].2.2) rfl T.j1 rfl (c8 mB rfl) ?_; refine Q0 (x' := [32]) (y' := l[k].2.2) rfl rfl rfl (by simp only [List.length_cons, List.length_nil]; omega) ?_; refine d6 F.u6 rfl rfl (I2 g ((wrS (l.take k)) ++ (kindS l[k].1 ++ itoaZ l[k].2.1)) ([32] ++ l[k].2.2) (j4 g) y1 hy1 (by simp only [List.length_append, List.length_cons, List.length_nil]; omega)) (show List.Perm (bldH g ((wrS (l.take k)) ++ (kindS l[k].1 ++ itoaZ l[k].2.1)) (j4 g) y1) (bldH g ((wrS (l.take k)) ++ (kindS l[k].1 ++ itoaZ l[k].2.1)) (j4 g) y1 ++ []) from by rw [List.append_nil]) trivial fun y2 hy2 => ?_; refine qL (hp' := bldH g (((wrS (l.take k)) ++ (kindS l[k].1 ++ itoaZ l[k].2.1)) ++ ([32] ++ l[k].2.2)) (j4 g) y2) (show List.Perm (bldH g (((wrS (l.take k)) ++ (kindS l[k].1 ++ itoaZ l[k].2.1)) ++ ([32] ++ l[k].2.2)) (j4 g) y2 ++ []) (bldH g (((wrS (l.take k)) ++ (kindS l[k].1 ++ itoaZ l[k].2.1)) ++ ([32] ++ l[k].2.2)) (j4 g) y2) from by rw [List.append_nil]) ?_; refine a7 (c6 ?_); refine d6 F.u6 rfl rfl (I2 g (((wrS (l.take k)) ++ (kindS l[k].1 ++ itoaZ l[k].2.1)) ++ ([32] ++ l[k].2.2)) ([47]) (j4 g) y2 hy2 (by simp only [List.length_append, List.length_cons, List.length_nil]; omega)) (show List.Perm (bldH g (((wrS (l.take k)) ++ (kindS l[k].1 ++ itoaZ l[k].2.1)) ++ ([32] ++ l[k].2.2)) (j4 g) y2) (bldH g (((wrS (l.take k)) ++ (kindS l[k].1 ++ itoaZ l[k].2.1)) ++ ([32] ++ l[k].2.2)) (j4 g) y2 ++ []) from by rw [List.append_nil]) trivial fun y3 hy3 => ?_; refine qL (hp' := bldH g ((((wrS (l.take k)) ++ (kindS l[k].1 ++ itoaZ l[k].2.1)) ++ ([32] ++ l[k].2.2)) ++ ([47])) (j4 g) y3) (show List.Perm (bldH g ((((wrS (l.take k)) ++ (kindS l[k].1 ++ itoaZ l[k].2.1)) ++ ([32] ++ l[k].2.2)) ++ ([47])) (j4 g) y3 ++ []) (bldH g ((((wrS (l.take k)) ++ (kindS l[k].1 ++ itoaZ l[k].2.1)) ++ ([32] ++ l[k].2.2)) ++ ([47])) (j4 g) y3) from by rw [List.append_nil]) ?_; refine b3 (q9 (b6 (c6 ?_))); refine p7 _ rfl rfl rfl rfl l9 ?_; refine a5 rfl (b3 ?_); have hsn : ((((wrS (l.take k)) ++ (kindS l[k].1 ++ itoaZ l[k].2.1)) ++ ([32] ++ l[k].2.2)) ++ [47]) = wrS (l.take (k + 1)) := by rw [kR hk, wrM, if_neg hb6]; simp only [List.append_assoc, List.append_nil, List.nil_append]
     rw [hsn] at hy3 ⊢; exact again _ (k + 1, some ⟨g, 0, none⟩, y3) ⟨by show k + 1 ≤ l.length; omega, he1, hy3, fun h => absurd h (by show ¬ k + 1 = 0; omega)⟩ (y5 (by omega)) mC (.refl _) mC
    have hb6' := hb6; try simp at hb6'
    refine c3 (b6 (c6 ?_)); refine d6 F.u6 rfl rfl (I2 g ((wrS (l.take k)) ++ (kindS l[k].1 ++ itoaZ l[k].2.1)) ([47]) (j4 g) y1 hy1 (by simp only [List.length_append, List.length_cons, List.length_nil]; omega)) (show List.Perm (bldH g ((wrS (l.take k)) ++ (kindS l[k].1 ++ itoaZ l[k].2.1)) (j4 g) y1) (bldH g ((wrS (l.take k)) ++ (kindS l[k].1 ++ itoaZ l[k].2.1)) (j4 g) y1 ++ []) from by rw [List.append_nil]) trivial fun y3 hy3 => ?_; refine qL (hp' := bldH g (((wrS (l.take k)) ++ (kindS l[k].1 ++ itoaZ l[k].2.1)) ++ ([47])) (j4 g) y3) (show List.Perm (bldH g (((wrS (l.take k)) ++ (kindS l[k].1 ++ itoaZ l[k].2.1)) ++ ([47])) (j4 g) y3 ++ []) (bldH g (((wrS (l.take k)) ++ (kindS l[k].1 ++ itoaZ l[k].2.1)) ++ ([47])) (j4 g) y3) from by rw [List.append_nil]) ?_; refine b3 (q9 (b6 (c6 ?_))); refine p7 _ rfl rfl rfl rfl l9 ?_; refine a5 rfl (b3 ?_); have hsn : (((wrS (l.take k)) ++ (kindS l[k].1 ++ itoaZ l[k].2.1)) ++ [47]) = wrS (l.take (k + 1)) := by rw [kR hk, wrM, if_pos (by omega)]; simp only [List.append_assoc, List.append_nil, List.nil_append]
    rw [hsn] at hy3 ⊢; exact again _ (k + 1, some ⟨g, 0, none⟩, y3) ⟨by show k + 1 ≤ l.length; omega, he1, hy3, fun h => absurd h (by show ¬ k + 1 = 0; omega)⟩ (y5 (by omega)) mC (.refl _) mC
   intro hg2; have hg2' := hg2; try simp at hg2'
   refine k5 rfl rfl rfl rfl rfl hg2 (k5 rfl rfl rfl rfl rfl hg2 (k5 rfl rfl rfl rfl rfl hg2 ?_)); refine p_t rfl rfl (bt2 hg2) rfl ?_; refine a7 (c_t rfl rfl (a9 (a8 rfl (a8 rfl (a7 (s6 (C3 ?_))))))); refine zP (t5 ?_); have hE2 : wE l = 1 := by rw [hE, G0 hk ht (by rw [show wErr l[k] = 1 from (if_neg (by omega)).trans (if_pos (by omega))]; decide)]; exact (if_neg (by omega)).trans (if_pos (by omega))
   exact ret2 () rfl rfl rfl (by rw [hE2]; rfl) rfl trivial i1 trivial
  intro hg1; have hg1' := hg1; try simp at hg1'
  refine k5 rfl rfl rfl rfl rfl hg1 (k5 rfl rfl rfl rfl rfl hg1 (k5 rfl rfl rfl rfl rfl hg1 ?_)); refine p_t rfl rfl (bt2 hg1) rfl ?_; refine a7 (c_t rfl rfl (a9 (a8 rfl (a8 rfl (a7 (s6 (C3 ?_))))))); refine zP (t5 ?_); have hE2 : wE l = 8 := by rw [hE, G0 hk ht (by rw [show wErr l[k] = 8 from if_pos (by omega)]; decide)]; exact if_pos (by omega)
  exact ret2 () rfl rfl rfl (by rw [hE2]; rfl) rfl trivial i1 trivial
 have hb2' := hb2; try simp at hb2'
 simp only at hb2; have hk : k = l.length := by omega
 refine n5 (y6 (n4 (b6 (a9 ?_)))); have he : firstErr wErr l = 0 := by rw [hk, List.take_length] at ht; exact ht
 have hEz : wE l = 0 := by rw [hE, he]
 rw [hk, List.take_length] at hb
 by_cases hl0 : l = []
 ·subst hl0; obtain ⟨rfl, rfl⟩ : P = none ∧ x = (none, 0, []) := by have := h00 (by rw [hk]; rfl); injection this with a b; exact ⟨a, b⟩
  refine d6 F.J8 rfl rfl (uA g) (hpR := []) (by subst hk; exact .refl _) trivial fun _ _ => ?_; refine a8 rfl (a8 rfl (a7 (i6 ?_))); exact ret2 () rfl rfl rfl (by rw [hEz, if_pos rfl]; rfl) rfl trivial i1 trivial
 refine d6 F.J8 rfl rfl (wU g (wrS l) P x hb (wrS_ne hl0)) (hpR := []) (show List.Perm (bldH g (wrS (l.take k)) P x) (bldH g (wrS l) P x ++ []) from by rw [hk, List.take_length, List.append_nil]) trivial fun _ _ => ?_; refine a8 rfl (a8 rfl (a7 (i6 ?_))); exact ret2 () rfl rfl rfl (by rw [hEz, if_pos rfl]) rfl trivial i1 trivial
end Go.Proofs.YtegfgegnhjkcfaaGreatDoor
end
section
namespace Go.Proofs.YtegfgegnhjkcfaaGreatDoor
open Go Go.W
set_option maxRecDepth 20000
attribute [local irreducible] HL HC HQ HB Row Rows2 Blk Facts
theorem wN {b : UInt8} : ∀ {p : Str} (q : Str), b ∉ p → cutB b (p ++ b :: q) = (p, q, true)
  | [], q, _ => by simp [cutB]
  | x :: p, q, h => by
    simp only [List.mem_cons, not_or] at h; have hx : ¬ x = b := fun e => h.1 e.symm
    simp [cutB, hx, wN q h.2]
theorem wM {b : UInt8} : ∀ {p : Str}, b ∉ p → cutB b p = (p, [], false)
  | [], _ => by simp [cutB]
  | x :: p, h => by
    simp only [List.mem_cons, not_or] at h; have hx : ¬ x = b := fun e => h.1 e.symm
    simp [cutB, hx, wM h.2]
theorem cq9 {b : UInt8} {s : Str} (h : (cutB b s).2.2 = true) : s = (cutB b s).1 ++ b :: (cutB b s).2.1 := by
  rcases W5 b s with ⟨_, h2, _⟩ | ⟨i, _, h1, h2, h3, _⟩
  · rw [h2] at h; cases h
  rw [h2]; show s = s.take i ++ b :: s.drop (i + 1); rw [List.getElem?_eq_getElem h1] at h3; have h4 : b :: s.drop (i + 1) = s.drop i := by rw [← Option.some.inj h3]; exact (List.drop_eq_getElem_cons h1).symm
  rw [h4, List.take_append_drop]
theorem cx0 {b : UInt8} {s : Str} (h : (cutB b s).2.2 = false) : cutB b s = (s, [], false) := by
  rcases W5 b s with ⟨_, h2, _⟩ | ⟨i, _, h1, h2, h3, _⟩
  · exact h2
  rw [h2] at h; cases h
def wrB (m : Mk) : Str := (kindS m.1 ++ itoaZ m.2.1) ++ (if m.1 = 3 then [] else [32] ++ m.2.2)
end Go.Proofs.YtegfgegnhjkcfaaGreatDoor
end
section
namespace Go.W
open Go Go.RowKit Go.Conc
def wpk (P : Program) (x : Code) (Q : Exit → Act → World → Prop) (a : Act) (w : World) : Prop :=
  ∀ (b : Frame) (k : List Item) (cs : List Frame), b.kind = .normal → ∃ e a' w', Q e a' w' ∧ Arrives P (lone (b.at a (.code x :: k)) cs w) b k cs e a' w'
section
variable {P : Program} {Q : Exit → Act → World → Prop} {a : Act} {w : World}
/-! Regions that communicate. -/
def OpSteps (P : Program) (o : Oper) (a : Act) (w : World) (v : Value) (w' : World) : Prop :=
  ∀ (b : Frame) (k : List Item) (cs : List Frame) (ops : Array Oper) (i : Nat) (rest : List Nat), b.kind = .normal → ops[i]? = some o → o.guard = none →
    step P (lone (b.at a (.inRegion ops (i :: rest) :: k)) cs w) = .next (lone (b.at (a.put o.dst v) (.inRegion ops rest :: k)) cs w')
def opsK (P : Program) (ops : Array Oper) (Q : Exit → Act → World → Prop) : List Nat → Act → World → Prop
  | [], a, w => Q .normal a w
  | i :: rest, a, w => ∃ o v w', ops[i]? = some o ∧ o.guard = none ∧ OpSteps P o a w v w' ∧ opsK P ops Q rest (a.put o.dst v) w'
end
/-! The rules. -/
def kw (c : Cx) (x : Code) (Q : Exit → Act → World → Prop) : Act → World → Prop := wpk c.P x Q
def KC (c : Cx) (x : Code) (Q : Exit → Act → World → Prop) (fr : Fr) (hp : Hp) (L : List Fact) : Prop := ∀ a w, Ok c a fr → WI c.b w hp L → kw c x Q a w
def KL (c : Cx) (ops : Array Oper) (Q : Exit → Act → World → Prop) (l : List Nat) (fr : Fr) (hp : Hp) (L : List Fact) : Prop := ∀ a w, Ok c a fr → WI c.b w hp L → opsK c.P ops Q l a w
section
variable {c : Cx} {Q : Exit → Act → World → Prop} {fr : Fr} {hp : Hp} {L : List Fact} {ops : Array Oper}
variable {i : Nat} {rest : List Nat} {d : Tmp} {ty : TypeId} {pos : String} {af : Array Edge}
abbrev chanO (cap : Nat) (buf : List Value) (s r : Nat) : Obj := .chan cap buf.toArray false s r false
end
section
variable {c : Cx} {Q : Exit → Act → World → Prop} {fr : Fr} {hp : Hp} {L : List Fact} {ops : Array Oper} {rest : List Oper}
variable {d : Tmp} {ty : TypeId} {pos : String} {af : Array Edge}
end
/-! ### Slices that grow from nothing, whose cells are written -/
section
def GrowE (e : TypeId) (sz : Nat) (A : Option Addr) (n cap : Nat) (xs : List Value) (og : Hp) : Prop := Grow e sz A n cap xs og ∨ (n = 0 ∧ cap = 0 ∧ xs = [] ∧ og = [])
theorem GrowE.grow {e : TypeId} {sz n cap : Nat} {A : Option Addr} {xs : List Value} {og : Hp} (h : GrowE e sz A n cap xs og) (hn : 0 < n) : Grow e sz A n cap xs og := by
  rcases h with h | ⟨h, _⟩
  · exact h
  omega
theorem GrowE.le {e : TypeId} {sz n cap : Nat} {A : Option Addr} {xs : List Value} {og : Hp} (h : GrowE e sz A n cap xs og) : n ≤ cap := by
  rcases h with h | ⟨h, h2, _⟩
  · exact h.le
  omega
variable {c : Cx} {Q : Exit → Act → World → Prop} {fr : Fr} {hp : Hp} {L : List Fact} {ops : Array Oper} {rest : List Oper}
variable {d : Tmp} {ty : TypeId} {pos : String} {af : Array Edge}
/-! ### Cells of rows that are written -/
theorem own_f {α : Type} [El α] {cur : Array Value} {l : List α} {k f q : Nat} {v : Value} (h : cur.toList.take (l.length * El.sz α) = rows l) (hk : k < l.length) (hq : q = k * El.sz α + f) (hv : (El.cells (l.getD k default))[f]? = some v) : cur[q]? = some v := by
  subst hq; have h2 := rows_get (j := f) hk hv; rw [← h, List.getElem?_take] at h2
  split at h2
  · simpa using h2
  cases h2
end
section
variable {c : Cx} {Q : Exit → Act → World → Prop} {fr : Fr} {hp : Hp} {L : List Fact} {ops : Array Oper} {rest : List Oper} {ty : TypeId} {pos : String} {af : Array Edge}
end
end Go.W
end
section
namespace Go.W
open Go Go.RowKit
theorem madeR {α : Type} [El α] (a0 : α) {zc : Array Value} (hz : zc.toList = El.cells a0) (n : Nat) : madeCells zc (n * El.sz α) = (rows (List.replicate n a0)).toArray := by
  have hsz : zc.size = El.sz α := by rw [← El.len a0, ← hz, Array.length_toList]
  apply Array.ext
  · simp [madeCells, E5]
  intro i h1 h2; have hi : i < n * El.sz α := by simpa [madeCells] using h1
  have hs0 : 0 < El.sz α := Nat.pos_of_ne_zero fun h => by rw [h] at hi; omega
  have hq : i / El.sz α < n := Nat.div_lt_of_lt_mul (by rw [Nat.mul_comm]; exact hi); have hm : i % El.sz α < El.sz α := Nat.mod_lt _ hs0; have e : i = i / El.sz α * El.sz α + i % El.sz α := by rw [Nat.mul_comm]; exact (Nat.div_add_mod _ _).symm
  have h3 := rows_get' (List.replicate n a0) (i / El.sz α) (i % El.sz α) (by simpa using hq) hm; rw [← e] at h3; have h4 : (List.replicate n a0).getD (i / El.sz α) default = a0 := by simp [List.getD_eq_getElem?_getD, hq]
  rw [h4, ← hz] at h3; have h5 : i < (rows (List.replicate n a0)).length := by rw [E5, List.length_replicate]; exact hi
  rw [List.getElem?_eq_getElem h5, List.getElem?_eq_getElem (by rw [Array.length_toList, hsz]; exact hm)] at h3; have h6 := Option.some.inj h3; have h7 : (rows (List.replicate n a0)).toArray[i] = (rows (List.replicate n a0))[i] := by simp
  have hm' : i % zc.size < zc.size := by rw [hsz]; exact hm
  have h8 : (madeCells zc (n * El.sz α))[i] = zc[i % zc.size] := by
    simp only [madeCells, Array.getElem_map, Array.getElem_range]; exact getElem!_pos zc _ hm'
  rw [h7, h6, h8]
  simp [hsz]
theorem r_makeR {α : Type} [El α] (a0 : α) {c : Cx} {Q : Exit → Act → World → Prop} {fr : Fr} {hp : Hp} {L : List Fact} {ops : Array Oper} {rest : List Oper} {d : Tmp} {ty : TypeId} {pos : String} {af : Array Edge}
    {t e : TypeId} {x y : Operand} {n bytes : Nat} {z : Value} {m : Int} (hd : Nat.blt d c.n = true) (ht : c.P.underlying t = some (.slice e)) (hi : (c.P.info? e).map (fun i => (i.zero, i.size, i.bytes)) = some (some z, El.sz α, bytes)) (hz : z.cells.toList = El.cells a0)
    (hx : ev fr x = some (int m)) (hy : ev fr y = some (int m)) (hm : m = (n : Int)) (hb : bytes * n ≤ 140737488355328) (hn : n ≤ 140737488355328)
    (k : ∀ g, HL c ops Q rest ((d, .slice (j4 g) n n) :: fr) ((g, .cells (rows (List.replicate n a0)).toArray e (0, 0)) :: hp) L) : HL c ops Q (⟨some d, .makeSlice t x y, ty, pos, af, none⟩ :: rest) fr hp L :=
  sF (.cells (rows (List.replicate n a0)).toArray e (0, 0)) (fun g => .slice (j4 g) n n) rfl rfl hd (fun a w ha _ => by
    subst hm; obtain ⟨i, h1, h2, h3, h4⟩ := info_parts hi
    have hb' : (i.bytes : Int) * (n : Int) ≤ 281474976710656 := by
      have h : ((i.bytes * n : Nat) : Int) ≤ 281474976710656 := by rw [h4]; omega
      rwa [Int.natCast_mul] at h
    have hr := run_make (P := c.P) w t e i z ht h1 h2 .i64 .i64 n n (by omega) (Int.le_refl _) hb' (by omega); simp only [Int.toNat_natCast, h3, madeR a0 hz] at hr
    simp only [execOp, ha.ev hx, ha.ev hy, Sem.run_bind, hr, Result.andThen_ok, Sem.run_pure]) k
end Go.W
end
section
namespace Go.Proofs.YtegfgegnhjkcfaaGreatDoor
open Go Go.W
set_option maxRecDepth 20000
attribute [local irreducible] HL HC HQ HB Row Rows2 Blk Facts
section
variable {c : Cx} {Q : Exit → Act → World → Prop} {fr : Fr} {hp : Hp} {L : List Fact} {ops : Array Oper} {rest : List Oper} {d : Tmp} {ty : TypeId} {pos : String} {af : Array Edge}
theorem cP {s t e : TypeId} {x : Operand} {l : Str} {p : Addr} {cap : Nat} (hd : Nat.blt d c.n = true) (hs : c.P.underlying s = some (.slice e)) (he : c.P.underlying e = some (.int .u8)) (ht : c.P.underlying t = some .string) (hx : ev fr x = some (.slice (some p) l.length cap)) (hc : Cells c.b hp L p (rows l))
    (k : HL c ops Q rest ((d, str l) :: fr) hp L) : HL c ops Q (⟨some d, .convert s t x, ty, pos, af, none⟩ :: rest) fr hp L :=
  n9 _ rfl rfl hd (fun a w ha hw => by
    have h1 := run_convert_bytes_back (P := c.P) w s t e p cap l hs he ht (fun j hj => hc w hw j _ (by rw [qX, List.getElem?_map, List.getElem?_eq_getElem hj]; rfl)); simp only [execOp, ha.ev hx, Sem.run_bind, h1, Result.andThen_ok, Sem.run_pure]
    rfl) k
end
def KS3 : Str := [43, 61, 45]
theorem kind_k3 {k : Int} (h : 1 ≤ k ∧ k ≤ 3) : (KS3.drop (k - 1).toNat).take (k.toNat - (k - 1).toNat) = kindS k := by
  have : k = 1 ∨ k = 2 ∨ k = 3 := by omega
  rcases this with rfl | rfl | rfl <;> rfl
theorem aF (m : Mk) : Meets Tryz.prog F.M0 [.agg #[int m.1, int m.2.1, str m.2.2]] { val := fun _ : Unit => int (wErr m) } := by
 refine c4 F.gD rfl l5 fun w0 => ?_; refine a9 ?_; refine J9 rfl rfl fun gB => ?_; refine a8 rfl (a7 (b5 (a9 ?_)))
 first | refine a3 ⟨_, 0, none⟩ rfl rfl T.d9 rfl ?_ | refine a3 _ rfl rfl T.d9 rfl ?_
 refine a4 (v := int m.1) rfl T.a6 rfl (b7 m0 rfl) ?_; refine d6 F.dF rfl rfl (X7 _ _ _) (hpR := [_]) (.refl _) trivial fun _ _ => ?_; refine bH rfl rfl (a7 ?_)
 first | refine i8 rfl (fun hb1 => ?_) (fun hb1 => ?_) | refine b9 rfl (fun hb1 => ?_) (fun hb1 => ?_)
 ·have hb1' := hb1; try simp at hb1'
  refine a9 (a8 rfl (a7 (s6 ?_))); exact ret1 () rfl (congrArg (fun b => some (int b)) (by rw [wErr, if_pos (by simp at hb1; omega)])) rfl trivial i1 trivial
 have hb1' := hb1; try simp at hb1'
 refine c3 (b6 (b5 (a9 ?_)))
 first | refine a3 ⟨_, 1, none⟩ rfl rfl T.d8 rfl ?_ | refine a3 _ rfl rfl T.d8 rfl ?_
 refine a4 (v := int m.2.1) rfl T.a6 rfl (b7 m0 rfl) ?_; refine d6 F.dF rfl rfl (X7 _ _ _) (hpR := [_]) (.refl _) trivial fun _ _ => ?_; refine bH rfl rfl (a7 ?_)
 first | refine i8 rfl (fun hb2 => ?_) (fun hb2 => ?_) | refine b9 rfl (fun hb2 => ?_) (fun hb2 => ?_)
 ·have hb2' := hb2; try simp at hb2'
  refine a9 (a8 rfl (a7 (s6 ?_))); exact ret1 () rfl (congrArg (fun b => some (int b)) (by rw [wErr, if_neg (by simp at hb1; omega), if_pos (by simp at hb2; omega)])) rfl trivial i1 trivial
 have hb2' := hb2; try simp at hb2'
 refine c3 (b6 (b5 (a9 ?_)))
 first | refine a3 ⟨_, 0, none⟩ rfl rfl T.d9 rfl ?_ | refine a3 _ rfl rfl T.d9 rfl ?_
 refine a4 (v := int m.1) rfl T.a6 rfl (b7 m0 rfl) ?_; refine u9 rfl rfl rfl (a7 ?_)
 first | refine i8 rfl (fun hb3 => ?_) (fun hb3 => ?_) | refine b9 rfl (fun hb3 => ?_) (fun hb3 => ?_)
 ·have hb3' := hb3; try simp at hb3'
  refine a9 ?_
  first | refine a3 ⟨_, 2, none⟩ rfl rfl T.k6 rfl ?_ | refine a3 _ rfl rfl T.k6 rfl ?_
  refine a4 (v := str m.2.2) rfl T.j1 rfl (b7 m0 rfl) ?_; refine d6 F.X9 rfl rfl (P6 m.2.2) (hpR := [_]) (.refl _) trivial fun _ _ => ?_; refine a8 rfl (a7 (s6 ?_)); exact ret1 () rfl (congrArg (fun b => some (int b)) (by rw [wErr, if_neg (by simp at hb1; omega), if_neg (by simp at hb2; omega), jK (by omega)])) rfl trivial i1 trivial
 have hb3' := hb3; try simp at hb3'
 refine c3 (b6 (b5 (a9 ?_)))
 first | refine a3 ⟨_, 2, none⟩ rfl rfl T.k6 rfl ?_ | refine a3 _ rfl rfl T.k6 rfl ?_
 refine a4 (v := str m.2.2) rfl T.j1 rfl (b7 m0 rfl) ?_; refine jO rfl rfl rfl (a7 ?_)
 first | refine i8 rfl (fun hb4 => ?_) (fun hb4 => ?_) | refine b9 rfl (fun hb4 => ?_) (fun hb4 => ?_)
 ·have hb4' := hb4; try simp at hb4'
  refine a9 (a8 rfl (a7 (s6 ?_))); exact ret1 () rfl (congrArg (fun b => some (int b)) (by rw [wErr, if_neg (by simp at hb1; omega), if_neg (by simp at hb2; omega), aj8 (by omega) hb4])) rfl trivial i1 trivial
 have hb4' := hb4; try simp at hb4'
 refine c3 (b6 (a9 (a8 rfl (a7 (i6 ?_))))); exact ret1 () rfl (congrArg (fun b => some (int b)) (by rw [wErr, if_neg (by simp at hb1; omega), if_neg (by simp at hb2; omega), uB (by omega) (Classical.not_not.1 hb4)])) rfl trivial i1 trivial
theorem uR {p : UInt8 → Bool} {s : Str} {k : Nat} (hk : k < s.length) (h : (s.take k).all p = true) (h1 : p s[k] = true) : (s.take (k + 1)).all p = true := by
  rw [List.take_succ_eq_append_getElem hk, List.all_append, h]; simp [h1]
theorem qI {p : UInt8 → Bool} {s : Str} {k : Nat} (hk : k < s.length) (h : p s[k] = false) : ¬ s.all p = true := fun h1 => by
  rw [List.all_eq_true.1 h1 _ (List.getElem_mem hk)] at h; cases h
theorem aj1 {c : UInt8} (h : ¬ (c.toNat : Int) < 48) (h2 : ¬ 57 < (c.toNat : Int)) : isDig c = true := by
  unfold isDig; simp; omega
theorem cq4 {c : UInt8} (h : (c.toNat : Int) < 48) : isDig c = false := by unfold isDig; simp; omega
theorem cq5 {c : UInt8} (h : 57 < (c.toNat : Int)) : isDig c = false := by unfold isDig; simp; omega
theorem X8 (s : Str) (hl : s.length ≤ 1000000) : Meets Tryz.prog F.cN [str s] { val := fun z : Int × Bool => .tuple #[int z.1, .bool z.2], inv := fun z => numS s = if z.2 = true then some z.1 else none } := by
 refine c4 F.rA rfl l5 fun w0 => ?_; refine a9 (a8 rfl (a8 rfl (a7 (b5 (a9 (a5 rfl ?_)))))); refine l4 rfl T.i2 rfl ?_; refine r6 rfl rfl rfl (a5 rfl ?_); refine l3 rfl rfl ?_ ?_
 ·intro hg1; have hg1' := hg1; try simp at hg1'
  refine c9 rfl rfl hg1 (a5 rfl (c9 rfl rfl hg1 ?_)); refine l4 rfl T.i2 rfl ?_; refine c9 rfl rfl hg1 (v9 rfl rfl rfl ?_); refine p_f rfl rfl (bf1 hg1) rfl (a5 rfl ?_); refine l3 rfl rfl ?_ ?_
  ·intro hg2; have hg2' := hg2; try simp at hg2'
   refine c9 rfl rfl hg2 (a5 rfl (c9 rfl rfl hg2 ?_)); refine q7 0 rfl T.i2 rfl rfl rfl (List.getElem?_eq_getElem (by first | omega | exact List.length_pos_iff.2 (by assumption))) ?_; refine c9 rfl rfl hg2 (t8 rfl rfl rfl (c9 rfl rfl hg2 (a5 rfl ?_))); refine l3 rfl rfl ?_ ?_
   ·intro hg3; have hg3' := hg3; try simp at hg3'
    refine c9 rfl rfl hg3 (a5 rfl (c9 rfl rfl hg3 ?_)); refine l4 rfl T.i2 rfl ?_; refine c9 rfl rfl hg3 (v9 rfl rfl rfl (c9 rfl rfl hg2 ?_)); refine p_t rfl rfl (bt1 hg3) rfl (p_f rfl rfl (bf1 hg2) rfl ?_); refine a7 ?_
    first | refine i8 rfl (fun hb1 => ?_) (fun hb1 => ?_) | refine b9 rfl (fun hb1 => ?_) (fun hb1 => ?_)
    ·have hb1' := hb1; try simp at hb1'
     refine a9 (a8 rfl (a8 rfl (a7 (s6 ?_)))); exact ret2 (0, false) rfl rfl rfl rfl rfl (W9 (by omega) (by omega) (by omega)) i1 trivial
    have hb1' := hb1; try simp at hb1'
    refine c3 (b6 (a9 (a8 rfl (a7 (b5 (a9 (a8 rfl (b3 ?_)))))))); refine b6 (j0 ?_); refine s9 (β := Nat) ⟨fun k => k ≤ s.length ∧ (s.take k).all isDig = true, fun k => [(0, str s), (4, int (numV (s.take k))), (5, int k)], fun _ => [], fun _ => []⟩ (fun k => s.length - k) 0 ⟨Nat.zero_le _, rfl⟩ mC i1 trivial fun k hk => ?_; obtain ⟨hk0, hall⟩ := hk; have hbd := lR hall (by rw [List.length_take]; omega); refine b5 (a9 (a5 rfl (a5 rfl ?_))); refine l4 rfl T.i2 rfl ?_; refine r6 rfl rfl rfl (a7 ?_)
    first | refine i8 rfl (fun hb2 => ?_) (fun hb2 => ?_) | refine b9 rfl (fun hb2 => ?_) (fun hb2 => ?_)
    ·have hb2' := hb2; try simp at hb2'
     have hk1 : k < s.length := by omega
     refine c3 (b6 (b5 (j0 (b5 (a9 (a5 rfl (a5 rfl ?_))))))); refine q7 k rfl T.i2 rfl rfl rfl (List.getElem?_eq_getElem hk1) ?_; refine r6 rfl rfl rfl (a5 rfl ?_); refine l3 rfl rfl ?_ ?_
     ·intro hg4; have hg4' := hg4; try simp at hg4'
      refine c9 rfl rfl hg4 (a5 rfl (c9 rfl rfl hg4 (a5 rfl (c9 rfl rfl hg4 ?_)))); refine q7 k rfl T.i2 rfl rfl rfl (List.getElem?_eq_getElem hk1) ?_; refine c9 rfl rfl hg4 (v9 rfl rfl rfl ?_); refine p_f rfl rfl (bf1 hg4) rfl ?_; refine a7 ?_
      first | refine i8 rfl (fun hb3 => ?_) (fun hb3 => ?_) | refine b9 rfl (fun hb3 => ?_) (fun hb3 => ?_)
      ·have hb3' := hb3; try simp at hb3'
       refine a9 (a8 rfl (a8 rfl (a7 (s6 (t5 (l6 (C3 ?_))))))); refine l6 ?_; exact ret2 (0, false) rfl rfl rfl rfl rfl (H5 (qI hk1 (cq5 (by omega)))) i1 trivial
      have hb3' := hb3; try simp at hb3'
      have hall2 : (s.take (k + 1)).all isDig = true := uR hk1 hall (aj1 (by omega) (by omega)); refine c3 (b6 (c6 (a5 rfl ?_))); refine xH (numV (s.take k) * 10) rfl rfl rfl (by omega) l9 ?_; refine a5 rfl (a5 rfl ?_); refine q7 k rfl T.i2 rfl rfl rfl (List.getElem?_eq_getElem hk1) ?_; refine D2 (.int .u8 ((s[k].toNat : Int) - 48)) rfl rfl rfl (fun _ => rfl) (fun w => by show Result.ok (Value.int .u8 (IntKind.u8.wrap ((s[k].toNat : Int) - 48))) w = _; rw [IntWalk.u8_in _ (by omega)]) ?_; refine mW ((s[k].toNat : Int) - 48) rfl T.uY T.nY rfl (IntWalk.i64_in _ (by omega)) ?_; refine p7 (numV (s.take (k + 1))) rfl rfl rfl (nF hk1).symm (by have := lR hall2 (by rw [List.length_take]; omega); unfold I64; omega) ?_; refine a8 rfl (b3 (q9 (b6 (c6 (a5 rfl ?_))))); refine p7 _ rfl rfl rfl rfl l9 ?_; refine a8 rfl (b3 ?_); exact again _ (k + 1) ⟨by show k + 1 ≤ s.length; omega, hall2⟩ (y5 (by omega)) mC i1 trivial
     intro hg4; have hg4' := hg4; try simp at hg4'
     refine k5 rfl rfl rfl rfl rfl hg4 (k5 rfl rfl rfl rfl rfl hg4 (k5 rfl rfl rfl rfl rfl hg4 (k5 rfl rfl rfl rfl rfl hg4 ?_))); refine p_t rfl rfl (bt2 hg4) rfl ?_; refine a7 (c_t rfl rfl (a9 (a8 rfl (a8 rfl (a7 (s6 (C3 ?_))))))); refine zP (t5 ?_); exact ret2 (0, false) rfl rfl rfl rfl rfl (H5 (qI hk1 (cq4 (by omega)))) i1 trivial
    have hb2' := hb2; try simp at hb2'
    have hk1 : k = s.length := by omega
    rw [hk1, List.take_length] at hall; refine n5 (y6 (n4 (b6 (a9 (a5 rfl (a8 rfl (a8 rfl (a7 ?_)))))))); refine i6 ?_; exact ret2 (numV s, true) rfl (by rw [hk1, List.take_length]; rfl) rfl rfl rfl (lP (by omega) (by omega) (fun h => by omega) hall) i1 trivial
   intro hg3; have hg3' := hg3; try simp at hg3'
   refine k5 rfl rfl rfl rfl rfl hg3 (k5 rfl rfl rfl rfl rfl hg3 (k5 rfl rfl rfl rfl rfl hg3 (c9 rfl rfl hg2 ?_))); refine p_f rfl rfl (bf2 hg3) rfl (p_f rfl rfl (bf1 hg2) rfl ?_); refine a7 (c_f rfl rfl (c3 (b6 (a9 (a8 rfl (a7 (kK ?_))))))); refine c6 (a8 rfl (a7 (j0 ?_))); refine s9 (β := Nat) ⟨fun k => k ≤ s.length ∧ (s.take k).all isDig = true, fun k => [(0, str s), (4, int (numV (s.take k))), (5, int k)], fun _ => [], fun _ => []⟩ (fun k => s.length - k) 0 ⟨Nat.zero_le _, rfl⟩ mC i1 trivial fun k hk => ?_; obtain ⟨hk0, hall⟩ := hk; have hbd := lR hall (by rw [List.length_take]; omega); refine b5 (a9 (a5 rfl (a5 rfl ?_))); refine l4 rfl T.i2 rfl ?_; refine r6 rfl rfl rfl (a7 ?_)
   first | refine i8 rfl (fun hb2 => ?_) (fun hb2 => ?_) | refine b9 rfl (fun hb2 => ?_) (fun hb2 => ?_)
   ·have hb2' := hb2; try simp at hb2'
    have hk1 : k < s.length := by omega
    refine c3 (b6 (b5 (j0 (b5 (a9 (a5 rfl (a5 rfl ?_))))))); refine q7 k rfl T.i2 rfl rfl rfl (List.getElem?_eq_getElem hk1) ?_; refine r6 rfl rfl rfl (a5 rfl ?_); refine l3 rfl rfl ?_ ?_
    ·intro hg5; have hg5' := hg5; try simp at hg5'
     refine c9 rfl rfl hg5 (a5 rfl (c9 rfl rfl hg5 (a5 rfl (c9 rfl rfl hg5 ?_)))); refine q7 k rfl T.i2 rfl rfl rfl (List.getElem?_eq_getElem hk1) ?_; refine c9 rfl rfl hg5 (v9 rfl rfl rfl ?_); refine p_f rfl rfl (bf1 hg5) rfl ?_; refine a7 ?_
     first | refine i8 rfl (fun hb3 => ?_) (fun hb3 => ?_) | refine b9 rfl (fun hb3 => ?_) (fun hb3 => ?_)
     ·have hb3' := hb3; try simp at hb3'
      refine a9 (a8 rfl (a8 rfl (a7 (s6 (t5 (l6 (C3 ?_))))))); refine l6 ?_; exact ret2 (0, false) rfl rfl rfl rfl rfl (H5 (qI hk1 (cq5 (by omega)))) i1 trivial
     have hb3' := hb3; try simp at hb3'
     have hall2 : (s.take (k + 1)).all isDig = true := uR hk1 hall (aj1 (by omega) (by omega)); refine c3 (b6 (c6 (a5 rfl ?_))); refine xH (numV (s.take k) * 10) rfl rfl rfl (by omega) l9 ?_; refine a5 rfl (a5 rfl ?_); refine q7 k rfl T.i2 rfl rfl rfl (List.getElem?_eq_getElem hk1) ?_; refine D2 (.int .u8 ((s[k].toNat : Int) - 48)) rfl rfl rfl (fun _ => rfl) (fun w => by show Result.ok (Value.int .u8 (IntKind.u8.wrap ((s[k].toNat : Int) - 48))) w = _; rw [IntWalk.u8_in _ (by omega)]) ?_; refine mW ((s[k].toNat : Int) - 48) rfl T.uY T.nY rfl (IntWalk.i64_in _ (by omega)) ?_; refine p7 (numV (s.take (k + 1))) rfl rfl rfl (nF hk1).symm (by have := lR hall2 (by rw [List.length_take]; omega); unfold I64; omega) ?_; refine a8 rfl (b3 (q9 (b6 (c6 (a5 rfl ?_))))); refine p7 _ rfl rfl rfl rfl l9 ?_; refine a8 rfl (b3 ?_); exact again _ (k + 1) ⟨by show k + 1 ≤ s.length; omega, hall2⟩ (y5 (by omega)) mC i1 trivial
    intro hg5; have hg5' := hg5; try simp at hg5'
    refine k5 rfl rfl rfl rfl rfl hg5 (k5 rfl rfl rfl rfl rfl hg5 (k5 rfl rfl rfl rfl rfl hg5 (k5 rfl rfl rfl rfl rfl hg5 ?_))); refine p_t rfl rfl (bt2 hg5) rfl ?_; refine a7 (c_t rfl rfl (a9 (a8 rfl (a8 rfl (a7 (s6 (C3 ?_))))))); refine zP (t5 ?_); exact ret2 (0, false) rfl rfl rfl rfl rfl (H5 (qI hk1 (cq4 (by omega)))) i1 trivial
   have hb2' := hb2; try simp at hb2'
   have hk1 : k = s.length := by omega
   rw [hk1, List.take_length] at hall; refine n5 (y6 (n4 (b6 (a9 (a5 rfl (a8 rfl (a8 rfl (a7 ?_)))))))); refine i6 ?_; exact ret2 (numV s, true) rfl (by rw [hk1, List.take_length]; rfl) rfl rfl rfl (lP (by omega) (by omega) (fun h => by omega) hall) i1 trivial
  intro hg2; have hg2' := hg2; try simp at hg2'
  refine k5 rfl rfl rfl rfl rfl hg2 (k5 rfl rfl rfl rfl rfl hg2 (k5 rfl rfl rfl rfl rfl hg2 (k5 rfl rfl rfl rfl rfl hg2 (L4 rfl rfl rfl rfl rfl rfl (L4 rfl rfl rfl rfl rfl rfl (L4 rfl rfl rfl rfl rfl rfl (k5 rfl rfl rfl rfl rfl hg2 ?_))))))); refine p_t rfl rfl (bt2 hg2) rfl ?_; refine a7 (c_t rfl rfl (a9 (a8 rfl (a8 rfl (a7 (s6 ?_)))))); exact ret2 (0, false) rfl rfl rfl rfl rfl (C7 (by omega)) i1 trivial
 intro hg1; have hg1' := hg1; try simp at hg1'
 refine k5 rfl rfl rfl rfl rfl hg1 (k5 rfl rfl rfl rfl rfl hg1 (k5 rfl rfl rfl rfl rfl hg1 ?_)); refine p_t rfl rfl (bt2 hg1) rfl ?_; refine a5 rfl (k5 rfl rfl rfl rfl rfl rfl (k5 rfl rfl rfl rfl rfl rfl (k5 rfl rfl rfl rfl rfl rfl (k5 rfl rfl rfl rfl rfl rfl (L4 rfl rfl rfl rfl rfl rfl (L4 rfl rfl rfl rfl rfl rfl (L4 rfl rfl rfl rfl rfl rfl (k5 rfl rfl rfl rfl rfl rfl (p_t rfl rfl rfl rfl (a7 ?_)))))))))); refine c_t rfl rfl (a9 (a8 rfl (a8 rfl (a7 (s6 ?_))))); exact ret2 (0, false) rfl rfl rfl rfl rfl (C7 (by omega)) i1 trivial
end Go.Proofs.YtegfgegnhjkcfaaGreatDoor
end
section
namespace Go.Proofs.YtegfgegnhjkcfaaGreatDoor
open Go Go.W
set_option maxRecDepth 20000
attribute [local irreducible] HL HC HQ HB Row Rows2 Blk Facts
theorem bz8 {c : UInt8} (h1 : ¬ (c.toNat : Int) = 43) (h2 : ¬ (c.toNat : Int) = 61) (h3 : ¬ (c.toNat : Int) = 45) : Lib.indexByte K4 c < 1 := by
  have h7 := W5 c K4
  rcases h7 with ⟨e, _⟩ | ⟨i, e, hi, _, hg, _⟩
  · omega
  have hi4 : i < 4 := hi; have : i = 0 ∨ i = 1 ∨ i = 2 ∨ i = 3 := by omega
  rcases this with rfl | rfl | rfl | rfl
  · omega
  · exact absurd (by rw [← Option.some.inj hg]; rfl) h1
  · exact absurd (by rw [← Option.some.inj hg]; rfl) h2
  exact absurd (by rw [← Option.some.inj hg]; rfl) h3
theorem mk_none {c : UInt8} {r : Str} (h : Lib.indexByte K4 c < 1) : markS (c :: r) = none := by
  rw [markS, markK, if_pos (.inl h)]
theorem mk_no1 {c : UInt8} {r : Str} {k : Int} (hk : Lib.indexByte K4 c = k) (h3 : ¬ k = 3) (h : cutB 32 r = (r, [], false)) : markS (c :: r) = none := by
  rw [markS, hk, markK, if_pos (.inr (by rw [h]; simp [h3]))]
theorem mk_no2 {c : UInt8} {r p q : Str} {k : Int} (hk : Lib.indexByte K4 c = k) (h3 : ¬ k = 3) (h : cutB 32 r = (p, q, true)) (he : ¬ lineErr q = 0) : markS (c :: r) = none := by
  rw [markS, hk, markK, h]
  split
  · rfl
  split
  · rfl
  rw [if_neg]; rw [jK h3]; exact he
theorem mk_in {c : UInt8} {r p q : Str} {k n : Int} {b : Bool} (hk : Lib.indexByte K4 c = k) (h1 : 1 ≤ k) (h3 : ¬ k = 3) (h : cutB 32 r = (p, q, true)) (he : lineErr q = 0) (hn : numS p = if b = true then some n else none) : markS (c :: r) = if b = true then some (k, n, q) else none := by
  rw [markS, hk, markK, h, if_neg (by simp [h3]; omega)]
  simp only
  rw [hn]
  cases b with
  | false => rfl
  | true =>
    simp only [if_true]; rw [if_pos]; rw [jK h3]; exact he
theorem mk_out {c : UInt8} {r : Str} {n : Int} {b : Bool} (hk : Lib.indexByte K4 c = 3) (hn : numS r = if b = true then some n else none) : markS (c :: r) = if b = true then some (3, n, []) else none := by
  rw [markS, hk, markK]
  cases hc : (cutB 32 r).2.2 with
  | false =>
    rw [cx0 hc, if_neg (by simp)]
    simp only
    rw [hn]
    cases b <;> simp [uB]
  | true =>
    rw [if_pos (by simp)]
    have hno : numS r = none := H5 (fun h => by
      have h2 := cq9 hc; have h3 : (32 : UInt8) ∈ r := by rw [h2]; simp
      have := List.all_eq_true.1 h _ h3
      revert this; decide)
    rw [hno] at hn
    cases b with
    | false => rfl
    | true => cases hn
theorem cut_in {r : Str} {i : Nat} (hi : i < r.length) (hn : (32 : UInt8) ∉ r.take i) (he : (r[i].toNat : Int) = 32) : cutB 32 r = (r.take i, r.drop (i + 1), true) := by
  have h1 : r[i] = 32 := (R9 (n := 32) (by decide)).1 he; have h2 := wN (b := 32) (r.drop (i + 1)) hn; rw [← h1] at h2; rw [← List.drop_eq_getElem_cons hi, List.take_append_drop] at h2; rw [h1] at h2; exact h2
theorem bz5 {b : UInt8} {s : Str} {i : Nat} (hi : i < s.length) (h : b ∉ s.take i) (h1 : ¬ s[i] = b) : b ∉ s.take (i + 1) := by
  rw [List.take_succ_eq_append_getElem hi]; simp only [List.mem_append, List.mem_cons, List.not_mem_nil, or_false, not_or]; exact ⟨h, fun e => h1 e.symm⟩
abbrev MO (g : Nat) (m : Mk) : Nat × Obj := (g, Obj.cells #[int m.1, int m.2.1, str m.2.2] T.cB (0, 0))
set_option maxHeartbeats 1000000 in
theorem jM (s : Str) (hl : s.length ≤ 1000000) : Meets Tryz.prog F.cM [str s] { val := fun z : Mk × Bool => .tuple #[.agg #[int z.1.1, int z.1.2.1, str z.1.2.2], .bool z.2], inv := fun z => markS s = if z.2 = true then some z.1 else none } := by
 refine c4 F.qZ rfl l5 fun w0 => ?_; refine a9 ?_; refine r9 rfl (fun _ => T.u1 _) fun g2 => ?_; refine a8 rfl (a7 (b5 (a9 (a5 rfl (aG rfl rfl rfl (a7 ?_))))))
 first | refine i8 rfl (fun hb1 => ?_) (fun hb1 => ?_) | refine b9 rfl (fun hb1 => ?_) (fun hb1 => ?_)
 ·have hb1' := hb1; try simp at hb1'
  refine a9 ?_; refine t4 _ rfl rfl (fun _ => T.W6 ..) (n1 (cs := #[int 0, int 0, str []]) rfl rfl (.refl _) T.c7 (by rfl) (by rfl) ?_); refine a8 rfl (a7 (s6 ?_)); exact t6 ((0, 0, []), false) rfl rfl rfl T.j2 T.c7 rfl (by first | exact m0 | exact List.mem_cons_self | exact List.mem_cons_of_mem _ List.mem_cons_self) rfl rfl (by rw [show s = [] from hb1]; rfl) i1 trivial
 have hb1' := hb1; try simp at hb1'
 obtain ⟨c, r, rfl⟩ : ∃ c r, s = c :: r := by cases s with | nil => exact absurd rfl hb1 | cons c r => exact ⟨c, r, rfl⟩
 have hr : r.length ≤ 1000000 := by rw [List.length_cons] at hl; omega
 refine c3 (b6 (a9 ?_)); refine r9 rfl (fun _ => T.u1 _) fun g4 => ?_; refine a7 ?_; refine aS (⟨fun k : Int => (1 ≤ k ∧ k ≤ 3) ∧ Lib.indexByte K4 c = k, fun _ => [(0, str (c :: r)), (2, .pointer (j4 g2)), (4, .pointer (j4 g4))], fun k => [MO g4 (k, 0, []), MO g2 (0, 0, [])], fun _ => []⟩ : Sta Int) ?_ ?_
 ·skip
  refine a9 (a5 rfl ?_); refine q7 (s := c :: r) 0 rfl T.i2 rfl rfl rfl (show (c :: r)[0]? = some c from rfl) ?_; refine a7 (j0 (a9 (t8 rfl rfl rfl (a8 rfl (a7 ?_)))))
  first | refine i8 rfl (fun hb2 => ?_) (fun hb2 => ?_) | refine b9 rfl (fun hb2 => ?_) (fun hb2 => ?_)
  ·have hb2' := hb2; try simp at hb2'
   refine c6 ?_
   first | refine a3 ⟨_, 0, none⟩ rfl rfl T.d9 rfl ?_ | refine a3 _ rfl rfl T.d9 rfl ?_
   refine n7 rfl rfl (.refl _) T.D8 (by rfl) (by rfl) ?_; refine b3 (q9 ?_); exact J4 _ (1 : Int) ⟨by omega, by have := (R9 (u := c) (n := 43) (by decide)).1 (by assumption); rw [this]; rfl⟩ mC (.refl _) trivial
  have hb2' := hb2; try simp at hb2'
  refine a9 (t8 rfl rfl rfl (a8 rfl (a7 ?_)))
  first | refine i8 rfl (fun hb3 => ?_) (fun hb3 => ?_) | refine b9 rfl (fun hb3 => ?_) (fun hb3 => ?_)
  ·have hb3' := hb3; try simp at hb3'
   refine c6 ?_
   first | refine a3 ⟨_, 0, none⟩ rfl rfl T.d9 rfl ?_ | refine a3 _ rfl rfl T.d9 rfl ?_
   refine n7 rfl rfl (.refl _) T.D8 (by rfl) (by rfl) ?_; refine b3 (q9 ?_); exact J4 _ (2 : Int) ⟨by omega, by have := (R9 (u := c) (n := 61) (by decide)).1 (by assumption); rw [this]; rfl⟩ mC (.refl _) trivial
  have hb3' := hb3; try simp at hb3'
  refine a9 (t8 rfl rfl rfl (a8 rfl (a7 ?_)))
  first | refine i8 rfl (fun hb4 => ?_) (fun hb4 => ?_) | refine b9 rfl (fun hb4 => ?_) (fun hb4 => ?_)
  ·have hb4' := hb4; try simp at hb4'
   refine c6 ?_
   first | refine a3 ⟨_, 0, none⟩ rfl rfl T.d9 rfl ?_ | refine a3 _ rfl rfl T.d9 rfl ?_
   refine n7 rfl rfl (.refl _) T.D8 (by rfl) (by rfl) ?_; refine b3 (q9 ?_); exact J4 _ (3 : Int) ⟨by omega, by have := (R9 (u := c) (n := 45) (by decide)).1 (by assumption); rw [this]; rfl⟩ mC (.refl _) trivial
  have hb4' := hb4; try simp at hb4'
  refine a9 ?_; refine t4 _ rfl rfl (fun _ => T.W6 ..) (n1 (cs := #[int 0, int 0, str []]) rfl rfl (.swap _ _ _) T.c7 (by rfl) (by rfl) ?_); refine a8 rfl (a7 (i6 (t5 ?_))); exact t6 ((0, 0, []), false) rfl rfl rfl T.j2 T.c7 rfl (by first | exact m0 | exact List.mem_cons_self | exact List.mem_cons_of_mem _ List.mem_cons_self) rfl rfl (mk_none (bz8 hb2 hb3 hb4)) i1 trivial
 intro k hk; obtain ⟨hk13, hkc⟩ := hk; refine a9 (a5 rfl ?_); refine B3 (s := c :: r) 1 rfl T.i2 rfl rfl rfl (by rw [List.length_cons]; omega) ?_; refine a8 rfl (a7 (b5 (a9 ?_)))
 first | refine a3 ⟨_, 0, none⟩ rfl rfl T.d9 rfl ?_ | refine a3 _ rfl rfl T.d9 rfl ?_
 refine a4 (v := int k) rfl T.a6 rfl (b7 m0 rfl) ?_; refine u9 rfl rfl rfl (a7 ?_)
 first | refine i8 rfl (fun hb5 => ?_) (fun hb5 => ?_) | refine b9 rfl (fun hb5 => ?_) (fun hb5 => ?_)
 ·have hb5' := hb5; try simp at hb5'
  refine a9 (a8 rfl (a7 ?_)); refine aS (⟨fun i : Nat => (i ≤ r.length ∧ (32 : UInt8) ∉ r.take i) ∧ ∀ h : i < r.length, (r[i].toNat : Int) = 32, fun i => [(0, str r), (2, .pointer (j4 g2)), (4, .pointer (j4 g4)), (5, int i)], fun i => [MO g4 (k, 0, []), MO g2 (0, 0, [])], fun _ => []⟩ : Sta Nat) ?_ ?_
  ·skip
   refine j0 ?_; refine s9 (β := Nat) ⟨fun i => i ≤ r.length ∧ (32 : UInt8) ∉ r.take i, fun i => [(0, str r), (2, .pointer (j4 g2)), (4, .pointer (j4 g4)), (5, int i)], fun i => [MO g4 (k, 0, []), MO g2 (0, 0, [])], fun _ => []⟩ (fun i => r.length - i) 0 ⟨Nat.zero_le _, by simp⟩ mC (.refl _) trivial fun i hi => ?_; obtain ⟨hi0, hin⟩ := hi; refine b5 (a9 (a5 rfl (a5 rfl ?_))); refine l4 rfl T.i2 rfl ?_; refine r6 rfl rfl rfl (a5 rfl ?_); refine l3 rfl rfl ?_ ?_
   ·intro hg1; have hg1' := hg1; try simp at hg1'
    have hil : i < r.length := by simp at hg1; omega
    refine c9 rfl rfl hg1 (a5 rfl (c9 rfl rfl hg1 (a5 rfl (c9 rfl rfl hg1 ?_)))); refine q7 i rfl T.i2 rfl rfl rfl (List.getElem?_eq_getElem (by simp at hg1; omega)) ?_; refine c9 rfl rfl hg1 (u9 rfl rfl rfl ?_); refine p_t rfl rfl (bt1 hg1) rfl ?_; refine a7 ?_
    first | refine i8 rfl (fun hb6 => ?_) (fun hb6 => ?_) | refine b9 rfl (fun hb6 => ?_) (fun hb6 => ?_)
    ·have hb6' := hb6; try simp at hb6'
     refine c3 (b6 (j0 (c6 (a5 rfl ?_)))); refine p7 _ rfl rfl rfl rfl l9 ?_; refine a8 rfl (b3 (q9 ?_)); exact again _ (i + 1) ⟨by show i + 1 ≤ r.length; omega, bz5 hil hin (fun e => hb6 (by rw [e]; rfl))⟩ (y5 (by omega)) mC (.refl _) trivial
    have hb6' := hb6; try simp at hb6'
    refine n5 (y6 (n4 ?_)); exact J4 _ i ⟨⟨hi0, hin⟩, fun _ => Classical.not_not.1 hb6⟩ mC (.refl _) trivial
   intro hg1; have hg1' := hg1; try simp at hg1'
   have hil : i = r.length := by simp at hg1; omega
   refine k5 rfl rfl rfl rfl rfl hg1 (k5 rfl rfl rfl rfl rfl hg1 (k5 rfl rfl rfl rfl rfl hg1 (k5 rfl rfl rfl rfl rfl hg1 ?_))); refine p_f rfl rfl (bf2 hg1) rfl ?_; refine a7 (c_f rfl rfl (n5 (y6 (n4 ?_)))); exact J4 _ i ⟨⟨hi0, hin⟩, fun h => absurd h (by omega)⟩ mC (.refl _) trivial
  intro i hi; obtain ⟨⟨hi0, hin⟩, hie⟩ := hi; refine b5 (a9 (a5 rfl (a5 rfl ?_))); refine l4 rfl T.i2 rfl ?_; refine t8 rfl rfl rfl (a5 rfl ?_); refine l3 rfl rfl ?_ ?_
  ·intro hg2; have hg2' := hg2; try simp at hg2'
   have hil : i < r.length := by simp at hg2; omega
   have hcu := cut_in hil hin (hie hil); have hdl : (r.drop (i + 1)).length ≤ 1000000 := by rw [List.length_drop]; omega
   refine c9 rfl rfl hg2 (a5 rfl (c9 rfl rfl hg2 (a5 rfl (c9 rfl rfl hg2 ?_)))); refine p7 _ rfl rfl rfl rfl l9 (c9 rfl rfl hg2 (B3 (s := r) (i + 1) rfl T.i2 rfl rfl (by omega) (by omega) (c9 rfl rfl hg2 ?_))); refine d6 F.X9 rfl rfl (P6 (r.drop (i + 1))) (hpR := [MO g4 (k, 0, []), MO g2 (0, 0, [])]) (.refl _) trivial fun _ _ => ?_; refine c9 rfl rfl hg2 (u9 rfl rfl rfl ?_); refine p_f rfl rfl (bf1 hg2) rfl ?_; refine a7 ?_
   first | refine i8 rfl (fun hb7 => ?_) (fun hb7 => ?_) | refine b9 rfl (fun hb7 => ?_) (fun hb7 => ?_)
   ·have hb7' := hb7; try simp at hb7'
    refine a9 ?_; refine t4 _ rfl rfl (fun _ => T.W6 ..) (n1 (cs := #[int 0, int 0, str []]) rfl rfl (.swap _ _ _) T.c7 (by rfl) (by rfl) ?_); refine a8 rfl (a7 (s6 (l6 ?_))); exact t6 ((0, 0, []), false) rfl rfl rfl T.j2 T.c7 rfl (by first | exact m0 | exact List.mem_cons_self | exact List.mem_cons_of_mem _ List.mem_cons_self) rfl rfl (mk_no2 hkc hb5 hcu (by assumption)) i1 trivial
   have hb7' := hb7; try simp at hb7'
   refine c3 (b6 (a9 (a5 rfl (a5 rfl ?_)))); refine p7 _ rfl rfl rfl rfl l9 (B3 (s := r) (i + 1) rfl T.i2 rfl rfl (by omega) (by omega) ?_)
   first | refine a3 ⟨_, 2, none⟩ rfl rfl T.k6 rfl ?_ | refine a3 _ rfl rfl T.k6 rfl ?_
   refine n7 rfl rfl (.refl _) T.v8 (by rfl) (by rfl) ?_; refine a7 (c6 (a5 rfl (a5 rfl ?_))); refine I8 (s := r) i rfl T.i2 rfl rfl (by omega) (by omega) ?_; refine a8 rfl (k9 (a5 rfl ?_)); refine d6 F.dG rfl rfl (X8 (r.take i) (by first | omega | (rw [List.length_take]; omega))) (hpR := [MO g4 (k, 0, r.drop (i + 1)), MO g2 (0, 0, [])]) (.refl _) trivial fun z hzn => ?_; obtain ⟨zn, zb⟩ := z; simp only at hzn; refine a5 rfl (k4 rfl rfl rfl (k4 rfl rfl rfl (a8 rfl (a8 rfl (k9 (a5 rfl ?_))))))
   first | refine a3 ⟨_, 1, none⟩ rfl rfl T.d8 rfl ?_ | refine a3 _ rfl rfl T.d8 rfl ?_
   refine n7 rfl rfl (.refl _) T.D8 (by rfl) (by rfl) ?_; refine k9 ?_; refine w7 rfl T.j2 T.c7 rfl (cs := #[int k, int zn, str (r.drop (i + 1))]) m0 (by rfl) (a5 rfl (n1 (cs := #[int k, int zn, str (r.drop (i + 1))]) rfl rfl (.swap _ _ _) T.c7 (by rfl) (by rfl) ?_)); refine a8 rfl (a7 (i6 ?_)); exact t6 ((k, zn, r.drop (i + 1)), zb) rfl rfl rfl T.j2 T.c7 rfl (by first | exact m0 | exact List.mem_cons_self | exact List.mem_cons_of_mem _ List.mem_cons_self) rfl rfl (mk_in hkc hk13.1 hb5 hcu (by omega) hzn) i1 trivial
  intro hg2; have hg2' := hg2; try simp at hg2'
  have hil : i = r.length := by simp at hg2; omega
  have hcu : cutB 32 r = (r, [], false) := wM (by rw [hil, List.take_length] at hin; exact hin); refine k5 rfl rfl rfl rfl rfl hg2 (k5 rfl rfl rfl rfl rfl hg2 (k5 rfl rfl rfl rfl rfl hg2 (k5 rfl rfl rfl rfl rfl hg2 (k5 rfl rfl rfl rfl rfl hg2 (k5 rfl rfl rfl rfl rfl hg2 ?_))))); refine p_t rfl rfl (bt2 hg2) rfl ?_; refine a7 (c_t rfl rfl (a9 ?_)); refine t4 _ rfl rfl (fun _ => T.W6 ..) (n1 (cs := #[int 0, int 0, str []]) rfl rfl (.swap _ _ _) T.c7 (by rfl) (by rfl) ?_); refine a8 rfl (a7 (s6 (l6 ?_))); exact t6 ((0, 0, []), false) rfl rfl rfl T.j2 T.c7 rfl (by first | exact m0 | exact List.mem_cons_self | exact List.mem_cons_of_mem _ List.mem_cons_self) rfl rfl (mk_no1 hkc hb5 hcu) i1 trivial
 have hb5' := hb5; try simp at hb5'
 refine c3 (b6 (a9 (a5 rfl ?_))); refine d6 F.dG rfl rfl (X8 r (by first | omega | (rw [List.length_take]; omega))) (hpR := [MO g4 (k, 0, []), MO g2 (0, 0, [])]) (.refl _) trivial fun z hzn => ?_; obtain ⟨zn, zb⟩ := z; simp only at hzn; refine a5 rfl (k4 rfl rfl rfl (k4 rfl rfl rfl (a8 rfl (a8 rfl (k9 (a5 rfl ?_))))))
 first | refine a3 ⟨_, 1, none⟩ rfl rfl T.d8 rfl ?_ | refine a3 _ rfl rfl T.d8 rfl ?_
 refine n7 rfl rfl (.refl _) T.D8 (by rfl) (by rfl) ?_; refine k9 ?_; refine w7 rfl T.j2 T.c7 rfl (cs := #[int k, int zn, str []]) m0 (by rfl) (a5 rfl (n1 (cs := #[int k, int zn, str []]) rfl rfl (.swap _ _ _) T.c7 (by rfl) (by rfl) ?_)); refine a8 rfl (a7 (i6 ?_)); have hk3 : k = 3 := by omega
 subst hk3; exact t6 ((3, zn, []), zb) rfl rfl rfl T.j2 T.c7 rfl (by first | exact m0 | exact List.mem_cons_self | exact List.mem_cons_of_mem _ List.mem_cons_self) rfl rfl (mk_out hkc hzn) i1 trivial
structure RdI (x : Str) (l : List Mk) (o : OutC) (og : Hp) (f i : Nat) : Prop where
  fi : f ≤ i
  il : i ≤ x.length
  no : (47 : UInt8) ∉ (x.drop f).take (i - f)
  eq : ∃ n, (x.drop f).length ≤ n ∧ readF x.length x [] = readF n (x.drop f) l
  g : GrowM o l og
  ll : l.length ≤ f
theorem RdI.new (x : Str) : RdI x [] (none, 0) [] 0 0 := ⟨Nat.le_refl _, Nat.zero_le _, by simp, ⟨x.length, by simp, by simp⟩, Grow.nil _ _, Nat.le_refl _⟩
theorem aj0 {x : Str} {f i : Nat} (hf : f ≤ i) (hi : i < x.length) : (x.drop f)[i - f]? = some x[i] := by
  rw [List.getElem?_drop, Nat.add_sub_cancel' hf, List.getElem?_eq_getElem hi]
theorem aj9 {x : Str} {f i : Nat} (hf : f ≤ i) (hi : i < x.length) : (x.drop f).take (i + 1 - f) = (x.drop f).take (i - f) ++ [x[i]] := by
  have h := aj0 hf hi; obtain ⟨h1, h2⟩ := List.getElem?_eq_some_iff.1 h; rw [show i + 1 - f = (i - f) + 1 by omega, List.take_succ_eq_append_getElem h1, h2]
theorem RdI.skip {x : Str} {l : List Mk} {o : OutC} {og : Hp} {f i : Nat} (h : RdI x l o og f i) (hi : i < x.length) (hn : ¬ x[i] = 47) : RdI x l o og f (i + 1) := by
  refine ⟨by have := h.fi; omega, by omega, ?_, h.eq, h.g, h.ll⟩; rw [aj9 h.fi hi]; simp only [List.mem_append, List.mem_cons, List.not_mem_nil, or_false, not_or]; exact ⟨h.no, fun e => hn e.symm⟩
theorem RdI.cut {x : Str} {l : List Mk} {o : OutC} {og : Hp} {f i : Nat} (h : RdI x l o og f i) (hi : i < x.length) (hn : x[i] = 47) : cutB 47 (x.drop f) = ((x.drop f).take (i - f), x.drop (i + 1), true) := by
  have h0 := aj0 h.fi hi; obtain ⟨h1, h2⟩ := List.getElem?_eq_some_iff.1 h0; have h3 := wN (b := 47) ((x.drop f).drop (i - f + 1)) h.no; rw [← hn, ← h2, ← List.drop_eq_getElem_cons h1, List.take_append_drop, h2, hn] at h3; rw [h3, List.drop_drop, show f + (i - f + 1) = i + 1 by have := h.fi; omega]
theorem RdI.ne {x : Str} {l : List Mk} {o : OutC} {og : Hp} {f i : Nat} (h : RdI x l o og f i) (hi : f < x.length) : x.drop f ≠ [] := by
  intro e; have := congrArg List.length e; rw [List.length_drop, List.length_nil] at this
  omega
theorem RdI.bad {x : Str} {l : List Mk} {o : OutC} {og : Hp} {f i : Nat} (h : RdI x l o og f i) (hi : i < x.length) (hn : x[i] = 47) (hm : markS ((x.drop f).take (i - f)) = none) : readF x.length x [] = (l, false) := by
  obtain ⟨n, h1, h2⟩ := h.eq; obtain ⟨e1, e2, e3⟩ := cO (ms := l) (h.ne (by have := h.fi; omega)) h1 (h.cut hi hn); rw [h2, e1, contR, if_pos rfl, hm]
theorem RdI.next {x : Str} {l : List Mk} {o o' : OutC} {og og' : Hp} {f i : Nat} {m : Mk} (h : RdI x l o og f i) (hi : i < x.length) (hn : x[i] = 47) (hm : markS ((x.drop f).take (i - f)) = some m) (hg : GrowM o' (l ++ [m]) og') : RdI x (l ++ [m]) o' og' (i + 1) (i + 1) := by
  obtain ⟨n, h1, h2⟩ := h.eq; obtain ⟨e1, e2, e3⟩ := cO (ms := l) (h.ne (by have := h.fi; omega)) h1 (h.cut hi hn); refine ⟨Nat.le_refl _, hi, by simp, ⟨n - 1, e2, ?_⟩, hg, by rw [n8]; have := h.ll; have := h.fi; omega⟩; rw [h2, e1, contR, if_pos rfl, hm]
theorem RdI.stop {x : Str} {l : List Mk} {o : OutC} {og : Hp} {f : Nat} (h : RdI x l o og f x.length) : readF x.length x [] = (l, decide (f = x.length)) := by
  obtain ⟨n, h1, h2⟩ := h.eq; have hf := h.fi
  by_cases hx : f = x.length
  · rw [h2, hx, List.drop_length, uG]; simp
  have hne := h.ne (by omega)
  have hno : (47 : UInt8) ∉ x.drop f := by
    have := h.no
    rwa [List.take_of_length_le (by rw [List.length_drop]; omega)] at this
  rw [h2, mV hne h1 (by rw [wM hno])]
  simp [hx]
set_option maxHeartbeats 1000000 in
theorem mU (x : Str) : Meets Tryz.prog F.jN [str x] { val := fun y : OutC => .tuple #[.slice y.1 (readE x).1.length y.2, int (readE x).2.1, int (readE x).2.2], LO := fun y => [Row y.1 (rows (readE x).1)] } := by
 refine c4 F.vC rfl l5 fun w0 => ?_; refine a9 (a8 rfl (a8 rfl (a8 rfl (a7 (b5 (a9 (a5 rfl ?_))))))); refine l4 rfl T.i2 rfl ?_; refine v9 rfl rfl rfl (a7 ?_)
 first | refine i8 rfl (fun hb1 => ?_) (fun hb1 => ?_) | refine b9 rfl (fun hb1 => ?_) (fun hb1 => ?_)
 ·have hb1' := hb1; try simp at hb1'
  refine a9 (a8 rfl (a8 rfl (a8 rfl (a7 (s6 ?_))))); have hE : readE x = ([], 0, 10) := by rw [readE, if_pos (by omega)]
  rw [hE]; refine A3 (α := Mk) ?_; exact ret3 (none, 0) rfl rfl rfl rfl rfl rfl trivial i1 ⟨m0, trivial⟩
 have hb1' := hb1; try simp at hb1'
 have hx6 : x.length ≤ 160 := by omega
 have hR0 : readE x = if (readF x.length x []).2 = false then ([], ((readF x.length x []).1.length : Int), 2) else if 12 < (readF x.length x []).1.length then ([], 0, 6) else ((readF x.length x []).1, 0, 0) := by unfold readE; rw [if_neg (by omega)]
 refine c3 (b6 (a9 (a8 rfl (k9 (a8 rfl (a7 ?_)))))); refine b5 (a9 (a8 rfl (a7 (j0 ?_)))); refine s9 (β := List Mk × OutC × Hp × Nat × Nat) ⟨fun z => RdI x z.1 z.2.1 z.2.2.1 z.2.2.2.1 z.2.2.2.2, fun z => [(0, str x), (5, .slice z.2.1.1 z.1.length z.2.1.2), (6, int z.2.2.2.1), (7, int z.2.2.2.2)], fun z => z.2.2.1, fun _ => []⟩ (fun z => x.length - z.2.2.2.2) ([], (none, 0), [], 0, 0) (RdI.new x) mC (.refl _) trivial fun z hz => ?_; obtain ⟨l, o, og, f, i⟩ := z; simp only at hz; have hfi := hz.fi; have hil := hz.il; have hll := hz.ll; refine b5 (a9 (a5 rfl (a5 rfl ?_))); refine l4 rfl T.i2 rfl ?_; refine r6 rfl rfl rfl (a7 ?_)
 first | refine i8 rfl (fun hb2 => ?_) (fun hb2 => ?_) | refine b9 rfl (fun hb2 => ?_) (fun hb2 => ?_)
 ·have hb2' := hb2; try simp at hb2'
  have hi : i < x.length := by simp at hb2; omega
  refine c3 (b6 (b5 (j0 (b5 (a9 (a5 rfl (a5 rfl ?_))))))); refine q7 _ rfl T.i2 rfl rfl rfl (List.getElem?_eq_getElem (by omega)) ?_; refine u9 rfl rfl rfl (a7 ?_)
  first | refine i8 rfl (fun hb3 => ?_) (fun hb3 => ?_) | refine b9 rfl (fun hb3 => ?_) (fun hb3 => ?_)
  ·have hb3' := hb3; try simp at hb3'
   refine n5 (z7 (n4 (b6 (c6 (a5 rfl ?_))))); refine p7 _ rfl rfl rfl rfl l9 ?_; refine a8 rfl (b3 ?_); exact again _ (l, o, og, f, i + 1) (hz.skip hi (fun e => hb3 (by rw [e]; rfl))) (y5 (by omega)) mC (.refl _) trivial
  have hb3' := hb3; try simp at hb3'
  have hc : x[i] = 47 := (R9 (n := 47) (by decide)).1 (by simpa using hb3); refine c3 (b6 (a9 (a5 rfl (a5 rfl (a5 rfl ?_))))); refine S3 (s := x) f i rfl T.i2 rfl rfl rfl rfl rfl hfi hil ?_; refine d6 F.pK rfl rfl (jM ((x.drop f).take (i - f)) (by rw [List.length_take, List.length_drop]; omega)) (hpR := og) (.refl _) trivial fun z hz9 => ?_; obtain ⟨mk, zb⟩ := z; simp only at hz9; refine a5 rfl (k4 rfl rfl rfl (k4 rfl rfl rfl ?_)); refine r9 rfl (fun _ => T.u1 _) fun gA => ?_; refine n1 (cs := #[int mk.1, int mk.2.1, str mk.2.2]) rfl rfl (.refl _) T.c7 (by rfl) (by rfl) ?_; refine a8 rfl (a7 (b5 (a9 (a5 rfl (bH rfl rfl (a7 ?_))))))
  first | refine i8 rfl (fun hb4 => ?_) (fun hb4 => ?_) | refine b9 rfl (fun hb4 => ?_) (fun hb4 => ?_)
  ·have hb4' := hb4; try simp at hb4'
   obtain rfl : zb = false := by simpa using hb4
   refine a9 (a5 rfl ?_); refine j9 rfl T.j3 rfl ?_; refine a8 rfl (a8 rfl (a8 rfl (a7 (s6 (t5 (l6 (t5 ?_))))))); have hE : readE x = ([], (l.length : Int), 2) := by rw [hR0, hz.bad hi hc hz9]; rfl
   rw [hE]; refine A3 (α := Mk) ?_; exact ret3 (none, 0) rfl rfl rfl rfl rfl rfl trivial i1 ⟨m0, trivial⟩
  have hb4' := hb4; try simp at hb4'
  obtain rfl : zb = true := by simpa using hb4
  refine c3 (b6 (a9 (a5 rfl ?_))); refine w7 rfl T.j2 T.c7 rfl (cs := #[int mk.1, int mk.2.1, str mk.2.2]) m0 (by rfl) ?_; refine j8 _ rfl rfl (fun _ => T.A6 ..) fun gS => ?_; refine w9 (l.length + 1) (rows (l ++ [mk])) T.E1 rfl rfl rfl hz.g (List.perm_append_comm (l₁ := [_, _])) (Src.own (cs := #[int mk.1, int mk.2.1, str mk.2.2]) (m := 1) (List.mem_append_right _ m0) rfl rfl) rfl (t3 l [mk]).symm (by unfold maxLen; omega) (by omega) fun A' c' og' hG' => ?_; refine a8 rfl (a7 (c6 (a5 rfl ?_))); refine p7 _ rfl rfl rfl rfl l9 ?_; refine a8 rfl (b3 (q9 (b6 (c6 (a5 rfl ?_))))); refine p7 _ rfl rfl rfl rfl l9 ?_; refine a8 rfl (b3 ?_); exact again _ (l ++ [mk], (A', c'), og', i + 1, i + 1) (hz.next hi hc hz9 (by unfold GrowM; rw [n8]; exact hG')) (y5 (by omega)) ⟨rfl, by rw [n8]; rfl, rfl, rfl, trivial⟩ (List.sublist_append_left _ _) trivial
 have hb2' := hb2; try simp at hb2'
 have hi : i = x.length := by simp at hb2; omega
 subst hi; have hst := hz.stop; refine n5 (y6 (n4 (b6 (b5 (a9 (a5 rfl (a5 rfl ?_))))))); refine l4 rfl T.i2 rfl ?_; refine r6 rfl rfl rfl (a7 ?_)
 first | refine i8 rfl (fun hb5 => ?_) (fun hb5 => ?_) | refine b9 rfl (fun hb5 => ?_) (fun hb5 => ?_)
 ·have hb5' := hb5; try simp at hb5'
  refine a9 (a5 rfl ?_); refine j9 rfl T.j3 rfl ?_; refine a8 rfl (a8 rfl (a8 rfl (a7 (s6 ?_)))); have hE : readE x = ([], (l.length : Int), 2) := by rw [hR0, hst, if_pos (by simp at hb5; simp; omega)]
  rw [hE]; refine A3 (α := Mk) ?_; exact ret3 (none, 0) rfl rfl rfl rfl rfl rfl trivial i1 ⟨m0, trivial⟩
 have hb5' := hb5; try simp at hb5'
 have hfx : f = x.length := by simp at hb5; omega
 rw [hfx] at hst; refine c3 (b6 (b5 (a9 (a5 rfl ?_)))); refine j9 rfl T.j3 rfl ?_; refine v9 rfl rfl rfl (a7 ?_)
 first | refine i8 rfl (fun hb6 => ?_) (fun hb6 => ?_) | refine b9 rfl (fun hb6 => ?_) (fun hb6 => ?_)
 ·have hb6' := hb6; try simp at hb6'
  refine a9 (a8 rfl (a8 rfl (a8 rfl (a7 (s6 ?_))))); have hE : readE x = ([], 0, 6) := by rw [hR0, hst, if_neg (by simp), if_pos (by simp only; omega)]
  rw [hE]; refine A3 (α := Mk) ?_; exact ret3 (none, 0) rfl rfl rfl rfl rfl rfl trivial i1 ⟨m0, trivial⟩
 have hb6' := hb6; try simp at hb6'
 refine c3 (b6 (a9 (a5 rfl (a8 rfl (a8 rfl (a8 rfl (a7 (i6 ?_)))))))); have hE : readE x = (l, 0, 0) := by rw [hR0, hst, if_neg (by simp), if_neg (by simp only; omega)]
 rw [hE]; refine iD (hp' := og ++ []) (show List.Perm og (og ++ []) by rw [List.append_nil]) ?_; refine mF hz.g ?_; exact ret3 o rfl rfl rfl rfl rfl rfl trivial i1 ⟨m0, trivial⟩
set_option maxHeartbeats 2000000 in
theorem kW {A : Option Addr} {ca : Nat} (l : List Mk) (hl : l.length ≤ 1000000) : Meets Tryz.prog F.gE [.slice A l.length ca] { LI := [Row A (rows l)], val := fun _ : Unit => .tuple #[str (if wE l = 0 then wrS l else []), int (wE l)] } := by
 refine c4 F.sZ rfl l5 fun w0 => ?_; refine a9 (a8 rfl (a8 rfl (a7 (b5 (a9 (a5 rfl ?_)))))); refine j9 rfl T.j3 rfl ?_; refine v9 rfl rfl rfl (a7 ?_)
 first | refine i8 rfl (fun hb1 => ?_) (fun hb1 => ?_) | refine b9 rfl (fun hb1 => ?_) (fun hb1 => ?_)
 ·have hb1' := hb1; try simp at hb1'
  have hE : wE l = 6 := by rw [wE, if_pos (by omega)]
  refine a9 (a8 rfl (a8 rfl (a7 (s6 ?_)))); exact ret2 () rfl rfl rfl (by rw [hE]; rfl) rfl trivial i1 trivial
 have hb1' := hb1; try simp at hb1'
 have hE : wE l = firstErr wErr l := by rw [wE, if_neg (by omega)]
 refine c3 (b6 (a9 (a8 rfl (a7 (b5 (a9 (a8 rfl (b3 ?_)))))))); refine b6 (j0 ?_); refine s9 (β := Nat) ⟨fun k => k ≤ l.length ∧ firstErr wErr (l.take k) = 0, fun k => [(0, .slice A l.length ca), (4, str (wrS (l.take k))), (5, int k)], fun _ => [], fun _ => [Row A (rows l)]⟩ (fun k => l.length - k) 0 ⟨Nat.zero_le _, rfl⟩ mC (.refl _) mC fun k hz => ?_; obtain ⟨hkl, ht⟩ := hz; have hwl := uS ht; rw [List.length_take] at hwl; have hl12 : l.length ≤ 12 := by omega
 refine b5 (a9 (a5 rfl (a5 rfl ?_))); refine j9 rfl T.j3 rfl ?_; refine r6 rfl rfl rfl (a7 ?_)
 first | refine i8 rfl (fun hb2 => ?_) (fun hb2 => ?_) | refine b9 rfl (fun hb2 => ?_) (fun hb2 => ?_)
 ·have hb2' := hb2; try simp at hb2'
  have hk : k < l.length := by simp at hb2; omega
  have hm1 : l.getD k default = l[k] := B1 hk; refine c3 (b6 (b5 (j0 (b5 (a9 (a5 rfl (a5 rfl ?_))))))); refine r7 (α := Mk) _ _ rfl T.j3 T.c7 rfl rfl rfl mB rfl (by omega) (by decide) (r8 rfl T.j2 T.c7 rfl rfl (n3 mB (q8 hk)) ?_); rw [hm1]; refine d6 F.dK rfl rfl (aF l[k]) (.refl _) trivial fun _ _ => ?_; refine a8 rfl (k9 (a5 rfl (u9 rfl rfl rfl (a7 ?_))))
  first | refine i8 rfl (fun hb3 => ?_) (fun hb3 => ?_) | refine b9 rfl (fun hb3 => ?_) (fun hb3 => ?_)
  ·have hb3' := hb3; try simp at hb3'
   refine a9 (a5 rfl (a8 rfl (a8 rfl (a7 (s6 (t5 (l6 ?_))))))); refine t5 ?_; have hE2 : wE l = wErr l[k] := by rw [hE, G0 hk ht hb3]
   exact ret2 () rfl rfl rfl (by rw [hE2, if_neg hb3]; rfl) rfl trivial i1 trivial
  have hb3' := hb3; try simp at hb3'
  have hw : wErr l[k] = 0 := by simpa using hb3
  have he1 : firstErr wErr (l.take (k + 1)) = 0 := by rw [R8 hk ht]; exact hw
  obtain ⟨hw1, hw2, hw3⟩ := zN hw; have hkd := rX l[k].1; have hit := rZ l[k].2.1; have htx := qS hw3; refine c3 (b6 (b5 ?_)); refine z6 20 mixed (by decide) (by decide) rfl rfl (j5 (fun w1 => a5 rfl (q_z rfl)) (j5 (fun w1 => a5 rfl (q_z rfl)) (j5 (fun w1 => a5 rfl (q_z rfl)) (j5 (fun w1 => r7 (α := Mk) _ _ rfl T.j3 T.c7 rfl rfl rfl mB rfl (by omega) (by decide) (q_z rfl)) ?_))))
  apply k7 _ rfl rfl rfl
  ·intro w1
   first | refine a3 ⟨_, 0, none⟩ rfl rfl T.d9 rfl ?_ | refine a3 _ rfl rfl T.d9 rfl ?_
   refine b3 ?_; exact i3 rfl
  refine j5 (fun w1 => a4 (v := int l[k].1) rfl T.a6 rfl (b8 mB (rows_get hk (by rw [hm1]; rfl))) (q_z rfl)) ?_; refine j5 (fun w1 => Z5 (l[k].1 - 1) rfl rfl rfl rfl l9 (q_z rfl)) (j5 (fun w1 => a5 rfl (q_z rfl)) (j5 (fun w1 => a5 rfl (q_z rfl)) (j5 (fun w1 => r7 (α := Mk) _ _ rfl T.j3 T.c7 rfl rfl rfl mB rfl (by omega) (by decide) (q_z rfl)) ?_)))
  apply k7 _ rfl rfl rfl
  ·intro w1
   first | refine a3 ⟨_, 0, none⟩ rfl rfl T.d9 rfl ?_ | refine a3 _ rfl rfl T.d9 rfl ?_
   refine b3 ?_; exact i3 rfl
  refine j5 (fun w1 => a4 (v := int l[k].1) rfl T.a6 rfl (b8 mB (rows_get hk (by rw [hm1]; rfl))) (q_z rfl)) ?_
  apply k7 _ rfl rfl rfl
  ·intro w1; refine S3 (s := KS3) (l[k].1 - 1).toNat l[k].1.toNat rfl T.i2 rfl rfl (by omega) rfl (by omega) (by omega) (by show l[k].1.toNat ≤ 3; omega) ?_; rw [kind_k3 hw1]; refine b3 ?_; exact i3 rfl
  refine j5 (fun w1 => Q0 (x' := wrS (l.take k)) (y' := kindS l[k].1) rfl rfl rfl (by first | omega | (simp only [List.length_append, List.length_cons, List.length_nil]; omega)) (q_z rfl)) ?_; refine j5 (fun w1 => a5 rfl (q_z rfl)) (j5 (fun w1 => a5 rfl (q_z rfl)) (j5 (fun w1 => r7 (α := Mk) _ _ rfl T.j3 T.c7 rfl rfl rfl mB rfl (by omega) (by decide) (q_z rfl)) ?_))
  apply k7 _ rfl rfl rfl
  ·intro w1
   first | refine a3 ⟨_, 1, none⟩ rfl rfl T.d8 rfl ?_ | refine a3 _ rfl rfl T.d8 rfl ?_
   refine b3 ?_; exact i3 rfl
  refine j5 (fun w1 => a4 (v := int l[k].2.1) rfl T.a6 rfl (b8 mB (rows_get hk (by rw [hm1]; rfl))) (q_z rfl)) ?_; refine j5 (fun w1 => d6 F.dD rfl rfl (rY l[k].2.1 hw2) n6 trivial fun _ _ => (q_z rfl)) ?_; refine v6 ⟨rfl, ?_⟩; refine Q0 (x' := (wrS (l.take k) ++ kindS l[k].1)) (y' := itoaZ l[k].2.1) rfl rfl rfl (by first | omega | (simp only [List.length_append, List.length_cons, List.length_nil]; omega)) ?_; refine a8 rfl (a7 (b5 (a9 (a5 rfl (a5 rfl ?_))))); refine r7 (α := Mk) _ _ rfl T.j3 T.c7 rfl rfl rfl mB rfl (by omega) (by decide) ?_
  first | refine a3 ⟨_, 0, none⟩ rfl rfl T.d9 rfl ?_ | refine a3 _ rfl rfl T.d9 rfl ?_
  refine a4 (v := int l[k].1) rfl T.a6 rfl (b8 mB (rows_get hk (by rw [hm1]; rfl))) ?_; refine u9 rfl rfl rfl (a7 ?_)
  first | refine i8 rfl (fun hb4 => ?_) (fun hb4 => ?_) | refine b9 rfl (fun hb4 => ?_) (fun hb4 => ?_)
  ·have hb4' := hb4; try simp at hb4'
   refine c6 (a5 rfl ?_); refine Q0 (x' := (wrS (l.take k) ++ kindS l[k].1) ++ itoaZ l[k].2.1) (y' := [32]) rfl rfl rfl (by first | omega | (simp only [List.length_append, List.length_cons, List.length_nil]; omega)) ?_; refine a5 rfl (a5 rfl ?_); refine r7 (α := Mk) _ _ rfl T.j3 T.c7 rfl rfl rfl mB rfl (by omega) (by decide) ?_
   first | refine a3 ⟨_, 2, none⟩ rfl rfl T.k6 rfl ?_ | refine a3 _ rfl rfl T.k6 rfl ?_
   refine a4 (v := str l[k].2.2) rfl T.j1 rfl (b8 mB (rows_get hk (by rw [hm1]; rfl))) ?_; refine Q0 (x' := ((wrS (l.take k) ++ kindS l[k].1) ++ itoaZ l[k].2.1) ++ [32]) (y' := l[k].2.2) rfl rfl rfl (by first | omega | (simp only [List.length_append, List.length_cons, List.length_nil]; omega)) ?_; refine a8 rfl (a7 (c6 (a5 rfl ?_))); refine Q0 (x' := (((wrS (l.take k) ++ kindS l[k].1) ++ itoaZ l[k].2.1) ++ [32]) ++ l[k].2.2) (y' := [47]) rfl rfl rfl (by first | omega | (simp only [List.length_append, List.length_cons, List.length_nil]; omega)) ?_; refine a8 rfl (b3 (q9 (b6 (c6 (a5 rfl ?_))))); refine p7 _ rfl rfl rfl rfl l9 ?_; refine a8 rfl (b3 ?_); have hsn : (((((wrS (l.take k) ++ kindS l[k].1) ++ itoaZ l[k].2.1) ++ [32]) ++ l[k].2.2) ++ [47]) = wrS (l.take (k + 1)) := by rw [kR hk, wrM, if_neg hb4]; simp only [List.append_assoc, List.append_nil, List.nil_append]
   exact again _ (k + 1) ⟨by show k + 1 ≤ l.length; omega, he1⟩ (y5 (by omega)) ⟨rfl, by rw [← hsn]; rfl, rfl, trivial⟩ i1 mC
  have hb4' := hb4; try simp at hb4'
  refine c3 (b6 (c6 (a5 rfl ?_))); refine Q0 (x' := (wrS (l.take k) ++ kindS l[k].1) ++ itoaZ l[k].2.1) (y' := [47]) rfl rfl rfl (by first | omega | (simp only [List.length_append, List.length_cons, List.length_nil]; omega)) ?_; refine a8 rfl (b3 (q9 (b6 (c6 (a5 rfl ?_))))); refine p7 _ rfl rfl rfl rfl l9 ?_; refine a8 rfl (b3 ?_); have hsn : (((wrS (l.take k) ++ kindS l[k].1) ++ itoaZ l[k].2.1) ++ [47]) = wrS (l.take (k + 1)) := by rw [kR hk, wrM, if_pos (by omega)]; simp only [List.append_assoc, List.append_nil, List.nil_append]
  exact again _ (k + 1) ⟨by show k + 1 ≤ l.length; omega, he1⟩ (y5 (by omega)) ⟨rfl, by rw [← hsn]; rfl, rfl, trivial⟩ i1 mC
 have hb2' := hb2; try simp at hb2'
 have hk : k = l.length := by simp at hb2; omega
 subst hk; rw [List.take_length] at ht; refine n5 (y6 (n4 (b6 (a9 (a5 rfl (a8 rfl (a8 rfl (a7 ?_)))))))); refine i6 ?_; have hEz : wE l = 0 := by rw [hE, ht]
 exact ret2 () rfl rfl rfl (by rw [hEz, if_pos rfl, List.take_length]) rfl trivial i1 trivial
end Go.Proofs.YtegfgegnhjkcfaaGreatDoor
end
