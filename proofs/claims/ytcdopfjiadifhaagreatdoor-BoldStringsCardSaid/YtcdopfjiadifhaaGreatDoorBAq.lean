/- Texts. -/

import Derived.Test.YtcdopfjiadifhaaGreatDoorBAp
import Derived.Test.YtcdopfjiadifhaaGreatDoorBAn
set_option linter.unusedVariables false
set_option linter.unusedSimpArgs false
section
namespace Go.Proofs.YtcdopfjiadifhaaGreatDoor
open Go Go.W Tryz T F
set_option maxRecDepth 20000
attribute [local irreducible] HL HC HQ HB Row Rows2 Blk Facts
def chkT (s : SaT) : Int := chkS s.1 s.2.1 s.2.2
def readB (x : Str) : SaT × Nat × Int := if 250 < x.length then (zeroSa, 0, 10) else match parseR x with
  | (none, p) => (zeroSa, p, 2)
  | (some s, _) => if chkT s = 0 then (s, 0, 0) else (zeroSa, 0, chkT s)
theorem kx7 : ∀ (n i : Nat) (s : Str) (p : Nat) (st s' : SaT) (q : Nat), parseF n i s p st = (some s', q) → s'.2.1.length ≤ st.2.1.length + s.length ∧ s'.2.2.length ≤ st.2.2.length + s.length
  | 0, i, s, p, st, s', q, h => by rw [parseF] at h; cases h
  | n + 1, i, s, p, st, s', q, h => by
    rcases uG 10 s with ⟨_, h1, _⟩ | ⟨j, _, hj, hc, _⟩
    · rw [parseF, h1, if_pos rfl] at h; cases h
    rw [sx4 hj hc] at h
    split at h
    · split at h
      · cases h; exact ⟨Nat.le_add_right _ _, Nat.le_add_right _ _⟩
      cases h
    split at h
    · cases h
    rename_i st' ht
    obtain ⟨h1, h2⟩ := kx2 ht; obtain ⟨h3, h4⟩ := kx7 n _ _ _ _ _ _ h; rw [List.length_take] at h1 h2; rw [List.length_drop] at h3 h4
    omega
theorem gz0 {x : Str} {s : SaT} {p : Nat} (h : parseR x = (some s, p)) : s.2.1.length ≤ x.length ∧ s.2.2.length ≤ x.length := by
  have := kx7 _ _ _ _ _ _ _ h
  simpa [zeroSa] using this
section
variable {c : Cx} {fr : Fr} {hp : Hp} {L : List Fact}
theorem W2 {fn : Func} {t u1 u2 : Tmp} {ty e : TypeId} {g n : Nat} {cs : Array Value} {fz : Nat × Nat} {v1 v2 : Value} (hres : fn.results = #[.cell t ty, .tmp u1, .tmp u2]) (hv : lk fr t = some (.pointer (d6 g))) (hv1 : lk fr u1 = some v1) (hv2 : lk fr u2 = some v2) (ht : IsR c.P ty) (hz : Sz c.P ty n) (hn : cs.size = n)
    (hm : (g, Obj.cells cs e fz) ∈ hp) (a : Act) (w : World) (hfr : ∀ t v, lk fr t = some v → a.tmps.getD t undef = v) (hw : WI c.b w hp L) : (results fn a.tmps).run c.P w = .ok (.tuple #[.agg cs, v1, v2]) w := by
  obtain ⟨dd, ht, hr⟩ := ht; have h1 := hw.own _ hm; simp only at h1
  have hl : (loadVar ty ⟨g, 0, none⟩).run c.P w = .ok (.agg cs) w := by
    have hagg : (isAgg ty).run c.P w = .ok true w := by
      unfold isAgg; rw [Sem.run_bind, run_underlying ht w]
      cases dd <;> simp_all [TypeDesc.isRow]
    have hc := run_loadCells_list (P := c.P) w ⟨g, 0, none⟩ cs.toList (fun j u hu => by rw [bI, Nat.zero_add]; simp at hu; simp [World.cell?, h1, hu]); have hs := U4 hz w; simp only [loadVar, Sem.run_bind, hagg, Result.andThen_ok, if_true, hs, ← hn]; have e : cs.size = cs.toList.length := by simp
    rw [e, hc]
    simp
  have h5 : a.tmps[t]?.getD undef = .pointer (d6 g) := by simpa using hfr _ _ hv
  have h6 : a.tmps[u1]?.getD undef = v1 := by simpa using hfr _ _ hv1
  have h7 : a.tmps[u2]?.getD undef = v2 := by simpa using hfr _ _ hv2
  unfold results; rw [hres]
  simp [h5, h6, h7, asAddr, hl]
end
theorem jz3 (x : Str) : Meets prog uZ [str x] { val := fun y : OutC × OutC => .tuple #[.agg (tkC (readB x).1.1 (y.1, (readB x).1.2.1.length) (y.2, (readB x).1.2.2.length)), int (readB x).2.1, int (readB x).2.2], LO := fun y => [Row y.1.1 (rows (readB x).1.2.1), Row y.2.1 (rows (readB x).1.2.2)] } := by
 refine j3 lj6 rfl t8 fun w0 => d9 (B3 rfl (fun _ => G5 _) fun gR => ?_); refine c7 rfl (c7 rfl (d8 (i7 (d9 (b8 rfl ?_))))); refine C7 rfl l5 rfl ?_; refine P4 rfl rfl rfl (d8 ?_); refine m6 rfl (fun hb1 => ?_) (fun hb1 => ?_)
 ·have hlong : 250 < x.length := by omega
  refine d9 (v9 _ rfl rfl (fun _ => K8 ..) (t6 (cs := tkC (0, 0, 0, 0, 0, 0) ((none, 0), 0) ((none, 0), 0)) rfl rfl (.refl _) j7 (by rfl) (by rfl) ?_)); refine c7 rfl (c7 rfl (d8 (J4 ?_))); refine B5 (α := Int) (B5 (α := Ad) ?_); have hR : readB x = (zeroSa, 0, 10) := by rw [readB, if_pos hlong]
  rw [hR]; exact u9 ((none, 0), (none, 0)) (fun a w ha hw => W2 (cs := tkC (0, 0, 0, 0, 0, 0) ((none, 0), 0) ((none, 0), 0)) (v1 := int (0 : Nat)) (v2 := int (10)) rfl rfl rfl rfl l6 j7 rfl m0 a w ha.at_ hw) rfl tK nK ⟨m1, m0, tK⟩
 have hlong : ¬ 250 < x.length := by omega
 refine j6 (i8 (d9 (b8 rfl ?_))); obtain ⟨R, hR0⟩ : ∃ R, parseR x = R := ⟨_, rfl⟩; have hP := iq4 x (by omega); rw [hR0] at hP; refine j5 ij0 rfl rfl (hP) (hpR := [_]) (.refl _) tK fun y _ => ?_; obtain ⟨o, p⟩ := R
 have hrb : readB x = match (o, p) with
     | (none, p) => (zeroSa, p, 2)
     | (some s, _) => if chkT s = 0 then (s, 0, 0) else (zeroSa, 0, chkT s) := by rw [readB, if_neg hlong, hR0]
 obtain ⟨s, hs⟩ : ∃ s, pSa (o, p) = s := ⟨_, rfl⟩; rw [hs]; obtain ⟨at1, hat⟩ : ∃ z, pAt (o, p) = z := ⟨_, rfl⟩; rw [hat]; refine b8 rfl (m4 rfl rfl rfl (m4 rfl rfl rfl ?_)); refine B3 rfl (fun _ => G5 _) fun gX => t6 (cs := tkC s.1 (y.1, s.2.1.length) (y.2, s.2.2.length)) rfl rfl (.refl _) j7 (by rfl) (by rfl) ?_; refine c7 rfl (d8 (i7 (d9 (b8 rfl (aX rfl rfl rfl (d8 ?_)))))); refine m6 rfl (fun hb2 => ?_) (fun hb2 => ?_)
 ·obtain rfl : o = none := by
    rcases o with _ | s9
    · rfl
    exfalso; rw [← hat] at hb2; exact absurd hb2 (by show ¬ (0 : Int) ≤ -1; decide)
  obtain rfl : at1 = (p : Int) := hat.symm; refine d9 (v9 _ rfl rfl (fun _ => K8 ..) (b8 rfl (t6 (cs := tkC (0, 0, 0, 0, 0, 0) ((none, 0), 0) ((none, 0), 0)) rfl rfl (.swap _ _ _) j7 (by rfl) (by rfl) ?_))); refine c7 rfl (c7 rfl (d8 (J4 ?_))); refine B5 (α := Int) (B5 (α := Ad) ?_); have hR : readB x = (zeroSa, p, 2) := hrb; rw [hR]; exact u9 ((none, 0), (none, 0)) (fun a w ha hw => W2 (cs := tkC (0, 0, 0, 0, 0, 0) ((none, 0), 0) ((none, 0), 0)) (v1 := int (p : Nat)) (v2 := int (2)) rfl rfl rfl rfl l6 j7 rfl m0 a w ha.at_ hw) rfl tK nK ⟨m1, m0, tK⟩
 obtain ⟨s9, rfl⟩ : ∃ s9, o = some s9 := by
   rcases o with _ | s9
   · exfalso; rw [← hat] at hb2; exact hb2 (Int.natCast_nonneg p)
   exact ⟨s9, rfl⟩
 obtain rfl : s = s9 := hs.symm; refine j6 (i8 (i7 (d9 ?_))); refine B8 rfl l6 j7 rfl m0 (by rfl) ?_; have hln := gz0 (x := x) (s := s) (p := p) hR0; refine j5 bS rfl rfl (bU s.1 ⟨y.1.1, y.1.2, s.2.1⟩ ⟨y.2.1, y.2.2, s.2.2⟩ (by show s.2.1.length ≤ 1000000; omega) (by show s.2.2.length ≤ 1000000; omega)) (hpR := [_, _]) (.refl _) mC fun _ _ => ?_; refine c7 rfl (k6 (b8 rfl (P9 rfl rfl rfl (d8 ?_)))); refine m6 rfl (fun hb3 => ?_) (fun hb3 => ?_)
 ·have hch : ¬ chkT s = 0 := hb3; refine d9 (v9 _ rfl rfl (fun _ => K8 ..) (b8 rfl (t6 (cs := tkC (0, 0, 0, 0, 0, 0) ((none, 0), 0) ((none, 0), 0)) rfl rfl (.swap _ _ _) j7 (by rfl) (by rfl) ?_))); refine c7 rfl (c7 rfl (d8 (J4 ?_))); refine B5 (α := Int) (B5 (α := Ad) ?_); have hR : readB x = (zeroSa, 0, chkT s) := by rw [hrb]; show (if chkT s = 0 then _ else _) = _; rw [if_neg hch]
  rw [hR]; exact u9 ((none, 0), (none, 0)) (fun a w ha hw => W2 (cs := tkC (0, 0, 0, 0, 0, 0) ((none, 0), 0) ((none, 0), 0)) (v1 := int (0 : Nat)) (v2 := int (chkT s)) rfl rfl rfl rfl l6 j7 rfl m0 a w ha.at_ hw) rfl tK nK ⟨m1, m0, tK⟩
 have hch : chkT s = 0 := Classical.not_not.1 hb3; refine j6 (i8 (d9 ?_)); refine B8 rfl l6 j7 rfl m0 (by rfl) (t6 (cs := tkC s.1 (y.1, s.2.1.length) (y.2, s.2.2.length)) rfl rfl (.swap _ _ _) j7 (by rfl) (by rfl) ?_); refine c7 rfl (c7 rfl (d8 (k5 ?_))); have hR : readB x = (s, 0, 0) := by rw [hrb]; show (if chkT s = 0 then _ else _) = _; rw [if_pos hch]
 rw [hR]; exact u9 y (fun a w ha hw => W2 (cs := tkC s.1 (y.1, s.2.1.length) (y.2, s.2.2.length)) (v1 := int (0 : Nat)) (v2 := int 0) rfl rfl rfl rfl l6 j7 rfl m0 a w ha.at_ hw) rfl tK nK ⟨m0, m1, tK⟩
def plW : Str := [32, 112, 108, 97, 105, 110]
def bdW : Str := [32, 98, 111, 108, 100, 32]
def cdW : Str := [32, 99, 97, 114, 100, 32]
def taW : Str := [116, 97, 114, 105, 102, 102, 32]
def spW : Str := [32]
def ofW : Str := [32, 111, 102, 102, 32]
def frW : Str := [32, 102, 114, 111, 109, 32]
def stW : Str := [10, 115, 116, 114, 101, 101, 116, 115]
def nlW : Str := [10]
def soW : Str := [115, 111, 108, 100, 10]
def wordE (x : Ad) : Str := if x.2.1 = 1 then itoaZ x.1 ++ plW else if x.2.1 = 2 then (itoaZ x.1 ++ bdW) ++ itoaZ x.2.2 else (itoaZ x.1 ++ cdW) ++ itoaZ x.2.2
theorem px4 (x : Ad) : (wordE x).length ≤ 13 := by
  have h1 := G0 x.1; have h2 := G0 x.2.2; have e1 : plW.length = 6 := rfl; have e2 : bdW.length = 6 := rfl; have e3 : cdW.length = 6 := rfl; unfold wordE
  split
  · simp only [List.length_append]; omega
  split <;> simp only [List.length_append] <;> omega
def headE (c : Ch) : Str := taW ++ itoaZ c.1 ++ spW ++ itoaZ c.2.1 ++ spW ++ itoaZ c.2.2.1 ++ spW ++ itoaZ c.2.2.2.1 ++ ofW ++ itoaZ c.2.2.2.2.1 ++ frW ++ itoaZ c.2.2.2.2.2 ++ stW
def accP (c : Ch) : List Int → Str
  | [] => headE c
  | s :: l => accP c l ++ (spW ++ itoaZ s)
def accQ (a : Str) : List Ad → Str
  | [] => a ++ nlW
  | x :: l => accQ a l ++ (wordE x ++ nlW)
def wrE (c : Ch) (ss : List Int) (xs : List Ad) : Str := accQ (accP c ss.reverse) xs.reverse ++ soW
theorem kz5 (c : Ch) : (headE c).length ≤ 60 := by
  have h1 := G0 c.1; have h2 := G0 c.2.1; have h3 := G0 c.2.2.1; have h4 := G0 c.2.2.2.1; have h5 := G0 c.2.2.2.2.1; have h6 := G0 c.2.2.2.2.2; have e1 : taW.length = 7 := rfl; have e2 : spW.length = 1 := rfl; have e3 : ofW.length = 5 := rfl; have e4 : frW.length = 6 := rfl; have e5 : stW.length = 8 := rfl; unfold headE; simp only [List.length_append]
  omega
theorem lx6 (c : Ch) (l : List Int) : (accP c l).length ≤ 60 + 4 * l.length := by
  induction l with
  | nil => exact kz5 c
  | cons s l ih =>
    have h1 := G0 s; have e2 : spW.length = 1 := rfl; rw [accP]; simp only [List.length_append, List.length_cons]
    omega
theorem lx5 (a : Str) (l : List Ad) : (accQ a l).length ≤ a.length + 1 + 14 * l.length := by
  induction l with
  | nil => rw [accQ]; simp only [List.length_append, List.length_nil]; exact Nat.le_refl _
  | cons s l ih =>
    have h1 := px4 s; have e2 : nlW.length = 1 := rfl; rw [accQ]; simp only [List.length_append, List.length_cons]
    omega
theorem sI {α : Type} [Inhabited α] {l : List α} {k : Nat} (h : k < l.length) : (l.take (k + 1)).reverse = l.getD k default :: (l.take k).reverse := by
  rw [List.take_succ_eq_append_getElem h, List.reverse_append, D7 h]
  rfl
theorem zv_pl (w : World) : (zeroValue cJ).run prog w = .ok (.agg #[.pointer none]) w := p9
theorem zv_bd (w : World) : (zeroValue gE).run prog w = .ok (.agg #[.pointer none, int 0]) w := p9
theorem nj7 (g : Nat) (i l : Int) (hi : 0 ≤ i ∧ i < 1000) : Meets prog aG [int i, .iface cJ (.agg #[.pointer (d6 g)])] { LI := [TAB], val := fun _ : Unit => str (itoaZ i ++ plW) } := by
 have e1 : plW.length = 6 := rfl; have e2 : bdW.length = 6 := rfl; have e3 : cdW.length = 6 := rfl; have l1 := G0 i; have l2 := G0 l; refine j3 kS rfl t8 fun w0 => ?_; refine d9 (c7 rfl (k6 (b8 rfl ?_))); refine j5 u6 rfl rfl (G4 (i) hi) p6 mC fun _ _ => ?_; refine c7 rfl (d8 (i7 (d9 (b8 rfl (d8 (j8 (d9 ?_))))))); refine yW rfl ⟨_, underlying124, rfl⟩ rfl ?_; refine m4 rfl rfl rfl (m4 rfl rfl rfl (d8 ?_)); refine c_t rfl lx1 (d9 (B3 rfl (fun _ => gq8 _) fun gA => t6 rfl rfl gP gq5 (by rfl) (by rfl) ?_)); refine k6 (b8 rfl ?_); refine D5 (y' := plW) rfl rfl p9 S6 ?_; refine c7 rfl (d8 (k5 (G6 ?_))); exact ret1 () rfl rfl rfl tK nK tK
theorem nj6 (g : Nat) (i l : Int) (hi : 0 ≤ i ∧ i < 1000) (hl : 0 ≤ l ∧ l < 1000) : Meets prog aG [int i, .iface gE (.agg #[.pointer (d6 g), int l])] { LI := [TAB], val := fun _ : Unit => str ((itoaZ i ++ bdW) ++ itoaZ l) } := by
 have e1 : plW.length = 6 := rfl; have e2 : bdW.length = 6 := rfl; have e3 : cdW.length = 6 := rfl; have l1 := G0 i; have l2 := G0 l; refine j3 kS rfl t8 fun w0 => ?_; refine d9 (c7 rfl (k6 (b8 rfl ?_))); refine j5 u6 rfl rfl (G4 (i) hi) p6 mC fun _ _ => ?_; refine c7 rfl (d8 (i7 (d9 (b8 rfl (d8 (j8 (d9 ?_))))))); refine gx5 rfl ⟨_, underlying124, rfl⟩ rfl rfl zv_pl ?_; refine m4 rfl rfl rfl (m4 rfl rfl rfl (d8 ?_)); refine c_f rfl lx3 (d9 (yW rfl ⟨_, underlying126, rfl⟩ rfl ?_)); refine m4 rfl rfl rfl (m4 rfl rfl rfl (d8 ?_)); refine c_t rfl lx1 (d9 (B3 rfl (fun _ => jj7 _) fun gA => t6 rfl rfl gP jj2 (by rfl) (by rfl) ?_)); refine k6 (b8 rfl ?_); refine D5 (y' := bdW) rfl rfl p9 S6 (a9 ⟨_, 1, none⟩ rfl rfl pP rfl (c8 rfl b9 rfl (m3 mB rfl) (j5 u6 rfl rfl (G4 (l) hl) p6 mC fun _ _ => D5 rfl rfl rfl S6 ?_))); refine c7 rfl (d8 (k5 (G6 ?_))); exact ret1 () rfl rfl rfl tK nK tK
theorem nj5 (g : Nat) (i l : Int) (hi : 0 ≤ i ∧ i < 1000) (hl : 0 ≤ l ∧ l < 1000) : Meets prog aG [int i, .iface lG (.agg #[.pointer (d6 g), int l])] { LI := [TAB], val := fun _ : Unit => str ((itoaZ i ++ cdW) ++ itoaZ l) } := by
 have e1 : plW.length = 6 := rfl; have e2 : bdW.length = 6 := rfl; have e3 : cdW.length = 6 := rfl; have l1 := G0 i; have l2 := G0 l; refine j3 kS rfl t8 fun w0 => ?_; refine d9 (c7 rfl (k6 (b8 rfl ?_))); refine j5 u6 rfl rfl (G4 (i) hi) p6 mC fun _ _ => ?_; refine c7 rfl (d8 (i7 (d9 (b8 rfl (d8 (j8 (d9 ?_))))))); refine gx5 rfl ⟨_, underlying124, rfl⟩ rfl rfl zv_pl ?_; refine m4 rfl rfl rfl (m4 rfl rfl rfl (d8 ?_)); refine c_f rfl lx3 (d9 (gx5 rfl ⟨_, underlying126, rfl⟩ rfl rfl zv_bd ?_)); refine m4 rfl rfl rfl (m4 rfl rfl rfl (d8 ?_)); refine c_f rfl lx3 (d9 (yW rfl ⟨_, underlying127, rfl⟩ rfl ?_)); refine m4 rfl rfl rfl (m4 rfl rfl rfl (d8 ?_)); refine c_t rfl lx1 (d9 (B3 rfl (fun _ => jj6 _) fun gA => t6 rfl rfl gP jj1 (by rfl) (by rfl) ?_)); refine k6 (b8 rfl ?_); refine D5 (y' := cdW) rfl rfl p9 S6 (a9 ⟨_, 1, none⟩ rfl rfl pO rfl (c8 rfl b9 rfl (m3 mB rfl) (j5 u6 rfl rfl (G4 (l) hl) p6 mC fun _ _ => D5 rfl rfl rfl S6 ?_))); refine c7 rfl (d8 (k5 (G6 ?_))); exact ret1 () rfl rfl rfl tK nK tK
theorem px3 (g : Nat) (x : Ad) (hi : 0 ≤ x.1 ∧ x.1 < 1000) (hl : 0 ≤ x.2.2 ∧ x.2.2 < 1000) : Meets prog aG [int x.1, adI g x] { LI := [TAB], val := fun _ : Unit => str (wordE x) } := by
  unfold adI wordE
  split
  · exact nj7 g x.1 0 hi
  split
  · exact nj6 g x.1 x.2.2 hi hl
  exact nj5 g x.1 x.2.2 hi hl
def wrB (s : SaT) : Str × Int := if chkT s = 0 then (wrE s.1 s.2.1 s.2.2, 0) else ([], chkT s)
theorem wr_ok {c : Ch} {ss : List Int} {xs : List Ad} (h : chkS c ss xs = 0) : ((0 ≤ c.1 ∧ c.1 < 1000) ∧ (0 ≤ c.2.1 ∧ c.2.1 < 1000) ∧ (0 ≤ c.2.2.1 ∧ c.2.2.1 < 1000) ∧ (0 ≤ c.2.2.2.1 ∧ c.2.2.2.1 < 1000) ∧ (0 ≤ c.2.2.2.2.1 ∧ c.2.2.2.2.1 < 1000) ∧ (0 ≤ c.2.2.2.2.2 ∧ c.2.2.2.2.2 < 1000)) ∧ (∀ s ∈ ss, 0 ≤ s ∧ s < 1000) ∧ (∀ x ∈ xs, (0 ≤ x.1 ∧ x.1 < 1000) ∧ (0 ≤ x.2.2 ∧ x.2.2 < 1000)) := by
  obtain ⟨hc, h1, h5, hs, h8, ha⟩ := pz7 h; obtain ⟨c1, c2, c3, c4, c5, c6⟩ := hc; refine ⟨⟨by omega, by omega, by omega, by omega, by omega, by omega⟩, fun s m => ?_, fun x m => ?_⟩
  · have := hs s m; omega
  have := ha x m; omega
set_option maxHeartbeats 2000000 in
theorem iq6 (c : Ch) (ps : Sl Int) (qs : Sl Ad) (hn : ps.l.length ≤ 1000000) (hm : qs.l.length ≤ 1000000) : Meets prog rO [saV c ps qs] { LI := TAB :: saL ps qs, val := fun _ : Unit => .tuple #[str (wrB (c, ps.l, qs.l)).1, int (wrB (c, ps.l, qs.l)).2] } := by
 have i1 := G0 c.1; have i2 := G0 c.2.1; have i3 := G0 c.2.2.1; have i4 := G0 c.2.2.2.1; have i5 := G0 c.2.2.2.2.1; have i6 := G0 c.2.2.2.2.2; have e1 : taW.length = 7 := rfl; have e2 : spW.length = 1 := rfl; have e3 : ofW.length = 5 := rfl; have e4 : frW.length = 6 := rfl; have e5 : stW.length = 8 := rfl; have e6 : nlW.length = 1 := rfl; have e7 : soW.length = 5 := rfl; have hlen := kz5 c; refine j3 jx3 rfl t8 fun w0 => d9 (J5 rfl rfl fun gB => ?_); refine c7 rfl (c7 rfl (d8 (i7 (d9 ?_)))); refine B8 rfl l6 j7 rfl mB (by rfl) ?_; refine j5 bS rfl rfl (bU c ps qs hn hm) p6 mC fun _ _ => ?_; refine c7 rfl (k6 (b8 rfl (P9 rfl rfl rfl (d8 ?_)))); refine m6 rfl (fun hb1 => ?_) (fun hb1 => ?_)
 ·have h0 : ¬ chkT (c, ps.l, qs.l) = 0 := hb1; refine d9 (b8 rfl (c7 rfl (c7 rfl (d8 (J4 ?_))))); have hR : wrB (c, ps.l, qs.l) = ([], chkT (c, ps.l, qs.l)) := by rw [wrB, if_neg h0]
  rw [hR]; exact ret2 () rfl rfl rfl rfl rfl tK nK tK
 have h0 : chkS c ps.l qs.l = 0 := Classical.not_not.1 hb1; obtain ⟨⟨hc1, hc2, hc3, hc4, hc5, hc6⟩, hp, hq⟩ := wr_ok h0; have hR : wrB (c, ps.l, qs.l) = (wrE c ps.l qs.l, 0) := by rw [wrB, if_pos (show chkT (c, ps.l, qs.l) = 0 from h0)]
 rw [hR]; refine j6 (i8 (i7 (Y3 ?_))); refine Y4 ([]) ([]) (.refl _) 4 [] mixed (by decide) (by decide) (by decide) rfl rfl rfl (k7 (fun w1 => a9 ⟨_, 0, none⟩ rfl rfl E9 rfl (q_z rfl)) (k7 (fun w1 => I0 (cs := [int c.1, int c.2.1, int c.2.2.1, int c.2.2.2.1, int c.2.2.2.2.1, int c.2.2.2.2.2]) rfl C2 u3 rfl rfl (lZ (o := 0) mB (jH rfl)) (q_z rfl)) ?_)); refine hb_ad ⟨Nat, fun _ => True, fun g => .pointer (d6 g), fun _ => [], fun g => [(g, Obj.cells #[int 0, int 0, int 0, int 0, int 0, int 0] Y0 (0, 0))]⟩ rfl rfl rfl ?_ ?_
 ·intro w1; refine B3 rfl (fun _ => aO _) fun gA => j4 ?_; exact Q3 gA tK (fun _ => rfl) (List.Sublist.refl _) tK
 refine k7 (fun w1 => c7 rfl (q_z rfl)) ?_; refine E1 ⟨rfl, ?_⟩; intro gA _; refine t6 rfl rfl gP u3 (by rfl) (by rfl) ?_; refine d8 (i7 ?_); refine J0 34 mixed (by decide) (by decide) rfl rfl (u4 rfl (k7 (fun w1 => a9 ⟨_, 0, none⟩ rfl rfl N7 rfl (q_z rfl)) (k7 (fun w1 => c8 rfl b9 rfl (l4 mB rfl) (q_z rfl)) ?_))); refine k7 (fun w1 => bB (vs := [int c.1]) u6 rfl rfl rfl (G4 (c.1) hc1) p6 mC fun _ _ => (q_z rfl)) ?_; refine k7 (fun w1 => D5 (x' := taW) rfl p9 rfl S6 (q_z rfl)) (k7 (fun w1 => D5 (y' := spW) rfl rfl p9 S6 (q_z rfl)) (u4 rfl (k7 (fun w1 => a9 ⟨_, 1, none⟩ rfl rfl N6 rfl (q_z rfl)) (k7 (fun w1 => c8 rfl b9 rfl (l4 mB rfl) (q_z rfl)) ?_)))); refine k7 (fun w1 => bB (vs := [int c.2.1]) u6 rfl rfl rfl (G4 (c.2.1) hc2) p6 mC fun _ _ => (q_z rfl)) ?_; refine k7 (fun w1 => D5 rfl rfl rfl S6 (q_z rfl)) (k7 (fun w1 => D5 (y' := spW) rfl rfl p9 S6 (q_z rfl)) (u4 rfl (k7 (fun w1 => a9 ⟨_, 2, none⟩ rfl rfl N5 rfl (q_z rfl)) (k7 (fun w1 => c8 rfl b9 rfl (l4 mB rfl) (q_z rfl)) ?_)))); refine k7 (fun w1 => bB (vs := [int c.2.2.1]) u6 rfl rfl rfl (G4 (c.2.2.1) hc3) p6 mC fun _ _ => (q_z rfl)) ?_; refine k7 (fun w1 => D5 rfl rfl rfl S6 (q_z rfl)) (k7 (fun w1 => D5 (y' := spW) rfl rfl p9 S6 (q_z rfl)) (u4 rfl (k7 (fun w1 => a9 ⟨_, 3, none⟩ rfl rfl N4 rfl (q_z rfl)) (k7 (fun w1 => c8 rfl b9 rfl (l4 mB rfl) (q_z rfl)) ?_)))); refine k7 (fun w1 => bB (vs := [int c.2.2.2.1]) u6 rfl rfl rfl (G4 (c.2.2.2.1) hc4) p6 mC fun _ _ => (q_z rfl)) ?_; refine k7 (fun w1 => D5 rfl rfl rfl S6 (q_z rfl)) (k7 (fun w1 => D5 (y' := ofW) rfl rfl p9 S6 (q_z rfl)) (u4 rfl (k7 (fun w1 => a9 ⟨_, 4, none⟩ rfl rfl N3 rfl (q_z rfl)) (k7 (fun w1 => c8 rfl b9 rfl (l4 mB rfl) (q_z rfl)) ?_)))); refine k7 (fun w1 => bB (vs := [int c.2.2.2.2.1]) u6 rfl rfl rfl (G4 (c.2.2.2.2.1) hc5) p6 mC fun _ _ => (q_z rfl)) ?_; refine k7 (fun w1 => D5 rfl rfl rfl S6 (q_z rfl)) (k7 (fun w1 => D5 (y' := frW) rfl rfl p9 S6 (q_z rfl)) (u4 rfl (k7 (fun w1 => a9 ⟨_, 5, none⟩ rfl rfl N2 rfl (q_z rfl)) (k7 (fun w1 => c8 rfl b9 rfl (l4 mB rfl) (q_z rfl)) ?_)))); refine k7 (fun w1 => bB (vs := [int c.2.2.2.2.2]) u6 rfl rfl rfl (G4 (c.2.2.2.2.2) hc6) p6 mC fun _ _ => (q_z rfl)) ?_; refine E1 ⟨rfl, ?_⟩; refine D5 rfl rfl rfl S6 (D5 (y' := stW) rfl rfl p9 S6 ?_); refine c7 rfl (d8 (i7 (d9 ?_))); refine a9 ⟨_, 6, none⟩ rfl rfl q9 rfl (c8 rfl k8 rfl (l4 mB rfl) (l7 rfl l8 rfl ?_)); refine b8 rfl (d8 (j8 ?_)); refine y8 (β := Nat) ⟨fun k => k ≤ ps.l.length, fun k => [(1, .pointer (d6 gB)), (5, .func (.func 32) #[] #[]), (6, .pointer (d6 gA)), (7, str (accP c (ps.l.take k).reverse)), (57, .slice ps.a ps.l.length ps.c), (58, int ps.l.length), (59, int k)], fun _ => [(gA, Obj.cells #[int c.1, int c.2.1, int c.2.2.1, int c.2.2.2.1, int c.2.2.2.2.1, int c.2.2.2.2.2] Y0 (0, 0))], fun _ => Blk gB (Obj.cells (saC c ps qs) r7 (0, 0)) :: TAB :: saL ps qs⟩ (fun k => ps.l.length - k) 0 (Nat.zero_le _) mC (.refl _) mC fun k hk => ?_; simp only at hk; have hl1 := lx6 c (ps.l.take k).reverse; rw [List.length_reverse, List.length_take] at hl1; refine d9 (C4 rfl rfl rfl (d8 (i7 ?_))); refine m6 rfl (fun hb2 => ?_) (fun hb2 => ?_)
 ·have hk2 : k < ps.l.length := by omega
  have hpk := hp _ (A3 hk2); have hi0 := G0 (ps.l.getD k default); refine j6 (i8 (i7 (j8 (d9 ?_)))); refine r8 (α := Int) _ _ rfl l8 m9 rfl rfl rfl mB rfl (by omega) (by decide) (c8 rfl b9 rfl (k9 mB (j9 (by omega) rfl)) ?_); refine c7 rfl (d8 (j0 (b8 rfl (b8 rfl (b8 rfl ?_))))); refine bB (vs := [int (ps.l.getD k default)]) u6 rfl rfl rfl (G4 ((ps.l.getD k default)) hpk) p6 mC fun _ _ => D5 (x' := spW) rfl p9 rfl S6 (D5 rfl rfl rfl S6 ?_); refine c7 rfl (j4 (w9 (i8 (j0 ?_)))); refine v8 _ rfl rfl rfl rfl r6 ?_; refine b8 rfl (j4 ?_); have hacc : accP c (ps.l.take (k + 1)).reverse = accP c (ps.l.take k).reverse ++ (spW ++ itoaZ (ps.l.getD k default)) := by rw [sI hk2, accP]
  exact again _ (k + 1) (by show k + 1 ≤ ps.l.length; omega) (C8 (by omega)) ⟨rfl, rfl, rfl, by rw [hacc]; rfl, rfl, rfl, rfl, tK⟩ (.refl _) mC
 obtain rfl : k = ps.l.length := by omega
 refine w8 (E4 (w6 (i8 (d9 (b8 rfl ?_))))); refine D5 (y' := nlW) rfl rfl p9 S6 ?_; refine c7 rfl (k6 ?_); refine B8 rfl C2 u3 rfl mB (by rfl) ?_; refine j5 aj7 rfl rfl (aj8 c) p6 tK fun tg _ => ?_; refine c7 rfl (d8 (i7 (d9 ?_))); refine a9 ⟨_, 7, none⟩ rfl rfl m5 rfl (c8 rfl k4 rfl (l4 mB rfl) (l7 rfl u0 rfl ?_)); refine b8 rfl (d8 (j8 ?_)); refine y8 (β := Nat) ⟨fun k => k ≤ qs.l.length, fun k => [(1, .pointer (d6 gB)), (7, str (accQ (accP c (ps.l.take ps.l.length).reverse) (qs.l.take k).reverse)), (10, .pointer (d6 tg)), (75, .slice qs.a qs.l.length qs.c), (76, int qs.l.length), (77, int k)], fun _ => [], fun _ => Blk gB (Obj.cells (saC c ps qs) r7 (0, 0)) :: TAB :: saL ps qs⟩ (fun k => qs.l.length - k) 0 (Nat.zero_le _) mC nK mC fun k hk => ?_; simp only at hk; have hl2 := lx5 (accP c (ps.l.take ps.l.length).reverse) (qs.l.take k).reverse; rw [List.length_reverse, List.length_take] at hl2; refine d9 (C4 rfl rfl rfl (d8 (i7 ?_))); refine m6 rfl (fun hb3 => ?_) (fun hb3 => ?_)
 ·have hk3 : k < qs.l.length := by omega
  have hqk := hq _ (A3 hk3); have hw0 := px4 (qs.l.getD k default); refine j6 (i8 (i7 (j8 (d9 ?_)))); refine r8 (α := Ad) _ _ rfl u0 d7 rfl rfl rfl mB rfl (by omega) (by decide) (I0 rfl i9 d7 rfl rfl (H5 mB (K2 (by omega))) (B3 rfl (fun _ => J2 _) fun gA => t6 rfl rfl gP d7 (by rfl) (by rfl) (d8 (J0 8 mixed (by decide) (by decide) rfl rfl (u4 rfl (k7 (fun w1 => a9 ⟨_, 0, none⟩ rfl rfl I6 rfl (q_z rfl)) (k7 (fun w1 => c8 rfl b9 rfl (l4 mB rfl) (q_z rfl)) (u4 rfl (k7 (fun w1 => R9 rfl i9 d7 rfl mB (by rfl) (q_z rfl)) ?_))))))))); refine k7 (fun w1 => j5 cP rfl rfl (cS tg (qs.l.getD k default)) p6 tK fun _ _ => (q_z rfl)) ?_; refine k7 (fun w1 => j5 hz5 rfl rfl (px3 tg (qs.l.getD k default) hqk.1 hqk.2) p6 mC fun _ _ => (q_z rfl)) ?_; refine k7 (fun w1 => D5 (y' := nlW) rfl rfl p9 S6 (q_z rfl)) ?_; refine E1 ⟨rfl, ?_⟩; refine D5 rfl rfl rfl S6 ?_; refine c7 rfl (j4 (w9 (i8 (j0 ?_)))); refine v8 _ rfl rfl rfl rfl r6 ?_; refine b8 rfl (j4 ?_); have hacc : accQ (accP c (ps.l.take ps.l.length).reverse) (qs.l.take (k + 1)).reverse = accQ (accP c (ps.l.take ps.l.length).reverse) (qs.l.take k).reverse ++ (wordE (qs.l.getD k default) ++ nlW) := by rw [sI hk3, accQ]
  exact again _ (k + 1) (by show k + 1 ≤ qs.l.length; omega) (C8 (by omega)) ⟨rfl, by rw [hacc]; rfl, rfl, rfl, rfl, rfl, tK⟩ nK mC
 obtain rfl : k = qs.l.length := by omega
 refine w8 (E4 (w6 (i8 (d9 (b8 rfl ?_))))); refine D5 (y' := soW) rfl rfl p9 S6 ?_; refine c7 rfl (c7 rfl (d8 (k5 ?_))); exact ret2 () rfl rfl rfl (by rw [List.take_length, List.take_length]; rfl) rfl tK nK tK
theorem aj2 {m z : Int} (h : ToInv m z) (hm : 0 ≤ m) : 0 ≤ z ∧ z ≤ m := by
  simp only [ToInv] at h; refine ⟨h.1, ?_⟩
  by_cases h1 : 1 ≤ m
  · exact h.2.1 h1
  have := h.2.2 (by omega); omega
theorem kj5 {lo hi z : Int} (h : FromInv lo hi z) (hm : lo ≤ hi) : lo ≤ z ∧ z ≤ hi := by
  simp only [FromInv] at h; refine ⟨h.1, ?_⟩
  by_cases h1 : lo < hi
  · exact h.2.1 h1
  have := h.2.2 (by omega); omega
theorem iz3 {α : Type} {p : α → Prop} {l : List α} {x : α} (h : ∀ y ∈ l, p y) (hx : p x) : ∀ y ∈ l ++ [x], p y := fun y hy => (List.mem_append.1 hy).elim (h y) fun hy => by rw [List.mem_singleton.1 hy]; exact hx
theorem dF {g : Nat} {A B : Option Addr} {c cb : Nat} {nums : List Int} {s : Int × Int} (l : List Int) (hn : nums.length ≤ 9223372036854775807) (hs : DOK nums s) (hl : 0 < l.length) (hl2 : l.length ≤ 1000) :
    Meets prog kP [.pointer (d6 g), .slice B l.length cb] { diceCon g A c nums s (fun x : Int => x ∈ l) (fun z => int z) (fun _ => []) with LI := [Row A (rows nums), Row B (rows l)] } := by
 refine j3 dz1 rfl t8 fun w0 => ?_; refine d9 (c7 rfl (k6 (b8 rfl (b8 rfl (b8 rfl ?_))))); refine l7 rfl l8 rfl (W9 _ rfl rfl rfl rfl r6 (j5 G9 rfl rfl (G8 ((l.length : Int) - 1) hn hs (by omega)) p6 mC fun xs1 hs1 => ?_)); obtain ⟨s1, z⟩ := xs1; obtain ⟨hs1, hz⟩ := hs1; simp only at hs1; have hz := aj2 hz (by omega); obtain ⟨zn, rfl⟩ := Int.eq_ofNat_of_zero_le hz.1; have hzl : zn < l.length := by omega
 refine r8 (α := Int) _ _ rfl l8 m9 rfl rfl rfl mB rfl (by omega) (by decide) (c8 rfl b9 rfl (k9 mB (j9 (by omega) rfl)) ?_); refine c7 rfl (d8 (k5 ?_)); exact ret1 (s1, l.getD zn default) rfl rfl rfl ⟨hs1, A3 hzl⟩ (.refl _) tK
theorem az8 {g : Nat} {A : Option Addr} {c : Nat} {nums : List Int} {s : Int × Int} (n : Nat) (hn : nums.length ≤ 9223372036854775807) (hs : DOK nums s) (h1 : 1 ≤ n ∧ n ≤ 1000) :
    Meets prog kQ [.pointer (d6 g), int n] (diceCon g A c nums s (fun x : Ad => adErr n x = 0) (fun x => adV x) (fun _ => [])) := by
 refine j3 dz2 rfl t8 fun w0 => d9 (B3 rfl (fun _ => J2 _) fun g4 => ?_); refine k6 (b8 rfl (b8 rfl ?_)); refine W9 _ rfl rfl rfl rfl r6 (j5 G9 rfl rfl (G8 ((n : Int) - 1) hn hs (by omega)) (List.Perm.swap _ _ _) mC fun xs1 hs1 => ?_); obtain ⟨s1, z⟩ := xs1; obtain ⟨hs1, hz⟩ := hs1; simp only at hs1; have hz : 0 ≤ z ∧ z ≤ (n : Int) - 1 := aj2 hz (by omega); refine b8 rfl (j5 X7 rfl rfl (X6 (1) (3) hn hs1 (by omega)) p6 mC fun xs2 hs2 => ?_); obtain ⟨s2, k⟩ := xs2; obtain ⟨hs2, hk⟩ := hs2; simp only at hs2; have hk : 1 ≤ k ∧ k ≤ 3 := kj5 hk (by omega); refine v9 _ rfl rfl (fun _ => E3 ..) (B3 rfl (fun _ => J2 _) fun g5 => t6 (cs := #[int z, int k, int 1]) rfl rfl (.refl _) d7 (by rfl) (by rfl) (d8 ?_)); refine kE ⟨fun x : (Int × Int) × Int => DOK nums x.1 ∧ (1 ≤ x.2 ∧ x.2 ≤ 6) ∧ (k = 1 → x.2 = 1), fun x => [(4, .pointer (d6 g4)), (5, .pointer (d6 g5))], fun x => [(g5, Obj.cells #[int z, int k, int x.2] C6 (0, 0)), dice g A c nums x.1, (g4, Obj.cells #[int 0, int 0, int 0] C6 (0, 0))], fun _ => []⟩ ?_ ?_
 ·skip
  refine d9 (a9 ⟨_, 1, none⟩ rfl rfl A9 rfl (c8 rfl b9 rfl (m3 mB rfl) ?_)); refine P9 rfl rfl rfl (d8 ?_); refine m6 rfl (fun hb1 => ?_) (fun hb1 => ?_)
  ·refine j0 (b8 rfl ?_); refine j5 X7 rfl rfl (X6 (1) (6) hn hs2 (by omega)) (List.Perm.swap _ _ _) mC fun xs3 hs3 => ?_; obtain ⟨s3, l⟩ := xs3; obtain ⟨hs3, hl⟩ := hs3; simp only at hs3; have hl : 1 ≤ l ∧ l ≤ 6 := kj5 hl (by omega); refine a9 ⟨_, 2, none⟩ rfl rfl z9 rfl (z8 rfl rfl (.swap _ _ _) m9 (by rfl) (by rfl) (j4 ?_)); exact P5 _ (s3, l) ⟨hs3, hl, fun e => absurd e hb1⟩ mC (List.Sublist.refl _) tK
  refine j6 ?_; exact P5 _ (s2, 1) ⟨hs2, ⟨Int.le_refl 1, show (1 : Int) ≤ 6 by decide⟩, fun _ => rfl⟩ mC (List.Sublist.refl _) tK
 intro x hx; obtain ⟨s4, l⟩ := x; obtain ⟨hs4, hl, hkl⟩ := hx; simp only at hs4 hl hkl; refine d9 (B8 rfl i9 d7 rfl mB (by rfl) ?_); refine t6 (cs := #[int z, int k, int l]) (hp' := [(g5, Obj.cells #[int z, int k, int l] C6 (0, 0)), dice g A c nums s4]) rfl rfl (show List.Perm ([(g5, Obj.cells #[int z, int k, int l] C6 (0, 0)), dice g A c nums s4, (g4, Obj.cells #[int 0, int 0, int 0] C6 (0, 0))]) ([(g4, Obj.cells #[int 0, int 0, int 0] C6 (0, 0)), (g5, Obj.cells #[int z, int k, int l] C6 (0, 0)), dice g A c nums s4]) from (Z2 fun p => by simp only [List.countP_append, List.countP_cons, List.countP_nil]; omega)) d7 (by rfl) (by rfl) ?_; refine d8 (k5 ?_); have hko : k = 1 ∨ 1 < k := by omega
 refine yU (s4, (z, k, l)) rfl rfl i9 d7 rfl m0 rfl rfl ⟨hs4, by show adErr n (z, k, l) = 0; unfold adErr; simp only; rw [if_neg (by omega), if_neg (by omega), if_neg (by omega)]⟩ (.cons _ (.cons _ (.refl _))) tK
theorem iz4 {n : Nat} : ∀ {xs : List Ad}, (∀ x ∈ xs, adErr n x = 0) → firstE n xs = 0
  | [], _ => rfl
  | x :: r, h => by rw [firstE, if_neg (fun e => e (h x (List.mem_cons_self ..)))]; exact iz4 fun y hy => h y (List.mem_cons_of_mem _ hy)
theorem chk_mk {c : Ch} {ss : List Int} {xs : List Ad} (hc : ChOK c) (h1 : 1 ≤ ss.length ∧ ss.length ≤ 5) (hs : ∀ v ∈ ss, 0 ≤ v ∧ v ≤ 9) (hx : xs.length ≤ 8) (ha : ∀ x ∈ xs, adErr ss.length x = 0) : chkS c ss xs = 0 := by
  obtain ⟨q1, q2, q3, q4, q5, q6⟩ := hc; unfold chkS; rw [if_neg (Classical.not_not.2 (by intro v hv; simp only [chQ, List.mem_cons, List.not_mem_nil, or_false] at hv; rcases hv with rfl | rfl | rfl | rfl <;> assumption)), if_neg (by omega), if_neg (by omega), if_neg (by omega), if_neg (Classical.not_not.2 hs), if_neg (by omega)]; exact iz4 ha
abbrev saB (g : Nat) (c : Ch) (sA : Option Addr) (sn sC : Nat) (aA : Option Addr) (an aC : Nat) : Nat × Obj := (g, .cells #[int c.1, int c.2.1, int c.2.2.1, int c.2.2.2.1, int c.2.2.2.2.1, int c.2.2.2.2.2, .slice sA sn sC, .slice aA an aC] r7 (0, 0))
abbrev SRes := Ch × Sl Int × Sl Ad
structure SOf (m : Nat) (x : SRes) : Prop where
  ok : chkS x.1 x.2.1.l x.2.2.l = 0
  x8 : x.2.2.l.length ≤ m
  ca : x.2.1.l.length ≤ x.2.1.c
  cb : x.2.2.l.length ≤ x.2.2.c
set_option maxHeartbeats 1000000 in
theorem dj3 {g : Nat} {A : Option Addr} {c : Nat} {nums : List Int} {s : Int × Int} (m : Nat) (hn : nums.length ≤ 9223372036854775807) (hs : DOK nums s) (hm : m ≤ 8) :
    Meets prog nQ [.pointer (d6 g), int m] (diceCon g A c nums s (SOf m) (fun x => saV x.1 x.2.1 x.2.2) (fun x => saL x.2.1 x.2.2)) := by
 refine j3 hx5 rfl t8 fun w0 => d9 (B3 rfl (fun _ => G5 _) fun g4 => ?_); refine k6 (b8 rfl (b8 rfl ?_)); refine j5 G9 rfl rfl (G8 (30) hn hs (by omega)) (List.Perm.swap _ _ _) mC fun xs1 hs1 => ?_; obtain ⟨s1, z1⟩ := xs1; obtain ⟨hs1, hz1⟩ := hs1; simp only at hs1; have hz1 : 0 ≤ z1 ∧ z1 ≤ 30 := aj2 hz1 (by omega); refine b8 rfl (j5 G9 rfl rfl (G8 (200) hn hs1 (by omega)) p6 mC fun xs2 hs2 => ?_); obtain ⟨s2, z2⟩ := xs2; obtain ⟨hs2, hz2⟩ := hs2; simp only at hs2; have hz2 : 0 ≤ z2 ∧ z2 ≤ 200 := aj2 hz2 (by omega); refine p7 _ rfl rfl (fun _ => bM ..) fun gS => E0 (rows ([0, z1, z2] : List Int)) (List.prefix_refl _) (j5 dJ rfl rfl (dF ([0, z1, z2]) hn hs2 (show 0 < 3 by decide) (show 3 ≤ 1000 by decide)) p6 mC fun xs3 hs3 => ?_); obtain ⟨s3, za⟩ := xs3; obtain ⟨hs3, hza⟩ := hs3; simp only at hs3
 have hza : 0 ≤ za ∧ za ≤ 200 := by
   have hm := hza; simp only [List.mem_cons, List.not_mem_nil, or_false] at hm; rcases hm with rfl | rfl | rfl <;> omega
 refine b8 rfl (j5 G9 rfl rfl (G8 (90) hn hs3 (by omega)) p6 mC fun xs4 hs4 => ?_); obtain ⟨s4, zb⟩ := xs4; obtain ⟨hs4, hzb⟩ := hs4; simp only at hs4; have hzb : 0 ≤ zb ∧ zb ≤ 90 := aj2 hzb (by omega); refine b8 rfl (j5 G9 rfl rfl (G8 (30) hn hs4 (by omega)) p6 mC fun xs5 hs5 => ?_); obtain ⟨s5, zc⟩ := xs5; obtain ⟨hs5, hzc⟩ := hs5; simp only at hs5; have hzc : 0 ≤ zc ∧ zc ≤ 30 := aj2 hzc (by omega); refine b8 rfl (j5 G9 rfl rfl (G8 (99) hn hs5 (by omega)) p6 mC fun xs6 hs6 => ?_); obtain ⟨s6, zd⟩ := xs6; obtain ⟨hs6, hzd⟩ := hs6; simp only at hs6; have hzd : 0 ≤ zd ∧ zd ≤ 99 := aj2 hzd (by omega); refine b8 rfl (b8 rfl ?_); refine j5 G9 rfl rfl (G8 (20) hn hs6 (by omega)) p6 mC fun xs7 hs7 => ?_; obtain ⟨s7, z7⟩ := xs7; obtain ⟨hs7, hz7⟩ := hs7; simp only at hs7; have hz7 : 0 ≤ z7 ∧ z7 ≤ 20 := aj2 hz7 (by omega); refine p7 _ rfl rfl (fun _ => bM ..) fun gS => E0 (rows ([0, z7, 50] : List Int)) (List.prefix_refl _) (j5 dJ rfl rfl (dF ([0, z7, 50]) hn hs7 (show 0 < 3 by decide) (show 3 ≤ 1000 by decide)) p6 mC fun xs8 hs8 => ?_); obtain ⟨s8, ze⟩ := xs8; obtain ⟨hs8, hze⟩ := hs8; simp only at hs8
 have hze : 0 ≤ ze ∧ ze ≤ 50 := by
   have hm := hze; simp only [List.mem_cons, List.not_mem_nil, or_false] at hm; rcases hm with rfl | rfl | rfl <;> omega
 refine b8 rfl (j5 X7 rfl rfl (X6 (1) (3) hn hs8 (by omega)) p6 mC fun xs9 hs9 => ?_); obtain ⟨s9, zf⟩ := xs9; obtain ⟨hs9, hzf⟩ := hs9; simp only at hs9; have hzf : 1 ≤ zf ∧ zf ≤ 3 := kj5 hzf (by omega); refine v9 _ rfl rfl (fun _ => K9 ..) (v9 _ rfl rfl (fun _ => cq1 ..) (B3 rfl (fun _ => G5 _) fun g5 => t6 (cs := #[int za, int zb, int zc, int zd, int ze, int zf, .slice none 0 0, .slice none 0 0]) rfl rfl (.refl _) j7 (by rfl) (by rfl) ?_)); have hch : ChOK (za, zb, zc, zd, ze, zf) := ⟨by show 0 ≤ za ∧ za ≤ 999; omega, by show 0 ≤ zb ∧ zb ≤ 999; omega, by show 0 ≤ zc ∧ zc ≤ 999; omega, by show 0 ≤ zd ∧ zd ≤ 999; omega, by show 0 ≤ ze ∧ ze ≤ 50; omega, by show 1 ≤ zf ∧ zf ≤ 5; omega⟩; refine d8 (i7 (d9 (b8 rfl ?_))); refine j5 X7 rfl rfl (X6 (1) (5) hn hs9 (by omega)) (List.Perm.swap _ _ _) mC fun xs10 hs10 => ?_; obtain ⟨s10, zn⟩ := xs10; obtain ⟨hs10, hzn⟩ := hs10; simp only at hs10; have hzn : 1 ≤ zn ∧ zn ≤ 5 := kj5 hzn (by omega); obtain ⟨zn, rfl⟩ := Int.eq_ofNat_of_zero_le (show 0 ≤ zn by omega); refine c7 rfl (d8 (j8 ?_)); refine y8 (β := List Int × OutC × Hp × Nat × (Int × Int)) ⟨fun ⟨l, o, og, i, s⟩ => Grow H8 1 o.1 l.length o.2 (rows l) og ∧ l.length + i = zn ∧ (∀ v ∈ l, 0 ≤ v ∧ v ≤ 9) ∧ DOK nums s, fun ⟨l, o, og, i, s⟩ => [(0, .pointer (d6 g)), (1, int m), (4, .pointer (d6 g4)), (5, .pointer (d6 g5)), (6, int i)], fun ⟨l, o, og, i, s⟩ => dice g A c nums s :: saB g5 ((za, zb, zc, zd, ze, zf) : Ch) o.1 l.length o.2 none 0 0 :: saB g4 (0, 0, 0, 0, 0, 0) none 0 0 none 0 0 :: og, fun _ => [Row A (rows nums)]⟩ (fun x => x.2.2.2.1) ([], (none, 0), [], zn, s10) ⟨Grow.nil _ _, Nat.zero_add _, fun v hv => by simp at hv, hs10⟩ mC (.refl _) mC fun x hx => ?_; clear hs hs1 hs2 hs3 hs4 hs5 hs6 hs7 hs8 hs9 hs10; obtain ⟨l, o, og, i, s⟩ := x; obtain ⟨hG, hli, hok, hs⟩ := hx; refine i7 (d9 (b8 rfl (P4 rfl rfl rfl (d8 ?_)))); refine m6 rfl (fun hb1 => ?_) (fun hb1 => ?_)
 ·have hi0 : 0 < i := by omega
  refine j6 (i8 (i7 (j8 ?_))); refine Y4 (dice g A c nums s :: og) ([saB g5 ((za, zb, zc, zd, ze, zf) : Ch) o.1 l.length o.2 none 0 0, saB g4 (0, 0, 0, 0, 0, 0) none 0 0 none 0 0]) (Z2 fun p => by simp only [List.countP_append, List.countP_cons, List.countP_nil]; omega) 8 [6, 4] mixed (by decide) (by decide) (by decide) rfl rfl rfl ?_; refine k7 (fun w1 => a9 ⟨_, 6, none⟩ rfl rfl q9 rfl (q_z rfl)) (k7 (fun w1 => c8 rfl k8 rfl (l4 mB rfl) (q_z rfl)) (u4 rfl (u4 rfl ?_))); refine kY ⟨(Int × Int) × Int, fun x => DOK nums x.1 ∧ 0 ≤ x.2 ∧ x.2 ≤ 9, fun x => int x.2, fun _ => [], fun x => dice g A c nums x.1 :: og⟩ rfl rfl rfl ?_ ?_
  ·intro w1; refine j5 G9 rfl rfl (G8 (9) hn hs (by omega)) p6 mC fun xs1 hs1 => ?_; obtain ⟨s1, z⟩ := xs1; obtain ⟨hs1, hz⟩ := hs1; simp only at hs1; have hz : 0 ≤ z ∧ z ≤ 9 := aj2 hz (by omega); refine j4 ?_; exact Q3 (s1, z) ⟨hs1, hz⟩ (fun _ => rfl) (List.Sublist.refl _) tK
  refine U5 ⟨Nat × Int, fun x => 0 ≤ x.2 ∧ x.2 ≤ 9, fun x => .slice (some ⟨x.1, 0, none⟩) 4 4, fun x => [Row (some ⟨x.1, 0, none⟩) (rows ([0, 0, 3, x.2] : List Int))]⟩ rfl rfl rfl ?_ ?_
  ·intro x hx; intro w1; refine p7 _ rfl rfl (fun _ => cj9 ..) fun gS => j4 (H6 (rows ([0, 0, 3, x.2] : List Int)) (List.prefix_refl _) ?_); exact I9 (gS, x.2) hx.2 rfl ⟨m0, tK⟩
  refine kY ⟨(Int × Int) × Int, fun x => DOK nums x.1 ∧ 0 ≤ x.2 ∧ x.2 ≤ 9, fun x => int x.2, fun _ => [], fun x => dice g A c nums x.1 :: og⟩ rfl rfl rfl ?_ ?_
  ·intro y4 hy4 y5 hy5; intro w1; refine j5 dJ rfl rfl (dF ([0, 0, 3, y5.2]) hn hy4.1 (show 0 < 4 by decide) (show 4 ≤ 1000 by decide)) p6 mC fun xs2 hs2 => ?_; obtain ⟨s2, z2⟩ := xs2; obtain ⟨hs2, hz2⟩ := hs2; simp only at hs2
   have hz2 : 0 ≤ z2 ∧ z2 ≤ 9 := by
     have hm := hz2; simp only [List.mem_cons, List.not_mem_nil, or_false] at hm; rcases hm with rfl | rfl | rfl | rfl <;> omega
   refine j4 ?_; exact Q3 (s2, z2) ⟨hs2, hz2⟩ (fun _ => rfl) (List.Sublist.refl _) tK
  refine U5 ⟨Nat × Int, fun x => 0 ≤ x.2 ∧ x.2 ≤ 9, fun x => .slice (some ⟨x.1, 0, none⟩) 1 1, fun x => [Row (some ⟨x.1, 0, none⟩) (rows [x.2])]⟩ rfl rfl rfl ?_ ?_
  ·intro x hx; intro w1; refine p7 _ rfl rfl (fun _ => R8 ..) fun gS => j4 (H6 (rows [x.2]) (List.prefix_refl _) ?_); exact I9 (gS, x.2) hx.2 rfl ⟨m0, tK⟩
  refine E1 ⟨rfl, ?_⟩; intro _ _ _ _ x6 h6 x7 h7; obtain ⟨s2, _⟩ := x6; have hs2 : DOK nums s2 := h6.1; obtain ⟨g7, z⟩ := x7; simp only at h7; refine M2 (hp' := [dice g A c nums s2, saB g5 ((za, zb, zc, zd, ze, zf) : Ch) o.1 l.length o.2 none 0 0, saB g4 (0, 0, 0, 0, 0, 0) none 0 0 none 0 0]) (l.length + 1) (rows (l ++ [z])) mG rfl rfl rfl hG (show List.Perm (dice g A c nums s2 :: og ++ [saB g5 ((za, zb, zc, zd, ze, zf) : Ch) o.1 l.length o.2 none 0 0, saB g4 (0, 0, 0, 0, 0, 0) none 0 0 none 0 0]) (og ++ [dice g A c nums s2, saB g5 ((za, zb, zc, zd, ze, zf) : Ch) o.1 l.length o.2 none 0 0, saB g4 (0, 0, 0, 0, 0, 0) none 0 0 none 0 0]) from (Z2 fun p => by simp only [List.countP_append, List.countP_cons, List.countP_nil]; omega)) (Src.row (news := rows [z]) (m := 1) mB rfl (M1 _) (by decide)) rfl (C9 _ _).symm (by unfold maxLen; omega) (by omega) fun A4 c4 og4 hG4 => ?_; refine a9 ⟨_, 6, none⟩ rfl rfl q9 rfl ?_; refine z8 (hp' := og4 ++ [dice g A c nums s2, saB g4 (0, 0, 0, 0, 0, 0) none 0 0 none 0 0]) rfl rfl (show List.Perm (og4 ++ [dice g A c nums s2, saB g5 ((za, zb, zc, zd, ze, zf) : Ch) o.1 l.length o.2 none 0 0, saB g4 (0, 0, 0, 0, 0, 0) none 0 0 none 0 0]) (saB g5 ((za, zb, zc, zd, ze, zf) : Ch) o.1 l.length o.2 none 0 0 :: (og4 ++ [dice g A c nums s2, saB g4 (0, 0, 0, 0, 0, 0) none 0 0 none 0 0])) from (Z2 fun p => by simp only [List.countP_append, List.countP_cons, List.countP_nil]; omega)) tT (by rfl) (by rfl) ?_; refine j4 (w9 (i8 (j0 (b8 rfl ?_)))); refine W9 ((i - 1 : Nat) : Int) rfl rfl rfl (by omega) r6 ?_; refine c7 rfl (j4 ?_); have e1 : (l ++ [z]).length = l.length + 1 := List.length_append; refine Z3 (show List.Perm (saB g5 ((za, zb, zc, zd, ze, zf) : Ch) A4 (l.length + 1) c4 none 0 0 :: (og4 ++ [dice g A c nums s2, saB g4 (0, 0, 0, 0, 0, 0) none 0 0 none 0 0])) (dice g A c nums s2 :: saB g5 ((za, zb, zc, zd, ze, zf) : Ch) A4 (l.length + 1) c4 none 0 0 :: saB g4 (0, 0, 0, 0, 0, 0) none 0 0 none 0 0 :: og4) from (Z2 fun p => by simp only [List.countP_append, List.countP_cons, List.countP_nil]; omega)) ?_; exact again _ (l ++ [z], (A4, c4), og4, i - 1, s2) ⟨by show Grow _ _ _ (l ++ [_]).length _ _ _; rw [e1]; exact hG4, by rw [e1]; omega, iz3 hok h7, hs2⟩ (by show i - 1 < i; omega) mC (by show List.Sublist (_ :: saB g5 _ _ (l ++ [_]).length _ _ _ _ :: _) _; rw [e1]; exact List.Sublist.refl _) mC
 obtain rfl : i = 0 := by omega
 refine w8 (E4 (w6 (i8 (dj7 ?_)))); obtain ⟨sA, sC⟩ := o; have hCle := hG.le; refine qq9 (og ++ [dice g A c nums s, saB g5 ((za, zb, zc, zd, ze, zf) : Ch) sA l.length sC none 0 0, saB g4 (0, 0, 0, 0, 0, 0) none 0 0 none 0 0]) (by intro p; simp only [List.countP_append, List.countP_cons, List.countP_nil]; omega) ?_; refine yA hG ?_; clear hG; refine j0 (b8 rfl (b8 rfl ?_)); refine j5 G9 rfl rfl (G8 (m) hn hs (by omega)) p6 mC fun xs11 hs11 => ?_; obtain ⟨s11, zm⟩ := xs11; obtain ⟨hs11, hzm⟩ := hs11; simp only at hs11; have hzm : 0 ≤ zm ∧ zm ≤ m := aj2 hzm (by omega); obtain ⟨zm, rfl⟩ := Int.eq_ofNat_of_zero_le hzm.1; refine c7 rfl (d8 (j8 ?_)); refine y8 (β := List Ad × OutC × Hp × Nat × (Int × Int)) ⟨fun ⟨q, o, og, i, s⟩ => Grow C6 3 o.1 q.length o.2 (rows q) og ∧ q.length + i ≤ m ∧ (∀ x ∈ q, adErr l.length x = 0) ∧ DOK nums s, fun ⟨q, o, og, i, s⟩ => [(0, .pointer (d6 g)), (1, int m), (4, .pointer (d6 g4)), (5, .pointer (d6 g5)), (7, int i)], fun ⟨q, o, og, i, s⟩ => dice g A c nums s :: saB g5 ((za, zb, zc, zd, ze, zf) : Ch) sA l.length sC o.1 q.length o.2 :: saB g4 (0, 0, 0, 0, 0, 0) none 0 0 none 0 0 :: og, fun _ => [Row sA (rows l), Row A (rows nums)]⟩ (fun x => x.2.2.2.1) ([], (none, 0), [], zm, s11) ⟨Grow.nil _ _, by rw [List.length_nil]; omega, fun v hv => by simp at hv, hs11⟩ mC (.refl _) mC fun x hx => ?_; clear hs hs11; obtain ⟨q, o, og, i, s⟩ := x; obtain ⟨hG, hqi, hok2, hs⟩ := hx; refine i7 (d9 (b8 rfl (P4 rfl rfl rfl (d8 ?_)))); refine m6 rfl (fun hb2 => ?_) (fun hb2 => ?_)
 ·have hi0 : 0 < i := by omega
  refine j6 (i8 (i7 (j8 ?_))); refine Y4 (dice g A c nums s :: og) ([saB g5 ((za, zb, zc, zd, ze, zf) : Ch) sA l.length sC o.1 q.length o.2, saB g4 (0, 0, 0, 0, 0, 0) none 0 0 none 0 0]) (Z2 fun p => by simp only [List.countP_append, List.countP_cons, List.countP_nil]; omega) 8 [6] mixed (by decide) (by decide) (by decide) rfl rfl rfl ?_; refine k7 (fun w1 => a9 ⟨_, 7, none⟩ rfl rfl m5 rfl (q_z rfl)) (k7 (fun w1 => c8 rfl k4 rfl (l4 mB rfl) (q_z rfl)) (u4 rfl (k7 (fun w1 => a9 ⟨_, 6, none⟩ rfl rfl q9 rfl (q_z rfl)) (k7 (fun w1 => c8 rfl k8 rfl (l4 mB rfl) (q_z rfl)) (k7 (fun w1 => l7 rfl l8 rfl (q_z rfl)) ?_))))); refine kY ⟨(Int × Int) × Ad, fun x => DOK nums x.1 ∧ adErr l.length x.2 = 0, fun x => adV x.2, fun _ => [], fun x => dice g A c nums x.1 :: og⟩ rfl rfl rfl ?_ ?_
  ·intro w1; refine j5 bq3 rfl rfl (az8 l.length hn hs ⟨by omega, by omega⟩) p6 mC fun xs1 hs1 => ?_; obtain ⟨s1, z⟩ := xs1; obtain ⟨hs1, hz⟩ := hs1; simp only at hs1; refine j4 ?_; exact Q3 (s1, z) ⟨hs1, hz⟩ (fun _ => rfl) (List.Sublist.refl _) tK
  refine U5 ⟨Nat × Ad, fun x => adErr l.length x.2 = 0, fun x => .slice (some ⟨x.1, 0, none⟩) 1 1, fun x => [Row (some ⟨x.1, 0, none⟩) (rows [x.2])]⟩ rfl rfl rfl ?_ ?_
  ·intro x hx; intro w1; refine p7 _ rfl rfl (fun _ => K0 ..) fun gS => j4 (H6 (rows [x.2]) (List.prefix_refl _) ?_); exact I9 (gS, x.2) hx.2 rfl ⟨m0, tK⟩
  refine E1 ⟨rfl, ?_⟩; intro x6 h6 x7 h7; obtain ⟨s2, _⟩ := x6; have hs2 : DOK nums s2 := h6.1; obtain ⟨g7, z⟩ := x7; simp only at h7; refine M2 (hp' := [dice g A c nums s2, saB g5 ((za, zb, zc, zd, ze, zf) : Ch) sA l.length sC o.1 q.length o.2, saB g4 (0, 0, 0, 0, 0, 0) none 0 0 none 0 0]) (q.length + 1) (rows (q ++ [z])) L8 rfl rfl rfl hG (show List.Perm (dice g A c nums s2 :: og ++ [saB g5 ((za, zb, zc, zd, ze, zf) : Ch) sA l.length sC o.1 q.length o.2, saB g4 (0, 0, 0, 0, 0, 0) none 0 0 none 0 0]) (og ++ [dice g A c nums s2, saB g5 ((za, zb, zc, zd, ze, zf) : Ch) sA l.length sC o.1 q.length o.2, saB g4 (0, 0, 0, 0, 0, 0) none 0 0 none 0 0]) from (Z2 fun p => by simp only [List.countP_append, List.countP_cons, List.countP_nil]; omega)) (Src.row (news := rows [z]) (m := 1) mB rfl (M1 _) (by decide)) rfl (C9 _ _).symm (by unfold maxLen; omega) (by omega) fun A4 c4 og4 hG4 => ?_; refine a9 ⟨_, 7, none⟩ rfl rfl m5 rfl ?_; refine z8 (hp' := og4 ++ [dice g A c nums s2, saB g4 (0, 0, 0, 0, 0, 0) none 0 0 none 0 0]) rfl rfl (show List.Perm (og4 ++ [dice g A c nums s2, saB g5 ((za, zb, zc, zd, ze, zf) : Ch) sA l.length sC o.1 q.length o.2, saB g4 (0, 0, 0, 0, 0, 0) none 0 0 none 0 0]) (saB g5 ((za, zb, zc, zd, ze, zf) : Ch) sA l.length sC o.1 q.length o.2 :: (og4 ++ [dice g A c nums s2, saB g4 (0, 0, 0, 0, 0, 0) none 0 0 none 0 0])) from (Z2 fun p => by simp only [List.countP_append, List.countP_cons, List.countP_nil]; omega)) J9 (by rfl) (by rfl) ?_; refine j4 (w9 (i8 (j0 (b8 rfl ?_)))); refine W9 ((i - 1 : Nat) : Int) rfl rfl rfl (by omega) r6 ?_; refine c7 rfl (j4 ?_); have e1 : (q ++ [z]).length = q.length + 1 := List.length_append; refine Z3 (show List.Perm (saB g5 ((za, zb, zc, zd, ze, zf) : Ch) sA l.length sC A4 (q.length + 1) c4 :: (og4 ++ [dice g A c nums s2, saB g4 (0, 0, 0, 0, 0, 0) none 0 0 none 0 0])) (dice g A c nums s2 :: saB g5 ((za, zb, zc, zd, ze, zf) : Ch) sA l.length sC A4 (q.length + 1) c4 :: saB g4 (0, 0, 0, 0, 0, 0) none 0 0 none 0 0 :: og4) from (Z2 fun p => by simp only [List.countP_append, List.countP_cons, List.countP_nil]; omega)) ?_; exact again _ (q ++ [z], (A4, c4), og4, i - 1, s2) ⟨by show Grow _ _ _ (q ++ [_]).length _ _ _; rw [e1]; exact hG4, by rw [e1]; omega, iz3 hok2 h7, hs2⟩ (by show i - 1 < i; omega) mC (by show List.Sublist (_ :: saB g5 _ _ _ _ _ (q ++ [_]).length _ :: _) _; rw [e1]; exact List.Sublist.refl _) mC
 obtain rfl : i = 0 := by omega
 refine w8 (E4 (w6 (i8 (i7 ?_)))); obtain ⟨aA, aC⟩ := o; have hQle := hG.le; refine qq9 (og ++ [saB g5 ((za, zb, zc, zd, ze, zf) : Ch) sA l.length sC aA q.length aC, saB g4 (0, 0, 0, 0, 0, 0) none 0 0 none 0 0, dice g A c nums s]) (by intro p; simp only [List.countP_append, List.countP_cons, List.countP_nil]; omega) ?_; refine yA hG ?_; clear hG; refine j0 (B8 rfl l6 j7 rfl mB (by rfl) ?_); refine t6 (cs := #[int za, int zb, int zc, int zd, int ze, int zf, .slice sA l.length sC, .slice aA q.length aC]) rfl rfl (.swap _ _ _) j7 (by rfl) (by rfl) ?_; refine d8 (k5 ?_); refine yU (s, (za, zb, zc, zd, ze, zf), ⟨sA, sC, l⟩, ⟨aA, aC, q⟩) rfl rfl l6 j7 rfl m0 rfl rfl ⟨hs, ⟨chk_mk hch ⟨by show 1 ≤ l.length; omega, by show l.length ≤ 5; omega⟩ hok (by show q.length ≤ 8; omega) hok2, by show q.length ≤ m; omega, hCle, hQle⟩⟩ (.cons _ (.cons _ (.refl _))) mC
abbrev OutS := (OutC × Hp) × (OutC × Hp)
structure DupS (ss : List Int) (xs : List Ad) (x : OutS) : Prop where
  a : Grow H8 1 x.1.1.1 ss.length x.1.1.2 (rows ss) x.1.2
  b : GrowE C6 3 x.2.1.1 xs.length x.2.1.2 (rows xs) x.2.2
def priceE (c : Ch) (ss : List Int) (xs : List Ad) (i : Int) : Int × Int := if ¬ chkS c ss xs = 0 then (0, chkS c ss xs) else if ¬ (0 ≤ i ∧ i ≤ (xs.length : Int) - 1) then (0, 3) else (priceN c (xs.getD i.toNat default), 0)
def owesK : List Int → List Cd → List Int × Int
  | b, [] => (b, 0)
  | b, r :: rs => if ¬ (0 ≤ r.1 ∧ r.1 ≤ (b.length : Int) - 1) then ([], 3) else if ¬ (0 ≤ r.2 ∧ r.2 ≤ 99999) then ([], 1) else owesK (b.set r.1.toNat (b.getD r.1.toNat default - r.2)) rs
def owesE (c : Ch) (ss : List Int) (xs : List Ad) (rs : List Cd) : List Int × Int := if ¬ chkS c ss xs = 0 then ([], chkS c ss xs) else if 8 < rs.length then ([], 6) else owesK (numsN 70 c ss xs) rs
theorem H0 (n lo hi : Int) : Meets prog kJ [int n, int lo, int hi] { val := fun _ : Unit => .bool (decide (lo ≤ n ∧ n ≤ hi)) } := by
 refine j3 dq6 rfl t8 fun w0 => ?_; refine d9 (c7 rfl (k6 (b8 rfl (b8 rfl (aX rfl rfl rfl (b8 rfl ?_)))))); refine t7 rfl rfl ?_ ?_
 ·intro hg1; have hg1' := hg1; try simp at hg1'
  refine l9 hg1 (b8 rfl (l9 hg1 (b8 rfl (l9 hg1 (xT rfl rfl rfl ?_))))); refine p_t rfl rfl (bt1 hg1) rfl ?_; refine c7 rfl (d8 (k5 ?_)); exact ret1 () rfl (congrArg (fun b => some (Value.bool b)) (by simp [hg1'])) rfl tK nK tK
 intro hg1; have hg1' := hg1; try simp at hg1'
 refine q7 hg1 (q7 hg1 (q7 hg1 ?_)); refine p_f rfl rfl (bf2 hg1) rfl ?_; refine c7 rfl (d8 (k5 ?_)); exact ret1 () rfl (congrArg (fun b => some (Value.bool b)) (by simp [Int.not_le.2 hg1'])) rfl tK nK tK
end Go.Proofs.YtcdopfjiadifhaaGreatDoor
end
