/- Texts. -/
import Derived.Lib.SliceRun
import Derived.Laws.AppendOwn
import Derived.Laws.MakeOwn
import Derived.Conc.LoneCalls
import Derived.Laws.CopyRow
import Derived.Laws.Tables
import Derived.Test.YtpihanmcnmlodaaGreatDoorAAf
import Derived.Test.YtpihanmcnmlodaaGreatDoorAAd
import Derived.Test.YtpihanmcnmlodaaGreatDoorAAe
set_option linter.unusedVariables false
set_option linter.unusedSimpArgs false
section
namespace Go.Proofs.YtpihanmcnmlodaaGreatDoor
open Go Go.W Tryz T F
set_option maxRecDepth 20000
attribute [local irreducible] HL HC HQ HB Row Rows2 Blk Facts
def inR (i : Nat) (st : List Str × Str × Bool) (m : Mk) : List Str × Str × Bool :=
  if ¬ m.2.1 = (i : Int) then st else if m.1 = 1 then (st.1 ++ [m.2.2], st.2) else if m.1 = 2 then (st.1, m.2.2, st.2.2) else (st.1, st.2.1, false)
def lineR (p : List Str) (i : Nat) : Str := if i < p.length then p.getD i default else []
def outR (p : List Str) (l : List Mk) (out : List Str) (i : Nat) : List Str :=
  if (l.foldl (inR i) (out, lineR p i, decide (i < p.length))).2.2 = true then (l.foldl (inR i) (out, lineR p i, decide (i < p.length))).1 ++ [(l.foldl (inR i) (out, lineR p i, decide (i < p.length))).2.1]
  else (l.foldl (inR i) (out, lineR p i, decide (i < p.length))).1
def madeR (p : List Str) (l : List Mk) : List Str := (List.range (p.length + 1)).foldl (outR p l) []
def applyP (p : List Str) (l : List Mk) : List Str × Int := if ¬ checkErr p l = 0 then ([], checkErr p l) else if 6 < (madeP p l).length then ([], 6) else (madeP p l, 0)
def applyR (p : List Str) (l : List Mk) : List Str × Int := if ¬ checkErr p l = 0 then ([], checkErr p l) else if 6 < (madeR p l).length then ([], 6) else (madeR p l, 0)
def outErr {α : Type} [El α] (r : List α × Int) : Con OutC := { inv := fun x => r.1.length ≤ x.2, val := fun x => .tuple #[.slice x.1 r.1.length x.2, int r.2], LO := fun x => [Row x.1 (rows r.1)] }
theorem U1 {p : List Str} {l : List Mk} (h : checkErr p l = 0) : p.length ≤ 6 ∧ l.length ≤ 12 ∧ MV p.length l := by
  unfold checkErr at h
  split at h
  · rename_i h1
    refine ⟨?_, vJ h⟩; unfold pageErr at h1
    split at h1 <;> omega
  rename_i h1; exact absurd h h1
def costM (l : List Mk) : Nat := (l.filter fun m => decide (¬ m.1 = 3)).length
theorem zD {l : List Mk} {k : Nat} (h : k < l.length) : costM (l.take (k + 1)) = costM (l.take k) + (if (l.getD k default).1 = 3 then 0 else 1) := by
  rw [s9 l k h]; unfold costM; rw [List.filter_append, List.length_append]
  congr 1
  by_cases h3 : (l.getD k default).1 = 3
  · rw [if_pos h3, List.filter_cons_of_neg (by simpa using h3)]; rfl
  rw [if_neg h3, List.filter_cons_of_pos (by simpa using h3)]; rfl
theorem dz7 (l : List Mk) : costM l ≤ l.length := List.length_filter_le _ _
def costR (p : List Str) (l : List Mk) : Int × Int := if ¬ checkErr p l = 0 then (0, checkErr p l) else (costM l, 0)
theorem jU {A B : Option Addr} {ca cb : Nat} (p : List Str) (l : List Mk) (hc : p.length ≤ ca) :
    Meets prog Y2 [.slice A p.length ca, .slice B l.length cb] { outErr (applyP p l) with LI := [Row A (rows p), Row B (rows l)] } := by
 refine d5 mO rfl r4 fun w0 => ?_; refine c5 (b7 rfl (b7 rfl (b5 (c6 (c5 (b3 rfl (b3 rfl ?_))))))); refine h8 V9 rfl rfl (V5 p l) (.refl _) ⟨m0, m1, tK⟩ fun _ _ => ?_; refine b7 rfl (l7 (b3 rfl (w7 rfl rfl rfl (b5 ?_))))
 first | refine i6 rfl (fun hb1 => ?_) (fun hb1 => ?_) | refine c8 rfl (fun hb1 => ?_) (fun hb1 => ?_)
 ·have hb1' := hb1; try simp at hb1'
  have e : applyP p l = ([], checkErr p l) := by rw [applyP, if_pos hb1]
  rw [e]; refine c5 (b3 rfl (b7 rfl (b7 rfl (b5 (C6 (pV ?_)))))); exact ret2 (none, 0) rfl rfl rfl rfl rfl (Nat.le_refl _) (.refl _) ⟨m0, tK⟩
 have hb1' := hb1; try simp at hb1'
 have h0 : checkErr p l = 0 := by omega
 obtain ⟨hp6, hl, hV⟩ := U1 h0; refine c4 (c3 (c5 (b3 rfl (b3 rfl ?_)))); refine h8 mI rfl rfl (lS p l hp6 hl hV hc) (.refl _) ⟨m0, m1, tK⟩ fun x hx => ?_; refine b7 rfl (b5 (c6 (c5 (b3 rfl ?_)))); refine i7 rfl j7 rfl ?_; refine G6 rfl rfl rfl (b5 ?_)
 first | refine i6 rfl (fun hb2 => ?_) (fun hb2 => ?_) | refine c8 rfl (fun hb2 => ?_) (fun hb2 => ?_)
 ·have hb2' := hb2; try simp at hb2'
  have e : applyP p l = ([], 6) := by rw [applyP, if_neg hb1, if_pos (by omega)]
  rw [e]; refine c5 (b7 rfl (b7 rfl (b5 (C6 (pV ?_))))); exact ret2 (none, 0) rfl rfl rfl rfl rfl (Nat.le_refl _) (.refl _) ⟨m0, tK⟩
 have hb2' := hb2; try simp at hb2'
 have e : applyP p l = (madeP p l, 0) := by rw [applyP, if_neg hb1, if_neg (by omega)]
 rw [e]; refine c4 (c3 (c5 (b3 rfl (b7 rfl (b7 rfl (b5 (i8 ?_))))))); exact ret2 x rfl rfl rfl rfl rfl hx (.refl _) ⟨m0, tK⟩
theorem bH {A B : Option Addr} {ca cb : Nat} (p : List Str) (l : List Mk) :
    Meets prog aS [.slice A p.length ca, .slice B l.length cb] { LI := [Row A (rows p), Row B (rows l)], val := fun _ : Unit => .tuple #[int (costR p l).1, int (costR p l).2] } := by
 refine d5 pJ rfl r4 fun w0 => ?_; refine c5 (b7 rfl (b7 rfl (b5 (c6 (c5 (b3 rfl (b3 rfl ?_))))))); refine h8 V9 rfl rfl (V5 p l) (.refl _) ⟨m0, m1, tK⟩ fun _ _ => ?_; refine b7 rfl (l7 (b3 rfl (w7 rfl rfl rfl (b5 ?_))))
 first | refine i6 rfl (fun hb1 => ?_) (fun hb1 => ?_) | refine c8 rfl (fun hb1 => ?_) (fun hb1 => ?_)
 ·have hb1' := hb1; try simp at hb1'
  have e : costR p l = (0, checkErr p l) := by rw [costR, if_pos hb1]
  rw [e]; refine c5 (b3 rfl (b7 rfl (b7 rfl (b5 (C6 ?_))))); exact ret2 () rfl rfl rfl rfl rfl tK (.refl _) tK
 have hb1' := hb1; try simp at hb1'
 have h0 : checkErr p l = 0 := by omega
 obtain ⟨hp6, hl, hV⟩ := U1 h0; have e : costR p l = ((costM l : Int), 0) := by rw [costR, if_neg hb1]
 rw [e]; refine c4 (c3 (c5 (b7 rfl (b5 (c6 (c5 (b3 rfl ?_))))))); refine i7 rfl j6 rfl ?_; refine b3 rfl (b5 (i5 ?_)); refine v6 (β := Nat) ⟨fun k => k ≤ l.length, fun k => [(7, int (costM (l.take k))), (16, .slice B l.length cb), (17, int l.length), (18, int k)], fun _ => [], fun _ => [Row B (rows l)]⟩ (fun k => l.length - k) 0 (Nat.zero_le _) mC nK ⟨m1, tK⟩ fun k hk => ?_; simp only at hk; refine c5 (y5 rfl rfl rfl (b5 (c6 ?_)))
 first | refine i6 rfl (fun hb2 => ?_) (fun hb2 => ?_) | refine c8 rfl (fun hb2 => ?_) (fun hb2 => ?_)
 ·have hb2' := hb2; try simp at hb2'
  have hk2 : k < l.length := by omega
  have hct := zD hk2; have hcl := dz7 (l.take k); rw [List.length_take] at hcl; refine c4 (c3 (c6 (i5 (c5 ?_)))); refine u6 (α := Mk) _ _ rfl j6 g0 rfl rfl rfl mB rfl (by omega) (by decide) (v8 rfl j5 g0 rfl rfl (q9 mB (u1 (by omega))) (A5 rfl (fun _ => C3 _) fun gA => u2 rfl rfl J0 g0 (by rfl) (by rfl) (l7 ?_)))
  first | refine a8 ⟨_, 0, none⟩ rfl rfl i9 rfl ?_ | refine a8 _ rfl rfl i9 rfl ?_
  first | refine a7 rfl a6 rfl (d9 mB rfl) ?_ | refine a7 rfl a6 rfl (d4 mB rfl) ?_ | refine a7 rfl a6 rfl (b9 mB (b4 (by omega) rfl)) ?_ | refine a7 rfl a6 rfl (b8 mB (rows_get (by omega) rfl)) ?_
  refine w7 rfl rfl rfl (b5 ?_)
  first | refine i6 rfl (fun hb3 => ?_) (fun hb3 => ?_) | refine c8 rfl (fun hb3 => ?_) (fun hb3 => ?_)
  ·have hb3' := hb3; try simp at hb3'
   rw [if_neg hb3] at hct; refine c7 (b3 rfl ?_); refine w5 _ rfl rfl rfl rfl q8 ?_; refine b7 rfl (b6 (u4 (c3 (c7 ?_)))); refine w5 _ rfl rfl rfl rfl q8 ?_; refine b3 rfl (b6 ?_); refine again _ (k + 1) (by show k + 1 ≤ l.length; omega) (C5 (by omega)) ⟨?_, rfl, rfl, rfl, tK⟩ nK ⟨m0, tK⟩; show some (int ((costM (l.take k) : Int) + 1)) = some (int ((costM (l.take (k + 1)) : Nat) : Int)); rw [hct]; rfl
  have hb3' := hb3; try simp at hb3'
  rw [if_pos (Classical.not_not.1 hb3)] at hct; refine c4 (u4 (c3 (c7 ?_))); refine w5 _ rfl rfl rfl rfl q8 ?_; refine b3 rfl (b6 ?_); refine again _ (k + 1) (by show k + 1 ≤ l.length; omega) (C5 (by omega)) ⟨?_, rfl, rfl, rfl, tK⟩ nK ⟨m0, tK⟩; show some (int (costM (l.take k) : Int)) = some (int ((costM (l.take (k + 1)) : Nat) : Int)); rw [hct]; rfl
 have hb2' := hb2; try simp at hb2'
 have hk2 : k = l.length := by omega
 subst hk2; refine r9 (B2 (r8 (c3 (c5 (b3 rfl (b7 rfl (b7 rfl (b5 ?_)))))))); refine i8 ?_; exact ret2 () rfl (congrArg (fun s => some (int (costM s : Nat))) List.take_length) rfl rfl rfl tK (.refl _) tK
def cmpI (a b : Int) : Int := if a < b then -1 else if b < a then 1 else 0
def cmpS (a b : Str) : Int := if Op.bytesLess a b = true then -1 else if (!(Op.bytesLess a b || a == b)) = true then 1 else 0
def orL : List Int → Int
  | [] => 0
  | a :: l => if ¬ a = 0 then a else orL l
def cmpMk (a b : Mk) : Int := orL [cmpI a.2.1 b.2.1, cmpI a.1 b.1, cmpS a.2.2 b.2.2]
def cmpMs : List Mk → List Mk → Int
  | [], [] => 0
  | [], _ :: _ => -1
  | _ :: _, [] => 1
  | a :: l, b :: l' => if ¬ cmpMk a b = 0 then cmpMk a b else cmpMs l l'
abbrev Lst := Int × List Mk
def cmpL (a b : Lst) : Int := orL [cmpI a.1 b.1, cmpI a.2.length b.2.length, cmpMs a.2 b.2]
theorem W3 (a : Int) : Meets prog S4 [int a] { val := fun _ : Unit => .bool false } := by
 refine d5 jA rfl r4 fun w0 => ?_; refine c5 (b7 rfl (l7 (b3 rfl (b3 rfl (w7 rfl rfl rfl (b7 rfl (b6 ?_))))))); refine c3 (i8 ?_); exact ret1 () rfl (congrArg (fun b => some (Value.bool b)) (by simp)) rfl tK (.refl _) tK
theorem P8 (a : Str) : Meets prog M5 [str a] { val := fun _ : Unit => .bool false } := by
 refine d5 dF rfl r4 fun w0 => ?_; refine c5 (b7 rfl (l7 (b3 rfl (b3 rfl (xS rfl rfl rfl (b7 rfl (b6 ?_))))))); refine c3 (i8 ?_); exact ret1 () rfl (congrArg (fun b => some (Value.bool b)) (by simp)) rfl tK (.refl _) tK
theorem z7 (a b : Int) : Meets prog N7 [int a, int b] { val := fun _ : Unit => int (cmpI a b) } := by
 refine d5 dW rfl r4 fun w0 => ?_; refine c5 (b7 rfl (l7 (b3 rfl ?_))); refine h8 W1 rfl rfl (W3 _) (.refl _) tK fun _ _ => ?_; refine b7 rfl (l7 (b3 rfl ?_)); refine h8 W1 rfl rfl (W3 _) (.refl _) tK fun _ _ => ?_; refine b7 rfl (b5 (c6 (c5 (b3 rfl (b5 ?_))))); refine c_f rfl bq8 ?_; refine c4 (c3 (c6 (c5 (b3 rfl (b5 ?_))))); refine c_f rfl bq8 ?_; refine c4 (c3 (c6 (c5 (b3 rfl (b3 rfl (y5 rfl rfl rfl (b5 ?_)))))))
 first | refine i6 rfl (fun hb4 => ?_) (fun hb4 => ?_) | refine c8 rfl (fun hb4 => ?_) (fun hb4 => ?_)
 ·have hb4' := hb4; try simp at hb4'
  refine c5 (b7 rfl (b5 (C6 ?_))); exact ret1 () rfl (congrArg (fun n => some (int n)) (by rw [cmpI, if_pos hb4])) rfl tK nK tK
 have hb4' := hb4; try simp at hb4'
 refine c4 (c3 (c6 (c5 (b3 rfl (b3 rfl (G6 rfl rfl rfl (b5 ?_)))))))
 first | refine i6 rfl (fun hb5 => ?_) (fun hb5 => ?_) | refine c8 rfl (fun hb5 => ?_) (fun hb5 => ?_)
 ·have hb5' := hb5; try simp at hb5'
  refine c5 (b7 rfl (b5 (C6 ?_))); exact ret1 () rfl (congrArg (fun n => some (int n)) (by rw [cmpI, if_neg hb4, if_pos hb5])) rfl tK nK tK
 have hb5' := hb5; try simp at hb5'
 refine c4 (c3 (c5 (b7 rfl (b5 (i8 ?_))))); exact ret1 () rfl (congrArg (fun n => some (int n)) (by rw [cmpI, if_neg hb4, if_neg hb5])) rfl tK nK tK
theorem bB (a b : Str) : Meets prog I7 [str a, str b] { val := fun _ : Unit => int (cmpS a b) } := by
 refine d5 bY rfl r4 fun w0 => ?_; refine c5 (b7 rfl (l7 (b3 rfl ?_))); refine h8 P7 rfl rfl (P8 _) (.refl _) tK fun _ _ => ?_; refine b7 rfl (l7 (b3 rfl ?_)); refine h8 P7 rfl rfl (P8 _) (.refl _) tK fun _ _ => ?_; refine b7 rfl (b5 (c6 (c5 (b3 rfl (b5 ?_))))); refine c_f rfl bq8 ?_; refine c4 (c3 (c6 (c5 (b3 rfl (b5 ?_))))); refine c_f rfl bq8 ?_; refine c4 (c3 (c6 (c5 (b3 rfl (b3 rfl (cq8 rfl rfl rfl (b5 ?_)))))))
 first | refine i6 rfl (fun hb4 => ?_) (fun hb4 => ?_) | refine c8 rfl (fun hb4 => ?_) (fun hb4 => ?_)
 ·have hb4' := hb4; try simp at hb4'
  refine c5 (b7 rfl (b5 (C6 ?_))); exact ret1 () rfl (congrArg (fun n => some (int n)) (by rw [cmpS, if_pos hb4])) rfl tK nK tK
 have hb4' := hb4; try simp at hb4'
 refine c4 (c3 (c6 (c5 (b3 rfl (b3 rfl (cx0 rfl rfl rfl (b5 ?_)))))))
 first | refine i6 rfl (fun hb5 => ?_) (fun hb5 => ?_) | refine c8 rfl (fun hb5 => ?_) (fun hb5 => ?_)
 ·have hb5' := hb5; try simp at hb5'
  refine c5 (b7 rfl (b5 (C6 ?_))); exact ret1 () rfl (congrArg (fun n => some (int n)) (by rw [cmpS, if_neg (by rw [hb4]; decide), if_pos hb5])) rfl tK nK tK
 have hb5' := hb5; try simp at hb5'
 refine c4 (c3 (c5 (b7 rfl (b5 (i8 ?_))))); exact ret1 () rfl (congrArg (fun n => some (int n)) (by rw [cmpS, if_neg (by rw [hb4]; decide), if_neg (by rw [hb5]; decide)])) rfl tK nK tK
theorem cz9 {l : List Int} {k : Nat} (hk : k < l.length) : orL (l.drop k) = if ¬ l.getD k default = 0 then l.getD k default else orL (l.drop (k + 1)) := by
  rw [List.drop_eq_getElem_cons hk, orL, z8 hk]
theorem L5 {A : Option Addr} {c : Nat} (l : List Int) (hl : l.length ≤ 1000000) : Meets prog aZ [.slice A l.length c] { LI := [Row A (rows l)], val := fun _ : Unit => int (orL l) } := by
 refine d5 pP rfl r4 fun w0 => ?_; refine c5 (b7 rfl (l7 (b7 rfl (b5 (cH ?_))))); refine c7 (b3 rfl ?_); refine i7 rfl r5 rfl ?_; refine b3 rfl (b5 (i5 ?_)); refine v6 (β := Nat) ⟨fun k => k ≤ l.length ∧ orL l = orL (l.drop k), fun k => [(3, int 0), (6, .slice A l.length c), (7, int l.length), (8, int k)], fun _ => [], fun _ => [Row A (rows l)]⟩ (fun k => l.length - k) 0 ⟨Nat.zero_le _, rfl⟩ mC (.refl _) ⟨m0, tK⟩ fun k hk => ?_; obtain ⟨hk, ht⟩ := hk; refine c5 (y5 rfl rfl rfl (b5 (c6 ?_)))
 first | refine i6 rfl (fun hb1 => ?_) (fun hb1 => ?_) | refine c8 rfl (fun hb1 => ?_) (fun hb1 => ?_)
 ·have hb1' := hb1; try simp at hb1'
  have hk2 : k < l.length := by omega
  rw [cz9 hk2] at ht; refine c4 (c3 (c6 (i5 (c5 ?_)))); refine u6 (α := Int) _ _ rfl r5 w6 rfl rfl rfl mB rfl (by omega) (by decide) (a7 rfl a6 rfl (b9 mB (b4 (by omega) rfl)) ?_); refine b7 rfl (l7 (b3 rfl (b3 rfl (w7 rfl rfl rfl (b5 ?_)))))
  first | refine i6 rfl (fun hb2 => ?_) (fun hb2 => ?_) | refine c8 rfl (fun hb2 => ?_) (fun hb2 => ?_)
  ·have hb2' := hb2; try simp at hb2'
   rw [if_pos hb2] at ht; refine c5 (b3 rfl (b7 rfl (b5 (i8 (y8 (r6 (y8 ?_))))))); exact ret1 () rfl (congrArg (fun n => some (int n)) (by rw [ht])) rfl tK nK tK
  have hb2' := hb2; try simp at hb2'
  rw [if_neg hb2] at ht; refine c4 (u4 (c3 (c7 ?_))); refine w5 _ rfl rfl rfl rfl q8 ?_; refine b3 rfl (b6 ?_); exact again _ (k + 1) ⟨by omega, ht⟩ (C5 (by omega)) mC (.refl _) ⟨m0, tK⟩
 have hb1' := hb1; try simp at hb1'
 have hk2 : k = l.length := by omega
 refine r9 (B2 (r8 (c3 (c5 (b3 rfl (b7 rfl (b5 (i8 ?_)))))))); exact ret1 () rfl (congrArg (fun n => some (int n)) (by rw [ht, hk2, List.drop_length]; rfl)) rfl tK nK tK
theorem aH (a b : Mk) : Meets prog B6 [.agg #[int a.1, int a.2.1, str a.2.2], .agg #[int b.1, int b.2.1, str b.2.2]] { val := fun _ : Unit => int (cmpMk a b) } := by
 refine d5 bT rfl r4 fun w0 => c5 (Q0 rfl rfl fun gB => Q0 rfl rfl fun gB => ?_); refine b7 rfl (b5 (c6 ?_)); refine G4 14 mixed (by decide) (by decide) rfl rfl ?_
 apply k9 _ rfl rfl rfl
 ·intro w1
  first | refine a8 ⟨_, 1, none⟩ rfl rfl d7 rfl ?_ | refine a8 _ rfl rfl d7 rfl ?_
  refine b6 ?_; exact h9 rfl
 apply k9 _ rfl rfl rfl
 ·intro w1
  first | refine a7 rfl a6 rfl (d4 mB rfl) ?_ | refine a7 rfl a6 rfl (d9 mB rfl) ?_ | refine a7 rfl a6 rfl (b9 mB (b4 (by omega) rfl)) ?_ | refine a7 rfl a6 rfl (b8 mB (rows_get (by omega) rfl)) ?_
  refine b6 ?_; exact h9 rfl
 apply k9 _ rfl rfl rfl
 ·intro w1
  first | refine a8 ⟨_, 1, none⟩ rfl rfl d7 rfl ?_ | refine a8 _ rfl rfl d7 rfl ?_
  refine b6 ?_; exact h9 rfl
 apply k9 _ rfl rfl rfl
 ·intro w1
  first | refine a7 rfl a6 rfl (d4 mB rfl) ?_ | refine a7 rfl a6 rfl (d9 mB rfl) ?_ | refine a7 rfl a6 rfl (b9 mB (b4 (by omega) rfl)) ?_ | refine a7 rfl a6 rfl (b8 mB (rows_get (by omega) rfl)) ?_
  refine b6 ?_; exact h9 rfl
 refine s7 (fun w1 => h8 y9 rfl rfl (z7 _ _) (.refl _) tK fun _ _ => (q_z rfl)) ?_
 apply k9 _ rfl rfl rfl
 ·intro w1
  first | refine a8 ⟨_, 0, none⟩ rfl rfl i9 rfl ?_ | refine a8 _ rfl rfl i9 rfl ?_
  refine b6 ?_; exact h9 rfl
 apply k9 _ rfl rfl rfl
 ·intro w1
  first | refine a7 rfl a6 rfl (d4 mB rfl) ?_ | refine a7 rfl a6 rfl (d9 mB rfl) ?_ | refine a7 rfl a6 rfl (b9 mB (b4 (by omega) rfl)) ?_ | refine a7 rfl a6 rfl (b8 mB (rows_get (by omega) rfl)) ?_
  refine b6 ?_; exact h9 rfl
 apply k9 _ rfl rfl rfl
 ·intro w1
  first | refine a8 ⟨_, 0, none⟩ rfl rfl i9 rfl ?_ | refine a8 _ rfl rfl i9 rfl ?_
  refine b6 ?_; exact h9 rfl
 apply k9 _ rfl rfl rfl
 ·intro w1
  first | refine a7 rfl a6 rfl (d4 mB rfl) ?_ | refine a7 rfl a6 rfl (d9 mB rfl) ?_ | refine a7 rfl a6 rfl (b9 mB (b4 (by omega) rfl)) ?_ | refine a7 rfl a6 rfl (b8 mB (rows_get (by omega) rfl)) ?_
  refine b6 ?_; exact h9 rfl
 refine s7 (fun w1 => h8 y9 rfl rfl (z7 _ _) (.refl _) tK fun _ _ => (q_z rfl)) ?_
 apply k9 _ rfl rfl rfl
 ·intro w1
  first | refine a8 ⟨_, 2, none⟩ rfl rfl n5 rfl ?_ | refine a8 _ rfl rfl n5 rfl ?_
  refine b6 ?_; exact h9 rfl
 apply k9 _ rfl rfl rfl
 ·intro w1
  first | refine a7 rfl d6 rfl (d4 mB rfl) ?_ | refine a7 rfl d6 rfl (d9 mB rfl) ?_ | refine a7 rfl d6 rfl (b9 mB (b4 (by omega) rfl)) ?_ | refine a7 rfl d6 rfl (b8 mB (rows_get (by omega) rfl)) ?_
  refine b6 ?_; exact h9 rfl
 apply k9 _ rfl rfl rfl
 ·intro w1
  first | refine a8 ⟨_, 2, none⟩ rfl rfl n5 rfl ?_ | refine a8 _ rfl rfl n5 rfl ?_
  refine b6 ?_; exact h9 rfl
 apply k9 _ rfl rfl rfl
 ·intro w1
  first | refine a7 rfl d6 rfl (d4 mB rfl) ?_ | refine a7 rfl d6 rfl (d9 mB rfl) ?_ | refine a7 rfl d6 rfl (b9 mB (b4 (by omega) rfl)) ?_ | refine a7 rfl d6 rfl (b8 mB (rows_get (by omega) rfl)) ?_
  refine b6 ?_; exact h9 rfl
 refine A9 ⟨rfl, ?_⟩; refine h8 bA rfl rfl (bB _ _) (.refl _) tK fun _ _ => j8 _ rfl rfl (fun _ => jI ..) fun gS => B5 (rows [cmpI a.2.1 b.2.1, cmpI a.1 b.1, cmpS a.2.2 b.2.2]) ⟨[], List.append_nil _⟩ ?_; refine h8 K9 rfl rfl (L5 [cmpI a.2.1 b.2.1, cmpI a.1 b.1, cmpS a.2.2 b.2.2] (by simp)) p9 ⟨m0, tK⟩ fun _ _ => ?_; refine b7 rfl (b5 (i8 ?_)); exact ret1 () rfl rfl rfl tK nK tK
theorem gP {α : Type} [Inhabited α] {l : List α} {k : Nat} (hk : k < l.length) : l.drop k = l.getD k default :: l.drop (k + 1) := by rw [List.drop_eq_getElem_cons hk, z8 hk]
theorem aG {A B : Option Addr} {ca cb : Nat} (a b : List Mk) (ha : a.length ≤ 1000000) : Meets prog I5 [.slice A a.length ca, .slice B b.length cb, fnV B6] { LI := [Row A (rows a), Row B (rows b)], val := fun _ : Unit => int (cmpMs a b) } := by
 refine d5 bR rfl r4 fun w0 => ?_; refine c5 (b7 rfl (b5 (c6 (c5 (b3 rfl ?_))))); refine i7 rfl j6 rfl ?_; refine b3 rfl (b5 (i5 ?_)); refine v6 (β := Nat) ⟨fun k => k ≤ a.length ∧ k ≤ b.length ∧ cmpMs a b = cmpMs (a.drop k) (b.drop k), fun k => [(0, .slice A a.length ca), (1, .slice B b.length cb), (2, fnV B6), (11, .slice A a.length ca), (12, int a.length), (13, int k)], fun _ => [], fun _ => [Row A (rows a), Row B (rows b)]⟩ (fun k => a.length - k) 0 ⟨Nat.zero_le _, Nat.zero_le _, rfl⟩ mC (.refl _) ⟨m0, m1, tK⟩ fun k hk => ?_; obtain ⟨hka, hkb, ht⟩ := hk; refine c5 (y5 rfl rfl rfl (b5 (c6 ?_)))
 first | refine i6 rfl (fun hb1 => ?_) (fun hb1 => ?_) | refine c8 rfl (fun hb1 => ?_) (fun hb1 => ?_)
 ·have hb1' := hb1; try simp at hb1'
  have hk2 : k < a.length := by omega
  rw [gP hk2] at ht; refine c4 (c3 (c6 (i5 (c5 (b3 rfl ?_))))); refine u6 (α := Mk) _ _ rfl j6 g0 rfl rfl rfl mB rfl (by omega) (by decide) (v8 rfl j5 g0 rfl rfl (q9 mB (u1 (by omega))) (A5 rfl (fun _ => C3 _) fun gA => b7 rfl (u2 rfl rfl J0 g0 (by rfl) (by rfl) ?_))); refine b5 (c6 (c5 (b3 rfl (b3 rfl ?_)))); refine i7 rfl j6 rfl ?_; refine cV rfl rfl rfl (b5 ?_)
  first | refine i6 rfl (fun hb2 => ?_) (fun hb2 => ?_) | refine c8 rfl (fun hb2 => ?_) (fun hb2 => ?_)
  ·have hb2' := hb2; try simp at hb2'
   have hk3 : k = b.length := by omega
   refine c5 (b7 rfl (b5 (C6 (y8 (r6 (y8 ?_)))))); exact ret1 () rfl (congrArg (fun n => some (int n)) (by rw [ht, hk3, List.drop_length]; rfl)) rfl tK nK tK
  have hb2' := hb2; try simp at hb2'
  have hk3 : k < b.length := by omega
  rw [gP hk3, cmpMs] at ht; refine c4 (c3 (c5 (b3 rfl (b3 rfl ?_)))); refine u6 (α := Mk) _ _ rfl j6 g0 rfl rfl rfl mB rfl (by omega) (by decide) (v8 rfl j5 g0 rfl rfl (q9 mB (u1 (by omega))) (A5 rfl (fun _ => C3 _) fun gA => u2 rfl rfl J0 g0 (by rfl) (by rfl) ?_)); refine l7 (b3 rfl ?_)
  first | refine D6 rfl j5 g0 rfl mB (by rfl) ?_ | refine D5 rfl j5 g0 rfl mB (by rfl) ?_ | refine v8 rfl j5 g0 rfl rfl (q9 mB (u1 (by omega))) ?_
  first | refine D6 rfl j5 g0 rfl mB (by rfl) ?_ | refine D5 rfl j5 g0 rfl mB (by rfl) ?_ | refine v8 rfl j5 g0 rfl rfl (q9 mB (u1 (by omega))) ?_
  refine G3 (cap := []) aQ rfl rfl rfl (aH (a.getD k default) (b.getD k default)) p9 tK fun _ _ => ?_; refine b7 rfl (l7 (b3 rfl (w7 rfl rfl rfl (b5 ?_))))
  first | refine i6 rfl (fun hb3 => ?_) (fun hb3 => ?_) | refine c8 rfl (fun hb3 => ?_) (fun hb3 => ?_)
  ·have hb3' := hb3; try simp at hb3'
   rw [if_pos hb3] at ht; refine c5 (b3 rfl (b7 rfl (b5 (i8 (y8 (r6 (y8 ?_))))))); exact ret1 () rfl (congrArg (fun n => some (int n)) (by rw [ht])) rfl tK nK tK
  have hb3' := hb3; try simp at hb3'
  rw [if_neg hb3] at ht; refine c4 (u4 (c3 (c7 ?_))); refine w5 _ rfl rfl rfl rfl q8 ?_; refine b3 rfl (b6 ?_); exact again _ (k + 1) ⟨by omega, by omega, ht⟩ (C5 (by omega)) mC nK ⟨m0, m1, tK⟩
 have hb1' := hb1; try simp at hb1'
 have hk2 : k = a.length := by omega
 refine r9 (B2 (r8 (c3 (c6 (c5 (b3 rfl ?_)))))); refine i7 rfl j6 rfl (b3 rfl (i7 rfl j6 rfl ?_)); refine y5 rfl rfl rfl (b5 ?_)
 first | refine i6 rfl (fun hb4 => ?_) (fun hb4 => ?_) | refine c8 rfl (fun hb4 => ?_) (fun hb4 => ?_)
 ·have hb4' := hb4; try simp at hb4'
  have h4 : k < b.length := by omega
  rw [hk2, List.drop_length, gP (by omega)] at ht; refine c5 (b7 rfl (b5 (C6 ?_))); exact ret1 () rfl (congrArg (fun n => some (int n)) (by rw [ht]; rfl)) rfl tK nK tK
 have hb4' := hb4; try simp at hb4'
 have h4 : k = b.length := by omega
 rw [hk2, List.drop_length, ← hk2, h4, List.drop_length] at ht; refine c4 (c3 (c5 (b7 rfl (b5 (i8 ?_))))); exact ret1 () rfl (congrArg (fun n => some (int n)) (by rw [ht]; rfl)) rfl tK nK tK
theorem aI {A B : Option Addr} {ca cb : Nat} (x y : Lst) (ha : x.2.length ≤ 1000000) (hb : y.2.length ≤ 1000000) : Meets prog w9 [.agg #[int x.1, .slice A x.2.length ca], .agg #[int y.1, .slice B y.2.length cb]] { LI := [Row A (rows x.2), Row B (rows y.2)], val := fun _ : Unit => int (cmpL x y) } := by
 refine d5 bU rfl r4 fun w0 => c5 (Q0 rfl rfl fun gB => Q0 rfl rfl fun gB => ?_); refine b7 rfl (b5 (c6 ?_)); refine G4 16 mixed (by decide) (by decide) rfl rfl ?_
 apply k9 _ rfl rfl rfl
 ·intro w1
  first | refine a8 ⟨_, 0, none⟩ rfl rfl u9 rfl ?_ | refine a8 _ rfl rfl u9 rfl ?_
  refine b6 ?_; exact h9 rfl
 apply k9 _ rfl rfl rfl
 ·intro w1
  first | refine a7 rfl a6 rfl (d4 mB rfl) ?_ | refine a7 rfl a6 rfl (d9 mB rfl) ?_ | refine a7 rfl a6 rfl (b9 mB (b4 (by omega) rfl)) ?_ | refine a7 rfl a6 rfl (b8 mB (rows_get (by omega) rfl)) ?_
  refine b6 ?_; exact h9 rfl
 apply k9 _ rfl rfl rfl
 ·intro w1
  first | refine a8 ⟨_, 0, none⟩ rfl rfl u9 rfl ?_ | refine a8 _ rfl rfl u9 rfl ?_
  refine b6 ?_; exact h9 rfl
 apply k9 _ rfl rfl rfl
 ·intro w1
  first | refine a7 rfl a6 rfl (d4 mB rfl) ?_ | refine a7 rfl a6 rfl (d9 mB rfl) ?_ | refine a7 rfl a6 rfl (b9 mB (b4 (by omega) rfl)) ?_ | refine a7 rfl a6 rfl (b8 mB (rows_get (by omega) rfl)) ?_
  refine b6 ?_; exact h9 rfl
 refine s7 (fun w1 => h8 y9 rfl rfl (z7 _ _) (.refl _) tK fun _ _ => (q_z rfl)) ?_
 apply k9 _ rfl rfl rfl
 ·intro w1
  first | refine a8 ⟨_, 1, none⟩ rfl rfl u7 rfl ?_ | refine a8 _ rfl rfl u7 rfl ?_
  refine b6 ?_; exact h9 rfl
 apply k9 _ rfl rfl rfl
 ·intro w1
  first | refine a7 rfl k7 rfl (d4 mB rfl) ?_ | refine a7 rfl k7 rfl (d9 mB rfl) ?_ | refine a7 rfl k7 rfl (b9 mB (b4 (by omega) rfl)) ?_ | refine a7 rfl k7 rfl (b8 mB (rows_get (by omega) rfl)) ?_
  refine b6 ?_; exact h9 rfl
 refine s7 (fun w1 => i7 rfl j6 rfl (q_z rfl)) ?_
 apply k9 _ rfl rfl rfl
 ·intro w1
  first | refine a8 ⟨_, 1, none⟩ rfl rfl u7 rfl ?_ | refine a8 _ rfl rfl u7 rfl ?_
  refine b6 ?_; exact h9 rfl
 apply k9 _ rfl rfl rfl
 ·intro w1
  first | refine a7 rfl k7 rfl (d4 mB rfl) ?_ | refine a7 rfl k7 rfl (d9 mB rfl) ?_ | refine a7 rfl k7 rfl (b9 mB (b4 (by omega) rfl)) ?_ | refine a7 rfl k7 rfl (b8 mB (rows_get (by omega) rfl)) ?_
  refine b6 ?_; exact h9 rfl
 refine s7 (fun w1 => i7 rfl j6 rfl (q_z rfl)) ?_; refine s7 (fun w1 => h8 y9 rfl rfl (z7 _ _) (.refl _) tK fun _ _ => (q_z rfl)) ?_
 apply k9 _ rfl rfl rfl
 ·intro w1
  first | refine a8 ⟨_, 1, none⟩ rfl rfl u7 rfl ?_ | refine a8 _ rfl rfl u7 rfl ?_
  refine b6 ?_; exact h9 rfl
 apply k9 _ rfl rfl rfl
 ·intro w1
  first | refine a7 rfl k7 rfl (d4 mB rfl) ?_ | refine a7 rfl k7 rfl (d9 mB rfl) ?_ | refine a7 rfl k7 rfl (b9 mB (b4 (by omega) rfl)) ?_ | refine a7 rfl k7 rfl (b8 mB (rows_get (by omega) rfl)) ?_
  refine b6 ?_; exact h9 rfl
 apply k9 _ rfl rfl rfl
 ·intro w1
  first | refine a8 ⟨_, 1, none⟩ rfl rfl u7 rfl ?_ | refine a8 _ rfl rfl u7 rfl ?_
  refine b6 ?_; exact h9 rfl
 apply k9 _ rfl rfl rfl
 ·intro w1
  first | refine a7 rfl k7 rfl (d4 mB rfl) ?_ | refine a7 rfl k7 rfl (d9 mB rfl) ?_ | refine a7 rfl k7 rfl (b9 mB (b4 (by omega) rfl)) ?_ | refine a7 rfl k7 rfl (b8 mB (rows_get (by omega) rfl)) ?_
  refine b6 ?_; exact h9 rfl
 refine A9 ⟨rfl, ?_⟩; refine h8 aN rfl rfl (aG x.2 y.2 ha) (.refl _) ⟨m0, m1, tK⟩ fun _ _ => j8 _ rfl rfl (fun _ => jI ..) fun gS => B5 (rows [cmpI x.1 y.1, cmpI x.2.length y.2.length, cmpMs x.2 y.2]) ⟨[], List.append_nil _⟩ ?_; refine h8 K9 rfl rfl (L5 [cmpI x.1 y.1, cmpI x.2.length y.2.length, cmpMs x.2 y.2] (by simp)) p9 ⟨m0, tK⟩ fun _ _ => ?_; refine b7 rfl (b5 (i8 ?_)); exact ret1 () rfl rfl rfl tK nK tK
abbrev LstV := Int × Sl Mk
instance : El LstV where
  default := (0, ⟨none, 0, []⟩)
  cells x := [int x.1, .slice x.2.a x.2.l.length x.2.c]
  sz := 2
  len _ := rfl
  one a u h := by simp at h; rcases h with h | h <;> subst h <;> rfl
def LstV.dat (x : LstV) : Lst := (x.1, x.2.l)
def LstV.row (x : LstV) : Fact := Row x.2.a (rows x.2.l)
def LstV.v (x : LstV) : Value := .agg #[int x.1, .slice x.2.a x.2.l.length x.2.c]
theorem Z4 (x y : LstV) (ha : x.2.l.length ≤ 1000000) (hb : y.2.l.length ≤ 1000000) : Meets prog w9 [x.v, y.v] { LI := [x.row, y.row], val := fun _ : Unit => int (cmpL x.dat y.dat) } :=
  aI (A := x.2.a) (B := y.2.a) (ca := x.2.c) (cb := y.2.c) (x.1, x.2.l) (y.1, y.2.l) ha hb
def leastV (f : LstV) (l : List LstV) : LstV := l.foldl (fun f x => if cmpL x.dat f.dat < 0 then x else f) f
theorem iF (f : LstV) (l : List LstV) : leastV f l ∈ f :: l := by
  unfold leastV
  induction l generalizing f with
  | nil => simp
  | cons x l ih =>
    rw [List.foldl_cons]; have := ih (if cmpL x.dat f.dat < 0 then x else f)
    rcases List.mem_cons.1 this with h | h
    · rw [h]; split <;> simp
    simp [h]
theorem vL {f : LstV} {l : List LstV} {k : Nat} (hk : k < l.length) : leastV f (l.take (k + 1)) = if cmpL (l.getD k default).dat (leastV f (l.take k)).dat < 0 then l.getD k default else leastV f (l.take k) := by
  rw [s9 l k hk]; unfold leastV; rw [List.foldl_append]
  rfl
theorem jQ {B : Option Addr} {cb : Nat} (f : LstV) (l : List LstV) (hl : l.length ≤ 1000) (hs : ∀ x ∈ f :: l, x.2.l.length ≤ 1000000) :
    Meets prog X7 [fnV w9, f.v, .slice B l.length cb] { LI := [Row B (rows l), Facts ((f :: l).map LstV.row)], val := fun _ : Unit => (leastV f l).v } := by
 unfold LstV.v; refine d5 mJ rfl r4 fun w0 => c5 (Q0 rfl rfl fun gB => A5 rfl (fun _ => B7 _) fun gA => ?_); refine b5 (cH ?_); refine P2 (.swap _ _ _) ?_; refine c7 (b3 rfl ?_); refine i7 rfl I8 rfl ?_; refine b3 rfl (b5 (i5 ?_)); refine v6 (β := Nat) ⟨fun k => k ≤ l.length, fun k => [(0, fnV w9), (4, .pointer (n9 gB)), (6, .pointer (n9 gA)), (9, .slice B l.length cb), (10, int l.length), (11, int k)], fun k => [(gB, .cells (El.cells (leastV f (l.take k))).toArray p7 (0, 0)), (gA, .cells #[int 0, .slice none 0 0] p7 (0, 0))], fun _ => [Row B (rows l), Facts ((f :: l).map LstV.row)]⟩ (fun k => l.length - k) 0 (Nat.zero_le _) mC (.refl _) ⟨m0, m1, tK⟩ fun k hk => ?_; simp only at hk; refine c5 (y5 rfl rfl rfl (b5 (c6 ?_)))
 first | refine i6 rfl (fun hb1 => ?_) (fun hb1 => ?_) | refine c8 rfl (fun hb1 => ?_) (fun hb1 => ?_)
 ·have hb1' := hb1; try simp at hb1'
  have hk2 : k < l.length := by omega
  have hlt := vL (f := f) hk2
  have hmem : leastV f (l.take k) ∈ f :: l := by
    rcases List.mem_cons.1 (iF f (l.take k)) with h | h
    · simp [h]
    exact List.mem_cons_of_mem _ (List.mem_of_mem_take h)
  refine c4 (c3 (c6 (i5 (c5 ?_)))); refine u6 (α := _) _ _ rfl I8 d3 rfl rfl rfl mB rfl (by omega) (by decide) (v8 rfl i3 d3 rfl rfl (q9 mB (u1 (by omega))) (A5 rfl (fun _ => B7 _) fun gA => u2 rfl rfl J0 d3 (by rfl) (by rfl) ?_)); refine b5 (c6 ?_); have hx := List.mem_cons_of_mem f (r7 hk2); generalize hm : l.getD k default = x at *; refine c7 (b3 rfl ?_)
  first | refine D6 rfl i3 d3 rfl mB (by rfl) ?_ | refine D5 rfl i3 d3 rfl mB (by rfl) ?_ | refine v8 rfl i3 d3 rfl rfl (q9 mB (u1 (by omega))) ?_
  first | refine D6 rfl i3 d3 rfl mB (by rfl) ?_ | refine D5 rfl i3 d3 rfl mB (by rfl) ?_ | refine v8 rfl i3 d3 rfl rfl (q9 mB (u1 (by omega))) ?_
  refine tV (F := LstV.row x) m1 (List.mem_map.2 ⟨x, hx, rfl⟩) (tV (F := LstV.row (leastV f (l.take k))) m2 (List.mem_map.2 ⟨_, hmem, rfl⟩) (G3 (vs := [x.v, (leastV f (l.take k)).v]) (cap := []) aR rfl rfl rfl (Z4 x (leastV f (l.take k)) (hs x hx) (hs _ hmem)) p9 ⟨m1, m0, tK⟩ fun _ _ => ?_)); refine y5 rfl rfl rfl (b5 ?_)
  first | refine i6 rfl (fun hb2 => ?_) (fun hb2 => ?_) | refine c8 rfl (fun hb2 => ?_) (fun hb2 => ?_)
  ·have hb2' := hb2; try simp at hb2'
   rw [if_pos hb2] at hlt; refine c7 ?_
   first | refine D6 rfl i3 d3 rfl mB (by rfl) ?_ | refine D5 rfl i3 d3 rfl mB (by rfl) ?_ | refine v8 rfl i3 d3 rfl rfl (q9 mB (u1 (by omega))) ?_
   refine u2 rfl rfl (.swap _ _ _) d3 (by rfl) (by rfl) ?_; refine b6 (u4 (c3 (c7 ?_))); refine w5 _ rfl rfl rfl rfl q8 ?_; refine b3 rfl (b6 ?_); refine again _ (k + 1) (by show k + 1 ≤ l.length; omega) (C5 (by omega)) mC ?_ ⟨m2, m3, tK⟩; show [(gB, Obj.cells (El.cells (leastV f (l.take (k + 1)))).toArray p7 (0, 0)), _].Sublist _; rw [hlt]; exact (List.sublist_cons_self _ _).cons_cons _
  have hb2' := hb2; try simp at hb2'
  rw [if_neg hb2] at hlt; refine c4 (u4 (c3 (c7 ?_))); refine w5 _ rfl rfl rfl rfl q8 ?_; refine b3 rfl (b6 ?_); refine again _ (k + 1) (by show k + 1 ≤ l.length; omega) (C5 (by omega)) mC ?_ ⟨m2, m3, tK⟩; show [(gB, Obj.cells (El.cells (leastV f (l.take (k + 1)))).toArray p7 (0, 0)), _].Sublist _; rw [hlt]; exact List.sublist_cons_self _ _
 have hb1' := hb1; try simp at hb1'
 have hk2 : k = l.length := by omega
 subst hk2; refine r9 (B2 (r8 (c3 (c5 ?_))))
 first | refine D6 rfl i3 d3 rfl mB (by rfl) ?_ | refine D5 rfl i3 d3 rfl mB (by rfl) ?_ | refine v8 rfl i3 d3 rfl rfl (q9 mB (u1 (by omega))) ?_
 refine u2 rfl rfl J0 d3 (by rfl) (by rfl) ?_; refine b5 (i8 ?_); refine jO () rfl rfl i3 d3 rfl m0 (by rw [List.take_length]; rfl) rfl tK nK tK
theorem G7 (x : LstV) (m : Mk) (hc : 0 ≤ x.1 ∧ x.1 ≤ 1000000) (hl : x.2.l.length ≤ 1000000) :
    Meets prog K2 [x.v, .agg #[int m.1, int m.2.1, str m.2.2]] { LI := [x.row], inv := fun o : OutC => (m :: x.2.l).length ≤ o.2, val := fun o => LstV.v (if m.1 = 3 then x.1 else x.1 + 1, ⟨o.1, o.2, m :: x.2.l⟩), LO := fun o => [Row o.1 (rows (m :: x.2.l))] } := by
 unfold LstV.v LstV.row; refine d5 cP rfl r4 fun w0 => c5 (Q0 rfl rfl fun gB => Q0 rfl rfl fun gB => A5 rfl (fun _ => B7 _) fun gA => ?_); refine b5 (c6 ?_); refine J6 ([]) (_) p9 9 [8] mixed (by decide) (by decide) (by decide) rfl rfl rfl ?_
 apply k9 _ rfl rfl rfl
 ·intro w1
  first | refine a8 ⟨_, 0, none⟩ rfl rfl u9 rfl ?_ | refine a8 _ rfl rfl u9 rfl ?_
  refine b6 ?_; exact h9 rfl
 apply k9 _ rfl rfl rfl
 ·intro w1
  first | refine a7 rfl a6 rfl (d4 mB rfl) ?_ | refine a7 rfl a6 rfl (d9 mB rfl) ?_ | refine a7 rfl a6 rfl (b9 mB (b4 (by omega) rfl)) ?_ | refine a7 rfl a6 rfl (b8 mB (rows_get (by omega) rfl)) ?_
  refine b6 ?_; exact h9 rfl
 apply k9 _ rfl rfl rfl
 ·intro w1
  first | refine D6 rfl j5 g0 rfl mB (by rfl) ?_ | refine D5 rfl j5 g0 rfl mB (by rfl) ?_ | refine v8 rfl j5 g0 rfl rfl (q9 mB (u1 (by omega))) ?_
  refine b6 ?_; exact h9 rfl
 refine V7 ⟨Nat, fun _ => True, fun g => .slice (n9 g) 1 1, fun g => [Row (n9 g) (rows [m])]⟩ rfl rfl rfl ?_ ?_
 ·intro w1; refine j8 _ rfl rfl (fun _ => hT ..) fun gS => b6 (bM (rows [m]) ⟨[], List.append_nil _⟩ ?_); exact G5 gS tK rfl ⟨m0, tK⟩
 apply k9 _ rfl rfl rfl
 ·intro w1
  first | refine a8 ⟨_, 1, none⟩ rfl rfl u7 rfl ?_ | refine a8 _ rfl rfl u7 rfl ?_
  refine b6 ?_; exact h9 rfl
 apply k9 _ rfl rfl rfl
 ·intro w1
  first | refine a7 rfl k7 rfl (d4 mB rfl) ?_ | refine a7 rfl k7 rfl (d9 mB rfl) ?_ | refine a7 rfl k7 rfl (b9 mB (b4 (by omega) rfl)) ?_ | refine a7 rfl k7 rfl (b8 mB (rows_get (by omega) rfl)) ?_
  refine b6 ?_; exact h9 rfl
 refine V7 ⟨OutC, fun o => x.2.l.length + 1 ≤ o.2, fun o => .slice o.1 (x.2.l.length + 1) o.2, fun o => [Row o.1 (rows (m :: x.2.l))]⟩ rfl rfl rfl ?_ ?_
 ·intro g1 _; intro w1; refine hC (x.2.l.length + 1) (rows (m :: x.2.l)) lK rfl rfl rfl m0 (O8 [m]) (Src.row (news := rows x.2.l) m1 (O8 _) (U5 _) (by decide)) (by omega) rfl (by unfold maxLen; omega) (by omega) fun A' c' hc' => ?_; refine b6 ?_; exact G5 (A', c') hc' rfl ⟨m0, tK⟩
 refine V7 ⟨OutC, fun o => x.2.l.length + 1 ≤ o.2, fun o => .agg #[int x.1, .slice o.1 (x.2.l.length + 1) o.2], fun o => [Row o.1 (rows (m :: x.2.l))]⟩ rfl rfl rfl ?_ ?_
 ·intro o ho; intro w1; refine C9 [(0, int x.1), (1, .slice o.1 (x.2.l.length + 1) o.2)] rfl rfl (fun _ => dI ..) (b6 ?_); exact G5 o ho rfl ⟨m0, tK⟩
 refine rB ⟨Nat, fun _ => True, fun g => .pointer (n9 g), fun _ => [], fun g => [(g, Obj.cells #[int 0, .slice none 0 0] p7 (0, 0))]⟩ rfl rfl rfl ?_ ?_
 ·intro w1; refine A5 rfl (fun _ => B7 _) fun gA => b6 ?_; exact W6 gA tK (fun _ => rfl) (.refl _) tK
 refine A9 ⟨rfl, ?_⟩; intro g1 _ o1 ho1 o ho g5 _; refine u2 rfl rfl J0 d3 (by rfl) (by rfl) ?_; refine b5 (c6 (c5 ?_))
 first | refine a8 ⟨_, 0, none⟩ rfl rfl i9 rfl ?_ | refine a8 _ rfl rfl i9 rfl ?_
 first | refine a7 rfl a6 rfl (d9 mB rfl) ?_ | refine a7 rfl a6 rfl (d4 mB rfl) ?_ | refine a7 rfl a6 rfl (b9 mB (b4 (by omega) rfl)) ?_ | refine a7 rfl a6 rfl (b8 mB (rows_get (by omega) rfl)) ?_
 refine w7 rfl rfl rfl (b5 ?_)
 first | refine i6 rfl (fun hb1 => ?_) (fun hb1 => ?_) | refine c8 rfl (fun hb1 => ?_) (fun hb1 => ?_)
 ·have hb1' := hb1; try simp at hb1'
  rw [if_neg hb1]; refine c7 ?_
  first | refine a8 ⟨_, 0, none⟩ rfl rfl u9 rfl ?_ | refine a8 _ rfl rfl u9 rfl ?_
  first | refine a7 rfl a6 rfl (d9 mB rfl) ?_ | refine a7 rfl a6 rfl (d4 mB rfl) ?_ | refine a7 rfl a6 rfl (b9 mB (b4 (by omega) rfl)) ?_ | refine a7 rfl a6 rfl (b8 mB (rows_get (by omega) rfl)) ?_
  refine w5 _ rfl rfl rfl rfl q8 ?_
  first | refine a8 ⟨_, 0, none⟩ rfl rfl u9 rfl ?_ | refine a8 _ rfl rfl u9 rfl ?_
  refine D4 rfl rfl J0 w6 (by rfl) (by rfl) (l7 ?_)
  first | refine D6 rfl i3 d3 rfl mB (by rfl) ?_ | refine D5 rfl i3 d3 rfl mB (by rfl) ?_ | refine v8 rfl i3 d3 rfl rfl (q9 mB (u1 (by omega))) ?_
  refine u2 rfl rfl (.swap _ _ _) d3 (by rfl) (by rfl) ?_; refine b5 (i8 ?_); refine jO o rfl rfl i3 d3 rfl m0 rfl rfl ho nK ⟨m0, tK⟩
 have hb1' := hb1; try simp at hb1'
 rw [if_pos (Classical.not_not.1 hb1)]; refine c4 (c3 (c5 ?_))
 first | refine D6 rfl i3 d3 rfl mB (by rfl) ?_ | refine D5 rfl i3 d3 rfl mB (by rfl) ?_ | refine v8 rfl i3 d3 rfl rfl (q9 mB (u1 (by omega))) ?_
 refine u2 rfl rfl (.swap _ _ _) d3 (by rfl) (by rfl) ?_; refine b5 (i8 ?_); refine jO o rfl rfl i3 d3 rfl m0 rfl rfl ho nK ⟨m0, tK⟩
abbrev Asc7 (s : Str) : Prop := ∀ b ∈ s, b.toNat < 128
def hqw : Str := [72, 81, 87]
def kindN (b : UInt8) : Int := if 97 ≤ b.toNat ∧ b.toNat ≤ 122 then 1 else if 65 ≤ b.toNat ∧ b.toNat ≤ 90 ∧ ¬ b ∈ hqw then 2 else 0
def soundB (b : UInt8) : Str := if b.toNat = 67 then [99, 104] else if b.toNat = 74 then [106, 117] else if b.toNat = 89 then [106, 97] else if b.toNat = 88 then [115, 104] else Lib.toLowerA [b]
def keyOf (s : Str) : Str := (s.map soundB).flatten
def okS (s : Str) : Bool := s.all fun b => decide (kindN b = kindN (s.getD 0 default)) && decide (¬ kindN b = 0)
def nameErr (s : Str) : Int := if s.length = 0 then 7 else if 6 < s.length then 10 else if okS s = true then 0 else 2
theorem sB (b : UInt8) : (soundB b).length ≤ 2 := by
  unfold soundB
  repeat' split
  all_goals simp [Lib.toLowerA]
theorem aq6 (b : UInt8) : 1 ≤ (soundB b).length := by
  unfold soundB
  repeat' split
  all_goals simp [Lib.toLowerA]
theorem yJ {s : Str} {k : Nat} (h : k < s.length) : keyOf (s.take (k + 1)) = keyOf (s.take k) ++ soundB (s.getD k default) := by
  rw [s9 s k h]; unfold keyOf; simp
theorem lX : ∀ s : Str, (keyOf s).length ≤ 2 * s.length
  | [] => by simp [keyOf]
  | b :: s => by
    have h1 := lX s; have h2 := sB b; unfold keyOf at h1 ⊢; simp only [List.map_cons, List.flatten_cons, List.length_append, List.length_cons]
    omega
theorem zS {s : Str} {k : Nat} (hk : k < s.length) (h : kindN (s.getD k default) = 0 ∨ ¬ kindN (s.getD k default) = kindN (s.getD 0 default)) : ¬ okS s = true := by
  intro e; have := List.all_eq_true.1 e _ (r7 hk); rw [Bool.and_eq_true, decide_eq_true_eq, decide_eq_true_eq] at this
  rcases h with h | h
  · exact this.2 h
  exact h this.1
theorem tQ {s : Str} (h : ∀ j, j < s.length → kindN (s.getD j default) = kindN (s.getD 0 default) ∧ ¬ kindN (s.getD j default) = 0) : okS s = true := by
  refine List.all_eq_true.2 fun b hb => ?_; obtain ⟨j, hj, rfl⟩ := List.getElem_of_mem hb; have := h j hj; rw [z8 hj] at this; rw [Bool.and_eq_true, decide_eq_true_eq, decide_eq_true_eq]; exact this
def cmpN (a b : Str) : Int := orL [cmpS (keyOf a) (keyOf b), cmpI (kindN (a.getD 0 default)) (kindN (b.getD 0 default))]
theorem i32_u8 (u : UInt8) : IntKind.i32.wrap (u.toNat : Int) = u.toNat := IntWalk.i32_in _ (by have := u.toNat_lt; omega)
theorem cW (b : UInt8) (hb : b.toNat < 128) : Meets prog cQ [.int .i32 (b.toNat : Int)] { val := fun _ : Unit => int (kindN b) } := by
 refine d5 rG rfl r4 fun w0 => ?_; refine c5 (b7 rfl (b5 (c6 (i5 (c5 (b3 rfl (cV rfl rfl rfl (b3 rfl ?_)))))))); refine l8 rfl rfl ?_ ?_
 ·intro hg1; have hg1' := hg1; try simp at hg1'
  have q1 := of_decide_eq_true (bt1 hg1); refine j0 hg1 (b3 rfl (j0 hg1 (zQ rfl rfl rfl ?_))); refine p_t rfl rfl (bt1 hg1) rfl ?_; refine b7 rfl (b5 ?_)
  first | refine i6 rfl (fun hb1 => ?_) (fun hb1 => ?_) | refine c8 rfl (fun hb1 => ?_) (fun hb1 => ?_)
  ·have hb1' := hb1; try simp at hb1'
   refine c5 (b7 rfl (b5 (i8 (y8 ?_)))); exact ret1 () rfl (congrArg (fun n => some (int n)) (by first | (rw [kindN, if_pos (by omega)]; done) | (rw [kindN, if_neg (by omega), if_pos ⟨by omega, by omega, by simpa using hb2⟩]; done) | (rw [kindN, if_neg (by omega), if_neg (by omega)]; done) | (rw [kindN, if_neg (by omega), if_neg (by rintro ⟨h1, h2, h3⟩; exact h3 (by simpa using hb2))]))) rfl tK nK tK
  have hb1' := hb1; try simp at hb1'
  refine c5 (b3 rfl (cV rfl rfl rfl (b3 rfl ?_))); refine l8 rfl rfl ?_ ?_
  ·intro hg2; have hg2' := hg2; try simp at hg2'
   have q2 := of_decide_eq_true (bt1 hg2); refine j0 hg2 (b3 rfl (j0 hg2 (zQ rfl rfl rfl ?_))); refine p_t rfl rfl (bt1 hg2) rfl (b3 rfl ?_); refine l8 rfl rfl ?_ ?_
   ·intro hg3; have hg3' := hg3; try simp at hg3'
    have q3 := of_decide_eq_true (bt1 hg3); refine j0 hg3 (b3 rfl (j0 hg3 ?_)); have hcr := Z2 hqw b hb; rw [lY] at hcr; refine h8 J9 rfl rfl (hcr) p9 tK fun _ _ => ?_; refine j0 hg3 (qP rfl rfl ?_); refine p_t rfl rfl (bt1 hg3) rfl ?_; refine b7 rfl (b5 ?_)
    first | refine i6 rfl (fun hb2 => ?_) (fun hb2 => ?_) | refine c8 rfl (fun hb2 => ?_) (fun hb2 => ?_)
    ·have hb2' := hb2; try simp at hb2'
     refine c5 (b7 rfl (b5 (i8 (y8 ?_)))); exact ret1 () rfl (congrArg (fun n => some (int n)) (by first | (rw [kindN, if_pos (by omega)]; done) | (rw [kindN, if_neg (by omega), if_pos ⟨by omega, by omega, by simpa using hb2⟩]; done) | (rw [kindN, if_neg (by omega), if_neg (by omega)]; done) | (rw [kindN, if_neg (by omega), if_neg (by rintro ⟨h1, h2, h3⟩; exact h3 (by simpa using hb2))]))) rfl tK nK tK
    have hb2' := hb2; try simp at hb2'
    refine c4 (u4 (c3 (c5 (b7 rfl (b5 (i8 ?_)))))); exact ret1 () rfl (congrArg (fun n => some (int n)) (by first | (rw [kindN, if_pos (by omega)]; done) | (rw [kindN, if_neg (by omega), if_pos ⟨by omega, by omega, by simpa using hb2⟩]; done) | (rw [kindN, if_neg (by omega), if_neg (by omega)]; done) | (rw [kindN, if_neg (by omega), if_neg (by rintro ⟨h1, h2, h3⟩; exact h3 (by simpa using hb2))]))) rfl tK nK tK
   intro hg3; have hg3' := hg3; try simp at hg3'
   have q3 := of_decide_eq_false (bf2 hg3); refine p6 hg3 (p6 hg3 (p6 hg3 ?_)); refine p_f rfl rfl (bf2 hg3) rfl ?_; refine b7 rfl (b5 (c_f rfl rfl (c4 (u4 (c3 (c5 (b7 rfl (b5 ?_)))))))); refine i8 ?_; exact ret1 () rfl (congrArg (fun n => some (int n)) (by first | (rw [kindN, if_pos (by omega)]; done) | (rw [kindN, if_neg (by omega), if_pos ⟨by omega, by omega, by simpa using hb2⟩]; done) | (rw [kindN, if_neg (by omega), if_neg (by omega)]; done) | (rw [kindN, if_neg (by omega), if_neg (by rintro ⟨h1, h2, h3⟩; exact h3 (by simpa using hb2))]))) rfl tK nK tK
  intro hg2; have hg2' := hg2; try simp at hg2'
  have q2 := of_decide_eq_false (bf2 hg2); refine p6 hg2 (p6 hg2 ?_); refine p_f rfl rfl (bf2 hg2) rfl ?_; refine b3 rfl (rC rfl rfl rfl rfl rfl rfl (rC rfl rfl rfl rfl rfl rfl (rC rfl rfl rfl rfl rfl rfl (p_f rfl rfl rfl rfl (b7 rfl (b5 (c_f rfl rfl (c4 (u4 (c3 ?_)))))))))); refine c5 (b7 rfl (b5 (i8 ?_))); exact ret1 () rfl (congrArg (fun n => some (int n)) (by first | (rw [kindN, if_pos (by omega)]; done) | (rw [kindN, if_neg (by omega), if_pos ⟨by omega, by omega, by simpa using hb2⟩]; done) | (rw [kindN, if_neg (by omega), if_neg (by omega)]; done) | (rw [kindN, if_neg (by omega), if_neg (by rintro ⟨h1, h2, h3⟩; exact h3 (by simpa using hb2))]))) rfl tK nK tK
 intro hg1; have hg1' := hg1; try simp at hg1'
 have q1 := of_decide_eq_false (bf2 hg1); refine p6 hg1 (p6 hg1 ?_); refine p_f rfl rfl (bf2 hg1) rfl ?_; refine b7 rfl (b5 (c_f rfl rfl (c5 (b3 rfl (cV rfl rfl rfl (b3 rfl ?_)))))); refine l8 rfl rfl ?_ ?_
 ·intro hg4; have hg4' := hg4; try simp at hg4'
  have q2 := of_decide_eq_true (bt1 hg4); refine j0 hg4 (b3 rfl (j0 hg4 (zQ rfl rfl rfl ?_))); refine p_t rfl rfl (bt1 hg4) rfl (b3 rfl ?_); refine l8 rfl rfl ?_ ?_
  ·intro hg5; have hg5' := hg5; try simp at hg5'
   have q3 := of_decide_eq_true (bt1 hg5); refine j0 hg5 (b3 rfl (j0 hg5 ?_)); have hcr := Z2 hqw b hb; rw [lY] at hcr; refine h8 J9 rfl rfl (hcr) p9 tK fun _ _ => ?_; refine j0 hg5 (qP rfl rfl ?_); refine p_t rfl rfl (bt1 hg5) rfl ?_; refine b7 rfl (b5 ?_)
   first | refine i6 rfl (fun hb2 => ?_) (fun hb2 => ?_) | refine c8 rfl (fun hb2 => ?_) (fun hb2 => ?_)
   ·have hb2' := hb2; try simp at hb2'
    refine c5 (b7 rfl (b5 (i8 (y8 ?_)))); exact ret1 () rfl (congrArg (fun n => some (int n)) (by first | (rw [kindN, if_pos (by omega)]; done) | (rw [kindN, if_neg (by omega), if_pos ⟨by omega, by omega, by simpa using hb2⟩]; done) | (rw [kindN, if_neg (by omega), if_neg (by omega)]; done) | (rw [kindN, if_neg (by omega), if_neg (by rintro ⟨h1, h2, h3⟩; exact h3 (by simpa using hb2))]))) rfl tK nK tK
   have hb2' := hb2; try simp at hb2'
   refine c4 (u4 (c3 (c5 (b7 rfl (b5 (i8 ?_)))))); exact ret1 () rfl (congrArg (fun n => some (int n)) (by first | (rw [kindN, if_pos (by omega)]; done) | (rw [kindN, if_neg (by omega), if_pos ⟨by omega, by omega, by simpa using hb2⟩]; done) | (rw [kindN, if_neg (by omega), if_neg (by omega)]; done) | (rw [kindN, if_neg (by omega), if_neg (by rintro ⟨h1, h2, h3⟩; exact h3 (by simpa using hb2))]))) rfl tK nK tK
  intro hg5; have hg5' := hg5; try simp at hg5'
  have q3 := of_decide_eq_false (bf2 hg5); refine p6 hg5 (p6 hg5 (p6 hg5 ?_)); refine p_f rfl rfl (bf2 hg5) rfl ?_; refine b7 rfl (b5 (c_f rfl rfl (c4 (u4 (c3 (c5 (b7 rfl (b5 ?_)))))))); refine i8 ?_; exact ret1 () rfl (congrArg (fun n => some (int n)) (by first | (rw [kindN, if_pos (by omega)]; done) | (rw [kindN, if_neg (by omega), if_pos ⟨by omega, by omega, by simpa using hb2⟩]; done) | (rw [kindN, if_neg (by omega), if_neg (by omega)]; done) | (rw [kindN, if_neg (by omega), if_neg (by rintro ⟨h1, h2, h3⟩; exact h3 (by simpa using hb2))]))) rfl tK nK tK
 intro hg4; have hg4' := hg4; try simp at hg4'
 have q2 := of_decide_eq_false (bf2 hg4); refine p6 hg4 (p6 hg4 ?_); refine p_f rfl rfl (bf2 hg4) rfl ?_; refine b3 rfl (rC rfl rfl rfl rfl rfl rfl (rC rfl rfl rfl rfl rfl rfl (rC rfl rfl rfl rfl rfl rfl (p_f rfl rfl rfl rfl (b7 rfl (b5 (c_f rfl rfl (c4 (u4 (c3 ?_)))))))))); refine c5 (b7 rfl (b5 (i8 ?_))); exact ret1 () rfl (congrArg (fun n => some (int n)) (by first | (rw [kindN, if_pos (by omega)]; done) | (rw [kindN, if_neg (by omega), if_pos ⟨by omega, by omega, by simpa using hb2⟩]; done) | (rw [kindN, if_neg (by omega), if_neg (by omega)]; done) | (rw [kindN, if_neg (by omega), if_neg (by rintro ⟨h1, h2, h3⟩; exact h3 (by simpa using hb2))]))) rfl tK nK tK
theorem lT (b : UInt8) (hb : b.toNat < 128) : Meets prog aT [.int .i32 (b.toNat : Int)] { val := fun _ : Unit => str (soundB b) } := by
 refine d5 pK rfl r4 fun w0 => ?_; refine c5 (b7 rfl (l7 (b7 rfl (b5 (cH ?_))))); refine c7 (b3 rfl (b5 (i5 (c6 (i5 ?_))))); refine X4 ⟨fun u : Str => (b.toNat = 74 ∧ u = [117]) ∨ (b.toNat = 89 ∧ u = []), fun u => [(3, str u)], fun _ => [], fun _ => []⟩ ?_ ?_
 ·skip
  refine i5 (c6 (i5 (c6 (i5 (cH (c5 (D9 rfl rfl rfl (b7 rfl (b6 ?_))))))))); refine c3 ?_
  first | refine i6 rfl (fun hb1 => ?_) (fun hb1 => ?_) | refine c8 rfl (fun hb1 => ?_) (fun hb1 => ?_)
  ·have hb1' := hb1; try simp at hb1'
   refine r9 (B2 (r8 (c3 (c6 (c5 (b7 rfl (b5 (i8 ?_)))))))); refine r6 (y8 (y8 (y8 (y8 ?_)))); exact ret1 () rfl (congrArg (fun n => some (str n)) (by rw [soundB, if_pos (by omega)])) rfl tK nK tK
  have hb1' := hb1; try simp at hb1'
  refine c4 (c3 (c6 (c5 (D9 rfl rfl rfl (b7 rfl (b5 ?_))))))
  first | refine i6 rfl (fun hb2 => ?_) (fun hb2 => ?_) | refine c8 rfl (fun hb2 => ?_) (fun hb2 => ?_)
  ·have hb2' := hb2; try simp at hb2'
   refine r9 (B2 (M6 rfl (B8 (r8 (c3 (c7 (b7 rfl (b6 (u4 ?_))))))))); exact H4 _ ([117] : Str) (.inl ⟨by omega, rfl⟩) mC (.refl _) tK
  have hb2' := hb2; try simp at hb2'
  refine c4 (c3 (c6 (c5 (D9 rfl rfl rfl (b7 rfl (b5 ?_))))))
  first | refine i6 rfl (fun hb3 => ?_) (fun hb3 => ?_) | refine c8 rfl (fun hb3 => ?_) (fun hb3 => ?_)
  ·have hb3' := hb3; try simp at hb3'
   refine r9 (B2 (M6 rfl (B8 (M6 rfl (B8 (r8 ?_)))))); exact H4 _ ([] : Str) (.inr ⟨by omega, rfl⟩) mC (.refl _) tK
  have hb3' := hb3; try simp at hb3'
  refine c4 (c3 (c5 (D9 rfl rfl rfl (b7 rfl (b5 ?_)))))
  first | refine i6 rfl (fun hb4 => ?_) (fun hb4 => ?_) | refine c8 rfl (fun hb4 => ?_) (fun hb4 => ?_)
  ·have hb4' := hb4; try simp at hb4'
   refine r9 (B8 (M6 rfl (B8 (M6 rfl (B8 (M6 rfl (B8 (r8 (c3 (cH ?_)))))))))); refine c7 (b7 rfl (b5 (C6 (y8 ?_)))); exact ret1 () rfl (congrArg (fun n => some (str n)) (by rw [soundB, if_neg (by omega), if_neg (by omega), if_neg (by omega), if_pos (by omega)])) rfl tK nK tK
  have hb4' := hb4; try simp at hb4'
  refine c4 (c3 (r9 (M6 rfl (B8 (M6 rfl (B8 (M6 rfl (B8 (M6 rfl (B8 (r8 ?_))))))))))); refine c3 (c5 (b3 rfl ?_)); refine ax2 rfl hb (by rw [qF]; rfl) n8 rfl ?_; refine h8 dC rfl rfl (rS [b] (by simp) (by intro x hx; rw [List.mem_singleton.1 hx]; exact hb)) p9 tK fun _ _ => ?_; refine b7 rfl (b5 (i8 ?_)); exact ret1 () rfl (congrArg (fun n => some (str n)) (by rw [soundB, if_neg (by omega), if_neg (by omega), if_neg (by omega), if_neg (by omega)])) rfl tK nK tK
 intro u hu; have hul : u.length ≤ 1 := by rcases hu with ⟨_, rfl⟩ | ⟨_, rfl⟩ <;> simp
 refine cH (c5 (b3 rfl (lQ rfl rfl rfl (b5 ?_))))
 first | refine i6 rfl (fun hb5 => ?_) (fun hb5 => ?_) | refine c8 rfl (fun hb5 => ?_) (fun hb5 => ?_)
 ·have hb5' := hb5; try simp at hb5'
  have h89 : b.toNat = 89 ∧ u = [] := by
    rcases hu with ⟨h1, h2⟩ | h
    · rw [h2] at hb5; simp at hb5
    exact h
  refine c7 (b7 rfl (l7 (b3 rfl ?_))); refine qN rfl rfl rfl (by simp; try omega) ?_; refine b7 rfl (b5 (C6 (y8 (y8 ?_)))); exact ret1 () rfl (congrArg (fun n => some (str n)) (by rw [soundB, if_neg (by omega), if_neg (by omega), if_pos h89.1]; rfl)) rfl tK nK tK
 have hb5' := hb5; try simp at hb5'
 have h74 := hu.resolve_right (fun h => by rw [h.2] at hb5; simp at hb5); refine c4 (c3 (c5 (b3 rfl ?_))); refine qN rfl rfl rfl (by simp; try omega) ?_; refine b7 rfl (b5 (C6 (y8 (y8 ?_)))); exact ret1 () rfl (congrArg (fun n => some (str n)) (by rw [soundB, if_neg (by omega), if_pos h74.1, h74.2]; rfl)) rfl tK nK tK
theorem bK (s : Str) (hs : Asc7 s) : Meets prog aW [str s] { val := fun _ : Unit => int (nameErr s) } := by
 refine d5 pM rfl r4 fun w0 => ?_; refine c5 (b7 rfl (b5 (c6 (c5 (b3 rfl ?_))))); refine B9 rfl n8 rfl ?_; refine D9 rfl rfl rfl (b5 ?_)
 first | refine i6 rfl (fun hb1 => ?_) (fun hb1 => ?_) | refine c8 rfl (fun hb1 => ?_) (fun hb1 => ?_)
 ·have hb1' := hb1; try simp at hb1'
  have h0 : s.length = 0 := by omega
  refine c5 (b7 rfl (b5 (C6 ?_))); exact ret1 () rfl (congrArg (fun n => some (int n)) (by rw [nameErr, if_pos h0])) rfl tK nK tK
 have hb1' := hb1; try simp at hb1'
 have h0 : ¬ s.length = 0 := by omega
 refine c4 (c3 (c6 (c5 (b3 rfl ?_)))); refine B9 rfl n8 rfl ?_; refine G6 rfl rfl rfl (b5 ?_)
 first | refine i6 rfl (fun hb2 => ?_) (fun hb2 => ?_) | refine c8 rfl (fun hb2 => ?_) (fun hb2 => ?_)
 ·have hb2' := hb2; try simp at hb2'
  have h6 : 6 < s.length := by omega
  refine c5 (b7 rfl (b5 (C6 ?_))); exact ret1 () rfl (congrArg (fun n => some (int n)) (by rw [nameErr, if_neg h0, if_pos h6])) rfl tK nK tK
 have hb2' := hb2; try simp at hb2'
 have h6 : ¬ 6 < s.length := by omega
 refine c4 (c3 (c5 (b7 rfl (b5 (c6 (c5 (b3 rfl ?_))))))); refine vD rfl n8 rfl fun gI => ?_; refine b5 (i5 ?_); refine v6 (β := Nat) ⟨fun k => k ≤ s.length ∧ ∀ j, j < k → kindN (s.getD j default) = kindN (s.getD 0 default) ∧ ¬ kindN (s.getD j default) = 0, fun k => [(0, str s), (3, int (if k = 0 then 0 else kindN (s.getD 0 default))), (14, .pointer (n9 gI))], fun k => [(gI, iter s k)], fun _ => []⟩ (fun k => s.length - k) 0 ⟨Nat.zero_le _, fun j h => by omega⟩ mC (.refl _) tK fun k hk => ?_; obtain ⟨hk, ht⟩ := hk; refine c5 (zP rfl rfl (.refl _) ?_); refine cx8 rfl rfl (b5 (c6 ?_))
 first | refine i6 rfl (fun hb3 => ?_) (fun hb3 => ?_) | refine c8 rfl (fun hb3 => ?_) (fun hb3 => ?_)
 ·have hb3' := hb3; try simp at hb3'
  have hk2 : k < s.length := hb3; refine c4 (c3 (i5 (c5 (zR hs rfl rfl hb3 (b7 rfl (l7 (b3 rfl ?_))))))); refine h8 cZ rfl rfl (cW (s.getD k default) (hs _ (r7 hk2))) (hpR := [_]) (.refl _) tK fun _ _ => ?_; refine b7 rfl (b5 ?_); refine X4 ⟨fun _ : Unit => True, fun _ => [(0, str s), (3, int (kindN (s.getD 0 default))), (6, int (kindN (s.getD k default))), (14, .pointer (n9 gI))], fun _ => [(gI, iter s (nextP s k))], fun _ => []⟩ ?_ ?_
  ·skip
   refine c5 (b3 rfl (D9 rfl rfl rfl (b5 ?_)))
   first | refine i6 rfl (fun hb4 => ?_) (fun hb4 => ?_) | refine c8 rfl (fun hb4 => ?_) (fun hb4 => ?_)
   ·have hb4' := hb4; try simp at hb4'
    have hk0 : k = 0 := Classical.byContradiction fun e => (ht 0 (by omega)).2 (by rwa [if_neg e] at hb4); refine c7 (b3 rfl (b7 rfl (b6 ?_))); exact H4 _ () tK ⟨rfl, congrArg (fun q => some (int q)) (by rw [hk0]), rfl, rfl, tK⟩ (.refl _) tK
   have hb4' := hb4; try simp at hb4'
   have hk0 : ¬ k = 0 := fun e => hb4 (if_pos e); refine c4 ?_; exact H4 _ () tK ⟨rfl, congrArg (fun q => some (int q)) (by rw [if_neg hk0]), rfl, rfl, tK⟩ (.refl _) tK
  intro _ _; refine c5 (b3 rfl (D9 rfl rfl rfl (b3 rfl ?_))); refine l8 rfl rfl ?_ ?_
  ·intro hg1; have hg1' := hg1; try simp at hg1'
   have q1 := of_decide_eq_false (bf1 hg1); refine j0 hg1 (b3 rfl (j0 hg1 (b3 rfl (j0 hg1 (w7 rfl rfl rfl ?_))))); refine p_f rfl rfl (bf1 hg1) rfl (b5 ?_)
   first | refine i6 rfl (fun hb5 => ?_) (fun hb5 => ?_) | refine c8 rfl (fun hb5 => ?_) (fun hb5 => ?_)
   ·have hb5' := hb5; try simp at hb5'
    refine c5 (b7 rfl (b5 (i8 (y8 (y8 ?_))))); exact ret1 () rfl (congrArg (fun n => some (int n)) (by rw [nameErr, if_neg h0, if_neg h6, if_neg (zS hk2 (by first | exact .inl q1 | exact .inr hb5))])) rfl tK nK tK
   have hb5' := hb5; try simp at hb5'
   refine c4 (u4 ?_)
   exact again _ (k + 1) ⟨by omega, fun j hj => by
     by_cases e : j = k
     · subst e
       exact ⟨Classical.not_not.1 hb5, q1⟩
     exact ht j (by omega)⟩ (C5 (by omega)) ⟨rfl, congrArg (fun q => some (int q)) (by rw [if_neg (by omega)]), rfl, tK⟩ (uY hk2 hs) tK
  intro hg1; have hg1' := hg1; try simp at hg1'
  have q1 := of_decide_eq_true (bt2 hg1); refine p6 hg1 (p6 hg1 (p6 hg1 ?_)); refine p_t rfl rfl (bt2 hg1) rfl ?_; refine b5 (c_t rfl rfl (c5 (b7 rfl (b5 (i8 (y8 (S8 ?_))))))); refine r6 ?_; exact ret1 () rfl (congrArg (fun n => some (int n)) (by rw [nameErr, if_neg h0, if_neg h6, if_neg (zS hk2 (by first | exact .inl q1 | exact .inr hb5))])) rfl tK nK tK
 have hb3' := hb3; try simp at hb3'
 have hk2 : k = s.length := by omega
 subst hk2; refine r9 (B2 (r8 (c3 (c5 (b7 rfl (b5 (i8 ?_))))))); exact ret1 () rfl (congrArg (fun n => some (int n)) (by rw [nameErr, if_neg h0, if_neg h6, if_pos (tQ ht)])) rfl tK nK tK
theorem aJ (s : Str) (hs : Asc7 s) (hl : s.length ≤ 1000) : Meets prog iT [str s] { val := fun _ : Unit => str (keyOf s) } := by
 refine d5 uC rfl r4 fun w0 => ?_; refine c5 (b7 rfl (l7 (b7 rfl (b5 (cH ?_))))); refine c7 (b3 rfl ?_); refine vD rfl n8 rfl fun gI => ?_; refine b5 (i5 ?_); refine v6 (β := Nat) ⟨fun k => k ≤ s.length, fun k => [(3, str (keyOf (s.take k))), (7, .pointer (n9 gI))], fun k => [(gI, iter s k)], fun _ => []⟩ (fun k => s.length - k) 0 (Nat.zero_le _) mC (.refl _) tK fun k hk => ?_; simp only at hk; have hkl := lX (s.take k); rw [List.length_take] at hkl; refine c5 (zP rfl rfl (.refl _) ?_); refine cx8 rfl rfl (b5 (c6 ?_))
 first | refine i6 rfl (fun hb1 => ?_) (fun hb1 => ?_) | refine c8 rfl (fun hb1 => ?_) (fun hb1 => ?_)
 ·have hb1' := hb1; try simp at hb1'
  have hk2 : k < s.length := hb1; have hsl := sB (s.getD k default); refine c4 (c3 (i5 (c5 (zR hs rfl rfl hb1 (b7 rfl (b5 (c7 (b3 rfl (b3 rfl ?_))))))))); refine h8 mP rfl rfl (lT (s.getD k default) (hs _ (r7 hk2))) (hpR := [_]) (.refl _) tK fun _ _ => qN rfl rfl rfl (by omega) ?_; refine b7 rfl (b6 (u4 ?_)); exact again _ (k + 1) (by show k + 1 ≤ s.length; omega) (C5 (by omega)) ⟨congrArg (fun x => some (str x)) (yJ hk2).symm, rfl, tK⟩ (uY hk2 hs) tK
 have hb1' := hb1; try simp at hb1'
 have hk2 : k = s.length := by omega
 subst hk2; refine r9 (B2 (r8 (c3 (c5 (b3 rfl (b7 rfl (b5 (i8 ?_)))))))); exact ret1 () rfl (congrArg (fun x => some (str (keyOf x))) List.take_length) rfl tK nK tK
theorem qT (s : Str) (hs : Asc7 s) (hl : s.length ≤ 1000) : Meets prog dV [str s] { val := fun _ : Unit => .tuple #[str (if nameErr s = 0 then keyOf s else []), int (nameErr s)] } := by
 refine d5 rV rfl r4 fun w0 => ?_; refine c5 (b7 rfl (b7 rfl (b5 (c6 (c5 (b3 rfl ?_)))))); refine h8 bW rfl rfl (bK s hs) p9 tK fun _ _ => ?_; refine b7 rfl (l7 (b3 rfl (w7 rfl rfl rfl (b5 ?_))))
 first | refine i6 rfl (fun hb1 => ?_) (fun hb1 => ?_) | refine c8 rfl (fun hb1 => ?_) (fun hb1 => ?_)
 ·have hb1' := hb1; try simp at hb1'
  refine c5 (b3 rfl (b7 rfl (b7 rfl (b5 (C6 ?_))))); exact ret2 () rfl rfl rfl (by rw [if_neg hb1]; rfl) rfl tK (.refl _) tK
 have hb1' := hb1; try simp at hb1'
 have h0 := Classical.not_not.1 hb1; refine c4 (c3 (c5 (b3 rfl ?_))); refine h8 aU rfl rfl (aJ s hs hl) p9 tK fun _ _ => ?_; refine b7 rfl (b7 rfl (b5 (i8 ?_))); exact ret2 () rfl rfl rfl (by rw [if_pos h0, h0]) rfl tK (.refl _) tK
theorem N0 (a : Str) : Meets prog I6 [str a] { val := fun _ : Unit => .bool false } := by
 refine d5 bX rfl r4 fun w0 => ?_; refine c5 (b7 rfl (l7 (b3 rfl (b3 rfl (xS rfl rfl rfl (b7 rfl (b6 ?_))))))); refine c3 (i8 ?_); exact ret1 () rfl (congrArg (fun b => some (Value.bool b)) (by simp)) rfl tK (.refl _) tK
theorem Z3 (a b : Str) : Meets prog H3 [str a, str b] { val := fun _ : Unit => int (cmpS a b) } := by
 refine d5 Z7 rfl r4 fun w0 => ?_; refine c5 (b7 rfl (l7 (b3 rfl ?_))); refine h8 M9 rfl rfl (N0 _) (.refl _) tK fun _ _ => ?_; refine b7 rfl (l7 (b3 rfl ?_)); refine h8 M9 rfl rfl (N0 _) (.refl _) tK fun _ _ => ?_; refine b7 rfl (b5 (c6 (c5 (b3 rfl (b5 ?_))))); refine c_f rfl bq8 ?_; refine c4 (c3 (c6 (c5 (b3 rfl (b5 ?_))))); refine c_f rfl bq8 ?_; refine c4 (c3 (c6 (c5 (b3 rfl (b3 rfl (cq8 rfl rfl rfl (b5 ?_)))))))
 first | refine i6 rfl (fun hb4 => ?_) (fun hb4 => ?_) | refine c8 rfl (fun hb4 => ?_) (fun hb4 => ?_)
 ·have hb4' := hb4; try simp at hb4'
  refine c5 (b7 rfl (b5 (C6 ?_))); exact ret1 () rfl (congrArg (fun n => some (int n)) (by rw [cmpS, if_pos hb4])) rfl tK nK tK
 have hb4' := hb4; try simp at hb4'
 refine c4 (c3 (c6 (c5 (b3 rfl (b3 rfl (cx0 rfl rfl rfl (b5 ?_)))))))
 first | refine i6 rfl (fun hb5 => ?_) (fun hb5 => ?_) | refine c8 rfl (fun hb5 => ?_) (fun hb5 => ?_)
 ·have hb5' := hb5; try simp at hb5'
  refine c5 (b7 rfl (b5 (C6 ?_))); exact ret1 () rfl (congrArg (fun n => some (int n)) (by rw [cmpS, if_neg (by rw [hb4]; decide), if_pos hb5])) rfl tK nK tK
 have hb5' := hb5; try simp at hb5'
 refine c4 (c3 (c5 (b7 rfl (b5 (i8 ?_))))); exact ret1 () rfl (congrArg (fun n => some (int n)) (by rw [cmpS, if_neg (by rw [hb4]; decide), if_neg (by rw [hb5]; decide)])) rfl tK nK tK
theorem U6 (s : Str) (hs : Asc7 s) (h0 : 0 < s.length) : Meets prog P6 [str s] { val := fun _ : Unit => int (kindN (s.getD 0 default)) } := by
 refine d5 gY rfl r4 fun w0 => ?_; refine c5 (b7 rfl (l7 (b3 rfl ?_))); refine nM 0 rfl n8 rfl rfl rfl (List.getElem?_eq_getElem h0) ?_; refine tP _ rfl zL qF rfl (i32_u8 _) ?_; have hkd := cW (s.getD 0 default) (hs _ (r7 h0)); rw [z8 h0] at hkd; refine h8 cZ rfl rfl (hkd) p9 tK fun _ _ => ?_; refine b7 rfl (b5 (i8 ?_)); exact ret1 () rfl (congrArg (fun q => some (int (kindN q))) (z8 h0).symm) rfl tK (.refl _) tK
theorem X3 (a b : Str) (ha : Asc7 a) (hb : Asc7 b) (ha0 : 0 < a.length) (hb0 : 0 < b.length) (hal : a.length ≤ 1000) (hbl : b.length ≤ 1000) : Meets prog I1 [str a, str b] { val := fun _ : Unit => int (cmpN a b) } := by
 refine d5 kU rfl r4 fun w0 => ?_; refine c5 (b7 rfl (l7 (b7 rfl (l7 ?_)))); refine b3 rfl (h8 aU rfl rfl (aJ a ha hal) p9 tK fun _ _ => b3 rfl (h8 aU rfl rfl (aJ b hb hbl) p9 tK fun _ _ => h8 Y9 rfl rfl (Z3 _ _) p9 tK fun _ _ => ?_)); refine b3 rfl (b3 rfl ?_); refine G3 (vs := [str a]) (cap := []) V0 rfl rfl rfl (U6 a ha ha0) p9 tK fun _ _ => ?_; refine b3 rfl (b3 rfl ?_); refine G3 (vs := [str b]) (cap := []) V0 rfl rfl rfl (U6 b hb hb0) p9 tK fun _ _ => h8 y9 rfl rfl (z7 _ _) p9 tK fun _ _ => j8 _ rfl rfl (fun _ => jJ ..) fun gS => B5 (rows [cmpS (keyOf a) (keyOf b), cmpI (kindN (a.getD 0 default)) (kindN (b.getD 0 default))]) (List.prefix_refl _) ?_; refine h8 K9 rfl rfl (L5 [cmpS (keyOf a) (keyOf b), cmpI (kindN (a.getD 0 default)) (kindN (b.getD 0 default))] (by simp)) p9 mC fun _ _ => ?_; refine b7 rfl (b5 (i8 ?_)); exact ret1 () rfl rfl rfl tK nK tK
theorem iD {A : Option Addr} {c : Nat} (l : List Str) (hl : l.length ≤ 1000000) (hs : (∀ s ∈ l, Asc7 s)) : Meets prog V3 [.slice A l.length c] { LI := [Row A (rows l)], val := fun _ : Unit => int (firstErr nameErr l) } := by
 refine d5 kV rfl r4 fun w0 => ?_; refine c5 (b7 rfl (b5 (c6 (c5 (b3 rfl ?_))))); refine i7 rfl j7 rfl ?_; refine b3 rfl (b5 (i5 ?_)); refine v6 (β := Nat) ⟨fun k => k ≤ l.length ∧ firstErr nameErr (l.take k) = 0, fun k => [(6, .slice A l.length c), (7, int l.length), (8, int k)], fun _ => [], fun _ => [Row A (rows l)]⟩ (fun k => l.length - k) 0 ⟨Nat.zero_le _, rfl⟩ mC (.refl _) mC fun k hk => ?_; obtain ⟨hk, ht⟩ := hk; refine c5 (y5 rfl rfl rfl (b5 (c6 ?_)))
 first | refine i6 rfl (fun hb1 => ?_) (fun hb1 => ?_) | refine c8 rfl (fun hb1 => ?_) (fun hb1 => ?_)
 ·have hb1' := hb1; try simp at hb1'
  have hk2 : k < l.length := by omega
  refine c4 (c3 (c6 (i5 (c5 ?_)))); refine u6 (α := Str) _ _ rfl j7 q7 rfl rfl rfl mB rfl (by omega) (by decide) (a7 rfl d6 rfl (b9 mB (b4 (by omega) rfl)) ?_); refine b7 rfl (l7 (b3 rfl ?_)); refine h8 bW rfl rfl (bK (l.getD k default) (hs _ (r7 hk2))) p9 tK fun _ _ => ?_; refine b7 rfl (l7 (b3 rfl (w7 rfl rfl rfl (b5 ?_))))
  first | refine i6 rfl (fun hb2 => ?_) (fun hb2 => ?_) | refine c8 rfl (fun hb2 => ?_) (fun hb2 => ?_)
  ·have hb2' := hb2; try simp at hb2'
   refine c5 (b3 rfl (b7 rfl (b5 (i8 (y8 (r6 (y8 ?_))))))); exact ret1 () rfl (congrArg (fun n => some (int n)) (by rw [cS hk2 ht hb2])) rfl tK nK tK
  have hb2' := hb2; try simp at hb2'
  refine c4 (u4 (c3 (c7 ?_))); refine w5 _ rfl rfl rfl rfl q8 ?_; refine b3 rfl (b6 ?_); exact again _ (k + 1) ⟨by omega, by rw [Z0 hk2 ht]; exact Classical.not_not.1 hb2⟩ (C5 (by omega)) mC (.refl _) mC
 have hb1' := hb1; try simp at hb1'
 have hk2 : k = l.length := by omega
 subst hk2; rw [List.take_length] at ht; refine r9 (B2 (r8 (c3 (c5 (b7 rfl (b5 (i8 ?_))))))); exact ret1 () rfl (congrArg (fun n => some (int n)) (by rw [ht])) rfl tK nK tK
def listErr (l : List Str) : Int := if 6 < l.length then 6 else firstErr nameErr l
theorem Z9 {A : Option Addr} {c : Nat} (l : List Str) (hl : l.length ≤ 1000000) (hs : (∀ s ∈ l, Asc7 s)) : Meets prog Y3 [.slice A l.length c] { LI := [Row A (rows l)], val := fun _ : Unit => int (listErr l) } := by
 refine d5 mQ rfl r4 fun w0 => ?_; refine c5 (b7 rfl (b5 (c6 (c5 (b3 rfl ?_))))); refine i7 rfl j7 rfl ?_; refine G6 rfl rfl rfl (b5 ?_)
 first | refine i6 rfl (fun hb1 => ?_) (fun hb1 => ?_) | refine c8 rfl (fun hb1 => ?_) (fun hb1 => ?_)
 ·have hb1' := hb1; try simp at hb1'
  have h6 : 6 < l.length := by omega
  refine c5 (b7 rfl (b5 (C6 ?_))); exact ret1 () rfl (congrArg (fun n => some (int n)) (by rw [listErr, if_pos h6])) rfl tK nK tK
 have hb1' := hb1; try simp at hb1'
 have h6 : ¬ 6 < l.length := by omega
 refine c4 (c3 (c5 (b3 rfl ?_))); refine h8 iU rfl rfl (iD l hl hs) p9 ⟨m0, tK⟩ fun _ _ => ?_; refine b7 rfl (b5 (i8 ?_)); exact ret1 () rfl (congrArg (fun n => some (int n)) (by rw [listErr, if_neg h6])) rfl tK nK tK
end Go.Proofs.YtpihanmcnmlodaaGreatDoor
end
section
namespace Go.W
open Go Go.RowKit
section
variable {c : Cx} {Q : Exit → Act → World → Prop} {fr : Fr} {hp : Hp} {L : List Fact} {ops : Array Oper} {rest : List Oper}
variable {d : Tmp} {ty : TypeId} {pos : String} {af : Array Edge}
theorem hl_eff {o : Oper} (ho : o.dst = none) (hg : o.guard = none)
    (h : ∀ a w, Ok c a fr → WI c.b w hp L → ∃ v w' hp' L', (execOp a.eval o).run c.P w = .ok (.value v) w' ∧ WI c.b w' hp' L' ∧ HL c ops Q rest fr hp' L') : HL c ops Q (o :: rest) fr hp L := by
  intro a w ha hw; obtain ⟨v, w', hp', L', hr, hw', hk⟩ := h a w ha hw; refine bC hg fun K hK => ?_; unfold Oper.wp; rw [hr, Oper.upon_value, ho]; exact hK _ _ (hk _ _ ha hw')
/-! ### Loops that leave marks -/
def AgainM {β : Type} (s : Sta β) (ds : β → List Nat) (μ : β → Nat) (m : Nat) (P : Program) (n : Nat) (b : Bx) (a : Act) (w : World) : Prop := ∃ y, s.inv y ∧ μ y < m ∧ Ok ⟨P, n, b, (ds y).map markOf, none⟩ a (s.fr y) ∧ WI b w (shutM (ds y) ++ s.hp y) (s.L y)
end
end Go.W
end
section
namespace Go.W
open Go Go.RowKit Go.Conc
def wpk (P : Program) (x : Code) (Q : Exit → Act → World → Prop) (a : Act) (w : World) : Prop :=
  ∀ (b : Frame) (k : List Item) (cs : List Frame), b.kind = .normal → ∃ e a' w', Q e a' w' ∧ Arrives P (lone (b.at a (.code x :: k)) cs w) b k cs e a' w'
section
variable {P : Program} {Q : Exit → Act → World → Prop} {a : Act} {w : World}
/-! Regions that communicate. -/
def OpSteps (P : Program) (o : Oper) (a : Act) (w : World) (v : Value) (w' : World) : Prop :=
  ∀ (b : Frame) (k : List Item) (cs : List Frame) (ops : Array Oper) (i : Nat) (rest : List Nat), b.kind = .normal → ops[i]? = some o → o.guard = none →
    step P (lone (b.at a (.inRegion ops (i :: rest) :: k)) cs w) = .next (lone (b.at (a.put o.dst v) (.inRegion ops rest :: k)) cs w')
def opsK (P : Program) (ops : Array Oper) (Q : Exit → Act → World → Prop) : List Nat → Act → World → Prop
  | [], a, w => Q .normal a w
  | i :: rest, a, w => ∃ o v w', ops[i]? = some o ∧ o.guard = none ∧ OpSteps P o a w v w' ∧ opsK P ops Q rest (a.put o.dst v) w'
end
/-! The rules. -/
def kw (c : Cx) (x : Code) (Q : Exit → Act → World → Prop) : Act → World → Prop := wpk c.P x Q
def KC (c : Cx) (x : Code) (Q : Exit → Act → World → Prop) (fr : Fr) (hp : Hp) (L : List Fact) : Prop := ∀ a w, Ok c a fr → WI c.b w hp L → kw c x Q a w
def KL (c : Cx) (ops : Array Oper) (Q : Exit → Act → World → Prop) (l : List Nat) (fr : Fr) (hp : Hp) (L : List Fact) : Prop := ∀ a w, Ok c a fr → WI c.b w hp L → opsK c.P ops Q l a w
section
variable {c : Cx} {Q : Exit → Act → World → Prop} {fr : Fr} {hp : Hp} {L : List Fact} {ops : Array Oper}
variable {i : Nat} {rest : List Nat} {d : Tmp} {ty : TypeId} {pos : String} {af : Array Edge}
abbrev chanO (cap : Nat) (buf : List Value) (s r : Nat) : Obj := .chan cap buf.toArray false s r false
end
section
variable {c : Cx} {Q : Exit → Act → World → Prop} {fr : Fr} {hp : Hp} {L : List Fact} {ops : Array Oper} {rest : List Oper}
variable {d : Tmp} {ty : TypeId} {pos : String} {af : Array Edge}
end
/-! ### Slices that grow from nothing, whose cells are written -/
section
def GrowE (e : TypeId) (sz : Nat) (A : Option Addr) (n cap : Nat) (xs : List Value) (og : Hp) : Prop := Grow e sz A n cap xs og ∨ (n = 0 ∧ cap = 0 ∧ xs = [] ∧ og = [])
theorem GrowE.grow {e : TypeId} {sz n cap : Nat} {A : Option Addr} {xs : List Value} {og : Hp} (h : GrowE e sz A n cap xs og) (hn : 0 < n) : Grow e sz A n cap xs og := by
  rcases h with h | ⟨h, _⟩
  · exact h
  omega
theorem GrowE.le {e : TypeId} {sz n cap : Nat} {A : Option Addr} {xs : List Value} {og : Hp} (h : GrowE e sz A n cap xs og) : n ≤ cap := by
  rcases h with h | ⟨h, h2, _⟩
  · exact h.le
  omega
variable {c : Cx} {Q : Exit → Act → World → Prop} {fr : Fr} {hp : Hp} {L : List Fact} {ops : Array Oper} {rest : List Oper}
variable {d : Tmp} {ty : TypeId} {pos : String} {af : Array Edge}
/-! ### Cells of rows that are written -/
end
section
variable {c : Cx} {Q : Exit → Act → World → Prop} {fr : Fr} {hp : Hp} {L : List Fact} {ops : Array Oper} {rest : List Oper} {ty : TypeId} {pos : String} {af : Array Edge}
end
end Go.W
end
section
namespace Go.W
open Go Go.RowKit
structure Pre {α : Type} (cf : α → α → Int) : Prop where
  asym : ∀ a b, cf a b < 0 → ¬ cf b a < 0
  tr : ∀ a b c, ¬ cf b a < 0 → ¬ cf c b < 0 → ¬ cf c a < 0
section
variable {α : Type} [El α]
theorem dx9 {l : List α} {i j : Nat} {v : α} (hi : i < l.length) : (l.set i v).getD j default = if i = j then v else l.getD j default := by
  rw [List.getD_eq_getElem?_getD, List.getD_eq_getElem?_getD, List.getElem?_set]
  split
  · rfl
  rfl
def exc (l : List α) (j : Nat) : List α := (l.set (j + 1) (l.getD j default)).set j (l.getD (j + 1) default)
theorem dx8 {l : List α} {j : Nat} (hj : j + 1 < l.length) : (exc l j).Perm l := by
  unfold exc; rw [show l.getD (j + 1) default = l[j + 1] by rw [List.getD_eq_getElem?_getD, List.getElem?_eq_getElem hj]; rfl, show l.getD j default = l[j]'(by omega) by rw [List.getD_eq_getElem?_getD, List.getElem?_eq_getElem (by omega)]; rfl]; exact List.set_set_perm hj (by omega)
theorem uF {l : List α} {j k : Nat} (hj : j + 1 < l.length) : (exc l j).getD k default = if k = j then l.getD (j + 1) default else if k = j + 1 then l.getD j default else l.getD k default := by
  unfold exc; rw [dx9 (by simp; omega), dx9 (by omega)]
  by_cases h1 : k = j
  · rw [if_pos h1.symm, if_pos h1]
  rw [if_neg (fun e => h1 e.symm), if_neg h1]
  by_cases h2 : k = j + 1
  · rw [if_pos h2.symm, if_pos h2]
  rw [if_neg (fun e => h2 e.symm), if_neg h2]
variable {cf : α → α → Int}
def sortTo (cf : α → α → Int) (l : List α) (m : Nat) : Prop := ∀ p q, p < q → q < m → ¬ cf (l.getD q default) (l.getD p default) < 0
structure InsO (cf : α → α → Int) (l : List α) (i j : Nat) : Prop where
  o : ∀ p q, p < q → q ≤ i → ¬ p = j → ¬ q = j → ¬ cf (l.getD q default) (l.getD p default) < 0
  a : ∀ q, j < q → q ≤ i → ¬ cf (l.getD q default) (l.getD j default) < 0
theorem InsO.start {l : List α} {i : Nat} (h : sortTo cf l i) : InsO cf l i i := ⟨fun p q h1 h2 h3 h4 => h p q h1 (by omega), fun q h1 h2 => by omega⟩
theorem InsO.swap {l : List α} {i j : Nat} (hP : Pre cf) (h : InsO cf l i (j + 1)) (hi : i < l.length) (hj : j + 1 ≤ i) (hlt : cf (l.getD (j + 1) default) (l.getD j default) < 0) : InsO cf (exc l j) i j := by
  have hj2 : j + 1 < l.length := by omega
  refine ⟨fun p q h1 h2 h3 h4 => ?_, fun q h1 h2 => ?_⟩
  · rw [uF hj2, uF hj2, if_neg h3, if_neg h4]
    by_cases hp : p = j + 1
    · rw [if_pos hp, if_neg (by omega)]
      exact h.o j q (by omega) h2 (by omega) (by omega)
    rw [if_neg hp]
    by_cases hq : q = j + 1
    · rw [if_pos hq]
      exact h.o p j (by omega) (by omega) (by omega) (by omega)
    rw [if_neg hq]; exact h.o p q h1 h2 hp hq
  rw [uF hj2, uF hj2, if_pos rfl, if_neg (by omega)]
  by_cases hq : q = j + 1
  · rw [if_pos hq]; exact hP.asym _ _ hlt
  rw [if_neg hq]; exact h.a q (by omega) h2
theorem InsO.done {l : List α} {i j : Nat} (hP : Pre cf) (h : InsO cf l i j) (hj : j ≤ i) (he : ∀ k, j = k + 1 → ¬ cf (l.getD j default) (l.getD k default) < 0) : sortTo cf l (i + 1) := by
  intro p q h1 h2
  by_cases hp : p = j
  · subst hp; exact h.a q h1 (by omega)
  by_cases hq : q = j
  · subst hq
    obtain ⟨k, rfl⟩ : ∃ k, q = k + 1 := ⟨q - 1, by omega⟩; have h3 := he k rfl
    by_cases hpk : p = k
    · subst hpk; exact h3
    exact hP.tr _ _ _ (h.o p k (by omega) (by omega) hp (by omega)) h3
  exact h.o p q h1 (by omega) hp hq
abbrev Srtd (cf : α → α → Int) (ws l : List α) : Prop := l.Perm ws ∧ (Pre cf → sortTo cf l l.length)
theorem nG {l : List α} (h : sortTo cf l l.length) : l.Pairwise fun a b => ¬ cf b a < 0 := by
  rw [List.pairwise_iff_getElem]; intro i j hi hj hij; have := h i j hij hj
  rwa [List.getD_eq_getElem?_getD, List.getD_eq_getElem?_getD, List.getElem?_eq_getElem hi, List.getElem?_eq_getElem hj] at this
theorem qS (h1 : El.sz α = 1) {cur : Array Value} {l : List α} {i q : Nat} {v : Value} (h : cur.toList.take (l.length * 1) = rows l) (hi : i < l.length) (hq : q = i) (hv : El.cells (l.getD i default) = [v]) : cur[q]? = some v := by
  subst hq; have h2 := b4 hi (v := v) (by rw [hv]; rfl); rw [h1] at h2; rw [← h, List.getElem?_take, if_pos (by omega), Nat.mul_one] at h2; rw [← Array.getElem?_toList]; exact h2
theorem put_1 (h1 : El.sz α = 1) {cur : Array Value} {l : List α} {k : Nat} {v : Value} {a : α} (hv : El.cells a = [v]) (h : cur.toList.take (l.length * 1) = rows l) : (cur.setIfInBounds k v).toList.take ((l.set k a).length * 1) = rows (l.set k a) := by
  rw [Array.toList_setIfInBounds, List.length_set, List.take_set, h, lO h1 v a hv]
theorem dq4 (h1 : El.sz α = 1) {e : TypeId} {g cap : Nat} {cur : Array Value} {l : List α} (h3 : l.length ≤ cap) (h4 : cap ≤ maxLen) (h5 : cur.size = cap * 1) (h6 : cur.toList.take (l.length * 1) = rows l) : Grow e 1 (n9 g) l.length cap (rows l) [(g, Obj.cells cur e (0, 0))] :=
  ⟨by rw [O8, h1], .inr ⟨g, cur, rfl, rfl, h3, h4, h5, h6⟩⟩
end
end Go.W
end
