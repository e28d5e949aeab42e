/- Texts of this claim, one behind another. -/
import Derived.RangeFuncLeaves
import Derived.RangeFuncRecord
import Derived.Scope
import Derived.Laws.Cover3
import Derived.Lib.SliceRun
import Derived.Laws.AppendOwn
import Derived.Laws.MakeOwn
import Derived.Test.YtegfgegnhjkcfaaGreatDoorAAe
import Derived.Test.YtegfgegnhjkcfaaGreatDoorAAd
set_option linter.unusedVariables false
set_option linter.unusedSimpArgs false
section
namespace Go.Proofs.YtegfgegnhjkcfaaGreatDoor
open Go Go.W
set_option maxRecDepth 20000
attribute [local irreducible] HL HC HQ HB Row Rows2 Blk Facts
def lineBad (u : UInt8) : Bool := (decide ((u.toNat : Int) < 97) || decide (122 < (u.toNat : Int))) && (decide ((u.toNat : Int) < 48) || decide (57 < (u.toNat : Int))) && decide (¬ (u.toNat : Int) = 32)
def lineErr (s : Str) : Int := if s.length = 0 then 7 else if 10 < s.length then 10 else if s.any lineBad then 2 else if s.take 1 = [32] ∨ s.drop (s.length - 1) = [32] then 2 else 0
def firstErr {α : Type} (f : α → Int) : List α → Int
  | [] => 0
  | a :: l => if f a = 0 then firstErr f l else f a
def pageErr (p : List Str) : Int := if 6 < p.length then 6 else firstErr lineErr p
theorem X7 {α : Type} {f : α → Int} {l : List α} {k : Nat} (hk : k < l.length) (h : firstErr f (l.take k) = 0) : firstErr f (l.take (k + 1)) = f l[k] := by
  induction l generalizing k with
  | nil => simp at hk
  | cons a l ih =>
    cases k with
    | zero => simp [firstErr]; intro h; exact h.symm
    | succ k =>
      simp only [List.take_succ_cons, firstErr] at h ⊢
      split at h
      · rename_i h0
        rw [if_pos h0]; exact ih (by simpa using hk) h
      rename_i h0; exact absurd h h0
theorem G3 {α : Type} {f : α → Int} {l : List α} {k : Nat} (hk : k < l.length) (h : firstErr f (l.take k) = 0) (h1 : ¬ f l[k] = 0) : firstErr f l = f l[k] := by
  induction l generalizing k with
  | nil => simp at hk
  | cons a l ih =>
    cases k with
    | zero => simp at h1; simp [firstErr, h1]
    | succ k =>
      simp only [List.take_succ_cons, firstErr] at h ⊢
      split at h
      · rename_i h0
        rw [if_pos h0]; exact ih (by simpa using hk) h (by simpa using h1)
      rename_i h0; exact absurd h h0
theorem ax1 {α : Type} {f : α → Bool} {l : List α} {k : Nat} (hk : k < l.length) (h : (l.take k).any f = false) (h1 : f l[k] = false) : (l.take (k + 1)).any f = false := by
  rw [List.take_succ_eq_append_getElem hk, List.any_append, h]; simp [h1]
theorem any_at {α : Type} {f : α → Bool} {l : List α} {k : Nat} (hk : k < l.length) (h1 : f l[k] = true) : l.any f = true := List.any_eq_true.2 ⟨_, List.getElem_mem hk, h1⟩
theorem y8 {α : Type} [Inhabited α] {l : List α} {k : Nat} (hk : k < l.length) : l.getD k default = l[k] := by simp [List.getD_eq_getElem?_getD, hk]
theorem byte_eq {u : UInt8} {n : Nat} (hn : n < 256) : (u.toNat : Int) = (n : Int) ↔ u = UInt8.ofNat n := by
  constructor
  · intro h
    have : u.toNat = n := by omega
    rw [← this]; simp
  intro h; subst h
  simp; omega
theorem H1 (s p : Str) (hs : s.length ≤ 1000000) (hp : p.length ≤ 1000000) :
    Meets Tryz.prog F.u3 [str s, str p] { val := fun _ : Unit => .bool (decide (p.length ≤ s.length ∧ s.take p.length = p)) } := by
 refine c1 F.M1 rfl j9 fun w0 => ?_; refine b7 (b4 rfl (j6 (a6 rfl ?_))); refine p7 rfl T.j8 rfl (a6 rfl (p7 rfl T.j8 rfl ?_)); refine iT rfl rfl rfl (a6 rfl ?_); refine k9 rfl rfl ?_ ?_
 ·intro hg1; have hg1' := hg1; try simp at hg1'
  have hle : p.length ≤ s.length := by simpa using hg1
  refine d7 rfl rfl hg1 (a6 rfl (d7 rfl rfl hg1 (a6 rfl (d7 rfl rfl hg1 ?_)))); refine p7 rfl T.j8 rfl (d7 rfl rfl hg1 (cC p.length rfl T.j8 rfl rfl rfl (by omega) ?_)); refine d7 rfl rfl hg1 (a6 rfl (d7 rfl rfl hg1 (W5 rfl rfl rfl ?_))); refine p_t rfl rfl (bt1 hg1) rfl ?_; refine b4 rfl (a8 (g2 ?_)); exact ret1 () rfl (congrArg (fun b => some (Value.bool b)) (by simp [hle])) rfl trivial (.refl _) trivial
 intro hg1; have hg1' := hg1; try simp at hg1'
 have hle : ¬ p.length ≤ s.length := by simpa using hg1
 refine k4 rfl rfl rfl rfl rfl hg1 (k4 rfl rfl rfl rfl rfl hg1 (k4 rfl rfl rfl rfl rfl hg1 (k4 rfl rfl rfl rfl rfl hg1 (k4 rfl rfl rfl rfl rfl hg1 (k4 rfl rfl rfl rfl rfl hg1 ?_))))); refine p_f rfl rfl (bf2 hg1) rfl ?_; refine b4 rfl (a8 (g2 ?_)); exact ret1 () rfl (congrArg (fun b => some (Value.bool b)) (by simp [hle])) rfl trivial (.refl _) trivial
theorem Y6 (s p : Str) (hs : s.length ≤ 1000000) (hp : p.length ≤ 1000000) :
    Meets Tryz.prog F.K0 [str s, str p] { val := fun _ : Unit => .bool (decide (p.length ≤ s.length ∧ s.take p.length = p)) } := by
 refine c1 F.dO rfl j9 fun w0 => ?_; refine b7 (b4 rfl (j6 (a6 rfl (a6 rfl ?_)))); refine c8 F.J6 rfl rfl (H1 s p hs hp) (.refl _) trivial fun _ _ => ?_; refine b4 rfl (a8 (g2 ?_)); exact ret1 () rfl rfl rfl trivial (.refl _) trivial
theorem H0 (s p : Str) (hs : s.length ≤ 1000000) (hp : p.length ≤ 1000000) :
    Meets Tryz.prog F.u1 [str s, str p] { val := fun _ : Unit => .bool (decide (p.length ≤ s.length ∧ s.drop (s.length - p.length) = p)) } := by
 refine c1 F.M0 rfl j9 fun w0 => ?_; refine b7 (b4 rfl (j6 (a6 rfl ?_))); refine p7 rfl T.j8 rfl (a6 rfl (p7 rfl T.j8 rfl ?_)); refine iT rfl rfl rfl (a6 rfl ?_); refine k9 rfl rfl ?_ ?_
 ·intro hg1; have hg1' := hg1; try simp at hg1'
  have hle : p.length ≤ s.length := by simpa using hg1
  refine d7 rfl rfl hg1 (a6 rfl (d7 rfl rfl hg1 (a6 rfl (d7 rfl rfl hg1 ?_)))); refine p7 rfl T.j8 rfl ?_; refine d7 rfl rfl hg1 (a6 rfl (d7 rfl rfl hg1 ?_)); refine p7 rfl T.j8 rfl (d7 rfl rfl hg1 (bE ((s.length - p.length : Nat) : Int) rfl rfl rfl (by omega) n3 (d7 rfl rfl hg1 (V3 (s.length - p.length) rfl T.j8 rfl rfl (by omega) (by omega) ?_)))); refine d7 rfl rfl hg1 (a6 rfl (d7 rfl rfl hg1 (W5 rfl rfl rfl ?_))); refine p_t rfl rfl (bt1 hg1) rfl ?_; refine b4 rfl (a8 (g2 ?_)); exact ret1 () rfl (congrArg (fun b => some (Value.bool b)) (by simp [hle])) rfl trivial (.refl _) trivial
 intro hg1; have hg1' := hg1; try simp at hg1'
 have hle : ¬ p.length ≤ s.length := by simpa using hg1
 refine k4 rfl rfl rfl rfl rfl hg1 (k4 rfl rfl rfl rfl rfl hg1 (k4 rfl rfl rfl rfl rfl hg1 (k4 rfl rfl rfl rfl rfl hg1 (k4 rfl rfl rfl rfl rfl hg1 (k4 rfl rfl rfl rfl rfl hg1 (k4 rfl rfl rfl rfl rfl hg1 (k4 rfl rfl rfl rfl rfl hg1 (k4 rfl rfl rfl rfl rfl hg1 ?_)))))))); refine p_f rfl rfl (bf2 hg1) rfl ?_; refine b4 rfl (a8 (g2 ?_)); exact ret1 () rfl (congrArg (fun b => some (Value.bool b)) (by simp [hle])) rfl trivial (.refl _) trivial
theorem Y5 (s p : Str) (hs : s.length ≤ 1000000) (hp : p.length ≤ 1000000) :
    Meets Tryz.prog F.J9 [str s, str p] { val := fun _ : Unit => .bool (decide (p.length ≤ s.length ∧ s.drop (s.length - p.length) = p)) } := by
 refine c1 F.dN rfl j9 fun w0 => ?_; refine b7 (b4 rfl (j6 (a6 rfl (a6 rfl ?_)))); refine c8 F.J5 rfl rfl (H0 s p hs hp) (.refl _) trivial fun _ _ => ?_; refine b4 rfl (a8 (g2 ?_)); exact ret1 () rfl rfl rfl trivial (.refl _) trivial
theorem M7 (s : Str) :
    Meets Tryz.prog F.P7 [str s] { val := fun _ : Unit => int (lineErr s) } := by
 refine c1 F.iY rfl j9 fun w0 => ?_; refine b7 (b4 rfl (a8 (b8 (b7 (a6 rfl ?_))))); refine p7 rfl T.j8 rfl ?_; refine t7 rfl rfl rfl (a8 ?_)
 first | refine i4 rfl (fun hb1 => ?_) (fun hb1 => ?_) | refine c5 rfl (fun hb1 => ?_) (fun hb1 => ?_)
 ·have hb1' := hb1; try simp at hb1'
  have hb1 : s.length = 0 := by omega
  refine b7 (b4 rfl (a8 (t5 ?_))); exact ret1 () rfl (congrArg (fun b => some (int b)) (by simp [lineErr, hb1])) rfl trivial (.refl _) trivial
 have hb1' := hb1; try simp at hb1'
 have hb1 : ¬ s.length = 0 := by omega
 refine c4 (c3 (b8 (b7 (a6 rfl ?_)))); refine p7 rfl T.j8 rfl ?_; refine A5 rfl rfl rfl (a8 ?_)
 first | refine i4 rfl (fun hb2 => ?_) (fun hb2 => ?_) | refine c5 rfl (fun hb2 => ?_) (fun hb2 => ?_)
 ·have hb2' := hb2; try simp at hb2'
  have hb2 : 10 < s.length := by omega
  refine b7 (b4 rfl (a8 (t5 ?_))); exact ret1 () rfl (congrArg (fun b => some (int b)) (by simp [lineErr, hb1, hb2])) rfl trivial (.refl _) trivial
 have hb2' := hb2; try simp at hb2'
 have hb2 : ¬ 10 < s.length := by omega
 refine c4 (c3 (b8 (b7 (a6 rfl ?_)))); refine wR rfl T.j8 T.J2 T.u_u8 rfl fun gb cap => ?_; refine j0 rfl T.J2 rfl ?_; refine a6 rfl (a8 (i8 ?_)); refine s9 (β := Nat) ⟨fun k => k ≤ s.length ∧ (s.take k).any lineBad = false, fun k => [(0, str s), (12, .slice (i5 gb) s.length cap), (13, int s.length), (14, int k)], fun _ => [], fun _ => [Row (i5 gb) (rows s)]⟩ (fun k => s.length - k) 0 ⟨Nat.zero_le _, rfl⟩ mC (.refl _) ⟨m0, trivial⟩ fun k hk => ?_; obtain ⟨hk, ht⟩ := hk; refine b7 (r9 rfl rfl rfl (a8 (b8 ?_)))
 first | refine i4 rfl (fun hb3 => ?_) (fun hb3 => ?_) | refine c5 rfl (fun hb3 => ?_) (fun hb3 => ?_)
 ·have hb3' := hb3; try simp at hb3'
  have hb3 : k < s.length := by omega
  refine c4 (c3 (b8 (i8 (b7 ?_)))); refine r6 (α := UInt8) _ _ rfl T.J2 T.sz_u8 rfl rfl rfl mB rfl (by omega) (by decide) ?_; refine a4 rfl T.wY rfl (b6 m0 (a7 hb3 (by rw [y8 hb3]; rfl))) ?_; refine b4 rfl (a8 ?_); refine kV ⟨fun _ : Unit => True, fun _ => [(0, str s), (12, .slice (i5 gb) s.length cap), (13, int s.length), (14, int k), (35, .bool (lineBad s[k]))], fun _ => [], fun _ => [Row (i5 gb) (rows s)]⟩ ?_ ?_
  ·skip
   refine c7 (a6 rfl (r9 rfl rfl rfl (a6 rfl ?_))); refine k9 rfl rfl ?_ ?_
   ·intro hg1; have hg1' := hg1; try simp at hg1'
    refine d7 rfl rfl hg1 (a6 rfl (d7 rfl rfl hg1 (A5 rfl rfl rfl ?_))); refine p_f rfl rfl (bf1 hg1) rfl (a6 rfl ?_); refine k9 rfl rfl ?_ ?_
    ·intro hg2; have hg2' := hg2; try simp at hg2'
     refine d7 rfl rfl hg2 (a6 rfl (d7 rfl rfl hg2 (r9 rfl rfl rfl (d7 rfl rfl hg2 (a6 rfl ?_))))); refine k9 rfl rfl ?_ ?_
     ·intro hg3; have hg3' := hg3; try simp at hg3'
      refine d7 rfl rfl hg3 (a6 rfl (d7 rfl rfl hg3 (A5 rfl rfl rfl (d7 rfl rfl hg2 ?_)))); refine p_f rfl rfl (bf1 hg3) rfl (p_t rfl rfl (bt1 hg2) rfl (a6 rfl ?_)); refine k9 rfl rfl ?_ ?_
      ·intro hg4; have hg4' := hg4; try simp at hg4'
       refine d7 rfl rfl hg4 (a6 rfl (d7 rfl rfl hg4 (u5 rfl rfl rfl ?_))); refine p_t rfl rfl (bt1 hg4) rfl ?_; refine b5 ?_; exact jY _ () trivial ⟨rfl, rfl, rfl, rfl, congrArg (fun b => some (Value.bool b)) (by simp only [lineBad]; simp [*, Int.not_le, Int.not_lt, Int.not_lt.2, Int.not_le.2]), trivial⟩ (.refl _) ⟨m0, trivial⟩
      intro hg4; have hg4' := hg4; try simp at hg4'
      refine k4 rfl rfl rfl rfl rfl hg4 (k4 rfl rfl rfl rfl rfl hg4 ?_); refine p_f rfl rfl (bf2 hg4) rfl ?_; refine b5 ?_; exact jY _ () trivial ⟨rfl, rfl, rfl, rfl, congrArg (fun b => some (Value.bool b)) (by simp only [lineBad]; simp [*, Int.not_le, Int.not_lt, Int.not_lt.2, Int.not_le.2]), trivial⟩ (.refl _) ⟨m0, trivial⟩
     intro hg3; have hg3' := hg3; try simp at hg3'
     refine k4 rfl rfl rfl rfl rfl hg3 (k4 rfl rfl rfl rfl rfl hg3 (d7 rfl rfl hg2 ?_)); refine p_t rfl rfl (bt2 hg3) rfl (p_t rfl rfl (bt1 hg2) rfl ?_); refine a6 rfl (d7 rfl rfl rfl (a6 rfl (d7 rfl rfl rfl (u5 rfl rfl rfl (p_t rfl rfl rfl rfl (b5 ?_)))))); exact jY _ () trivial ⟨rfl, rfl, rfl, rfl, congrArg (fun b => some (Value.bool b)) (by simp only [lineBad]; simp [*, Int.not_le, Int.not_lt, Int.not_lt.2, Int.not_le.2]), trivial⟩ (.refl _) ⟨m0, trivial⟩
    intro hg2; have hg2' := hg2; try simp at hg2'
    refine k4 rfl rfl rfl rfl rfl hg2 (k4 rfl rfl rfl rfl rfl hg2 (k4 rfl rfl rfl rfl rfl hg2 (gQ rfl rfl rfl rfl rfl rfl (gQ rfl rfl rfl rfl rfl rfl (k4 rfl rfl rfl rfl rfl hg2 ?_))))); refine p_f rfl rfl (bf2 hg2) rfl ?_; refine a6 rfl (k4 rfl rfl rfl rfl rfl rfl (k4 rfl rfl rfl rfl rfl rfl (p_f rfl rfl rfl rfl (b5 ?_)))); exact jY _ () trivial ⟨rfl, rfl, rfl, rfl, congrArg (fun b => some (Value.bool b)) (by simp only [lineBad]; simp [*, Int.not_le, Int.not_lt, Int.not_lt.2, Int.not_le.2]), trivial⟩ (.refl _) ⟨m0, trivial⟩
   intro hg1; have hg1' := hg1; try simp at hg1'
   refine k4 rfl rfl rfl rfl rfl hg1 (k4 rfl rfl rfl rfl rfl hg1 ?_); refine p_t rfl rfl (bt2 hg1) rfl ?_; refine a6 rfl (d7 rfl rfl rfl (a6 rfl (d7 rfl rfl rfl (r9 rfl rfl rfl (d7 rfl rfl rfl (a6 rfl ?_)))))); refine k9 rfl rfl ?_ ?_
   ·intro hg5; have hg5' := hg5; try simp at hg5'
    refine d7 rfl rfl hg5 (a6 rfl (d7 rfl rfl hg5 (A5 rfl rfl rfl (d7 rfl rfl rfl ?_)))); refine p_f rfl rfl (bf1 hg5) rfl ?_; refine p_t rfl rfl rfl rfl (a6 rfl ?_); refine k9 rfl rfl ?_ ?_
    ·intro hg6; have hg6' := hg6; try simp at hg6'
     refine d7 rfl rfl hg6 (a6 rfl (d7 rfl rfl hg6 (u5 rfl rfl rfl ?_))); refine p_t rfl rfl (bt1 hg6) rfl ?_; refine b5 ?_; exact jY _ () trivial ⟨rfl, rfl, rfl, rfl, congrArg (fun b => some (Value.bool b)) (by simp only [lineBad]; simp [*, Int.not_le, Int.not_lt, Int.not_lt.2, Int.not_le.2]), trivial⟩ (.refl _) ⟨m0, trivial⟩
    intro hg6; have hg6' := hg6; try simp at hg6'
    refine k4 rfl rfl rfl rfl rfl hg6 (k4 rfl rfl rfl rfl rfl hg6 ?_); refine p_f rfl rfl (bf2 hg6) rfl ?_; refine b5 ?_; exact jY _ () trivial ⟨rfl, rfl, rfl, rfl, congrArg (fun b => some (Value.bool b)) (by simp only [lineBad]; simp [*, Int.not_le, Int.not_lt, Int.not_lt.2, Int.not_le.2]), trivial⟩ (.refl _) ⟨m0, trivial⟩
   intro hg5; have hg5' := hg5; try simp at hg5'
   refine k4 rfl rfl rfl rfl rfl hg5 (k4 rfl rfl rfl rfl rfl hg5 (d7 rfl rfl rfl ?_)); refine p_t rfl rfl (bt2 hg5) rfl ?_; refine p_t rfl rfl rfl rfl (a6 rfl (d7 rfl rfl rfl (a6 rfl (d7 rfl rfl rfl (u5 rfl rfl rfl (p_t rfl rfl rfl rfl (b5 ?_))))))); exact jY _ () trivial ⟨rfl, rfl, rfl, rfl, congrArg (fun b => some (Value.bool b)) (by simp only [lineBad]; simp [*, Int.not_le, Int.not_lt, Int.not_lt.2, Int.not_le.2]), trivial⟩ (.refl _) ⟨m0, trivial⟩
  refine fun _ _ => ?_
  first | refine i4 rfl (fun hb4 => ?_) (fun hb4 => ?_) | refine c5 rfl (fun hb4 => ?_) (fun hb4 => ?_)
  ·have hb4' := hb4; try simp at hb4'
   refine b7 (b4 rfl (a8 (g2 (s8 (k5 (s8 ?_)))))); exact ret1 () rfl (congrArg (fun b => some (int b)) (by simp [lineErr, hb1, hb2, any_at hb3 hb4])) rfl trivial (.refl _) trivial
  have hb4' := hb4; try simp at hb4'
  refine c4 (q6 (c3 (c7 ?_))); refine p9 _ rfl rfl rfl rfl n3 ?_; refine a6 rfl (b5 ?_); exact again _ (k + 1) ⟨by omega, ax1 hb3 ht hb4⟩ (z4 (by omega)) mC (.refl _) ⟨m0, trivial⟩
 have hb3' := hb3; try simp at hb3'
 have hb3 : k = s.length := by omega
 subst hb3; rw [List.take_length] at ht; refine n5 (A3 (n4 (c3 (b8 (b7 (a6 rfl ?_)))))); refine c8 F.bS rfl rfl (Y6 s [32] (by omega) (by decide)) (.refl _) trivial fun _ _ => ?_; refine a6 rfl ?_; refine k9 rfl rfl ?_ ?_
 ·intro hg7; have hg7' := hg7; try simp at hg7'
  have hp1 := of_decide_eq_false (bf1 hg7); simp only [List.length_cons, List.length_nil] at hp1; have hp1 : ¬ s.take 1 = [32] := fun e => hp1 ⟨by omega, e⟩; refine d7 rfl rfl hg7 (a6 rfl (d7 rfl rfl hg7 ?_)); refine c8 F.bR rfl rfl (Y5 s [32] (by omega) (by decide)) (.refl _) trivial fun _ _ => ?_; refine p_f rfl rfl (bf1 hg7) rfl ?_; refine a8 ?_
  first | refine i4 rfl (fun hb5 => ?_) (fun hb5 => ?_) | refine c5 rfl (fun hb5 => ?_) (fun hb5 => ?_)
  ·have hb5' := hb5; try simp at hb5'
   have h5 := hb5; simp only [List.length_cons, List.length_nil] at h5; refine b7 (b4 rfl (a8 (t5 ?_))); exact ret1 () rfl (congrArg (fun b => some (int b)) (by simp [lineErr, hb1, hb2, ht, h5.2])) rfl trivial (.refl _) trivial
  have hb5' := hb5; try simp at hb5'
  have h5 := hb5; simp only [List.length_cons, List.length_nil] at h5; have h5 : ¬ s.drop (s.length - 1) = [32] := fun e => h5 ⟨by omega, e⟩; refine c4 (c3 (b7 (b4 rfl (a8 (g2 ?_))))); exact ret1 () rfl (congrArg (fun b => some (int b)) (by simp only [lineErr]; rw [if_neg hb1, if_neg hb2, ht, if_neg (by simp), if_neg (by simp [hp1, h5])])) rfl trivial (.refl _) trivial
 intro hg7; have hg7' := hg7; try simp at hg7'
 have hp1 := of_decide_eq_true (bt2 hg7); simp only [List.length_cons, List.length_nil] at hp1; refine k4 rfl rfl rfl rfl rfl hg7 (k4 rfl rfl rfl rfl rfl hg7 ?_); refine p_t rfl rfl (bt2 hg7) rfl ?_; refine a8 (c_t rfl rfl (b7 (b4 rfl (a8 (t5 ?_))))); exact ret1 () rfl (congrArg (fun b => some (int b)) (by simp [lineErr, hb1, hb2, ht, hp1.2])) rfl trivial (.refl _) trivial
theorem cZ {α : Type} [Inhabited α] {f : α → Int} {l : List α} {k : Nat} (hk : k < l.length) (h : firstErr f (l.take k) = 0) : firstErr f (l.take (k + 1)) = f (l.getD k default) := by rw [X7 hk h, y8 hk]
theorem jW {α : Type} [Inhabited α] {f : α → Int} {l : List α} {k : Nat} (hk : k < l.length) (h : firstErr f (l.take k) = 0) (h1 : ¬ f (l.getD k default) = 0) : firstErr f l = f (l.getD k default) := by
  rw [y8 hk] at h1 ⊢; exact G3 hk h h1
def textErr (m : Mk) : Int := if ¬ m.1 = 3 then lineErr m.2.2 else if ¬ m.2.2 = [] then 2 else 0
def mErr (n : Nat) (m : Mk) (k : Nat) (b : Mk) : Int :=
  if m.1 < 1 ∨ 3 < m.1 then 8 else if m.2.1 < 0 ∨ (n : Int) - 1 + (if m.1 = 1 then 1 else 0) < m.2.1 then 3 else if ¬ textErr m = 0 then textErr m else if k = 0 then 0 else
  if m.2.1 < b.2.1 then 5 else if b.2.1 < m.2.1 ∨ b.1 = 1 then 0 else if m.1 = 1 then 5 else 4
def markErr (n : Nat) (l : List Mk) (k : Nat) : Int := mErr n (l.getD k default) k (l.getD (k - 1) default)
def marksErr (n : Nat) (l : List Mk) : Int := if 12 < l.length then 6 else firstErr (markErr n l) (List.range l.length)
theorem N3 {n : Nat} {l : List Mk} {k : Nat} (ht : firstErr (markErr n l) (List.range k) = 0) (h0 : mErr n (l.getD k default) k (l.getD (k - 1) default) = 0) : firstErr (markErr n l) (List.range (k + 1)) = 0 := by
  have h1 : (List.range (k + 1)).take k = List.range k := by rw [List.take_range]; simp
  have := X7 (f := markErr n l) (l := List.range (k + 1)) (k := k) (by simp) (by rw [h1]; exact ht); rw [List.take_of_length_le (by simp)] at this; rw [this]
  simpa [markErr] using h0
theorem A6 {n : Nat} {l : List Mk} {k : Nat} {e : Int} (h12 : ¬ 12 < l.length) (hk : k < l.length) (ht : firstErr (markErr n l) (List.range k) = 0) (h0 : mErr n (l.getD k default) k (l.getD (k - 1) default) = e) (he : ¬ e = 0) : marksErr n l = e := by
  have h1 : (List.range l.length).take k = List.range k := by rw [List.take_range, Nat.min_eq_left (Nat.le_of_lt hk)]
  have := G3 (f := markErr n l) (l := List.range l.length) (k := k) (by simpa using hk) (by rw [h1]; exact ht) (by simp only [List.getElem_range]; unfold markErr; rw [h0]; exact he); rw [marksErr, if_neg h12, this]; simp only [List.getElem_range]; exact h0
theorem xP {n : Nat} {l : List Mk} {k : Nat} (h12 : ¬ 12 < l.length) (hk : k = l.length) (ht : firstErr (markErr n l) (List.range k) = 0) : marksErr n l = 0 := by
  subst hk; rw [marksErr, if_neg h12, ht]
def checkErr (p : List Str) (l : List Mk) : Int := if pageErr p = 0 then marksErr p.length l else pageErr p
theorem u7 {A : Option Addr} {c : Nat} (p : List Str) :
    Meets Tryz.prog F.cN [.slice A p.length c] { LI := [Row A (rows p)], val := fun _ : Unit => int (pageErr p) } := by
 refine c1 F.qD rfl j9 fun w0 => ?_; refine b7 (b4 rfl (a8 (b8 (b7 (a6 rfl ?_))))); refine j0 rfl T.t4 rfl ?_; refine A5 rfl rfl rfl (a8 ?_)
 first | refine i4 rfl (fun hb1 => ?_) (fun hb1 => ?_) | refine c5 rfl (fun hb1 => ?_) (fun hb1 => ?_)
 ·have hb1' := hb1; try simp at hb1'
  have hb1 : 6 < p.length := by omega
  refine b7 (b4 rfl (a8 (t5 ?_))); exact ret1 () rfl (congrArg (fun b => some (int b)) (by rw [pageErr, if_pos hb1])) rfl trivial i2 trivial
 have hb1' := hb1; try simp at hb1'
 have hb1 : ¬ 6 < p.length := by omega
 refine c4 (c3 (b8 (b7 (a6 rfl ?_)))); refine j0 rfl T.t4 rfl ?_; refine a6 rfl (a8 (i8 ?_)); refine s9 (β := Nat) ⟨fun k => k ≤ p.length ∧ firstErr lineErr (p.take k) = 0, fun k => [(9, .slice A p.length c), (10, int p.length), (11, int k)], fun _ => [], fun _ => [Row A (rows p)]⟩ (fun k => p.length - k) 0 ⟨Nat.zero_le _, rfl⟩ mC (.refl _) ⟨m0, trivial⟩ fun k hk => ?_; obtain ⟨hk, ht⟩ := hk; refine b7 (r9 rfl rfl rfl (a8 (b8 ?_)))
 first | refine i4 rfl (fun hb2 => ?_) (fun hb2 => ?_) | refine c5 rfl (fun hb2 => ?_) (fun hb2 => ?_)
 ·have hb2' := hb2; try simp at hb2'
  have hb2 : k < p.length := by omega
  refine c4 (c3 (b8 (i8 (b7 ?_)))); refine r6 (α := Str) _ _ rfl T.t4 T.u6 rfl rfl rfl mB rfl (by omega) (by decide) (a4 rfl T.i3 rfl (b6 mB (a7 (by omega) rfl)) ?_); refine b4 rfl (j6 (a6 rfl ?_)); refine c8 F.U2 rfl rfl (M7 (p.getD k default)) (.refl _) trivial fun _ _ => ?_; refine b4 rfl (j6 (a6 rfl (u5 rfl rfl rfl (a8 ?_))))
  first | refine i4 rfl (fun hb3 => ?_) (fun hb3 => ?_) | refine c5 rfl (fun hb3 => ?_) (fun hb3 => ?_)
  ·have hb3' := hb3; try simp at hb3'
   refine b7 (a6 rfl (b4 rfl (a8 (g2 (s8 (k5 (s8 ?_))))))); exact ret1 () rfl (congrArg (fun b => some (int b)) (by rw [pageErr, if_neg hb1, jW hb2 ht hb3])) rfl trivial i2 trivial
  have hb3' := hb3; try simp at hb3'
  refine c4 (q6 (c3 (c7 ?_))); refine p9 _ rfl rfl rfl rfl n3 ?_; refine a6 rfl (b5 ?_); exact again _ (k + 1) ⟨by omega, by rw [cZ hb2 ht]; omega⟩ (z4 (by omega)) mC (.refl _) ⟨m0, trivial⟩
 have hb2' := hb2; try simp at hb2'
 have hb2 : k = p.length := by omega
 subst hb2; rw [List.take_length] at ht; refine n5 (A3 (n4 (c3 (b7 (b4 rfl (a8 (g2 ?_))))))); exact ret1 () rfl (congrArg (fun b => some (int b)) (by rw [pageErr, if_neg hb1, ht])) rfl trivial i2 trivial
theorem y6 (m : Mk) : Meets Tryz.prog F.P5 [.agg #[int m.1, int m.2.1, str m.2.2]] { val := fun _ : Unit => int (textErr m) } := by
 refine c1 F.iU rfl j9 fun w0 => ?_; refine b7 ?_; refine H5 rfl rfl fun gB => ?_; refine b4 rfl (a8 (b8 (b7 ?_)))
 first | refine a3 ⟨_, 0, none⟩ rfl rfl T.g0 rfl ?_ | refine a3 _ rfl rfl T.g0 rfl ?_
 first | refine a4 rfl T.a5 rfl (a9 mB rfl) ?_ | refine a4 rfl T.a5 rfl (b9 mB rfl) ?_ | refine a4 rfl T.a5 rfl (b6 mB (a7 (by omega) rfl)) ?_ | refine a4 rfl T.a5 rfl (b3 mB (rows_get (by omega) rfl)) ?_
 refine u5 rfl rfl rfl (a8 ?_)
 first | refine i4 rfl (fun hb1 => ?_) (fun hb1 => ?_) | refine c5 rfl (fun hb1 => ?_) (fun hb1 => ?_)
 ·have hb1' := hb1; try simp at hb1'
  refine b7 ?_
  first | refine a3 ⟨_, 2, none⟩ rfl rfl T.k7 rfl ?_ | refine a3 _ rfl rfl T.k7 rfl ?_
  first | refine a4 rfl T.i3 rfl (a9 mB rfl) ?_ | refine a4 rfl T.i3 rfl (b9 mB rfl) ?_ | refine a4 rfl T.i3 rfl (b6 mB (a7 (by omega) rfl)) ?_ | refine a4 rfl T.i3 rfl (b3 mB (rows_get (by omega) rfl)) ?_
  refine c8 F.U2 rfl rfl (M7 m.2.2) k6 trivial fun _ _ => ?_; refine b4 rfl (a8 (t5 ?_)); exact ret1 () rfl (congrArg (fun b => some (int b)) (by rw [textErr, if_pos hb1])) rfl trivial i2 trivial
 have hb1' := hb1; try simp at hb1'
 refine c4 (c3 (b8 (b7 ?_)))
 first | refine a3 ⟨_, 2, none⟩ rfl rfl T.k7 rfl ?_ | refine a3 _ rfl rfl T.k7 rfl ?_
 first | refine a4 rfl T.i3 rfl (a9 mB rfl) ?_ | refine a4 rfl T.i3 rfl (b9 mB rfl) ?_ | refine a4 rfl T.i3 rfl (b6 mB (a7 (by omega) rfl)) ?_ | refine a4 rfl T.i3 rfl (b3 mB (rows_get (by omega) rfl)) ?_
 refine nD rfl rfl rfl (a8 ?_)
 first | refine i4 rfl (fun hb2 => ?_) (fun hb2 => ?_) | refine c5 rfl (fun hb2 => ?_) (fun hb2 => ?_)
 ·have hb2' := hb2; try simp at hb2'
  refine b7 (b4 rfl (a8 (t5 ?_))); exact ret1 () rfl (congrArg (fun b => some (int b)) (by rw [textErr, if_neg hb1, if_pos hb2])) rfl trivial i2 trivial
 have hb2' := hb2; try simp at hb2'
 refine c4 (c3 (b7 (b4 rfl (a8 (g2 ?_))))); exact ret1 () rfl (congrArg (fun b => some (int b)) (by rw [textErr, if_neg hb1, if_neg hb2])) rfl trivial i2 trivial
theorem aX {A B : Option Addr} {n ca cb : Nat} (l : List Mk) (hn : n ≤ 1000000) :
    Meets Tryz.prog F.N1 [.slice A n ca, .slice B l.length cb] { LI := [Row B (rows l)], val := fun _ : Unit => int (marksErr n l) } := by
 refine c1 F.hB rfl j9 fun w0 => ?_; refine b7 (b4 rfl (a8 (b8 (b7 (a6 rfl ?_))))); refine j0 rfl T.j2 rfl ?_; refine A5 rfl rfl rfl (a8 ?_)
 first | refine i4 rfl (fun hb1 => ?_) (fun hb1 => ?_) | refine c5 rfl (fun hb1 => ?_) (fun hb1 => ?_)
 ·have hb1' := hb1; try simp at hb1'
  have h12 : 12 < l.length := by omega
  refine b7 (b4 rfl (a8 (t5 ?_))); exact ret1 () rfl (congrArg (fun b => some (int b)) (by rw [marksErr, if_pos h12])) rfl trivial i2 trivial
 have hb1' := hb1; try simp at hb1'
 have h12 : ¬ 12 < l.length := by omega
 refine c4 (c3 (b8 (b7 (a6 rfl ?_)))); refine j0 rfl T.j2 rfl ?_; refine a6 rfl (a8 (i8 ?_)); refine s9 (β := Nat) ⟨fun k => k ≤ l.length ∧ firstErr (markErr n l) (List.range k) = 0, fun k => [(0, .slice A n ca), (1, .slice B l.length cb), (13, .slice B l.length cb), (14, int l.length), (15, int k)], fun _ => [], fun _ => [Row B (rows l)]⟩ (fun k => l.length - k) 0 ⟨Nat.zero_le _, rfl⟩ mC (.refl _) ⟨m0, trivial⟩ fun k hk => ?_; obtain ⟨hk, ht⟩ := hk; refine b7 (r9 rfl rfl rfl (a8 (b8 ?_)))
 first | refine i4 rfl (fun hb2 => ?_) (fun hb2 => ?_) | refine c5 rfl (fun hb2 => ?_) (fun hb2 => ?_)
 ·have hb2' := hb2; try simp at hb2'
  have hk2 : k < l.length := by omega
  refine c4 (c3 (b8 (i8 (b7 (a6 rfl ?_))))); refine r6 (α := Mk) _ _ rfl T.j2 T.d3 rfl rfl rfl mB rfl (by omega) (by decide) (p6 rfl T.i6 T.d3 rfl rfl (k8 mB (n2 (by omega))) ?_); refine p8 rfl (fun _ => T.t8 _) fun gA => ?_; refine b4 rfl ?_; refine l5 rfl rfl (by first | exact .refl _ | exact perm2 _ _ _ | exact perm3 _ _ _ _ | exact perm4 _ _ _ _ _) T.d3 (by rfl) (by rfl) ?_; refine a8 (mF ?_); generalize hm : l.getD k default = m; refine c7 ?_
  first | refine a3 ⟨_, 0, none⟩ rfl rfl T.g0 rfl ?_ | refine a3 _ rfl rfl T.g0 rfl ?_
  first | refine a4 rfl T.a5 rfl (a9 mB rfl) ?_ | refine a4 rfl T.a5 rfl (b9 mB rfl) ?_ | refine a4 rfl T.a5 rfl (b6 mB (a7 (by omega) rfl)) ?_ | refine a4 rfl T.a5 rfl (b3 mB (rows_get (by omega) rfl)) ?_
  refine r9 rfl rfl rfl (a6 rfl ?_); refine k9 rfl rfl ?_ ?_
  ·intro hg1; have hg1' := hg1; try simp at hg1'
   refine d7 rfl rfl hg1 ?_
   first | refine a3 ⟨_, 0, none⟩ rfl rfl T.g0 rfl ?_ | refine a3 _ rfl rfl T.g0 rfl ?_
   refine d7 rfl rfl hg1 ?_
   first | refine a4 rfl T.a5 rfl (a9 mB rfl) ?_ | refine a4 rfl T.a5 rfl (b9 mB rfl) ?_ | refine a4 rfl T.a5 rfl (b6 mB (a7 (by omega) rfl)) ?_ | refine a4 rfl T.a5 rfl (b3 mB (rows_get (by omega) rfl)) ?_
   refine d7 rfl rfl hg1 (A5 rfl rfl rfl ?_); refine p_f rfl rfl (bf1 hg1) rfl ?_; refine a8 ?_
   first | refine i4 rfl (fun hb3 => ?_) (fun hb3 => ?_) | refine c5 rfl (fun hb3 => ?_) (fun hb3 => ?_)
   ·have hb3' := hb3; try simp at hb3'
    refine b7 (b4 rfl (a8 (t5 (s8 (k5 (s8 ?_)))))); exact ret1 () rfl (congrArg (fun b => some (int b)) (by refine (A6 h12 hk2 ht (e := 8) (by first | (exfalso; omega) | (rw [hm]; (try rw [hm2]); unfold mErr; (repeat (first | rw [if_pos (by omega)] | rw [if_neg (by omega)])); done)) (by omega)).symm)) rfl trivial i2 trivial
   have hb3' := hb3; try simp at hb3'
   refine c4 (c3 (b7 (a6 rfl ?_))); refine j0 rfl T.t4 rfl (bE _ rfl rfl rfl rfl n3 ?_); refine b4 rfl (a8 (b8 (b7 ?_)))
   first | refine a3 ⟨_, 0, none⟩ rfl rfl T.g0 rfl ?_ | refine a3 _ rfl rfl T.g0 rfl ?_
   first | refine a4 rfl T.a5 rfl (a9 mB rfl) ?_ | refine a4 rfl T.a5 rfl (b9 mB rfl) ?_ | refine a4 rfl T.a5 rfl (b6 mB (a7 (by omega) rfl)) ?_ | refine a4 rfl T.a5 rfl (b3 mB (rows_get (by omega) rfl)) ?_
   refine t7 rfl rfl rfl (a8 ?_)
   first | refine i4 rfl (fun hb4 => ?_) (fun hb4 => ?_) | refine c5 rfl (fun hb4 => ?_) (fun hb4 => ?_)
   ·have hb4' := hb4; try simp at hb4'
    refine c7 (a6 rfl ?_); refine p9 _ rfl rfl rfl rfl n3 ?_; refine b4 rfl (a8 (b8 (b7 ?_)))
    first | refine a3 ⟨_, 1, none⟩ rfl rfl T.c9 rfl ?_ | refine a3 _ rfl rfl T.c9 rfl ?_
    first | refine a4 rfl T.a5 rfl (a9 mB rfl) ?_ | refine a4 rfl T.a5 rfl (b9 mB rfl) ?_ | refine a4 rfl T.a5 rfl (b6 mB (a7 (by omega) rfl)) ?_ | refine a4 rfl T.a5 rfl (b3 mB (rows_get (by omega) rfl)) ?_
    refine r9 rfl rfl rfl (a6 rfl ?_); refine k9 rfl rfl ?_ ?_
    ·intro hg2; have hg2' := hg2; try simp at hg2'
     refine d7 rfl rfl hg2 ?_
     first | refine a3 ⟨_, 1, none⟩ rfl rfl T.c9 rfl ?_ | refine a3 _ rfl rfl T.c9 rfl ?_
     refine d7 rfl rfl hg2 ?_
     first | refine a4 rfl T.a5 rfl (a9 mB rfl) ?_ | refine a4 rfl T.a5 rfl (b9 mB rfl) ?_ | refine a4 rfl T.a5 rfl (b6 mB (a7 (by omega) rfl)) ?_ | refine a4 rfl T.a5 rfl (b3 mB (rows_get (by omega) rfl)) ?_
     refine d7 rfl rfl hg2 (a6 rfl (d7 rfl rfl hg2 (A5 rfl rfl rfl ?_))); refine p_f rfl rfl (bf1 hg2) rfl ?_; refine a8 ?_
     first | refine i4 rfl (fun hb5 => ?_) (fun hb5 => ?_) | refine c5 rfl (fun hb5 => ?_) (fun hb5 => ?_)
     ·have hb5' := hb5; try simp at hb5'
      refine b7 (b4 rfl (a8 (t5 (s8 (k5 (s8 ?_)))))); exact ret1 () rfl (congrArg (fun b => some (int b)) (by refine (A6 h12 hk2 ht (e := 3) (by first | (exfalso; omega) | (rw [hm]; (try rw [hm2]); unfold mErr; (repeat (first | rw [if_pos (by omega)] | rw [if_neg (by omega)])); done)) (by omega)).symm)) rfl trivial i2 trivial
     have hb5' := hb5; try simp at hb5'
     refine c4 (c3 (b8 (b7 ?_)))
     first | refine t9 rfl T.i6 T.d3 rfl mB (by rfl) ?_ | refine u4 rfl T.i6 T.d3 rfl mB (by rfl) ?_ | refine p6 rfl T.i6 T.d3 rfl rfl (k8 mB (n2 (by omega))) ?_
     refine c8 F.C4 rfl rfl (y6 m) k6 trivial fun _ _ => ?_; refine b4 rfl (j6 (a6 rfl (u5 rfl rfl rfl (a8 ?_))))
     first | refine i4 rfl (fun hb6 => ?_) (fun hb6 => ?_) | refine c5 rfl (fun hb6 => ?_) (fun hb6 => ?_)
     ·have hb6' := hb6; try simp at hb6'
      refine b7 (a6 rfl (b4 rfl (a8 (t5 (s8 (k5 (E1 ?_))))))); refine k5 ?_; exact ret1 () rfl (congrArg (fun b => some (int b)) (by refine (A6 h12 hk2 ht (e := textErr m) (by first | (exfalso; omega) | (rw [hm]; (try rw [hm2]); unfold mErr; (repeat (first | rw [if_pos (by omega)] | rw [if_neg (by omega)])); done)) (by omega)).symm)) rfl trivial i2 trivial
     have hb6' := hb6; try simp at hb6'
     refine c4 (c3 (b8 (b7 (a6 rfl (t7 rfl rfl rfl (a8 ?_))))))
     first | refine i4 rfl (fun hb7 => ?_) (fun hb7 => ?_) | refine c5 rfl (fun hb7 => ?_) (fun hb7 => ?_)
     ·have hb7' := hb7; try simp at hb7'
      refine n5 (w7 (n4 (c3 (c7 ?_)))); refine p9 _ rfl rfl rfl rfl n3 ?_; refine a6 rfl (b5 ?_); exact again _ (k + 1) ⟨by omega, N3 ht (by first | (exfalso; omega) | (rw [hm]; (try rw [hm2]); unfold mErr; (repeat (first | rw [if_pos (by omega)] | rw [if_neg (by omega)])); done))⟩ (z4 (by omega)) mC i2 ⟨m0, trivial⟩
     have hb7' := hb7; try simp at hb7'
     refine c4 (c3 (b7 (a6 rfl (a6 rfl ?_)))); refine bE ((k - 1 : Nat) : Int) rfl rfl rfl (by omega) n3 (r6 (α := Mk) _ _ rfl T.j2 T.d3 rfl rfl rfl mB rfl (by omega) (by decide) (p6 rfl T.i6 T.d3 rfl rfl (k8 mB (n2 (by omega))) ?_)); refine p8 rfl (fun _ => T.t8 _) fun gA => ?_; refine l5 rfl rfl (by first | exact .refl _ | exact perm2 _ _ _ | exact perm3 _ _ _ _ | exact perm4 _ _ _ _ _) T.d3 (by rfl) (by rfl) ?_; refine a8 (i8 (b8 ?_)); generalize hm2 : l.getD (k - 1) default = m2; refine c7 ?_
     first | refine a3 ⟨_, 1, none⟩ rfl rfl T.c9 rfl ?_ | refine a3 _ rfl rfl T.c9 rfl ?_
     first | refine a4 rfl T.a5 rfl (a9 mB rfl) ?_ | refine a4 rfl T.a5 rfl (b9 mB rfl) ?_ | refine a4 rfl T.a5 rfl (b6 mB (a7 (by omega) rfl)) ?_ | refine a4 rfl T.a5 rfl (b3 mB (rows_get (by omega) rfl)) ?_
     first | refine a3 ⟨_, 1, none⟩ rfl rfl T.c9 rfl ?_ | refine a3 _ rfl rfl T.c9 rfl ?_
     first | refine a4 rfl T.a5 rfl (a9 mB rfl) ?_ | refine a4 rfl T.a5 rfl (b9 mB rfl) ?_ | refine a4 rfl T.a5 rfl (b6 mB (a7 (by omega) rfl)) ?_ | refine a4 rfl T.a5 rfl (b3 mB (rows_get (by omega) rfl)) ?_
     refine r9 rfl rfl rfl (b4 rfl (a8 ?_))
     first | refine i4 rfl (fun hb8 => ?_) (fun hb8 => ?_) | refine c5 rfl (fun hb8 => ?_) (fun hb8 => ?_)
     ·have hb8' := hb8; try simp at hb8'
      refine b7 (b4 rfl (a8 (g2 (E1 (s8 (k5 (s8 ?_))))))); exact ret1 () rfl (congrArg (fun b => some (int b)) (by refine (A6 h12 hk2 ht (e := 5) (by first | (exfalso; omega) | (rw [hm]; (try rw [hm2]); unfold mErr; (repeat (first | rw [if_pos (by omega)] | rw [if_neg (by omega)])); done)) (by omega)).symm)) rfl trivial i2 trivial
     have hb8' := hb8; try simp at hb8'
     refine b7 ?_
     first | refine a3 ⟨_, 1, none⟩ rfl rfl T.c9 rfl ?_ | refine a3 _ rfl rfl T.c9 rfl ?_
     first | refine a4 rfl T.a5 rfl (a9 mB rfl) ?_ | refine a4 rfl T.a5 rfl (b9 mB rfl) ?_ | refine a4 rfl T.a5 rfl (b6 mB (a7 (by omega) rfl)) ?_ | refine a4 rfl T.a5 rfl (b3 mB (rows_get (by omega) rfl)) ?_
     first | refine a3 ⟨_, 1, none⟩ rfl rfl T.c9 rfl ?_ | refine a3 _ rfl rfl T.c9 rfl ?_
     first | refine a4 rfl T.a5 rfl (a9 mB rfl) ?_ | refine a4 rfl T.a5 rfl (b9 mB rfl) ?_ | refine a4 rfl T.a5 rfl (b6 mB (a7 (by omega) rfl)) ?_ | refine a4 rfl T.a5 rfl (b3 mB (rows_get (by omega) rfl)) ?_
     refine A5 rfl rfl rfl (a6 rfl ?_); refine k9 rfl rfl ?_ ?_
     ·intro hg3; have hg3' := hg3; try simp at hg3'
      refine d7 rfl rfl hg3 ?_
      first | refine a3 ⟨_, 0, none⟩ rfl rfl T.g0 rfl ?_ | refine a3 _ rfl rfl T.g0 rfl ?_
      refine d7 rfl rfl hg3 ?_
      first | refine a4 rfl T.a5 rfl (a9 mB rfl) ?_ | refine a4 rfl T.a5 rfl (b9 mB rfl) ?_ | refine a4 rfl T.a5 rfl (b6 mB (a7 (by omega) rfl)) ?_ | refine a4 rfl T.a5 rfl (b3 mB (rows_get (by omega) rfl)) ?_
      refine d7 rfl rfl hg3 (t7 rfl rfl rfl ?_); refine p_f rfl rfl (bf1 hg3) rfl ?_; refine b4 rfl (a8 ?_)
      first | refine i4 rfl (fun hb9 => ?_) (fun hb9 => ?_) | refine c5 rfl (fun hb9 => ?_) (fun hb9 => ?_)
      ·have hb9' := hb9; try simp at hb9'
       refine c4 (q6 (q6 (c3 (c7 ?_)))); refine p9 _ rfl rfl rfl rfl n3 ?_; refine a6 rfl (b5 ?_); exact again _ (k + 1) ⟨by omega, N3 ht (by first | (exfalso; omega) | (rw [hm]; (try rw [hm2]); unfold mErr; (repeat (first | rw [if_pos (by omega)] | rw [if_neg (by omega)])); done))⟩ (z4 (by omega)) mC i2 ⟨m0, trivial⟩
      have hb9' := hb9; try simp at hb9'
      refine b7 ?_
      first | refine a3 ⟨_, 0, none⟩ rfl rfl T.g0 rfl ?_ | refine a3 _ rfl rfl T.g0 rfl ?_
      first | refine a4 rfl T.a5 rfl (a9 mB rfl) ?_ | refine a4 rfl T.a5 rfl (b9 mB rfl) ?_ | refine a4 rfl T.a5 rfl (b6 mB (a7 (by omega) rfl)) ?_ | refine a4 rfl T.a5 rfl (b3 mB (rows_get (by omega) rfl)) ?_
      refine t7 rfl rfl rfl (b4 rfl (a8 ?_))
      first | refine i4 rfl (fun hb10 => ?_) (fun hb10 => ?_) | refine c5 rfl (fun hb10 => ?_) (fun hb10 => ?_)
      ·have hb10' := hb10; try simp at hb10'
       refine b7 (b4 rfl (a8 (g2 (E1 (s8 (k5 (s8 ?_))))))); exact ret1 () rfl (congrArg (fun b => some (int b)) (by refine (A6 h12 hk2 ht (e := 5) (by first | (exfalso; omega) | (rw [hm]; (try rw [hm2]); unfold mErr; (repeat (first | rw [if_pos (by omega)] | rw [if_neg (by omega)])); done)) (by omega)).symm)) rfl trivial i2 trivial
      have hb10' := hb10; try simp at hb10'
      refine b7 (b4 rfl (a8 (g2 (E1 (s8 (k5 (s8 ?_))))))); exact ret1 () rfl (congrArg (fun b => some (int b)) (by refine (A6 h12 hk2 ht (e := 4) (by first | (exfalso; omega) | (rw [hm]; (try rw [hm2]); unfold mErr; (repeat (first | rw [if_pos (by omega)] | rw [if_neg (by omega)])); done)) (by omega)).symm)) rfl trivial i2 trivial
     intro hg3; have hg3' := hg3; try simp at hg3'
     refine k4 rfl rfl rfl rfl rfl hg3 (k4 rfl rfl rfl rfl rfl hg3 (k4 rfl rfl rfl rfl rfl hg3 ?_)); refine p_t rfl rfl (bt2 hg3) rfl ?_; refine b4 rfl (a8 (c_t rfl rfl (c4 (q6 (q6 (c3 (c7 ?_))))))); refine p9 _ rfl rfl rfl rfl n3 ?_; refine a6 rfl (b5 ?_); exact again _ (k + 1) ⟨by omega, N3 ht (by first | (exfalso; omega) | (rw [hm]; (try rw [hm2]); unfold mErr; (repeat (first | rw [if_pos (by omega)] | rw [if_neg (by omega)])); done))⟩ (z4 (by omega)) mC i2 ⟨m0, trivial⟩
    intro hg2; have hg2' := hg2; try simp at hg2'
    refine k4 rfl rfl rfl rfl rfl hg2 (k4 rfl rfl rfl rfl rfl hg2 (k4 rfl rfl rfl rfl rfl hg2 (k4 rfl rfl rfl rfl rfl hg2 ?_))); refine p_t rfl rfl (bt2 hg2) rfl ?_; refine a8 (c_t rfl rfl (b7 (b4 rfl (a8 (t5 (s8 ?_)))))); refine k5 (s8 ?_); exact ret1 () rfl (congrArg (fun b => some (int b)) (by refine (A6 h12 hk2 ht (e := 3) (by first | (exfalso; omega) | (rw [hm]; (try rw [hm2]); unfold mErr; (repeat (first | rw [if_pos (by omega)] | rw [if_neg (by omega)])); done)) (by omega)).symm)) rfl trivial i2 trivial
   have hb4' := hb4; try simp at hb4'
   refine c4 (c3 (b8 (b7 ?_)))
   first | refine a3 ⟨_, 1, none⟩ rfl rfl T.c9 rfl ?_ | refine a3 _ rfl rfl T.c9 rfl ?_
   first | refine a4 rfl T.a5 rfl (a9 mB rfl) ?_ | refine a4 rfl T.a5 rfl (b9 mB rfl) ?_ | refine a4 rfl T.a5 rfl (b6 mB (a7 (by omega) rfl)) ?_ | refine a4 rfl T.a5 rfl (b3 mB (rows_get (by omega) rfl)) ?_
   refine r9 rfl rfl rfl (a6 rfl ?_); refine k9 rfl rfl ?_ ?_
   ·intro hg4; have hg4' := hg4; try simp at hg4'
    refine d7 rfl rfl hg4 ?_
    first | refine a3 ⟨_, 1, none⟩ rfl rfl T.c9 rfl ?_ | refine a3 _ rfl rfl T.c9 rfl ?_
    refine d7 rfl rfl hg4 ?_
    first | refine a4 rfl T.a5 rfl (a9 mB rfl) ?_ | refine a4 rfl T.a5 rfl (b9 mB rfl) ?_ | refine a4 rfl T.a5 rfl (b6 mB (a7 (by omega) rfl)) ?_ | refine a4 rfl T.a5 rfl (b3 mB (rows_get (by omega) rfl)) ?_
    refine d7 rfl rfl hg4 (a6 rfl (d7 rfl rfl hg4 (A5 rfl rfl rfl ?_))); refine p_f rfl rfl (bf1 hg4) rfl ?_; refine a8 ?_
    first | refine i4 rfl (fun hb5 => ?_) (fun hb5 => ?_) | refine c5 rfl (fun hb5 => ?_) (fun hb5 => ?_)
    ·have hb5' := hb5; try simp at hb5'
     refine b7 (b4 rfl (a8 (t5 (s8 (k5 (s8 ?_)))))); exact ret1 () rfl (congrArg (fun b => some (int b)) (by refine (A6 h12 hk2 ht (e := 3) (by first | (exfalso; omega) | (rw [hm]; (try rw [hm2]); unfold mErr; (repeat (first | rw [if_pos (by omega)] | rw [if_neg (by omega)])); done)) (by omega)).symm)) rfl trivial i2 trivial
    have hb5' := hb5; try simp at hb5'
    refine c4 (c3 (b8 (b7 ?_)))
    first | refine t9 rfl T.i6 T.d3 rfl mB (by rfl) ?_ | refine u4 rfl T.i6 T.d3 rfl mB (by rfl) ?_ | refine p6 rfl T.i6 T.d3 rfl rfl (k8 mB (n2 (by omega))) ?_
    refine c8 F.C4 rfl rfl (y6 m) k6 trivial fun _ _ => ?_; refine b4 rfl (j6 (a6 rfl (u5 rfl rfl rfl (a8 ?_))))
    first | refine i4 rfl (fun hb6 => ?_) (fun hb6 => ?_) | refine c5 rfl (fun hb6 => ?_) (fun hb6 => ?_)
    ·have hb6' := hb6; try simp at hb6'
     refine b7 (a6 rfl (b4 rfl (a8 (t5 (s8 (k5 (E1 ?_))))))); refine k5 ?_; exact ret1 () rfl (congrArg (fun b => some (int b)) (by refine (A6 h12 hk2 ht (e := textErr m) (by first | (exfalso; omega) | (rw [hm]; (try rw [hm2]); unfold mErr; (repeat (first | rw [if_pos (by omega)] | rw [if_neg (by omega)])); done)) (by omega)).symm)) rfl trivial i2 trivial
    have hb6' := hb6; try simp at hb6'
    refine c4 (c3 (b8 (b7 (a6 rfl (t7 rfl rfl rfl (a8 ?_))))))
    first | refine i4 rfl (fun hb7 => ?_) (fun hb7 => ?_) | refine c5 rfl (fun hb7 => ?_) (fun hb7 => ?_)
    ·have hb7' := hb7; try simp at hb7'
     refine n5 (w7 (n4 (c3 (c7 ?_)))); refine p9 _ rfl rfl rfl rfl n3 ?_; refine a6 rfl (b5 ?_); exact again _ (k + 1) ⟨by omega, N3 ht (by first | (exfalso; omega) | (rw [hm]; (try rw [hm2]); unfold mErr; (repeat (first | rw [if_pos (by omega)] | rw [if_neg (by omega)])); done))⟩ (z4 (by omega)) mC i2 ⟨m0, trivial⟩
    have hb7' := hb7; try simp at hb7'
    refine c4 (c3 (b7 (a6 rfl (a6 rfl ?_)))); refine bE ((k - 1 : Nat) : Int) rfl rfl rfl (by omega) n3 (r6 (α := Mk) _ _ rfl T.j2 T.d3 rfl rfl rfl mB rfl (by omega) (by decide) (p6 rfl T.i6 T.d3 rfl rfl (k8 mB (n2 (by omega))) ?_)); refine p8 rfl (fun _ => T.t8 _) fun gA => ?_; refine l5 rfl rfl (by first | exact .refl _ | exact perm2 _ _ _ | exact perm3 _ _ _ _ | exact perm4 _ _ _ _ _) T.d3 (by rfl) (by rfl) ?_; refine a8 (i8 (b8 ?_)); generalize hm2 : l.getD (k - 1) default = m2; refine c7 ?_
    first | refine a3 ⟨_, 1, none⟩ rfl rfl T.c9 rfl ?_ | refine a3 _ rfl rfl T.c9 rfl ?_
    first | refine a4 rfl T.a5 rfl (a9 mB rfl) ?_ | refine a4 rfl T.a5 rfl (b9 mB rfl) ?_ | refine a4 rfl T.a5 rfl (b6 mB (a7 (by omega) rfl)) ?_ | refine a4 rfl T.a5 rfl (b3 mB (rows_get (by omega) rfl)) ?_
    first | refine a3 ⟨_, 1, none⟩ rfl rfl T.c9 rfl ?_ | refine a3 _ rfl rfl T.c9 rfl ?_
    first | refine a4 rfl T.a5 rfl (a9 mB rfl) ?_ | refine a4 rfl T.a5 rfl (b9 mB rfl) ?_ | refine a4 rfl T.a5 rfl (b6 mB (a7 (by omega) rfl)) ?_ | refine a4 rfl T.a5 rfl (b3 mB (rows_get (by omega) rfl)) ?_
    refine r9 rfl rfl rfl (b4 rfl (a8 ?_))
    first | refine i4 rfl (fun hb8 => ?_) (fun hb8 => ?_) | refine c5 rfl (fun hb8 => ?_) (fun hb8 => ?_)
    ·have hb8' := hb8; try simp at hb8'
     refine b7 (b4 rfl (a8 (g2 (E1 (s8 (k5 (s8 ?_))))))); exact ret1 () rfl (congrArg (fun b => some (int b)) (by refine (A6 h12 hk2 ht (e := 5) (by first | (exfalso; omega) | (rw [hm]; (try rw [hm2]); unfold mErr; (repeat (first | rw [if_pos (by omega)] | rw [if_neg (by omega)])); done)) (by omega)).symm)) rfl trivial i2 trivial
    have hb8' := hb8; try simp at hb8'
    refine b7 ?_
    first | refine a3 ⟨_, 1, none⟩ rfl rfl T.c9 rfl ?_ | refine a3 _ rfl rfl T.c9 rfl ?_
    first | refine a4 rfl T.a5 rfl (a9 mB rfl) ?_ | refine a4 rfl T.a5 rfl (b9 mB rfl) ?_ | refine a4 rfl T.a5 rfl (b6 mB (a7 (by omega) rfl)) ?_ | refine a4 rfl T.a5 rfl (b3 mB (rows_get (by omega) rfl)) ?_
    first | refine a3 ⟨_, 1, none⟩ rfl rfl T.c9 rfl ?_ | refine a3 _ rfl rfl T.c9 rfl ?_
    first | refine a4 rfl T.a5 rfl (a9 mB rfl) ?_ | refine a4 rfl T.a5 rfl (b9 mB rfl) ?_ | refine a4 rfl T.a5 rfl (b6 mB (a7 (by omega) rfl)) ?_ | refine a4 rfl T.a5 rfl (b3 mB (rows_get (by omega) rfl)) ?_
    refine A5 rfl rfl rfl (a6 rfl ?_); refine k9 rfl rfl ?_ ?_
    ·intro hg5; have hg5' := hg5; try simp at hg5'
     refine d7 rfl rfl hg5 ?_
     first | refine a3 ⟨_, 0, none⟩ rfl rfl T.g0 rfl ?_ | refine a3 _ rfl rfl T.g0 rfl ?_
     refine d7 rfl rfl hg5 ?_
     first | refine a4 rfl T.a5 rfl (a9 mB rfl) ?_ | refine a4 rfl T.a5 rfl (b9 mB rfl) ?_ | refine a4 rfl T.a5 rfl (b6 mB (a7 (by omega) rfl)) ?_ | refine a4 rfl T.a5 rfl (b3 mB (rows_get (by omega) rfl)) ?_
     refine d7 rfl rfl hg5 (t7 rfl rfl rfl ?_); refine p_f rfl rfl (bf1 hg5) rfl ?_; refine b4 rfl (a8 ?_)
     first | refine i4 rfl (fun hb9 => ?_) (fun hb9 => ?_) | refine c5 rfl (fun hb9 => ?_) (fun hb9 => ?_)
     ·have hb9' := hb9; try simp at hb9'
      refine c4 (q6 (q6 (c3 (c7 ?_)))); refine p9 _ rfl rfl rfl rfl n3 ?_; refine a6 rfl (b5 ?_); exact again _ (k + 1) ⟨by omega, N3 ht (by first | (exfalso; omega) | (rw [hm]; (try rw [hm2]); unfold mErr; (repeat (first | rw [if_pos (by omega)] | rw [if_neg (by omega)])); done))⟩ (z4 (by omega)) mC i2 ⟨m0, trivial⟩
     have hb9' := hb9; try simp at hb9'
     refine b7 ?_
     first | refine a3 ⟨_, 0, none⟩ rfl rfl T.g0 rfl ?_ | refine a3 _ rfl rfl T.g0 rfl ?_
     first | refine a4 rfl T.a5 rfl (a9 mB rfl) ?_ | refine a4 rfl T.a5 rfl (b9 mB rfl) ?_ | refine a4 rfl T.a5 rfl (b6 mB (a7 (by omega) rfl)) ?_ | refine a4 rfl T.a5 rfl (b3 mB (rows_get (by omega) rfl)) ?_
     refine t7 rfl rfl rfl (b4 rfl (a8 ?_))
     first | refine i4 rfl (fun hb10 => ?_) (fun hb10 => ?_) | refine c5 rfl (fun hb10 => ?_) (fun hb10 => ?_)
     ·have hb10' := hb10; try simp at hb10'
      refine b7 (b4 rfl (a8 (g2 (E1 (s8 (k5 (s8 ?_))))))); exact ret1 () rfl (congrArg (fun b => some (int b)) (by refine (A6 h12 hk2 ht (e := 5) (by first | (exfalso; omega) | (rw [hm]; (try rw [hm2]); unfold mErr; (repeat (first | rw [if_pos (by omega)] | rw [if_neg (by omega)])); done)) (by omega)).symm)) rfl trivial i2 trivial
     have hb10' := hb10; try simp at hb10'
     refine b7 (b4 rfl (a8 (g2 (E1 (s8 (k5 (s8 ?_))))))); exact ret1 () rfl (congrArg (fun b => some (int b)) (by refine (A6 h12 hk2 ht (e := 4) (by first | (exfalso; omega) | (rw [hm]; (try rw [hm2]); unfold mErr; (repeat (first | rw [if_pos (by omega)] | rw [if_neg (by omega)])); done)) (by omega)).symm)) rfl trivial i2 trivial
    intro hg5; have hg5' := hg5; try simp at hg5'
    refine k4 rfl rfl rfl rfl rfl hg5 (k4 rfl rfl rfl rfl rfl hg5 (k4 rfl rfl rfl rfl rfl hg5 ?_)); refine p_t rfl rfl (bt2 hg5) rfl ?_; refine b4 rfl (a8 (c_t rfl rfl (c4 (q6 (q6 (c3 (c7 ?_))))))); refine p9 _ rfl rfl rfl rfl n3 ?_; refine a6 rfl (b5 ?_); exact again _ (k + 1) ⟨by omega, N3 ht (by first | (exfalso; omega) | (rw [hm]; (try rw [hm2]); unfold mErr; (repeat (first | rw [if_pos (by omega)] | rw [if_neg (by omega)])); done))⟩ (z4 (by omega)) mC i2 ⟨m0, trivial⟩
   intro hg4; have hg4' := hg4; try simp at hg4'
   refine k4 rfl rfl rfl rfl rfl hg4 (k4 rfl rfl rfl rfl rfl hg4 (k4 rfl rfl rfl rfl rfl hg4 (k4 rfl rfl rfl rfl rfl hg4 ?_))); refine p_t rfl rfl (bt2 hg4) rfl ?_; refine a8 (c_t rfl rfl (b7 (b4 rfl (a8 (t5 (s8 ?_)))))); refine k5 (s8 ?_); exact ret1 () rfl (congrArg (fun b => some (int b)) (by refine (A6 h12 hk2 ht (e := 3) (by first | (exfalso; omega) | (rw [hm]; (try rw [hm2]); unfold mErr; (repeat (first | rw [if_pos (by omega)] | rw [if_neg (by omega)])); done)) (by omega)).symm)) rfl trivial i2 trivial
  intro hg1; have hg1' := hg1; try simp at hg1'
  refine k4 rfl rfl rfl rfl rfl hg1 (k4 rfl rfl rfl rfl rfl hg1 (k4 rfl rfl rfl rfl rfl hg1 ?_)); refine p_t rfl rfl (bt2 hg1) rfl ?_; refine a8 (c_t rfl rfl (b7 (b4 rfl (a8 (t5 (s8 ?_)))))); refine k5 (s8 ?_); exact ret1 () rfl (congrArg (fun b => some (int b)) (by refine (A6 h12 hk2 ht (e := 8) (by first | (exfalso; omega) | (rw [hm]; (try rw [hm2]); unfold mErr; (repeat (first | rw [if_pos (by omega)] | rw [if_neg (by omega)])); done)) (by omega)).symm)) rfl trivial i2 trivial
 have hb2' := hb2; try simp at hb2'
 have hk2 : k = l.length := by omega
 refine n5 (A3 (n4 (c3 (b7 (b4 rfl (a8 (g2 ?_))))))); exact ret1 () rfl (congrArg (fun b => some (int b)) (by rw [xP h12 hk2 ht])) rfl trivial i2 trivial
theorem Q5 {A B : Option Addr} {ca cb : Nat} (p : List Str) (l : List Mk) :
    Meets Tryz.prog F.W8 [.slice A p.length ca, .slice B l.length cb] { LI := [Row A (rows p), Row B (rows l)], val := fun _ : Unit => int (checkErr p l) } := by
 refine c1 F.lW rfl j9 fun w0 => ?_; refine b7 (b4 rfl (a8 (b8 (b7 (a6 rfl ?_))))); refine c8 F.B8 rfl rfl (u7 p) (.refl _) ⟨m0, trivial⟩ fun _ _ => ?_; refine b4 rfl (j6 (a6 rfl (u5 rfl rfl rfl (a8 ?_))))
 first | refine i4 rfl (fun hb1 => ?_) (fun hb1 => ?_) | refine c5 rfl (fun hb1 => ?_) (fun hb1 => ?_)
 ·have hb1' := hb1; try simp at hb1'
  refine b7 (a6 rfl (b4 rfl (a8 (t5 ?_)))); exact ret1 () rfl (congrArg (fun b => some (int b)) (by rw [checkErr, if_neg hb1])) rfl trivial i2 trivial
 have hb1' := hb1; try simp at hb1'
 have h6 : pageErr p = 0 := by omega
 have hp : p.length ≤ 1000000 := by unfold pageErr at h6; split at h6 <;> omega
 refine c4 (c3 (b7 (a6 rfl (a6 rfl ?_)))); refine c8 F.dV rfl rfl (aX l hp) (.refl _) ⟨m1, trivial⟩ fun _ _ => ?_; refine b4 rfl (a8 (g2 ?_)); exact ret1 () rfl (congrArg (fun b => some (int b)) (by rw [checkErr, if_pos h6])) rfl trivial i2 trivial
end Go.Proofs.YtegfgegnhjkcfaaGreatDoor
end
section
namespace Go.W
open Go Go.RowKit
/-! ### The first of a list of slices -/
theorem vK {α : Type} [El α] {b : Bx} {hp : Hp} {L : List Fact} {w : World} {A : Option Addr} {ps : List (Sl α)} (n : Nat) (h : Rows2 A ps ∈ L) (hw : WI b w hp L) : WI b w hp (Rows2 A (ps.take n) :: L) := by
  have h1 := hw.fs _ h; refine N9 hw ⟨fun j u hu => ?_, fun p hp => h1.2 p (List.mem_of_mem_take hp)⟩ (fun k hk => ⟨_, h, ?_⟩)
  · refine h1.1 j u ?_
    rw [← dH] at hu; rw [List.getElem?_take] at hu
    split at hu
    · exact hu
    cases hu
  rcases hk with ⟨ad, e, hb, hne⟩ | ⟨p, hp, hk⟩
  · exact .inl ⟨ad, e, hb, fun e => hne (by rw [← dH, e]; simp)⟩
  exact .inr ⟨p, List.mem_of_mem_take hp, hk⟩
theorem aj3 {α : Type} [El α] {c : Cx} {Q : Exit → Act → World → Prop} {fr : Fr} {hp : Hp} {L : List Fact} {ops : Array Oper} {rest : List Oper} {A : Option Addr} {ps : List (Sl α)} (n : Nat) (h : Rows2 A ps ∈ L) (k : HL c ops Q rest fr hp (Rows2 A (ps.take n) :: L)) : HL c ops Q rest fr hp L := fun a w ha hw => k a w ha (vK n h hw)
theorem yR {α : Type} [El α] {b : Bx} {hp : Hp} {L : List Fact} {w : World} {A : Option Addr} {ps : List (Sl α)} (h : Row A (rows ps) ∈ L) (h2 : ∀ p ∈ ps, Row p.a (rows p.l) ∈ L) (hw : WI b w hp L) : WI b w hp (Rows2 A ps :: L) :=
  N9 hw ⟨hw.fs _ h, fun p hp => hw.fs _ (h2 p hp)⟩ (fun k hk => by
    rcases hk with hk | ⟨p, hp, hk⟩
    · exact ⟨_, h, hk⟩
    exact ⟨_, h2 p hp, hk⟩)
section
variable {α : Type} [El α] {c : Cx} {Q : Exit → Act → World → Prop} {fr : Fr} {hp : Hp} {L : List Fact} {ops : Array Oper} {rest : List Oper} {A : Option Addr} {ps : List (Sl α)}
theorem aj1 {e : Exit} (h : Row A (rows ps) ∈ L) (h2 : ∀ p ∈ ps, Row p.a (rows p.l) ∈ L) (k : HQ c Q e fr hp (Rows2 A ps :: L)) : HQ c Q e fr hp L := fun a w ha hw => k a w ha (yR h h2 hw)
end
/-! ### Facts that follow from the world; nil -/
section
variable {c : Cx} {Q : Exit → Act → World → Prop} {fr : Fr} {hp : Hp} {L : List Fact} {ops : Array Oper} {rest : List Oper}
theorem hc_pure {φ : Prop} {x : Code} (h : ∀ w, WI c.b w hp L → φ) (k : φ → HC c x Q fr hp L) : HC c x Q fr hp L := fun a w ha hw => k (h w hw) a w ha hw
theorem xT {g : Nat} {o : Obj} {e : Exit} (k : HQ c Q e fr hp (Blk g o :: L)) : HQ c Q e fr ((g, o) :: hp) L := fun a w ha hw => k a w ha (kF hw)
theorem zF {α : Type} [El α] {l : List α} {w : World} (h0 : 0 < El.sz α) (h : (Row none (rows l)).P w) : l = [] := by
  cases l with
  | nil => rfl
  | cons a l =>
    have hl : 0 < (rows (a :: l)).length := by rw [K6]; exact Nat.mul_pos (by simp) h0
    obtain ⟨ad, e, _⟩ := h 0 _ (List.getElem?_eq_getElem hl)
    cases e
variable {d : Tmp} {ty : TypeId} {pos : String} {af : Array Edge}
theorem zN {t e yt : TypeId} {x y : Operand} {A : Option Addr} {n cp : Nat} (hd : Nat.blt d c.n = true) (ht : c.P.underlying t = some (.slice e)) (hx : ev fr x = some (.slice A n cp)) (hy : ev fr y = some (.slice none 0 0)) (k : HL c ops Q rest ((d, .bool A.isNone) :: fr) hp L) :
    HL c ops Q (⟨some d, .binOp .eql t x y yt, ty, pos, af, none⟩ :: rest) fr hp L :=
  B6 _ hd hx hy (fun _ => rfl) (fun w => by
    show ((do pure (Value.bool (← Op.equal t (.slice A n cp) (.slice none 0 0)))) : Sem Value).run c.P w = _
    simp only [Sem.run_bind, run_equal_slice_nil w t e A n cp ht, Result.andThen_ok, Sem.run_pure]) k
end
/-! ### A store into a slice of the call's own -/
theorem qW {α : Type} [El α] (h1 : El.sz α = 1) (v : Value) (a : α) (hv : El.cells a = [v]) : ∀ (l : List α) (k : Nat), (rows l).set k v = rows (l.set k a)
  | [], k => by simp [cA]
  | b :: l, 0 => by
    have hb : ∃ u, El.cells b = [u] := by
      have := El.len b; rw [h1] at this; exact List.length_eq_one_iff.1 this
    obtain ⟨u, hu⟩ := hb; rw [List.set_cons_zero, D5, D5, hu, hv]
    rfl
  | b :: l, k + 1 => by
    have hb : ∃ u, El.cells b = [u] := by
      have := El.len b; rw [h1] at this; exact List.length_eq_one_iff.1 this
    obtain ⟨u, hu⟩ := hb; rw [List.set_cons_succ, D5, D5, hu, ← qW h1 v a hv l k]
    rfl
theorem Grow.set {α : Type} [El α] {e : TypeId} {cap g k : Nat} {cur : Array Value} {l : List α} {v : Value} {a : α} (h1 : El.sz α = 1) (hv : El.cells a = [v]) (h3 : l.length ≤ cap) (h4 : cap ≤ maxLen) (h5 : cur.size = cap * 1) (h6 : cur.toList.take (l.length * 1) = rows l) :
    Grow e 1 (i5 g) l.length cap (rows (l.set k a)) [(g, Obj.cells (cur.setIfInBounds k v) e (0, 0))] := by
  refine ⟨by rw [K6, h1, List.length_set], .inr ⟨g, _, rfl, rfl, h3, h4, by simpa using h5, ?_⟩⟩; rw [← qW h1 v a hv, ← h6, Array.toList_setIfInBounds, List.take_set]
/-! ### make -/
/-! ### Scopes and labels -/
section
variable {Q : Exit → Act → World → Prop} {fr : Fr} {hp : Hp} {L : List Fact}
theorem aj6 {P : Program} {n : Nat} {b : Bx} {D : List Deferred} {x : Code} (h : HC ⟨P, n, b, D, none⟩ x (Exit.noGoto Q) fr hp L) : HC ⟨P, n, b, D, none⟩ (.scope x) Q fr hp L :=
  fun a w ha hw => wpIn_wide.2 (wp_scope_straight (wpIn_wide.1 (h a w ha hw)))
theorem kP {c : Cx} (h : HQ c Q .ret fr hp L) : HQ c (Exit.noGoto Q) .ret fr hp L := fun a w ha hw => h a w ha hw
theorem aj7 {c : Cx} {l : Nat} (h : HQ c Q .normal fr hp L) : HC c (.label l) Q fr hp L := fun a w ha hw => wpIn_label (h a w ha hw)
end
/-! ### A loop's yield -/
def recL (fn : FuncId) (tmps : Array Value) (ps : Array Tmp) (assign body : Code) (d : Nat) (j : Option Code) : Loop := { state := if j.isNone then .ready else .done, pending := j, fn, tmps, params := ps, assign, body, defers := d }
def recB (fn : FuncId) (tmps : Array Value) (ps : Array Tmp) (assign body : Code) (d : Nat) : Loop := { state := .busy, pending := none, fn, tmps, params := ps, assign, body, defers := d }
def yieldV (l : Nat) : Value := .func (.yield l) #[] #[]
def MeetsY (P : Program) (l : Nat) (args : List Value) {β : Type} (k : Con β) : Prop :=
  ∀ w, WI (k.entry w) w k.hpI k.LI → ∃ f tmps assign body, (Instr.yield l args.toArray).run P w = .ok (.round l f tmps assign body) w ∧ RoundIn Fence.wide 0 P l f tmps assign body w (k.post w)
theorem evals {n : Cx} {a : Act} {fr : Fr} (ha : Ok n a fr) : ∀ (xs : List Operand) (vs : List Value), xs.mapM (ev fr) = some vs → xs.map a.eval = vs := by
  intro xs
  induction xs with
  | nil => intro vs h; simpa using h
  | cons x xs ih =>
    intro vs h; simp only [List.mapM_cons, Option.bind_eq_bind, Option.bind_eq_some_iff, Option.pure_def, Option.some.injEq] at h; obtain ⟨v, hv, us, hus, rfl⟩ := h; rw [List.map_cons, ha.ev hv, ih us hus]
section
variable {c : Cx} {Q : Exit → Act → World → Prop} {fr : Fr} {hp : Hp} {L : List Fact} {ops : Array Oper} {rest : List Oper}
variable {d : Tmp} {ty : TypeId} {pos : String} {af : Array Edge}
theorem aj2 {l : Nat} {x : Operand} {aS9 : Array Operand} {ats : Array TypeId} {vs : List Value} {β : Type} {k : Con β} {hpR : Hp} (hd : Nat.blt d c.n = true) (hf : ev fr x = some (yieldV l)) (hx : aS9.toList.mapM (ev fr) = some vs)
    (hm : MeetsY c.P l vs k) (h1 : hp.Perm (k.hpI ++ hpR)) (h2 : LSub L k.LI) (kk : ∀ x, k.inv x → HL c ops Q rest ((d, k.val x) :: fr) (k.hpO x ++ hpR) (k.LO x ++ L)) :
    HL c ops Q (⟨some d, .call ⟨.value x, aS9, ats⟩, ty, pos, af, none⟩ :: rest) fr hp L := by
  intro a w ha hw; refine vE rfl (.inr ⟨rfl, ?_⟩); have e1 : aS9.map a.eval = vs.toArray := by apply Array.ext'; simpa using evals ha _ _ hx
  obtain ⟨f, tmps, assign, body, h3, h4⟩ := hm w (hw.entry h1 h2.mem); refine ⟨l, f, tmps, assign, body, ?_, h4.mono fun e w' hp => ?_⟩
  · show ((do let dd ← resolve a.eval ⟨.value x, aS9, ats⟩ ty; invoke dd.target dd.args) : Sem Next).run c.P w = _
    simp only [resolve, ha.ev hf, yieldV, e1, Deferred.ofValue, Sem.run_bind, Sem.run_pure, Result.andThen_ok, invoke]
    simpa using h3
  obtain ⟨x, rfl, hi, hwi⟩ := hp; exact ⟨_, rfl, kk x hi _ _ (ha.put (by simpa using hd) _) (hw.back h1 h2.mem hwi)⟩
end
def setAll (ps : List (Tmp × Value)) (fr : Fr) : Fr := ps.foldl (fun fr p => p :: fr) fr
theorem qU : ∀ (ps : List (Tmp × Value)) (tmps : Array Value) (fr : Fr), (∀ p ∈ ps, p.1 < tmps.size) → (∀ t v, lk fr t = some v → tmps.getD t undef = v) →
    (ps.foldl (fun tmps p => tmps.setIfInBounds p.1 p.2) tmps).size = tmps.size ∧ ∀ t v, lk (setAll ps fr) t = some v → (ps.foldl (fun tmps p => tmps.setIfInBounds p.1 p.2) tmps).getD t undef = v
  | [], tmps, fr, _, h => ⟨rfl, h⟩
  | (p, u) :: ps, tmps, fr, hlt, h => by
    have h1 := qU ps (tmps.setIfInBounds p u) ((p, u) :: fr) (fun q hq => by simpa using hlt q (by simp [hq])) (fun t v hv => by
      rw [q8] at hv; have hp : p < tmps.size := hlt (p, u) (by simp)
      by_cases e : p = t
      · subst e
        simp at hv
        subst hv
        simp [hp]
      rw [if_neg e] at hv; have := h t v hv
      simpa [Array.getElem?_setIfInBounds_ne e] using this)
    exact ⟨by simpa using h1.1, h1.2⟩
def BeginQ (c : Cx) (l : Nat) (body : Code) (Q : Exit → Act → World → Prop) (a : Act) (w : World) : Prop :=
  ∃ w2, (Instr.beginRound l).run c.P w = .ok () w2 ∧ body.wpIn (FF c.rd) 0 c.P Q a w2
theorem WI.putObj {b : Bx} {w : World} {hp : Hp} {L : List Fact} {g : Nat} {o : Obj} (o' : Obj) (h : WI b w ((g, o) :: hp) L) : WI b (w.putObj g o') ((g, o') :: hp) L :=
  h.write ⟨rfl, rfl, rfl, by simp, fun k _ hn => World.putObj_heap_other (by simpa using hn), Nat.le_refl _⟩ (World.putObj_heap_same (z6 (h.own (g, o) (by simp))))
section
variable {c : Cx} {fr : Fr} {hp : Hp} {L : List Fact} {fn : FuncId} {tmps : Array Value} {ps : Array Tmp} {assign body : Code} {d l : Nat} {β : Type} {k : Con β} {w0 : World}
theorem vG {Q : Exit → Act → World → Prop} {hp' : Hp} (hpp : hp.Perm ((l, .loop (recL fn tmps ps assign body d none)) :: hp')) (h : HC c body Q fr ((l, .loop (recB fn tmps ps assign body d)) :: hp') L) : HQ c (Exit.then (BeginQ c l body Q) (fun _ _ _ => False)) .normal fr hp L := by
  intro a w ha hw; have hw' := hw.perm hpp; have hl := hw'.own (l, .loop (recL fn tmps ps assign body d none)) (by simp); exact ⟨_, run_beginRound hl rfl, h a _ ha (hw'.putObj _)⟩
theorem zE {hp' : Hp} (x : β) (j : Option Code) (hpp : hp.Perm ((l, .loop (recB fn tmps ps assign body d)) :: hp')) (hb : c.b = k.entry w0) (hv : k.val x = .bool j.isNone) (hi : k.inv x) (h2 : (k.hpO x).Sublist ((l, .loop (recL fn tmps ps assign body d j)) :: hp')) (h3 : LSub L (k.LO x)) {a : Act} {w : World} (hw : WI c.b w hp L) :
    ∃ v w', (Instr.endRound l j).run c.P w = .ok v w' ∧ (k.post w0) (.returned v) w' := by
  have hw' := hw.perm hpp; have hl := hw'.own (l, .loop (recB fn tmps ps assign body d)) (by simp); exact ⟨_, _, run_endRound j hl, x, by rw [hv], hi, hb ▸ (hw'.putObj _).weak h2 h3.mem⟩
theorem rp_n {hp' : Hp} (x : β) (hpp : hp.Perm ((l, .loop (recB fn tmps ps assign body d)) :: hp')) (hb : c.b = k.entry w0) (hv : k.val x = .bool true) (hi : k.inv x) (h2 : (k.hpO x).Sublist ((l, .loop (recL fn tmps ps assign body d none)) :: hp')) (h3 : LSub L (k.LO x)) : HQ c (roundPost c.P l (k.post w0)) .normal fr hp L :=
  fun a w _ hw => zE (a := a) x none hpp hb hv hi h2 h3 hw
theorem rp_ret {hp' : Hp} (x : β) (hpp : hp.Perm ((l, .loop (recB fn tmps ps assign body d)) :: hp')) (hb : c.b = k.entry w0) (hv : k.val x = .bool false) (hi : k.inv x) (h2 : (k.hpO x).Sublist ((l, .loop (recL fn tmps ps assign body d (some .ret))) :: hp')) (h3 : LSub L (k.LO x)) : HQ c (roundPost c.P l (k.post w0)) .ret fr hp L :=
  fun a w _ hw => zE (a := a) x (some .ret) hpp hb hv hi h2 h3 hw
end
theorem sE {β : Type} {P : Program} {l n d : Nat} {args : List Value} {k : Con β} {fn : FuncId} {tmps : Array Value} {ps : Array Tmp} {assign body : Code} {fr : Fr} (hI : (l, Obj.loop (recL fn tmps ps assign body d none)) ∈ k.hpI)
    (hsz : tmps.size = n) (hfr : ∀ t v, lk fr t = some v → tmps.getD t undef = v) (hlen : args.length = ps.size) (hps : ∀ t ∈ ps, t < n)
    (h : ∀ w, HC ⟨P, n, k.entry w, [], some l⟩ assign (Exit.then (BeginQ ⟨P, n, k.entry w, [], some l⟩ l body (roundPost P l (k.post w))) (fun _ _ _ => False)) (setAll (ps.toList.zip args) fr) k.hpI k.LI) : MeetsY P l args k := by
  intro w hw; have hl := hw.own _ hI; refine ⟨_, _, _, _, run_yield hl (by simpa [recL] using hlen), ?_⟩
  have h1 := qU (ps.toList.zip args) tmps fr (fun p hp => by
    have := List.of_mem_zip hp; rw [hsz]
    exact hps _ (by simpa using this.1)) hfr
  have e : ((ps.zip args.toArray).foldl (fun tmps (x : Tmp × Value) => tmps.setIfInBounds x.1 x.2) tmps) = (ps.toList.zip args).foldl (fun tmps p => tmps.setIfInBounds p.1 p.2) tmps := by
    rw [← Array.foldl_toList]
    simp
  refine roundIn_of_wpIn trivial ?_; refine h w _ w ⟨rfl, ?_, fun t v hv => ?_⟩ hw
  · exact (congrArg Array.size e).trans (h1.1.trans hsz)
  have := h1.2 t v hv; rw [← e] at this; exact this
/-! ### The statement -/
def markOf (d : Nat) : Deferred := { target := .collected d, args := #[] }
theorem sT {P : Program} {n : Nat} {b : Bx} {D : List Deferred} {Q : Exit → Act → World → Prop} {fr : Fr} {hp hpR : Hp} {L : List Fact} {g : Operand} {ps : Array Tmp} {assign body : Code} {f : Nat} {cap : List Value} {β : Type}
    (R : Hp) (LI : List Fact) (inv : β → Prop) (val : β → Value) (pend : β → Option Code) (RO : β → Hp) (LO : β → List Fact)
    (hg : ev fr g = some (.func (.func f) #[] cap.toArray)) (hcb : Callable P f) (hpp : hp.Perm (R ++ hpR)) (hL : LSub L LI)
    (hm : ∀ l d fn tmps, tmps.size = n → (∀ t v, lk fr t = some v → tmps.getD t undef = v) →
      Meets P f (yieldV l :: cap) ({ hpI := (l, .loop (recL fn tmps ps assign body d none)) :: R, LI := LI, inv := inv, val := val, hpO := fun x => (l, .loop (recL fn tmps ps assign body d (pend x))) :: RO x, LO := LO } : Con β))
    (k1 : ∀ x d, inv x → pend x = none → HQ ⟨P, n, b, markOf d :: D, none⟩ Q .normal fr ((d, .deferred (some [])) :: (RO x ++ hpR)) (LO x ++ L))
    (k2 : ∀ x d j, inv x → pend x = some j → HC ⟨P, n, b, markOf d :: D, none⟩ j Q fr ((d, .deferred (some [])) :: (RO x ++ hpR)) (LO x ++ L)) :
    HC ⟨P, n, b, D, none⟩ (.rangeFunc g ps assign body) Q fr hp L := by
  intro a w ha hw; have hsz : a.tmps.size = n := ha.sz; have hwa := (hw.perm hpp).alloc (.deferred (some [])); refine wpIn_rangeFunc fun fn _ => ?_; have hwb := hwa.alloc (.loop (recL fn a.tmps ps assign body w.heap.size none)); have hs1 : (w.alloc (.deferred (some []))).heap.size = w.heap.size + 1 := by simp
  rw [hs1] at hwb; have hno : (FF none).depth.isSome = true → 1 ≤ 0 := fun h => by cases h
  let W2 := (w.alloc (.deferred (some []))).alloc (.loop (recL fn a.tmps ps assign body w.heap.size none))
  refine ⟨w.heap.size + 1, [markOf w.heap.size], W2, ⟨.fn (.func f) cap.toArray, #[] ++ #[yieldV (w.heap.size + 1)]⟩, W2, f, #[yieldV (w.heap.size + 1)] ++ cap.toArray, W2, run_enterLoop_outer fn a.tmps ps assign body, ?_, fun _ _ => trivial, ?_, hno, ?_⟩
  · have e1 := ha.ev hg
    have e2 : a.eval (.const (.func (.yield (w.heap.size + 1)) #[] #[])) = yieldV (w.heap.size + 1) := rfl; simp only [rangeCall, resolve, e1, e2, Deferred.ofValue, List.map_toArray, List.map_cons, List.map_nil, Sem.run_pure]
  · have e3 : (#[] ++ #[yieldV (w.heap.size + 1)] ++ cap.toArray : Array Value) = #[yieldV (w.heap.size + 1)] ++ cap.toArray := by simp
    simp only [invoke, e3]; exact hcb.run _ _
  have hmm := hm (w.heap.size + 1) w.heap.size fn a.tmps hsz ha.at_
  let kk : Con β := { hpI := (w.heap.size + 1, .loop (recL fn a.tmps ps assign body w.heap.size none)) :: R, LI := LI, inv := inv, val := val, hpO := fun x => (w.heap.size + 1, .loop (recL fn a.tmps ps assign body w.heap.size (pend x))) :: RO x, LO := LO }
  have hperm : ((w.heap.size + 1, Obj.loop (recL fn a.tmps ps assign body w.heap.size none)) :: (w.heap.size, Obj.deferred (some [])) :: (R ++ hpR)).Perm (kk.hpI ++ ((w.heap.size, Obj.deferred (some [])) :: hpR)) := by
    refine I4 fun p => ?_; simp only [kk, List.cons_append, List.countP_cons, List.countP_append]
    omega
  have hc := hmm _ (WI.entry (k := kk) hwb hperm hL.mem); have e4 : (#[yieldV (w.heap.size + 1)] ++ cap.toArray : Array Value) = (yieldV (w.heap.size + 1) :: cap).toArray := by simp
  rw [e4]; refine uV (hc.mono fun e w3 hpo => ?_); obtain ⟨x, rfl, hi, hwi⟩ := hpo; have hwi2 := WI.back (k := kk) (x := x) hwb hperm hL.mem hwi; have hl := hwi2.own (w.heap.size + 1, .loop (recL fn a.tmps ps assign body w.heap.size (pend x))) (by simp [kk])
  have hwi3 : WI b (w3.putObj (w.heap.size + 1) (.loop { recL fn a.tmps ps assign body w.heap.size (pend x) with state := .exhausted })) ((w.heap.size, .deferred (some [])) :: (RO x ++ hpR)) (LO x ++ L) := by
    have h5 := WI.putObj (.loop { recL fn a.tmps ps assign body w.heap.size (pend x) with state := .exhausted }) (by simpa [kk] using hwi2); refine (h5.weak (List.sublist_cons_self _ _) (fun _ h => h)).perm (I4 fun p => ?_); simp only [List.countP_cons, List.countP_append]
    omega
  have hend : (Instr.endLoop (w.heap.size + 1)).run P w3 = .ok (pend x) _ := run_endLoop hl (by show (if (pend x).isNone = true then LoopState.ready else LoopState.done) ≠ .busy; split <;> simp); refine ⟨pend x, _, hend, ?_⟩; have hok : Ok ⟨P, n, b, markOf w.heap.size :: D, none⟩ { a with defers := [markOf w.heap.size] ++ a.defers } fr := ⟨by show markOf w.heap.size :: a.defers = _; rw [ha.d], ha.sz, ha.at_⟩
  cases hpx : pend x with
  | none =>
    rw [hpx] at hwi3; exact k1 x w.heap.size hi hpx _ _ hok hwi3
  | some j =>
    rw [hpx] at hwi3; exact k2 x w.heap.size j hi hpx _ _ hok hwi3
/-! ### Functions that leave with marks -/
theorem sF {β : Type} {P : Program} {f : Nat} {args : List Value} {k : Con β} {fn : Func} {code : Code} (hf : P.funcs[f]? = some fn) (hb : fn.body = some code) (hn : args.length ≤ fn.ntmps)
    (h : ∀ w, HC ⟨P, fn.ntmps, k.entry w, [], none⟩ code (bodyPostM Fence.wide 0 P fn (k.post w)) (argFr 0 args) k.hpI k.LI) : Meets P f args k := by
  intro w hw; refine callsIn_wide.1 (callsIn_of_wp_marks (n := 0) hf hb trivial (h w _ w ⟨rfl, by simp; omega, fun t v hv => ?_⟩ hw)); obtain ⟨_, h2⟩ := jJ args 0 t v hv; simp only [Nat.sub_zero] at h2
  have hlt : t < args.length := by
    rcases Nat.lt_or_ge t args.length with h' | h'
    · exact h'
    rw [List.getElem?_eq_none h'] at h2; cases h2
  rw [List.getElem?_eq_getElem hlt] at h2
  injection h2 with h2
  simp [Array.getElem?_append, hlt, h2]
def shutM (ds : List Nat) : Hp := ds.map fun d => (d, Obj.deferred (some []))
theorem jM {c : Cx} {β : Type} {k : Con β} {fn : Func} {w0 : World} {tmps : Array Value} {hp' : Hp} {L : List Fact} (x : β)
    (hr : ∀ w, WI c.b w hp' L → (results fn tmps).run c.P w = .ok (k.val x) w) (hb : c.b = k.entry w0) (hi : k.inv x) (h2 : (k.hpO x).Sublist hp') (h3 : LSub L (k.LO x)) :
    ∀ (ds : List Nat) (w : World), WI c.b w (shutM ds ++ hp') L → LeavesInM Fence.wide 0 c.P fn tmps (k.post w0) (ds.map markOf) .returning w
  | [], w, hw => ⟨k.val x, hr w hw, x, rfl, hi, hb ▸ hw.weak h2 h3.mem⟩
  | d :: ds, w, hw => by
    have hw' : WI c.b w ((d, Obj.deferred (some [])) :: (shutM ds ++ hp')) L := hw; have ho := hw'.own (d, Obj.deferred (some [])) (by simp); refine ⟨by simp, .inl ⟨d, _, rfl, run_takeDeferred ho, ?_⟩⟩; exact jM x hr hb hi h2 h3 ds _ ((hw'.putObj _).weak (List.sublist_cons_self _ _) fun _ h => h)
theorem S1 {c : Cx} {fr : Fr} {hp hp' : Hp} {L : List Fact} {β : Type} {k : Con β} {fn : Func} {w0 : World} (ds : List Nat) (x : β) (hD : c.D = ds.map markOf) (hpp : hp.Perm (shutM ds ++ hp'))
    (hr : ∀ (a : Act) w, a.tmps.size = c.n → (∀ t v, lk fr t = some v → a.tmps.getD t undef = v) → WI c.b w hp' L → (results fn a.tmps).run c.P w = .ok (k.val x) w) (hb : c.b = k.entry w0) (hi : k.inv x) (h2 : (k.hpO x).Sublist hp') (h3 : LSub L (k.LO x)) :
    HQ c (bodyPostM Fence.wide 0 c.P fn (k.post w0)) .ret fr hp L := fun a w ha hw => by
  show LeavesInM Fence.wide 0 c.P fn a.tmps (k.post w0) a.defers .returning w; rw [ha.d, hD]; exact jM x (fun w hw => hr a w ha.sz ha.at_ hw) hb hi h2 h3 ds w (hw.perm hpp)
theorem B1 {c : Cx} {fr : Fr} {hp : Hp} {L : List Fact} {fn : Func} {t u : Tmp} {ty tz : TypeId} {p q : Addr} {v1 v2 : Value} (hres : fn.results = #[.cell t ty, .cell u tz]) (hv : lk fr t = some (.pointer (some p))) (hv2 : lk fr u = some (.pointer (some q))) (ht : NoR c.P ty) (hz : NoR c.P tz)
    (h1 : Cell c.b hp L p v1) (h2 : Cell c.b hp L q v2) (a : Act) (w : World) (hsz : a.tmps.size = c.n) (hfr : ∀ t v, lk fr t = some v → a.tmps.getD t undef = v) (hw : WI c.b w hp L) : (results fn a.tmps).run c.P w = .ok (.tuple #[v1, v2]) w := by
  have hload : ∀ {ty : TypeId} {p : Addr} {v : Value}, NoR c.P ty → Cell c.b hp L p v → (loadVar ty p).run c.P w = .ok v w := by
    intro ty p v ht hc; obtain ⟨dd, ht, hr⟩ := ht
    have hagg : (isAgg ty).run c.P w = .ok false w := by
      unfold isAgg; rw [Sem.run_bind, run_underlying ht w]
      cases dd <;> simp_all [TypeDesc.isRow]
    simp only [loadVar, Sem.run_bind, hagg, Result.andThen_ok, Bool.false_eq_true, if_false, run_load, hc w hw]
  have h5 : a.tmps[t]?.getD undef = .pointer (some p) := by simpa using hfr _ _ hv
  have h6 : a.tmps[u]?.getD undef = .pointer (some q) := by simpa using hfr _ _ hv2
  unfold results; rw [hres]
  simp [h5, h6, asAddr, hload ht h1, hload hz h2]
end Go.W
end
section
namespace Go.W
open Go Go.RowKit
section
variable {c : Cx} {Q : Exit → Act → World → Prop} {fr : Fr} {hp : Hp} {L : List Fact} {ops : Array Oper} {rest : List Oper}
variable {α : Type} [El α]
abbrev innerF (ps : List (Sl α)) : Fact := Facts (ps.map fun p => Row p.a (rows p.l))
end
end Go.W
end
section
namespace Go.W
open Go Go.RowKit
def notI (dd : TypeDesc) : Bool := match dd with | .interface _ => false | _ => true
def NoI (P : Program) (t : TypeId) : Prop := ∃ dd, P.underlying t = some dd ∧ notI dd = true
section
variable {c : Cx} {Q : Exit → Act → World → Prop} {fr : Fr} {hp : Hp} {L : List Fact} {ops : Array Oper} {rest : List Oper}
variable {d : Tmp} {ty : TypeId} {pos : String} {af : Array Edge}
/-! ### Interfaces -/
theorem gI {t : TypeId} {x : Operand} {v : Value} (hd : Nat.blt d c.n = true) (ht : NoI c.P t) (hx : ev fr x = some v) (k : HL c ops Q rest ((d, .iface t v) :: fr) hp L) : HL c ops Q (⟨some d, .makeInterface t x, ty, pos, af, none⟩ :: rest) fr hp L :=
  l4 _ rfl rfl hd (fun a w ha _ => by
    obtain ⟨dd, h1, h2⟩ := ht; simp only [execOp, ha.ev hx, Instr.makeInterface, Sem.run_bind, run_underlying h1, Result.andThen_ok]
    cases dd <;> first | rfl | cases h2) k
theorem xM {t xt : TypeId} {x : Operand} {v : Value} (hd : Nat.blt d c.n = true) (ht : NoI c.P t) (hx : ev fr x = some (.iface t v)) (k : HL c ops Q rest ((d, .tuple #[v, .bool true]) :: fr) hp L) : HL c ops Q (⟨some d, .typeAssert x xt t true, ty, pos, af, none⟩ :: rest) fr hp L :=
  l4 _ rfl rfl hd (fun a w ha _ => by
    obtain ⟨dd, h1, h2⟩ := ht; simp only [execOp, ha.ev hx, Instr.typeAssert, Sem.run_bind, run_underlying h1, Result.andThen_ok]
    cases dd <;> first | (cases h2; done) | simp) k
/-! ### Three results -/
theorem results3 {fn : Func} {t u v : Tmp} (h : fn.results = #[.tmp t, .tmp u, .tmp v]) (tmps : Array Value) (P : Program) (w : World) : (results fn tmps).run P w = .ok (.tuple #[tmps.getD t undef, tmps.getD u undef, tmps.getD v undef]) w := by
  simp [results, h]
theorem ret3 {β : Type} {k : Con β} {fn : Func} {w0 : World} (x : β) {t u v : Tmp} {v1 v2 v3 : Value} (hres : fn.results = #[.tmp t, .tmp u, .tmp v]) (hv1 : lk fr t = some v1) (hv2 : lk fr u = some v2) (hv3 : lk fr v = some v3) (hk : k.val x = .tuple #[v1, v2, v3]) (hb : c.b = k.entry w0) (hi : k.inv x) (h2 : (k.hpO x).Sublist hp) (h3 : LSub L (k.LO x)) (hD : c.D = [] := by exact rfl) :
    HQ c (bodyPost c.P fn (k.post w0)) .ret fr hp L :=
  R4 x (fun a w ha _ => by rw [results3 hres, ha.at_ _ _ hv1, ha.at_ _ _ hv2, ha.at_ _ _ hv3, hk]) hb hi h2 h3 hD
/-! ### Strings that are ranged over -/
abbrev iter (s : Str) (p : Nat) : Obj := .stringIter ⟨s.toArray⟩ p
def nextV (s : Str) (p : Nat) : Value := if p < s.length then .tuple #[.bool true, int p, .int .i32 ((Utf8.decode ⟨s.toArray⟩ p).1 : Nat)] else .tuple #[.bool false]
def nextP (s : Str) (p : Nat) : Nat := if p < s.length then p + (Utf8.decode ⟨s.toArray⟩ p).2 else p
end
theorem rB {c : Cx} {Q : Exit → Act → World → Prop} {fr : Fr} {hp : Hp} {L : List Fact} {ops : Array Oper} {rest : List Oper} {d : Tmp} {ty : TypeId} {pos : String} {af : Array Edge} {f : Nat} {xs0 : Array Operand} {ats : Array TypeId} {vs : List Value} {v : Value} (hd : Nat.blt d c.n = true) (hx : xs0.toList.mapM (ev fr) = some vs) (hrun : ∀ w, (callFunc f vs.toArray).run c.P w = .ok (.value v) w) (kk : HL c ops Q rest ((d, v) :: fr) hp L) :
    HL c ops Q (⟨some d, .call ⟨.value (.func f), xs0, ats⟩, ty, pos, af, none⟩ :: rest) fr hp L := by
  intro a w ha hw; refine J1 rfl fun K hK => ?_
  have key : ∀ (xs : List Operand) (vs : List Value), xs.mapM (ev fr) = some vs → xs.map a.eval = vs := by
    intro xs
    induction xs with
    | nil => intro vs h; simpa using h
    | cons x xs ih =>
      intro vs h; simp only [List.mapM_cons, Option.bind_eq_bind, Option.bind_eq_some_iff, Option.pure_def, Option.some.injEq] at h; obtain ⟨v, hv, us, hus, rfl⟩ := h; rw [List.map_cons, ha.ev hv, ih us hus]
  have e1 : (#[] ++ xs0.map a.eval ++ #[]) = vs.toArray := by simp; apply Array.ext'; simpa using key _ _ hx
  unfold Oper.wp; rw [execOp_call_go, e1, hrun, Oper.upon_value]; exact hK _ _ (kk _ _ (ha.put (by simpa using hd) _) hw)
/-! ### Small sets of bits -/
def u8 (m : Nat) : Value := .int .u8 (m : Int)
section
variable {c : Cx} {Q : Exit → Act → World → Prop} {fr : Fr} {hp : Hp} {L : List Fact} {ops : Array Oper} {rest : List Oper}
variable {d : Tmp} {ty : TypeId} {pos : String} {af : Array Edge}
def diff8 (a b : Nat) : Nat := a &&& (255 - b)
end
/-! ### Rows whose elements have facts of their own -/
def RowsF {α : Type} [El α] (A : Option Addr) (ps : List α) (f : α → Fact) : Fact where
  P w := (Row A (rows ps)).P w ∧ ∀ p ∈ ps, (f p).P w
  fp k := (Row A (rows ps)).fp k ∨ ∃ p ∈ ps, (f p).fp k
  st w w' h hP := ⟨(Row A (rows ps)).st w w' (fun k hk => h k (.inl hk)) hP.1, fun p hp => (f p).st w w' (fun k hk => h k (.inr ⟨p, hp, hk⟩)) (hP.2 p hp)⟩
  lt w hP k hk := by
    rcases hk with hk | ⟨p, hp, hk⟩
    · exact (Row A (rows ps)).lt w hP.1 k hk
    exact (f p).lt w (hP.2 p hp) k hk
section
variable {c : Cx} {Q : Exit → Act → World → Prop} {fr : Fr} {hp : Hp} {L : List Fact} {ops : Array Oper} {rest : List Oper}
variable {α : Type} [El α] {A : Option Addr} {ps : List α} {f : α → Fact}
abbrev innersF (ps : List α) (f : α → Fact) : Fact := Facts (ps.map f)
end
end Go.W
end
section
namespace Go.W
open Go Go.RowKit
section
variable {c : Cx} {Q : Exit → Act → World → Prop} {fr : Fr} {hp : Hp} {L : List Fact} {ops : Array Oper} {rest : List Oper}
variable {d : Tmp} {ty : TypeId} {pos : String} {af : Array Edge}
theorem nG {t e : TypeId} {x i : Operand} {g o n sz : Nat} {kd : IntKind} {z : Int} (j q : Nat) (hd : Nat.blt d c.n = true) (ht : c.P.underlying t = some (.array n e)) (hz : Sz c.P e sz)
    (hx : ev fr x = some (.pointer (some ⟨g, o, none⟩))) (hi : ev fr i = some (.int kd z)) (hjz : z = (j : Int)) (hj : j < n) (hq : o + j * sz = q)
    (k : HL c ops Q rest ((d, .pointer (some ⟨g, q, none⟩)) :: fr) hp L) : HL c ops Q (⟨some d, .indexAddr t x i, ty, pos, af, none⟩ :: rest) fr hp L :=
  l4 _ rfl rfl hd (fun a w ha hw => by
    subst hjz
    have hr : (Instr.indexAt t (.pointer (some ⟨g, o, none⟩)) (.int kd (j : Int))).run c.P w = .ok (.pointer (some ⟨g, q, none⟩)) w := by
      subst hq
      simp [Instr.indexAt, asIntOf, run_underlying ht, O1 hz, hj, Instr.sureAddr, dF]
    simp only [execOp, ha.ev hx, ha.ev hi, Sem.run_bind, hr, Result.andThen_ok, Sem.run_pure]) k
/-! ### Loops that leave marks -/
def AgainM {β : Type} (s : Sta β) (ds : β → List Nat) (μ : β → Nat) (m : Nat) (P : Program) (n : Nat) (b : Bx) (a : Act) (w : World) : Prop := ∃ y, s.inv y ∧ μ y < m ∧ Ok ⟨P, n, b, (ds y).map markOf, none⟩ a (s.fr y) ∧ WI b w (shutM (ds y) ++ s.hp y) (s.L y)
end
end Go.W
end
