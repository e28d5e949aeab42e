/- Texts of this claim, one behind another. -/
import Derived.RangeFuncLeaves
import Derived.RangeFuncRecord
import Derived.Scope
import Derived.Laws.Cover3
import Derived.Test.YtegfgegnhjkcfaaGreatDoorBAe
import Derived.Test.YtegfgegnhjkcfaaGreatDoorBAd
set_option linter.unusedVariables false
set_option linter.unusedSimpArgs false
section
namespace Go.Proofs.YtegfgegnhjkcfaaGreatDoor
open Go Go.W
set_option maxRecDepth 20000
attribute [local irreducible] HL HC HQ HB Row Rows2 Blk Facts
def lineBad (u : UInt8) : Bool := (decide ((u.toNat : Int) < 97) || decide (122 < (u.toNat : Int))) && (decide ((u.toNat : Int) < 48) || decide (57 < (u.toNat : Int))) && decide (¬ (u.toNat : Int) = 32)
def lineErr (s : Str) : Int := if s.length = 0 then 7 else if 10 < s.length then 10 else if s.any lineBad then 2 else if s.take 1 = [32] ∨ s.drop (s.length - 1) = [32] then 2 else 0
def firstErr {α : Type} (f : α → Int) : List α → Int
  | [] => 0
  | a :: l => if f a = 0 then firstErr f l else f a
def pageErr (p : List Str) : Int := if 6 < p.length then 6 else firstErr lineErr p
theorem R8 {α : Type} {f : α → Int} {l : List α} {k : Nat} (hk : k < l.length) (h : firstErr f (l.take k) = 0) : firstErr f (l.take (k + 1)) = f l[k] := by
  induction l generalizing k with
  | nil => simp at hk
  | cons a l ih =>
    cases k with
    | zero => simp [firstErr]; intro h; exact h.symm
    | succ k =>
      simp only [List.take_succ_cons, firstErr] at h ⊢
      split at h
      · rename_i h0
        rw [if_pos h0]; exact ih (by simpa using hk) h
      rename_i h0; exact absurd h h0
theorem G0 {α : Type} {f : α → Int} {l : List α} {k : Nat} (hk : k < l.length) (h : firstErr f (l.take k) = 0) (h1 : ¬ f l[k] = 0) : firstErr f l = f l[k] := by
  induction l generalizing k with
  | nil => simp at hk
  | cons a l ih =>
    cases k with
    | zero => simp at h1; simp [firstErr, h1]
    | succ k =>
      simp only [List.take_succ_cons, firstErr] at h ⊢
      split at h
      · rename_i h0
        rw [if_pos h0]; exact ih (by simpa using hk) h (by simpa using h1)
      rename_i h0; exact absurd h h0
theorem yG {α : Type} {f : α → Bool} {l : List α} {k : Nat} (hk : k < l.length) (h : (l.take k).any f = false) (h1 : f l[k] = false) : (l.take (k + 1)).any f = false := by
  rw [List.take_succ_eq_append_getElem hk, List.any_append, h]; simp [h1]
theorem cx4 {α : Type} {f : α → Bool} {l : List α} {k : Nat} (hk : k < l.length) (h1 : f l[k] = true) : l.any f = true := List.any_eq_true.2 ⟨_, List.getElem_mem hk, h1⟩
theorem B1 {α : Type} [Inhabited α] {l : List α} {k : Nat} (hk : k < l.length) : l.getD k default = l[k] := by simp [List.getD_eq_getElem?_getD, hk]
theorem zZ {s : Str} (h : 0 < s.length) (b : UInt8) : s.take 1 = [b] ↔ s[0] = b := by
  cases s with
  | nil => simp at h
  | cons a s => simp
theorem zW {s : Str} (h : 0 < s.length) (b : UInt8) : s.drop (s.length - 1) = [b] ↔ s[s.length - 1]'(by omega) = b := by
  rw [List.drop_eq_getElem_cons (by omega), List.drop_eq_nil_of_le (by omega)]; simp
theorem R9 {u : UInt8} {n : Nat} (hn : n < 256) : (u.toNat : Int) = (n : Int) ↔ u = UInt8.ofNat n := by
  constructor
  · intro h
    have : u.toNat = n := by omega
    rw [← this]; simp
  intro h; subst h
  simp; omega
theorem K2 (s p : Str) (hs : s.length ≤ 1000000) (hp : p.length ≤ 1000000) :
    Meets Tryz.prog F.y9 [str s, str p] { val := fun _ : Unit => .bool (decide (p.length ≤ s.length ∧ s.take p.length = p)) } := by
 refine c4 F.P2 rfl l5 fun w0 => ?_; refine a9 (a8 rfl (k9 (a5 rfl ?_))); refine l4 rfl T.i2 rfl (a5 rfl (l4 rfl T.i2 rfl ?_)); refine jC rfl rfl rfl (a5 rfl ?_); refine l3 rfl rfl ?_ ?_
 ·intro hg1; have hg1' := hg1; try simp at hg1'
  have hle : p.length ≤ s.length := by simpa using hg1
  refine c9 rfl rfl hg1 (a5 rfl (c9 rfl rfl hg1 (a5 rfl (c9 rfl rfl hg1 ?_)))); refine l4 rfl T.i2 rfl (c9 rfl rfl hg1 (I8 p.length rfl T.i2 rfl rfl rfl (by omega) ?_)); refine c9 rfl rfl hg1 (a5 rfl (c9 rfl rfl hg1 (aG rfl rfl rfl ?_))); refine p_t rfl rfl (bt1 hg1) rfl ?_; refine a8 rfl (a7 (i6 ?_)); exact ret1 () rfl (congrArg (fun b => some (Value.bool b)) (by simp [hle])) rfl trivial (.refl _) trivial
 intro hg1; have hg1' := hg1; try simp at hg1'
 have hle : ¬ p.length ≤ s.length := by simpa using hg1
 refine k5 rfl rfl rfl rfl rfl hg1 (k5 rfl rfl rfl rfl rfl hg1 (k5 rfl rfl rfl rfl rfl hg1 (k5 rfl rfl rfl rfl rfl hg1 (k5 rfl rfl rfl rfl rfl hg1 (k5 rfl rfl rfl rfl rfl hg1 ?_))))); refine p_f rfl rfl (bf2 hg1) rfl ?_; refine a8 rfl (a7 (i6 ?_)); exact ret1 () rfl (congrArg (fun b => some (Value.bool b)) (by simp [hle])) rfl trivial (.refl _) trivial
theorem bC (s p : Str) (hs : s.length ≤ 1000000) (hp : p.length ≤ 1000000) :
    Meets Tryz.prog F.N3 [str s, str p] { val := fun _ : Unit => .bool (decide (p.length ≤ s.length ∧ s.take p.length = p)) } := by
 refine c4 F.iJ rfl l5 fun w0 => ?_; refine a9 (a8 rfl (k9 (a5 rfl (a5 rfl ?_)))); refine d6 F.M8 rfl rfl (K2 s p hs hp) (.refl _) trivial fun _ _ => ?_; refine a8 rfl (a7 (i6 ?_)); exact ret1 () rfl rfl rfl trivial (.refl _) trivial
theorem K1 (s p : Str) (hs : s.length ≤ 1000000) (hp : p.length ≤ 1000000) :
    Meets Tryz.prog F.y8 [str s, str p] { val := fun _ : Unit => .bool (decide (p.length ≤ s.length ∧ s.drop (s.length - p.length) = p)) } := by
 refine c4 F.P1 rfl l5 fun w0 => ?_; refine a9 (a8 rfl (k9 (a5 rfl ?_))); refine l4 rfl T.i2 rfl (a5 rfl (l4 rfl T.i2 rfl ?_)); refine jC rfl rfl rfl (a5 rfl ?_); refine l3 rfl rfl ?_ ?_
 ·intro hg1; have hg1' := hg1; try simp at hg1'
  have hle : p.length ≤ s.length := by simpa using hg1
  refine c9 rfl rfl hg1 (a5 rfl (c9 rfl rfl hg1 (a5 rfl (c9 rfl rfl hg1 ?_)))); refine l4 rfl T.i2 rfl ?_; refine c9 rfl rfl hg1 (a5 rfl (c9 rfl rfl hg1 ?_)); refine l4 rfl T.i2 rfl (c9 rfl rfl hg1 (Z5 ((s.length - p.length : Nat) : Int) rfl rfl rfl (by omega) l9 (c9 rfl rfl hg1 (B3 (s.length - p.length) rfl T.i2 rfl rfl (by omega) (by omega) ?_)))); refine c9 rfl rfl hg1 (a5 rfl (c9 rfl rfl hg1 (aG rfl rfl rfl ?_))); refine p_t rfl rfl (bt1 hg1) rfl ?_; refine a8 rfl (a7 (i6 ?_)); exact ret1 () rfl (congrArg (fun b => some (Value.bool b)) (by simp [hle])) rfl trivial (.refl _) trivial
 intro hg1; have hg1' := hg1; try simp at hg1'
 have hle : ¬ p.length ≤ s.length := by simpa using hg1
 refine k5 rfl rfl rfl rfl rfl hg1 (k5 rfl rfl rfl rfl rfl hg1 (k5 rfl rfl rfl rfl rfl hg1 (k5 rfl rfl rfl rfl rfl hg1 (k5 rfl rfl rfl rfl rfl hg1 (k5 rfl rfl rfl rfl rfl hg1 (k5 rfl rfl rfl rfl rfl hg1 (k5 rfl rfl rfl rfl rfl hg1 (k5 rfl rfl rfl rfl rfl hg1 ?_)))))))); refine p_f rfl rfl (bf2 hg1) rfl ?_; refine a8 rfl (a7 (i6 ?_)); exact ret1 () rfl (congrArg (fun b => some (Value.bool b)) (by simp [hle])) rfl trivial (.refl _) trivial
theorem bB (s p : Str) (hs : s.length ≤ 1000000) (hp : p.length ≤ 1000000) :
    Meets Tryz.prog F.N2 [str s, str p] { val := fun _ : Unit => .bool (decide (p.length ≤ s.length ∧ s.drop (s.length - p.length) = p)) } := by
 refine c4 F.iI rfl l5 fun w0 => ?_; refine a9 (a8 rfl (k9 (a5 rfl (a5 rfl ?_)))); refine d6 F.M7 rfl rfl (K1 s p hs hp) (.refl _) trivial fun _ _ => ?_; refine a8 rfl (a7 (i6 ?_)); exact ret1 () rfl rfl rfl trivial (.refl _) trivial
theorem P6 (s : Str) :
    Meets Tryz.prog F.U1 [str s] { val := fun _ : Unit => int (lineErr s) } := by
 refine c4 F.kX rfl l5 fun w0 => ?_; refine a9 (a8 rfl (a7 (b5 (a9 (a5 rfl ?_))))); refine l4 rfl T.i2 rfl ?_; refine t8 rfl rfl rfl (a7 ?_)
 first | refine i8 rfl (fun hb1 => ?_) (fun hb1 => ?_) | refine b9 rfl (fun hb1 => ?_) (fun hb1 => ?_)
 ·have hb1' := hb1; try simp at hb1'
  have hb1 : s.length = 0 := by omega
  refine a9 (a8 rfl (a7 (s6 ?_))); exact ret1 () rfl (congrArg (fun b => some (int b)) (by simp [lineErr, hb1])) rfl trivial (.refl _) trivial
 have hb1' := hb1; try simp at hb1'
 have hb1 : ¬ s.length = 0 := by omega
 refine c3 (b6 (b5 (a9 (a5 rfl ?_)))); refine l4 rfl T.i2 rfl ?_; refine v9 rfl rfl rfl (a7 ?_)
 first | refine i8 rfl (fun hb2 => ?_) (fun hb2 => ?_) | refine b9 rfl (fun hb2 => ?_) (fun hb2 => ?_)
 ·have hb2' := hb2; try simp at hb2'
  have hb2 : 10 < s.length := by omega
  refine a9 (a8 rfl (a7 (s6 ?_))); exact ret1 () rfl (congrArg (fun b => some (int b)) (by simp [lineErr, hb1, hb2])) rfl trivial (.refl _) trivial
 have hb2' := hb2; try simp at hb2'
 have hb2 : ¬ 10 < s.length := by omega
 refine c3 (b6 (b5 (a9 (a8 rfl (a7 (j0 ?_)))))); refine s9 (β := Nat) ⟨fun k => k ≤ s.length ∧ (s.take k).any lineBad = false, fun k => [(0, str s), (3, int k)], fun _ => [], fun _ => []⟩ (fun k => s.length - k) 0 ⟨Nat.zero_le _, rfl⟩ mC (.refl _) trivial fun k hk => ?_; obtain ⟨hk, ht⟩ := hk; refine b5 (a9 (a5 rfl (a5 rfl ?_))); refine l4 rfl T.i2 rfl ?_; refine r6 rfl rfl rfl (a7 ?_)
 first | refine i8 rfl (fun hb3 => ?_) (fun hb3 => ?_) | refine b9 rfl (fun hb3 => ?_) (fun hb3 => ?_)
 ·have hb3' := hb3; try simp at hb3'
  have hb3 : k < s.length := by omega
  refine c3 (b6 (b5 (j0 (a9 (a5 rfl (a5 rfl ?_)))))); refine q7 _ rfl T.i2 rfl rfl rfl (List.getElem?_eq_getElem (by omega)) ?_; refine a8 rfl (a7 ?_); refine aS ⟨fun _ : Unit => True, fun _ => [(0, str s), (3, int k), (37, .bool (lineBad s[k]))], fun _ => [], fun _ => []⟩ ?_ ?_
  ·skip
   refine c6 (a5 rfl (r6 rfl rfl rfl (a5 rfl ?_))); refine l3 rfl rfl ?_ ?_
   ·intro hg1; have hg1' := hg1; try simp at hg1'
    refine c9 rfl rfl hg1 (a5 rfl (c9 rfl rfl hg1 (v9 rfl rfl rfl ?_))); refine p_f rfl rfl (bf1 hg1) rfl (a5 rfl ?_); refine l3 rfl rfl ?_ ?_
    ·intro hg2; have hg2' := hg2; try simp at hg2'
     refine c9 rfl rfl hg2 (a5 rfl (c9 rfl rfl hg2 (r6 rfl rfl rfl (c9 rfl rfl hg2 (a5 rfl ?_))))); refine l3 rfl rfl ?_ ?_
     ·intro hg3; have hg3' := hg3; try simp at hg3'
      refine c9 rfl rfl hg3 (a5 rfl (c9 rfl rfl hg3 (v9 rfl rfl rfl (c9 rfl rfl hg2 ?_)))); refine p_f rfl rfl (bf1 hg3) rfl (p_t rfl rfl (bt1 hg2) rfl (a5 rfl ?_)); refine l3 rfl rfl ?_ ?_
      ·intro hg4; have hg4' := hg4; try simp at hg4'
       refine c9 rfl rfl hg4 (a5 rfl (c9 rfl rfl hg4 (u9 rfl rfl rfl ?_))); refine p_t rfl rfl (bt1 hg4) rfl ?_; refine b3 ?_; exact J4 _ () trivial ⟨rfl, rfl, congrArg (fun b => some (Value.bool b)) (by simp only [lineBad]; simp [*, Int.not_le, Int.not_lt, Int.not_lt.2, Int.not_le.2]), trivial⟩ (.refl _) trivial
      intro hg4; have hg4' := hg4; try simp at hg4'
      refine k5 rfl rfl rfl rfl rfl hg4 (k5 rfl rfl rfl rfl rfl hg4 ?_); refine p_f rfl rfl (bf2 hg4) rfl ?_; refine b3 ?_; exact J4 _ () trivial ⟨rfl, rfl, congrArg (fun b => some (Value.bool b)) (by simp only [lineBad]; simp [*, Int.not_le, Int.not_lt, Int.not_lt.2, Int.not_le.2]), trivial⟩ (.refl _) trivial
     intro hg3; have hg3' := hg3; try simp at hg3'
     refine k5 rfl rfl rfl rfl rfl hg3 (k5 rfl rfl rfl rfl rfl hg3 (c9 rfl rfl hg2 ?_)); refine p_t rfl rfl (bt2 hg3) rfl (p_t rfl rfl (bt1 hg2) rfl ?_); refine a5 rfl (c9 rfl rfl rfl (a5 rfl (c9 rfl rfl rfl (u9 rfl rfl rfl (p_t rfl rfl rfl rfl (b3 ?_)))))); exact J4 _ () trivial ⟨rfl, rfl, congrArg (fun b => some (Value.bool b)) (by simp only [lineBad]; simp [*, Int.not_le, Int.not_lt, Int.not_lt.2, Int.not_le.2]), trivial⟩ (.refl _) trivial
    intro hg2; have hg2' := hg2; try simp at hg2'
    refine k5 rfl rfl rfl rfl rfl hg2 (k5 rfl rfl rfl rfl rfl hg2 (k5 rfl rfl rfl rfl rfl hg2 (L4 rfl rfl rfl rfl rfl rfl (L4 rfl rfl rfl rfl rfl rfl (k5 rfl rfl rfl rfl rfl hg2 ?_))))); refine p_f rfl rfl (bf2 hg2) rfl ?_; refine a5 rfl (k5 rfl rfl rfl rfl rfl rfl (k5 rfl rfl rfl rfl rfl rfl (p_f rfl rfl rfl rfl (b3 ?_)))); exact J4 _ () trivial ⟨rfl, rfl, congrArg (fun b => some (Value.bool b)) (by simp only [lineBad]; simp [*, Int.not_le, Int.not_lt, Int.not_lt.2, Int.not_le.2]), trivial⟩ (.refl _) trivial
   intro hg1; have hg1' := hg1; try simp at hg1'
   refine k5 rfl rfl rfl rfl rfl hg1 (k5 rfl rfl rfl rfl rfl hg1 ?_); refine p_t rfl rfl (bt2 hg1) rfl ?_; refine a5 rfl (c9 rfl rfl rfl (a5 rfl (c9 rfl rfl rfl (r6 rfl rfl rfl (c9 rfl rfl rfl (a5 rfl ?_)))))); refine l3 rfl rfl ?_ ?_
   ·intro hg5; have hg5' := hg5; try simp at hg5'
    refine c9 rfl rfl hg5 (a5 rfl (c9 rfl rfl hg5 (v9 rfl rfl rfl (c9 rfl rfl rfl ?_)))); refine p_f rfl rfl (bf1 hg5) rfl ?_; refine p_t rfl rfl rfl rfl (a5 rfl ?_); refine l3 rfl rfl ?_ ?_
    ·intro hg6; have hg6' := hg6; try simp at hg6'
     refine c9 rfl rfl hg6 (a5 rfl (c9 rfl rfl hg6 (u9 rfl rfl rfl ?_))); refine p_t rfl rfl (bt1 hg6) rfl ?_; refine b3 ?_; exact J4 _ () trivial ⟨rfl, rfl, congrArg (fun b => some (Value.bool b)) (by simp only [lineBad]; simp [*, Int.not_le, Int.not_lt, Int.not_lt.2, Int.not_le.2]), trivial⟩ (.refl _) trivial
    intro hg6; have hg6' := hg6; try simp at hg6'
    refine k5 rfl rfl rfl rfl rfl hg6 (k5 rfl rfl rfl rfl rfl hg6 ?_); refine p_f rfl rfl (bf2 hg6) rfl ?_; refine b3 ?_; exact J4 _ () trivial ⟨rfl, rfl, congrArg (fun b => some (Value.bool b)) (by simp only [lineBad]; simp [*, Int.not_le, Int.not_lt, Int.not_lt.2, Int.not_le.2]), trivial⟩ (.refl _) trivial
   intro hg5; have hg5' := hg5; try simp at hg5'
   refine k5 rfl rfl rfl rfl rfl hg5 (k5 rfl rfl rfl rfl rfl hg5 (c9 rfl rfl rfl ?_)); refine p_t rfl rfl (bt2 hg5) rfl ?_; refine p_t rfl rfl rfl rfl (a5 rfl (c9 rfl rfl rfl (a5 rfl (c9 rfl rfl rfl (u9 rfl rfl rfl (p_t rfl rfl rfl rfl (b3 ?_))))))); exact J4 _ () trivial ⟨rfl, rfl, congrArg (fun b => some (Value.bool b)) (by simp only [lineBad]; simp [*, Int.not_le, Int.not_lt, Int.not_lt.2, Int.not_le.2]), trivial⟩ (.refl _) trivial
  refine fun _ _ => ?_
  first | refine i8 rfl (fun hb4 => ?_) (fun hb4 => ?_) | refine b9 rfl (fun hb4 => ?_) (fun hb4 => ?_)
  ·have hb4' := hb4; try simp at hb4'
   refine a9 (a8 rfl (a7 (i6 (t5 (l6 (t5 ?_)))))); exact ret1 () rfl (congrArg (fun b => some (int b)) (by simp [lineErr, hb1, hb2, cx4 hb3 hb4])) rfl trivial (.refl _) trivial
  have hb4' := hb4; try simp at hb4'
  refine c3 (q9 (b6 (c6 (a5 rfl ?_)))); refine p7 _ rfl rfl rfl rfl l9 ?_; refine a8 rfl (b3 ?_); exact again _ (k + 1) ⟨by omega, yG hb3 ht hb4⟩ (y5 (by omega)) mC (.refl _) trivial
 have hb3' := hb3; try simp at hb3'
 have hb3 : k = s.length := by omega
 subst hb3; rw [List.take_length] at ht; refine n5 (y6 (n4 (b6 (b5 (a9 (a5 rfl ?_)))))); refine q7 0 rfl T.i2 rfl rfl rfl (List.getElem?_eq_getElem (by omega)) ?_; refine t8 rfl rfl rfl (a5 rfl ?_); refine l3 rfl rfl ?_ ?_
 ·intro hg7; have hg7' := hg7; try simp at hg7'
  have h4 : ¬ s[0]'(by omega) = 32 := fun e => hg7' ((R9 (n := 32) (by decide)).2 e); refine c9 rfl rfl hg7 (a5 rfl (c9 rfl rfl hg7 (a5 rfl (c9 rfl rfl hg7 ?_)))); refine l4 rfl T.i2 rfl (c9 rfl rfl hg7 (Z5 ((s.length - 1 : Nat) : Int) rfl rfl rfl (by omega) l9 (c9 rfl rfl hg7 ?_))); refine q7 _ rfl T.i2 rfl rfl rfl (List.getElem?_eq_getElem (by omega)) ?_; refine c9 rfl rfl hg7 (t8 rfl rfl rfl ?_); refine p_f rfl rfl (bf1 hg7) rfl ?_; refine a7 ?_
  first | refine i8 rfl (fun hb5 => ?_) (fun hb5 => ?_) | refine b9 rfl (fun hb5 => ?_) (fun hb5 => ?_)
  ·have hb5' := hb5; try simp at hb5'
   have h5 : s[s.length - 1]'(by omega) = 32 := (R9 (n := 32) (by decide)).1 hb5; refine a9 (a8 rfl (a7 (s6 ?_))); exact ret1 () rfl (congrArg (fun b => some (int b)) (by simp [lineErr, hb1, hb2, ht, (zW (s := s) (by omega) 32).2 h5])) rfl trivial (.refl _) trivial
  have hb5' := hb5; try simp at hb5'
  have h5 : ¬ s[s.length - 1]'(by omega) = 32 := fun e => hb5 ((R9 (n := 32) (by decide)).2 e); refine c3 (b6 (a9 (a8 rfl (a7 (i6 ?_))))); exact ret1 () rfl (congrArg (fun b => some (int b)) (by simp [lineErr, hb1, hb2, ht, mt (zW (s := s) (by omega) 32).1 h5, mt (zZ (s := s) (by omega) 32).1 h4])) rfl trivial (.refl _) trivial
 intro hg7; have hg7' := hg7; try simp at hg7'
 refine k5 rfl rfl rfl rfl rfl hg7 (k5 rfl rfl rfl rfl rfl hg7 (k5 rfl rfl rfl rfl rfl hg7 (k5 rfl rfl rfl rfl rfl hg7 (k5 rfl rfl rfl rfl rfl hg7 (k5 rfl rfl rfl rfl rfl hg7 ?_))))); refine p_t rfl rfl (bt2 hg7) rfl ?_; refine a7 (c_t rfl rfl (a9 (a8 rfl (a7 (s6 ?_))))); exact ret1 () rfl (congrArg (fun b => some (int b)) (by simp [lineErr, hb1, hb2, ht, (zZ (s := s) (by omega) 32).2 ((R9 (n := 32) (by decide)).1 hg7')])) rfl trivial (.refl _) trivial
theorem P8 (s : Str) :
    Meets Tryz.prog F.U4 [str s] { val := fun _ : Unit => int (lineErr s) } := by
 refine c4 F.lD rfl l5 fun w0 => ?_; refine a9 (a8 rfl (a7 (b5 (a9 (a5 rfl ?_))))); refine l4 rfl T.i2 rfl ?_; refine t8 rfl rfl rfl (a7 ?_)
 first | refine i8 rfl (fun hb1 => ?_) (fun hb1 => ?_) | refine b9 rfl (fun hb1 => ?_) (fun hb1 => ?_)
 ·have hb1' := hb1; try simp at hb1'
  have hb1 : s.length = 0 := by omega
  refine a9 (a8 rfl (a7 (s6 ?_))); exact ret1 () rfl (congrArg (fun b => some (int b)) (by simp [lineErr, hb1])) rfl trivial (.refl _) trivial
 have hb1' := hb1; try simp at hb1'
 have hb1 : ¬ s.length = 0 := by omega
 refine c3 (b6 (b5 (a9 (a5 rfl ?_)))); refine l4 rfl T.i2 rfl ?_; refine v9 rfl rfl rfl (a7 ?_)
 first | refine i8 rfl (fun hb2 => ?_) (fun hb2 => ?_) | refine b9 rfl (fun hb2 => ?_) (fun hb2 => ?_)
 ·have hb2' := hb2; try simp at hb2'
  have hb2 : 10 < s.length := by omega
  refine a9 (a8 rfl (a7 (s6 ?_))); exact ret1 () rfl (congrArg (fun b => some (int b)) (by simp [lineErr, hb1, hb2])) rfl trivial (.refl _) trivial
 have hb2' := hb2; try simp at hb2'
 have hb2 : ¬ 10 < s.length := by omega
 refine c3 (b6 (b5 (a9 (a5 rfl ?_)))); refine zV rfl T.i2 T.B5 T.uY rfl fun gb cap => ?_; refine j9 rfl T.B5 rfl ?_; refine a5 rfl (a7 (j0 ?_)); refine s9 (β := Nat) ⟨fun k => k ≤ s.length ∧ (s.take k).any lineBad = false, fun k => [(0, str s), (12, .slice (j4 gb) s.length cap), (13, int s.length), (14, int k)], fun _ => [], fun _ => [Row (j4 gb) (rows s)]⟩ (fun k => s.length - k) 0 ⟨Nat.zero_le _, rfl⟩ mC (.refl _) ⟨m0, trivial⟩ fun k hk => ?_; obtain ⟨hk, ht⟩ := hk; refine a9 (r6 rfl rfl rfl (a7 (b5 ?_)))
 first | refine i8 rfl (fun hb3 => ?_) (fun hb3 => ?_) | refine b9 rfl (fun hb3 => ?_) (fun hb3 => ?_)
 ·have hb3' := hb3; try simp at hb3'
  have hb3 : k < s.length := by omega
  refine c3 (b6 (b5 (j0 (a9 ?_)))); refine r7 (α := UInt8) _ _ rfl T.B5 T.sz_u8 rfl rfl rfl mB rfl (by omega) (by decide) ?_; refine a4 rfl T.aj3 rfl (c5 m0 (b4 hb3 (by rw [B1 hb3]; rfl))) ?_; refine a8 rfl (a7 ?_); refine aS ⟨fun _ : Unit => True, fun _ => [(0, str s), (12, .slice (j4 gb) s.length cap), (13, int s.length), (14, int k), (35, .bool (lineBad s[k]))], fun _ => [], fun _ => [Row (j4 gb) (rows s)]⟩ ?_ ?_
  ·skip
   refine c6 (a5 rfl (r6 rfl rfl rfl (a5 rfl ?_))); refine l3 rfl rfl ?_ ?_
   ·intro hg1; have hg1' := hg1; try simp at hg1'
    refine c9 rfl rfl hg1 (a5 rfl (c9 rfl rfl hg1 (v9 rfl rfl rfl ?_))); refine p_f rfl rfl (bf1 hg1) rfl (a5 rfl ?_); refine l3 rfl rfl ?_ ?_
    ·intro hg2; have hg2' := hg2; try simp at hg2'
     refine c9 rfl rfl hg2 (a5 rfl (c9 rfl rfl hg2 (r6 rfl rfl rfl (c9 rfl rfl hg2 (a5 rfl ?_))))); refine l3 rfl rfl ?_ ?_
     ·intro hg3; have hg3' := hg3; try simp at hg3'
      refine c9 rfl rfl hg3 (a5 rfl (c9 rfl rfl hg3 (v9 rfl rfl rfl (c9 rfl rfl hg2 ?_)))); refine p_f rfl rfl (bf1 hg3) rfl (p_t rfl rfl (bt1 hg2) rfl (a5 rfl ?_)); refine l3 rfl rfl ?_ ?_
      ·intro hg4; have hg4' := hg4; try simp at hg4'
       refine c9 rfl rfl hg4 (a5 rfl (c9 rfl rfl hg4 (u9 rfl rfl rfl ?_))); refine p_t rfl rfl (bt1 hg4) rfl ?_; refine b3 ?_; exact J4 _ () trivial ⟨rfl, rfl, rfl, rfl, congrArg (fun b => some (Value.bool b)) (by simp only [lineBad]; simp [*, Int.not_le, Int.not_lt, Int.not_lt.2, Int.not_le.2]), trivial⟩ (.refl _) ⟨m0, trivial⟩
      intro hg4; have hg4' := hg4; try simp at hg4'
      refine k5 rfl rfl rfl rfl rfl hg4 (k5 rfl rfl rfl rfl rfl hg4 ?_); refine p_f rfl rfl (bf2 hg4) rfl ?_; refine b3 ?_; exact J4 _ () trivial ⟨rfl, rfl, rfl, rfl, congrArg (fun b => some (Value.bool b)) (by simp only [lineBad]; simp [*, Int.not_le, Int.not_lt, Int.not_lt.2, Int.not_le.2]), trivial⟩ (.refl _) ⟨m0, trivial⟩
     intro hg3; have hg3' := hg3; try simp at hg3'
     refine k5 rfl rfl rfl rfl rfl hg3 (k5 rfl rfl rfl rfl rfl hg3 (c9 rfl rfl hg2 ?_)); refine p_t rfl rfl (bt2 hg3) rfl (p_t rfl rfl (bt1 hg2) rfl ?_); refine a5 rfl (c9 rfl rfl rfl (a5 rfl (c9 rfl rfl rfl (u9 rfl rfl rfl (p_t rfl rfl rfl rfl (b3 ?_)))))); exact J4 _ () trivial ⟨rfl, rfl, rfl, rfl, congrArg (fun b => some (Value.bool b)) (by simp only [lineBad]; simp [*, Int.not_le, Int.not_lt, Int.not_lt.2, Int.not_le.2]), trivial⟩ (.refl _) ⟨m0, trivial⟩
    intro hg2; have hg2' := hg2; try simp at hg2'
    refine k5 rfl rfl rfl rfl rfl hg2 (k5 rfl rfl rfl rfl rfl hg2 (k5 rfl rfl rfl rfl rfl hg2 (L4 rfl rfl rfl rfl rfl rfl (L4 rfl rfl rfl rfl rfl rfl (k5 rfl rfl rfl rfl rfl hg2 ?_))))); refine p_f rfl rfl (bf2 hg2) rfl ?_; refine a5 rfl (k5 rfl rfl rfl rfl rfl rfl (k5 rfl rfl rfl rfl rfl rfl (p_f rfl rfl rfl rfl (b3 ?_)))); exact J4 _ () trivial ⟨rfl, rfl, rfl, rfl, congrArg (fun b => some (Value.bool b)) (by simp only [lineBad]; simp [*, Int.not_le, Int.not_lt, Int.not_lt.2, Int.not_le.2]), trivial⟩ (.refl _) ⟨m0, trivial⟩
   intro hg1; have hg1' := hg1; try simp at hg1'
   refine k5 rfl rfl rfl rfl rfl hg1 (k5 rfl rfl rfl rfl rfl hg1 ?_); refine p_t rfl rfl (bt2 hg1) rfl ?_; refine a5 rfl (c9 rfl rfl rfl (a5 rfl (c9 rfl rfl rfl (r6 rfl rfl rfl (c9 rfl rfl rfl (a5 rfl ?_)))))); refine l3 rfl rfl ?_ ?_
   ·intro hg5; have hg5' := hg5; try simp at hg5'
    refine c9 rfl rfl hg5 (a5 rfl (c9 rfl rfl hg5 (v9 rfl rfl rfl (c9 rfl rfl rfl ?_)))); refine p_f rfl rfl (bf1 hg5) rfl ?_; refine p_t rfl rfl rfl rfl (a5 rfl ?_); refine l3 rfl rfl ?_ ?_
    ·intro hg6; have hg6' := hg6; try simp at hg6'
     refine c9 rfl rfl hg6 (a5 rfl (c9 rfl rfl hg6 (u9 rfl rfl rfl ?_))); refine p_t rfl rfl (bt1 hg6) rfl ?_; refine b3 ?_; exact J4 _ () trivial ⟨rfl, rfl, rfl, rfl, congrArg (fun b => some (Value.bool b)) (by simp only [lineBad]; simp [*, Int.not_le, Int.not_lt, Int.not_lt.2, Int.not_le.2]), trivial⟩ (.refl _) ⟨m0, trivial⟩
    intro hg6; have hg6' := hg6; try simp at hg6'
    refine k5 rfl rfl rfl rfl rfl hg6 (k5 rfl rfl rfl rfl rfl hg6 ?_); refine p_f rfl rfl (bf2 hg6) rfl ?_; refine b3 ?_; exact J4 _ () trivial ⟨rfl, rfl, rfl, rfl, congrArg (fun b => some (Value.bool b)) (by simp only [lineBad]; simp [*, Int.not_le, Int.not_lt, Int.not_lt.2, Int.not_le.2]), trivial⟩ (.refl _) ⟨m0, trivial⟩
   intro hg5; have hg5' := hg5; try simp at hg5'
   refine k5 rfl rfl rfl rfl rfl hg5 (k5 rfl rfl rfl rfl rfl hg5 (c9 rfl rfl rfl ?_)); refine p_t rfl rfl (bt2 hg5) rfl ?_; refine p_t rfl rfl rfl rfl (a5 rfl (c9 rfl rfl rfl (a5 rfl (c9 rfl rfl rfl (u9 rfl rfl rfl (p_t rfl rfl rfl rfl (b3 ?_))))))); exact J4 _ () trivial ⟨rfl, rfl, rfl, rfl, congrArg (fun b => some (Value.bool b)) (by simp only [lineBad]; simp [*, Int.not_le, Int.not_lt, Int.not_lt.2, Int.not_le.2]), trivial⟩ (.refl _) ⟨m0, trivial⟩
  refine fun _ _ => ?_
  first | refine i8 rfl (fun hb4 => ?_) (fun hb4 => ?_) | refine b9 rfl (fun hb4 => ?_) (fun hb4 => ?_)
  ·have hb4' := hb4; try simp at hb4'
   refine a9 (a8 rfl (a7 (i6 (t5 (l6 (t5 ?_)))))); exact ret1 () rfl (congrArg (fun b => some (int b)) (by simp [lineErr, hb1, hb2, cx4 hb3 hb4])) rfl trivial (.refl _) trivial
  have hb4' := hb4; try simp at hb4'
  refine c3 (q9 (b6 (c6 ?_))); refine p7 _ rfl rfl rfl rfl l9 ?_; refine a5 rfl (b3 ?_); exact again _ (k + 1) ⟨by omega, yG hb3 ht hb4⟩ (y5 (by omega)) mC (.refl _) ⟨m0, trivial⟩
 have hb3' := hb3; try simp at hb3'
 have hb3 : k = s.length := by omega
 subst hb3; rw [List.take_length] at ht; refine n5 (y6 (n4 (b6 (b5 (a9 (a5 rfl ?_)))))); refine d6 F.dS rfl rfl (bC s [32] (by omega) (by decide)) (.refl _) trivial fun _ _ => ?_; refine a5 rfl ?_; refine l3 rfl rfl ?_ ?_
 ·intro hg7; have hg7' := hg7; try simp at hg7'
  have hp1 := of_decide_eq_false (bf1 hg7); simp only [List.length_cons, List.length_nil] at hp1; have hp1 : ¬ s.take 1 = [32] := fun e => hp1 ⟨by omega, e⟩; refine c9 rfl rfl hg7 (a5 rfl (c9 rfl rfl hg7 ?_)); refine d6 F.dR rfl rfl (bB s [32] (by omega) (by decide)) (.refl _) trivial fun _ _ => ?_; refine p_f rfl rfl (bf1 hg7) rfl ?_; refine a7 ?_
  first | refine i8 rfl (fun hb5 => ?_) (fun hb5 => ?_) | refine b9 rfl (fun hb5 => ?_) (fun hb5 => ?_)
  ·have hb5' := hb5; try simp at hb5'
   have h5 := hb5; simp only [List.length_cons, List.length_nil] at h5; refine a9 (a8 rfl (a7 (s6 ?_))); exact ret1 () rfl (congrArg (fun b => some (int b)) (by simp [lineErr, hb1, hb2, ht, h5.2])) rfl trivial (.refl _) trivial
  have hb5' := hb5; try simp at hb5'
  have h5 := hb5; simp only [List.length_cons, List.length_nil] at h5; have h5 : ¬ s.drop (s.length - 1) = [32] := fun e => h5 ⟨by omega, e⟩; refine c3 (b6 (a9 (a8 rfl (a7 (i6 ?_))))); exact ret1 () rfl (congrArg (fun b => some (int b)) (by simp only [lineErr]; rw [if_neg hb1, if_neg hb2, ht, if_neg (by simp), if_neg (by simp [hp1, h5])])) rfl trivial (.refl _) trivial
 intro hg7; have hg7' := hg7; try simp at hg7'
 have hp1 := of_decide_eq_true (bt2 hg7); simp only [List.length_cons, List.length_nil] at hp1; refine k5 rfl rfl rfl rfl rfl hg7 (k5 rfl rfl rfl rfl rfl hg7 ?_); refine p_t rfl rfl (bt2 hg7) rfl ?_; refine a7 (c_t rfl rfl (a9 (a8 rfl (a7 (s6 ?_))))); exact ret1 () rfl (congrArg (fun b => some (int b)) (by simp [lineErr, hb1, hb2, ht, hp1.2])) rfl trivial (.refl _) trivial
theorem hO {α : Type} [Inhabited α] {f : α → Int} {l : List α} {k : Nat} (hk : k < l.length) (h : firstErr f (l.take k) = 0) : firstErr f (l.take (k + 1)) = f (l.getD k default) := by rw [R8 hk h, B1 hk]
theorem mJ {α : Type} [Inhabited α] {f : α → Int} {l : List α} {k : Nat} (hk : k < l.length) (h : firstErr f (l.take k) = 0) (h1 : ¬ f (l.getD k default) = 0) : firstErr f l = f (l.getD k default) := by
  rw [B1 hk] at h1 ⊢; exact G0 hk h h1
def textErr (m : Mk) : Int := if ¬ m.1 = 3 then lineErr m.2.2 else if ¬ m.2.2 = [] then 2 else 0
def mErr (n : Nat) (m : Mk) (k : Nat) (b : Mk) : Int :=
  if m.1 < 1 ∨ 3 < m.1 then 8 else if m.2.1 < 0 ∨ (n : Int) - 1 + (if m.1 = 1 then 1 else 0) < m.2.1 then 3 else if ¬ textErr m = 0 then textErr m else if k = 0 then 0 else
  if m.2.1 < b.2.1 then 5 else if b.2.1 < m.2.1 ∨ b.1 = 1 then 0 else if m.1 = 1 then 5 else 4
def markErr (n : Nat) (l : List Mk) (k : Nat) : Int := mErr n (l.getD k default) k (l.getD (k - 1) default)
def marksErr (n : Nat) (l : List Mk) : Int := if 12 < l.length then 6 else firstErr (markErr n l) (List.range l.length)
theorem Q5 {n : Nat} {l : List Mk} {k : Nat} (ht : firstErr (markErr n l) (List.range k) = 0) (h0 : mErr n (l.getD k default) k (l.getD (k - 1) default) = 0) : firstErr (markErr n l) (List.range (k + 1)) = 0 := by
  have h1 : (List.range (k + 1)).take k = List.range k := by rw [List.take_range]; simp
  have := R8 (f := markErr n l) (l := List.range (k + 1)) (k := k) (by simp) (by rw [h1]; exact ht); rw [List.take_of_length_le (by simp)] at this; rw [this]
  simpa [markErr] using h0
theorem D3 {n : Nat} {l : List Mk} {k : Nat} {e : Int} (h12 : ¬ 12 < l.length) (hk : k < l.length) (ht : firstErr (markErr n l) (List.range k) = 0) (h0 : mErr n (l.getD k default) k (l.getD (k - 1) default) = e) (he : ¬ e = 0) : marksErr n l = e := by
  have h1 : (List.range l.length).take k = List.range k := by rw [List.take_range, Nat.min_eq_left (Nat.le_of_lt hk)]
  have := G0 (f := markErr n l) (l := List.range l.length) (k := k) (by simpa using hk) (by rw [h1]; exact ht) (by simp only [List.getElem_range]; unfold markErr; rw [h0]; exact he); rw [marksErr, if_neg h12, this]; simp only [List.getElem_range]; exact h0
theorem aq9 {n : Nat} {l : List Mk} {k : Nat} (h12 : ¬ 12 < l.length) (hk : k = l.length) (ht : firstErr (markErr n l) (List.range k) = 0) : marksErr n l = 0 := by
  subst hk; rw [marksErr, if_neg h12, ht]
def checkErr (p : List Str) (l : List Mk) : Int := if pageErr p = 0 then marksErr p.length l else pageErr p
theorem A1 {A : Option Addr} {c : Nat} (p : List Str) :
    Meets Tryz.prog F.gP [.slice A p.length c] { LI := [Row A (rows p)], val := fun _ : Unit => int (pageErr p) } := by
 refine c4 F.tL rfl l5 fun w0 => ?_; refine a9 (a8 rfl (a7 (b5 (a9 (a5 rfl ?_))))); refine j9 rfl T.u5 rfl ?_; refine v9 rfl rfl rfl (a7 ?_)
 first | refine i8 rfl (fun hb1 => ?_) (fun hb1 => ?_) | refine b9 rfl (fun hb1 => ?_) (fun hb1 => ?_)
 ·have hb1' := hb1; try simp at hb1'
  have hb1 : 6 < p.length := by omega
  refine a9 (a8 rfl (a7 (s6 ?_))); exact ret1 () rfl (congrArg (fun b => some (int b)) (by rw [pageErr, if_pos hb1])) rfl trivial i1 trivial
 have hb1' := hb1; try simp at hb1'
 have hb1 : ¬ 6 < p.length := by omega
 refine c3 (b6 (b5 (a9 (a5 rfl ?_)))); refine j9 rfl T.u5 rfl ?_; refine a5 rfl (a7 (j0 ?_)); refine s9 (β := Nat) ⟨fun k => k ≤ p.length ∧ firstErr lineErr (p.take k) = 0, fun k => [(9, .slice A p.length c), (10, int p.length), (11, int k)], fun _ => [], fun _ => [Row A (rows p)]⟩ (fun k => p.length - k) 0 ⟨Nat.zero_le _, rfl⟩ mC (.refl _) ⟨m0, trivial⟩ fun k hk => ?_; obtain ⟨hk, ht⟩ := hk; refine a9 (r6 rfl rfl rfl (a7 (b5 ?_)))
 first | refine i8 rfl (fun hb2 => ?_) (fun hb2 => ?_) | refine b9 rfl (fun hb2 => ?_) (fun hb2 => ?_)
 ·have hb2' := hb2; try simp at hb2'
  have hb2 : k < p.length := by omega
  refine c3 (b6 (b5 (j0 (a9 ?_)))); refine r7 (α := Str) _ _ rfl T.u5 T.v8 rfl rfl rfl mB rfl (by omega) (by decide) (a4 rfl T.j1 rfl (c5 mB (b4 (by omega) rfl)) ?_); refine a8 rfl (k9 (a5 rfl ?_)); refine d6 F.Y2 rfl rfl (P8 (p.getD k default)) (.refl _) trivial fun _ _ => ?_; refine a8 rfl (k9 (a5 rfl (u9 rfl rfl rfl (a7 ?_))))
  first | refine i8 rfl (fun hb3 => ?_) (fun hb3 => ?_) | refine b9 rfl (fun hb3 => ?_) (fun hb3 => ?_)
  ·have hb3' := hb3; try simp at hb3'
   refine a9 (a5 rfl (a8 rfl (a7 (i6 (t5 (l6 (t5 ?_))))))); exact ret1 () rfl (congrArg (fun b => some (int b)) (by rw [pageErr, if_neg hb1, mJ hb2 ht hb3])) rfl trivial i1 trivial
  have hb3' := hb3; try simp at hb3'
  refine c3 (q9 (b6 (c6 ?_))); refine p7 _ rfl rfl rfl rfl l9 ?_; refine a5 rfl (b3 ?_); exact again _ (k + 1) ⟨by omega, by rw [hO hb2 ht]; omega⟩ (y5 (by omega)) mC (.refl _) ⟨m0, trivial⟩
 have hb2' := hb2; try simp at hb2'
 have hb2 : k = p.length := by omega
 subst hb2; rw [List.take_length] at ht; refine n5 (y6 (n4 (b6 (a9 (a8 rfl (a7 (i6 ?_))))))); exact ret1 () rfl (congrArg (fun b => some (int b)) (by rw [pageErr, if_neg hb1, ht])) rfl trivial i1 trivial
theorem C1 (m : Mk) : Meets Tryz.prog F.U2 [.agg #[int m.1, int m.2.1, str m.2.2]] { val := fun _ : Unit => int (textErr m) } := by
 refine c4 F.kZ rfl l5 fun w0 => ?_; refine a9 ?_; refine J9 rfl rfl fun gB => ?_; refine a8 rfl (a7 (b5 (a9 ?_)))
 first | refine a3 ⟨_, 0, none⟩ rfl rfl T.d9 rfl ?_ | refine a3 _ rfl rfl T.d9 rfl ?_
 first | refine a4 rfl T.a6 rfl (b7 mB rfl) ?_ | refine a4 rfl T.a6 rfl (c8 mB rfl) ?_ | refine a4 rfl T.a6 rfl (c5 mB (b4 (by omega) rfl)) ?_ | refine a4 rfl T.a6 rfl (b8 mB (rows_get (by omega) rfl)) ?_
 refine u9 rfl rfl rfl (a7 ?_)
 first | refine i8 rfl (fun hb1 => ?_) (fun hb1 => ?_) | refine b9 rfl (fun hb1 => ?_) (fun hb1 => ?_)
 ·have hb1' := hb1; try simp at hb1'
  refine a9 ?_
  first | refine a3 ⟨_, 2, none⟩ rfl rfl T.k6 rfl ?_ | refine a3 _ rfl rfl T.k6 rfl ?_
  first | refine a4 rfl T.j1 rfl (b7 mB rfl) ?_ | refine a4 rfl T.j1 rfl (c8 mB rfl) ?_ | refine a4 rfl T.j1 rfl (c5 mB (b4 (by omega) rfl)) ?_ | refine a4 rfl T.j1 rfl (b8 mB (rows_get (by omega) rfl)) ?_
  refine d6 F.Y2 rfl rfl (P8 m.2.2) n6 trivial fun _ _ => ?_; refine a8 rfl (a7 (s6 ?_)); exact ret1 () rfl (congrArg (fun b => some (int b)) (by rw [textErr, if_pos hb1])) rfl trivial i1 trivial
 have hb1' := hb1; try simp at hb1'
 refine c3 (b6 (b5 (a9 ?_)))
 first | refine a3 ⟨_, 2, none⟩ rfl rfl T.k6 rfl ?_ | refine a3 _ rfl rfl T.k6 rfl ?_
 first | refine a4 rfl T.j1 rfl (b7 mB rfl) ?_ | refine a4 rfl T.j1 rfl (c8 mB rfl) ?_ | refine a4 rfl T.j1 rfl (c5 mB (b4 (by omega) rfl)) ?_ | refine a4 rfl T.j1 rfl (b8 mB (rows_get (by omega) rfl)) ?_
 refine jO rfl rfl rfl (a7 ?_)
 first | refine i8 rfl (fun hb2 => ?_) (fun hb2 => ?_) | refine b9 rfl (fun hb2 => ?_) (fun hb2 => ?_)
 ·have hb2' := hb2; try simp at hb2'
  refine a9 (a8 rfl (a7 (s6 ?_))); exact ret1 () rfl (congrArg (fun b => some (int b)) (by rw [textErr, if_neg hb1, if_pos hb2])) rfl trivial i1 trivial
 have hb2' := hb2; try simp at hb2'
 refine c3 (b6 (a9 (a8 rfl (a7 (i6 ?_))))); exact ret1 () rfl (congrArg (fun b => some (int b)) (by rw [textErr, if_neg hb1, if_neg hb2])) rfl trivial i1 trivial
theorem cU {A B : Option Addr} {n ca cb : Nat} (l : List Mk) (hn : n ≤ 1000000) :
    Meets Tryz.prog F.Q3 [.slice A n ca, .slice B l.length cb] { LI := [Row B (rows l)], val := fun _ : Unit => int (marksErr n l) } := by
 refine c4 F.jT rfl l5 fun w0 => ?_; refine a9 (a8 rfl (a7 (b5 (a9 (a5 rfl ?_))))); refine j9 rfl T.j3 rfl ?_; refine v9 rfl rfl rfl (a7 ?_)
 first | refine i8 rfl (fun hb1 => ?_) (fun hb1 => ?_) | refine b9 rfl (fun hb1 => ?_) (fun hb1 => ?_)
 ·have hb1' := hb1; try simp at hb1'
  have h12 : 12 < l.length := by omega
  refine a9 (a8 rfl (a7 (s6 ?_))); exact ret1 () rfl (congrArg (fun b => some (int b)) (by rw [marksErr, if_pos h12])) rfl trivial i1 trivial
 have hb1' := hb1; try simp at hb1'
 have h12 : ¬ 12 < l.length := by omega
 refine c3 (b6 (b5 (a9 (a5 rfl ?_)))); refine j9 rfl T.j3 rfl ?_; refine a5 rfl (a7 (j0 ?_)); refine s9 (β := Nat) ⟨fun k => k ≤ l.length ∧ firstErr (markErr n l) (List.range k) = 0, fun k => [(0, .slice A n ca), (1, .slice B l.length cb), (13, .slice B l.length cb), (14, int l.length), (15, int k)], fun _ => [], fun _ => [Row B (rows l)]⟩ (fun k => l.length - k) 0 ⟨Nat.zero_le _, rfl⟩ mC (.refl _) ⟨m0, trivial⟩ fun k hk => ?_; obtain ⟨hk, ht⟩ := hk; refine a9 (r6 rfl rfl rfl (a7 (b5 ?_)))
 first | refine i8 rfl (fun hb2 => ?_) (fun hb2 => ?_) | refine b9 rfl (fun hb2 => ?_) (fun hb2 => ?_)
 ·have hb2' := hb2; try simp at hb2'
  have hk2 : k < l.length := by omega
  refine c3 (b6 (b5 (j0 (a9 (a5 rfl ?_))))); refine r7 (α := Mk) _ _ rfl T.j3 T.c7 rfl rfl rfl mB rfl (by omega) (by decide) (r8 rfl T.j2 T.c7 rfl rfl (n3 mB (q8 (by omega))) ?_); refine r9 rfl (fun _ => T.u1 _) fun gA => ?_; refine a8 rfl ?_; refine n1 rfl rfl (by first | exact .refl _ | exact perm2 _ _ _ | exact perm3 _ _ _ _ | exact perm4 _ _ _ _ _) T.c7 (by rfl) (by rfl) ?_; refine a7 (kK ?_); generalize hm : l.getD k default = m; refine c6 ?_
  first | refine a3 ⟨_, 0, none⟩ rfl rfl T.d9 rfl ?_ | refine a3 _ rfl rfl T.d9 rfl ?_
  first | refine a4 rfl T.a6 rfl (b7 mB rfl) ?_ | refine a4 rfl T.a6 rfl (c8 mB rfl) ?_ | refine a4 rfl T.a6 rfl (c5 mB (b4 (by omega) rfl)) ?_ | refine a4 rfl T.a6 rfl (b8 mB (rows_get (by omega) rfl)) ?_
  refine r6 rfl rfl rfl (a5 rfl ?_); refine l3 rfl rfl ?_ ?_
  ·intro hg1; have hg1' := hg1; try simp at hg1'
   refine c9 rfl rfl hg1 ?_
   first | refine a3 ⟨_, 0, none⟩ rfl rfl T.d9 rfl ?_ | refine a3 _ rfl rfl T.d9 rfl ?_
   refine c9 rfl rfl hg1 ?_
   first | refine a4 rfl T.a6 rfl (b7 mB rfl) ?_ | refine a4 rfl T.a6 rfl (c8 mB rfl) ?_ | refine a4 rfl T.a6 rfl (c5 mB (b4 (by omega) rfl)) ?_ | refine a4 rfl T.a6 rfl (b8 mB (rows_get (by omega) rfl)) ?_
   refine c9 rfl rfl hg1 (v9 rfl rfl rfl ?_); refine p_f rfl rfl (bf1 hg1) rfl ?_; refine a7 ?_
   first | refine i8 rfl (fun hb3 => ?_) (fun hb3 => ?_) | refine b9 rfl (fun hb3 => ?_) (fun hb3 => ?_)
   ·have hb3' := hb3; try simp at hb3'
    refine a9 (a8 rfl (a7 (s6 (t5 (l6 (t5 ?_)))))); exact ret1 () rfl (congrArg (fun b => some (int b)) (by refine (D3 h12 hk2 ht (e := 8) (by first | (exfalso; omega) | (rw [hm]; (try rw [hm2]); unfold mErr; (repeat (first | rw [if_pos (by omega)] | rw [if_neg (by omega)])); done)) (by omega)).symm)) rfl trivial i1 trivial
   have hb3' := hb3; try simp at hb3'
   refine c3 (b6 (a9 (a5 rfl ?_))); refine j9 rfl T.u5 rfl (Z5 _ rfl rfl rfl rfl l9 ?_); refine a8 rfl (a7 (b5 (a9 ?_)))
   first | refine a3 ⟨_, 0, none⟩ rfl rfl T.d9 rfl ?_ | refine a3 _ rfl rfl T.d9 rfl ?_
   first | refine a4 rfl T.a6 rfl (b7 mB rfl) ?_ | refine a4 rfl T.a6 rfl (c8 mB rfl) ?_ | refine a4 rfl T.a6 rfl (c5 mB (b4 (by omega) rfl)) ?_ | refine a4 rfl T.a6 rfl (b8 mB (rows_get (by omega) rfl)) ?_
   refine t8 rfl rfl rfl (a7 ?_)
   first | refine i8 rfl (fun hb4 => ?_) (fun hb4 => ?_) | refine b9 rfl (fun hb4 => ?_) (fun hb4 => ?_)
   ·have hb4' := hb4; try simp at hb4'
    refine c6 (a5 rfl ?_); refine p7 _ rfl rfl rfl rfl l9 ?_; refine a8 rfl (a7 (b5 (a9 ?_)))
    first | refine a3 ⟨_, 1, none⟩ rfl rfl T.d8 rfl ?_ | refine a3 _ rfl rfl T.d8 rfl ?_
    first | refine a4 rfl T.a6 rfl (b7 mB rfl) ?_ | refine a4 rfl T.a6 rfl (c8 mB rfl) ?_ | refine a4 rfl T.a6 rfl (c5 mB (b4 (by omega) rfl)) ?_ | refine a4 rfl T.a6 rfl (b8 mB (rows_get (by omega) rfl)) ?_
    refine r6 rfl rfl rfl (a5 rfl ?_); refine l3 rfl rfl ?_ ?_
    ·intro hg2; have hg2' := hg2; try simp at hg2'
     refine c9 rfl rfl hg2 ?_
     first | refine a3 ⟨_, 1, none⟩ rfl rfl T.d8 rfl ?_ | refine a3 _ rfl rfl T.d8 rfl ?_
     refine c9 rfl rfl hg2 ?_
     first | refine a4 rfl T.a6 rfl (b7 mB rfl) ?_ | refine a4 rfl T.a6 rfl (c8 mB rfl) ?_ | refine a4 rfl T.a6 rfl (c5 mB (b4 (by omega) rfl)) ?_ | refine a4 rfl T.a6 rfl (b8 mB (rows_get (by omega) rfl)) ?_
     refine c9 rfl rfl hg2 (a5 rfl (c9 rfl rfl hg2 (v9 rfl rfl rfl ?_))); refine p_f rfl rfl (bf1 hg2) rfl ?_; refine a7 ?_
     first | refine i8 rfl (fun hb5 => ?_) (fun hb5 => ?_) | refine b9 rfl (fun hb5 => ?_) (fun hb5 => ?_)
     ·have hb5' := hb5; try simp at hb5'
      refine a9 (a8 rfl (a7 (s6 (t5 (l6 (t5 ?_)))))); exact ret1 () rfl (congrArg (fun b => some (int b)) (by refine (D3 h12 hk2 ht (e := 3) (by first | (exfalso; omega) | (rw [hm]; (try rw [hm2]); unfold mErr; (repeat (first | rw [if_pos (by omega)] | rw [if_neg (by omega)])); done)) (by omega)).symm)) rfl trivial i1 trivial
     have hb5' := hb5; try simp at hb5'
     refine c3 (b6 (b5 (a9 ?_)))
     first | refine w7 rfl T.j2 T.c7 rfl mB (by rfl) ?_ | refine z2 rfl T.j2 T.c7 rfl mB (by rfl) ?_ | refine r8 rfl T.j2 T.c7 rfl rfl (n3 mB (q8 (by omega))) ?_
     refine d6 F.G4 rfl rfl (C1 m) n6 trivial fun _ _ => ?_; refine a8 rfl (k9 (a5 rfl (u9 rfl rfl rfl (a7 ?_))))
     first | refine i8 rfl (fun hb6 => ?_) (fun hb6 => ?_) | refine b9 rfl (fun hb6 => ?_) (fun hb6 => ?_)
     ·have hb6' := hb6; try simp at hb6'
      refine a9 (a5 rfl (a8 rfl (a7 (s6 (t5 (l6 (C3 ?_))))))); refine l6 ?_; exact ret1 () rfl (congrArg (fun b => some (int b)) (by refine (D3 h12 hk2 ht (e := textErr m) (by first | (exfalso; omega) | (rw [hm]; (try rw [hm2]); unfold mErr; (repeat (first | rw [if_pos (by omega)] | rw [if_neg (by omega)])); done)) (by omega)).symm)) rfl trivial i1 trivial
     have hb6' := hb6; try simp at hb6'
     refine c3 (b6 (b5 (a9 (a5 rfl (t8 rfl rfl rfl (a7 ?_))))))
     first | refine i8 rfl (fun hb7 => ?_) (fun hb7 => ?_) | refine b9 rfl (fun hb7 => ?_) (fun hb7 => ?_)
     ·have hb7' := hb7; try simp at hb7'
      refine n5 (z7 (n4 (b6 (c6 ?_)))); refine p7 _ rfl rfl rfl rfl l9 ?_; refine a5 rfl (b3 ?_); exact again _ (k + 1) ⟨by omega, Q5 ht (by first | (exfalso; omega) | (rw [hm]; (try rw [hm2]); unfold mErr; (repeat (first | rw [if_pos (by omega)] | rw [if_neg (by omega)])); done))⟩ (y5 (by omega)) mC i1 ⟨m0, trivial⟩
     have hb7' := hb7; try simp at hb7'
     refine c3 (b6 (a9 (a5 rfl (a5 rfl ?_)))); refine Z5 ((k - 1 : Nat) : Int) rfl rfl rfl (by omega) l9 (r7 (α := Mk) _ _ rfl T.j3 T.c7 rfl rfl rfl mB rfl (by omega) (by decide) (r8 rfl T.j2 T.c7 rfl rfl (n3 mB (q8 (by omega))) ?_)); refine r9 rfl (fun _ => T.u1 _) fun gA => ?_; refine n1 rfl rfl (by first | exact .refl _ | exact perm2 _ _ _ | exact perm3 _ _ _ _ | exact perm4 _ _ _ _ _) T.c7 (by rfl) (by rfl) ?_; refine a7 (j0 (b5 ?_)); generalize hm2 : l.getD (k - 1) default = m2; refine c6 ?_
     first | refine a3 ⟨_, 1, none⟩ rfl rfl T.d8 rfl ?_ | refine a3 _ rfl rfl T.d8 rfl ?_
     first | refine a4 rfl T.a6 rfl (b7 mB rfl) ?_ | refine a4 rfl T.a6 rfl (c8 mB rfl) ?_ | refine a4 rfl T.a6 rfl (c5 mB (b4 (by omega) rfl)) ?_ | refine a4 rfl T.a6 rfl (b8 mB (rows_get (by omega) rfl)) ?_
     first | refine a3 ⟨_, 1, none⟩ rfl rfl T.d8 rfl ?_ | refine a3 _ rfl rfl T.d8 rfl ?_
     first | refine a4 rfl T.a6 rfl (b7 mB rfl) ?_ | refine a4 rfl T.a6 rfl (c8 mB rfl) ?_ | refine a4 rfl T.a6 rfl (c5 mB (b4 (by omega) rfl)) ?_ | refine a4 rfl T.a6 rfl (b8 mB (rows_get (by omega) rfl)) ?_
     refine r6 rfl rfl rfl (a8 rfl (a7 ?_))
     first | refine i8 rfl (fun hb8 => ?_) (fun hb8 => ?_) | refine b9 rfl (fun hb8 => ?_) (fun hb8 => ?_)
     ·have hb8' := hb8; try simp at hb8'
      refine a9 (a8 rfl (a7 (i6 (C3 (t5 (l6 (t5 ?_))))))); exact ret1 () rfl (congrArg (fun b => some (int b)) (by refine (D3 h12 hk2 ht (e := 5) (by first | (exfalso; omega) | (rw [hm]; (try rw [hm2]); unfold mErr; (repeat (first | rw [if_pos (by omega)] | rw [if_neg (by omega)])); done)) (by omega)).symm)) rfl trivial i1 trivial
     have hb8' := hb8; try simp at hb8'
     refine a9 ?_
     first | refine a3 ⟨_, 1, none⟩ rfl rfl T.d8 rfl ?_ | refine a3 _ rfl rfl T.d8 rfl ?_
     first | refine a4 rfl T.a6 rfl (b7 mB rfl) ?_ | refine a4 rfl T.a6 rfl (c8 mB rfl) ?_ | refine a4 rfl T.a6 rfl (c5 mB (b4 (by omega) rfl)) ?_ | refine a4 rfl T.a6 rfl (b8 mB (rows_get (by omega) rfl)) ?_
     first | refine a3 ⟨_, 1, none⟩ rfl rfl T.d8 rfl ?_ | refine a3 _ rfl rfl T.d8 rfl ?_
     first | refine a4 rfl T.a6 rfl (b7 mB rfl) ?_ | refine a4 rfl T.a6 rfl (c8 mB rfl) ?_ | refine a4 rfl T.a6 rfl (c5 mB (b4 (by omega) rfl)) ?_ | refine a4 rfl T.a6 rfl (b8 mB (rows_get (by omega) rfl)) ?_
     refine v9 rfl rfl rfl (a5 rfl ?_); refine l3 rfl rfl ?_ ?_
     ·intro hg3; have hg3' := hg3; try simp at hg3'
      refine c9 rfl rfl hg3 ?_
      first | refine a3 ⟨_, 0, none⟩ rfl rfl T.d9 rfl ?_ | refine a3 _ rfl rfl T.d9 rfl ?_
      refine c9 rfl rfl hg3 ?_
      first | refine a4 rfl T.a6 rfl (b7 mB rfl) ?_ | refine a4 rfl T.a6 rfl (c8 mB rfl) ?_ | refine a4 rfl T.a6 rfl (c5 mB (b4 (by omega) rfl)) ?_ | refine a4 rfl T.a6 rfl (b8 mB (rows_get (by omega) rfl)) ?_
      refine c9 rfl rfl hg3 (t8 rfl rfl rfl ?_); refine p_f rfl rfl (bf1 hg3) rfl ?_; refine a8 rfl (a7 ?_)
      first | refine i8 rfl (fun hb9 => ?_) (fun hb9 => ?_) | refine b9 rfl (fun hb9 => ?_) (fun hb9 => ?_)
      ·have hb9' := hb9; try simp at hb9'
       refine c3 (q9 (q9 (b6 (c6 ?_)))); refine p7 _ rfl rfl rfl rfl l9 ?_; refine a5 rfl (b3 ?_); exact again _ (k + 1) ⟨by omega, Q5 ht (by first | (exfalso; omega) | (rw [hm]; (try rw [hm2]); unfold mErr; (repeat (first | rw [if_pos (by omega)] | rw [if_neg (by omega)])); done))⟩ (y5 (by omega)) mC i1 ⟨m0, trivial⟩
      have hb9' := hb9; try simp at hb9'
      refine a9 ?_
      first | refine a3 ⟨_, 0, none⟩ rfl rfl T.d9 rfl ?_ | refine a3 _ rfl rfl T.d9 rfl ?_
      first | refine a4 rfl T.a6 rfl (b7 mB rfl) ?_ | refine a4 rfl T.a6 rfl (c8 mB rfl) ?_ | refine a4 rfl T.a6 rfl (c5 mB (b4 (by omega) rfl)) ?_ | refine a4 rfl T.a6 rfl (b8 mB (rows_get (by omega) rfl)) ?_
      refine t8 rfl rfl rfl (a8 rfl (a7 ?_))
      first | refine i8 rfl (fun hb10 => ?_) (fun hb10 => ?_) | refine b9 rfl (fun hb10 => ?_) (fun hb10 => ?_)
      ·have hb10' := hb10; try simp at hb10'
       refine a9 (a8 rfl (a7 (i6 (C3 (t5 (l6 (t5 ?_))))))); exact ret1 () rfl (congrArg (fun b => some (int b)) (by refine (D3 h12 hk2 ht (e := 5) (by first | (exfalso; omega) | (rw [hm]; (try rw [hm2]); unfold mErr; (repeat (first | rw [if_pos (by omega)] | rw [if_neg (by omega)])); done)) (by omega)).symm)) rfl trivial i1 trivial
      have hb10' := hb10; try simp at hb10'
      refine a9 (a8 rfl (a7 (i6 (C3 (t5 (l6 (t5 ?_))))))); exact ret1 () rfl (congrArg (fun b => some (int b)) (by refine (D3 h12 hk2 ht (e := 4) (by first | (exfalso; omega) | (rw [hm]; (try rw [hm2]); unfold mErr; (repeat (first | rw [if_pos (by omega)] | rw [if_neg (by omega)])); done)) (by omega)).symm)) rfl trivial i1 trivial
     intro hg3; have hg3' := hg3; try simp at hg3'
     refine k5 rfl rfl rfl rfl rfl hg3 (k5 rfl rfl rfl rfl rfl hg3 (k5 rfl rfl rfl rfl rfl hg3 ?_)); refine p_t rfl rfl (bt2 hg3) rfl ?_; refine a8 rfl (a7 (c_t rfl rfl (c3 (q9 (q9 (b6 (c6 ?_))))))); refine p7 _ rfl rfl rfl rfl l9 ?_; refine a5 rfl (b3 ?_); exact again _ (k + 1) ⟨by omega, Q5 ht (by first | (exfalso; omega) | (rw [hm]; (try rw [hm2]); unfold mErr; (repeat (first | rw [if_pos (by omega)] | rw [if_neg (by omega)])); done))⟩ (y5 (by omega)) mC i1 ⟨m0, trivial⟩
    intro hg2; have hg2' := hg2; try simp at hg2'
    refine k5 rfl rfl rfl rfl rfl hg2 (k5 rfl rfl rfl rfl rfl hg2 (k5 rfl rfl rfl rfl rfl hg2 (k5 rfl rfl rfl rfl rfl hg2 ?_))); refine p_t rfl rfl (bt2 hg2) rfl ?_; refine a7 (c_t rfl rfl (a9 (a8 rfl (a7 (s6 (t5 ?_)))))); refine l6 (t5 ?_); exact ret1 () rfl (congrArg (fun b => some (int b)) (by refine (D3 h12 hk2 ht (e := 3) (by first | (exfalso; omega) | (rw [hm]; (try rw [hm2]); unfold mErr; (repeat (first | rw [if_pos (by omega)] | rw [if_neg (by omega)])); done)) (by omega)).symm)) rfl trivial i1 trivial
   have hb4' := hb4; try simp at hb4'
   refine c3 (b6 (b5 (a9 ?_)))
   first | refine a3 ⟨_, 1, none⟩ rfl rfl T.d8 rfl ?_ | refine a3 _ rfl rfl T.d8 rfl ?_
   first | refine a4 rfl T.a6 rfl (b7 mB rfl) ?_ | refine a4 rfl T.a6 rfl (c8 mB rfl) ?_ | refine a4 rfl T.a6 rfl (c5 mB (b4 (by omega) rfl)) ?_ | refine a4 rfl T.a6 rfl (b8 mB (rows_get (by omega) rfl)) ?_
   refine r6 rfl rfl rfl (a5 rfl ?_); refine l3 rfl rfl ?_ ?_
   ·intro hg4; have hg4' := hg4; try simp at hg4'
    refine c9 rfl rfl hg4 ?_
    first | refine a3 ⟨_, 1, none⟩ rfl rfl T.d8 rfl ?_ | refine a3 _ rfl rfl T.d8 rfl ?_
    refine c9 rfl rfl hg4 ?_
    first | refine a4 rfl T.a6 rfl (b7 mB rfl) ?_ | refine a4 rfl T.a6 rfl (c8 mB rfl) ?_ | refine a4 rfl T.a6 rfl (c5 mB (b4 (by omega) rfl)) ?_ | refine a4 rfl T.a6 rfl (b8 mB (rows_get (by omega) rfl)) ?_
    refine c9 rfl rfl hg4 (a5 rfl (c9 rfl rfl hg4 (v9 rfl rfl rfl ?_))); refine p_f rfl rfl (bf1 hg4) rfl ?_; refine a7 ?_
    first | refine i8 rfl (fun hb5 => ?_) (fun hb5 => ?_) | refine b9 rfl (fun hb5 => ?_) (fun hb5 => ?_)
    ·have hb5' := hb5; try simp at hb5'
     refine a9 (a8 rfl (a7 (s6 (t5 (l6 (t5 ?_)))))); exact ret1 () rfl (congrArg (fun b => some (int b)) (by refine (D3 h12 hk2 ht (e := 3) (by first | (exfalso; omega) | (rw [hm]; (try rw [hm2]); unfold mErr; (repeat (first | rw [if_pos (by omega)] | rw [if_neg (by omega)])); done)) (by omega)).symm)) rfl trivial i1 trivial
    have hb5' := hb5; try simp at hb5'
    refine c3 (b6 (b5 (a9 ?_)))
    first | refine w7 rfl T.j2 T.c7 rfl mB (by rfl) ?_ | refine z2 rfl T.j2 T.c7 rfl mB (by rfl) ?_ | refine r8 rfl T.j2 T.c7 rfl rfl (n3 mB (q8 (by omega))) ?_
    refine d6 F.G4 rfl rfl (C1 m) n6 trivial fun _ _ => ?_; refine a8 rfl (k9 (a5 rfl (u9 rfl rfl rfl (a7 ?_))))
    first | refine i8 rfl (fun hb6 => ?_) (fun hb6 => ?_) | refine b9 rfl (fun hb6 => ?_) (fun hb6 => ?_)
    ·have hb6' := hb6; try simp at hb6'
     refine a9 (a5 rfl (a8 rfl (a7 (s6 (t5 (l6 (C3 ?_))))))); refine l6 ?_; exact ret1 () rfl (congrArg (fun b => some (int b)) (by refine (D3 h12 hk2 ht (e := textErr m) (by first | (exfalso; omega) | (rw [hm]; (try rw [hm2]); unfold mErr; (repeat (first | rw [if_pos (by omega)] | rw [if_neg (by omega)])); done)) (by omega)).symm)) rfl trivial i1 trivial
    have hb6' := hb6; try simp at hb6'
    refine c3 (b6 (b5 (a9 (a5 rfl (t8 rfl rfl rfl (a7 ?_))))))
    first | refine i8 rfl (fun hb7 => ?_) (fun hb7 => ?_) | refine b9 rfl (fun hb7 => ?_) (fun hb7 => ?_)
    ·have hb7' := hb7; try simp at hb7'
     refine n5 (z7 (n4 (b6 (c6 ?_)))); refine p7 _ rfl rfl rfl rfl l9 ?_; refine a5 rfl (b3 ?_); exact again _ (k + 1) ⟨by omega, Q5 ht (by first | (exfalso; omega) | (rw [hm]; (try rw [hm2]); unfold mErr; (repeat (first | rw [if_pos (by omega)] | rw [if_neg (by omega)])); done))⟩ (y5 (by omega)) mC i1 ⟨m0, trivial⟩
    have hb7' := hb7; try simp at hb7'
    refine c3 (b6 (a9 (a5 rfl (a5 rfl ?_)))); refine Z5 ((k - 1 : Nat) : Int) rfl rfl rfl (by omega) l9 (r7 (α := Mk) _ _ rfl T.j3 T.c7 rfl rfl rfl mB rfl (by omega) (by decide) (r8 rfl T.j2 T.c7 rfl rfl (n3 mB (q8 (by omega))) ?_)); refine r9 rfl (fun _ => T.u1 _) fun gA => ?_; refine n1 rfl rfl (by first | exact .refl _ | exact perm2 _ _ _ | exact perm3 _ _ _ _ | exact perm4 _ _ _ _ _) T.c7 (by rfl) (by rfl) ?_; refine a7 (j0 (b5 ?_)); generalize hm2 : l.getD (k - 1) default = m2; refine c6 ?_
    first | refine a3 ⟨_, 1, none⟩ rfl rfl T.d8 rfl ?_ | refine a3 _ rfl rfl T.d8 rfl ?_
    first | refine a4 rfl T.a6 rfl (b7 mB rfl) ?_ | refine a4 rfl T.a6 rfl (c8 mB rfl) ?_ | refine a4 rfl T.a6 rfl (c5 mB (b4 (by omega) rfl)) ?_ | refine a4 rfl T.a6 rfl (b8 mB (rows_get (by omega) rfl)) ?_
    first | refine a3 ⟨_, 1, none⟩ rfl rfl T.d8 rfl ?_ | refine a3 _ rfl rfl T.d8 rfl ?_
    first | refine a4 rfl T.a6 rfl (b7 mB rfl) ?_ | refine a4 rfl T.a6 rfl (c8 mB rfl) ?_ | refine a4 rfl T.a6 rfl (c5 mB (b4 (by omega) rfl)) ?_ | refine a4 rfl T.a6 rfl (b8 mB (rows_get (by omega) rfl)) ?_
    refine r6 rfl rfl rfl (a8 rfl (a7 ?_))
    first | refine i8 rfl (fun hb8 => ?_) (fun hb8 => ?_) | refine b9 rfl (fun hb8 => ?_) (fun hb8 => ?_)
    ·have hb8' := hb8; try simp at hb8'
     refine a9 (a8 rfl (a7 (i6 (C3 (t5 (l6 (t5 ?_))))))); exact ret1 () rfl (congrArg (fun b => some (int b)) (by refine (D3 h12 hk2 ht (e := 5) (by first | (exfalso; omega) | (rw [hm]; (try rw [hm2]); unfold mErr; (repeat (first | rw [if_pos (by omega)] | rw [if_neg (by omega)])); done)) (by omega)).symm)) rfl trivial i1 trivial
    have hb8' := hb8; try simp at hb8'
    refine a9 ?_
    first | refine a3 ⟨_, 1, none⟩ rfl rfl T.d8 rfl ?_ | refine a3 _ rfl rfl T.d8 rfl ?_
    first | refine a4 rfl T.a6 rfl (b7 mB rfl) ?_ | refine a4 rfl T.a6 rfl (c8 mB rfl) ?_ | refine a4 rfl T.a6 rfl (c5 mB (b4 (by omega) rfl)) ?_ | refine a4 rfl T.a6 rfl (b8 mB (rows_get (by omega) rfl)) ?_
    first | refine a3 ⟨_, 1, none⟩ rfl rfl T.d8 rfl ?_ | refine a3 _ rfl rfl T.d8 rfl ?_
    first | refine a4 rfl T.a6 rfl (b7 mB rfl) ?_ | refine a4 rfl T.a6 rfl (c8 mB rfl) ?_ | refine a4 rfl T.a6 rfl (c5 mB (b4 (by omega) rfl)) ?_ | refine a4 rfl T.a6 rfl (b8 mB (rows_get (by omega) rfl)) ?_
    refine v9 rfl rfl rfl (a5 rfl ?_); refine l3 rfl rfl ?_ ?_
    ·intro hg5; have hg5' := hg5; try simp at hg5'
     refine c9 rfl rfl hg5 ?_
     first | refine a3 ⟨_, 0, none⟩ rfl rfl T.d9 rfl ?_ | refine a3 _ rfl rfl T.d9 rfl ?_
     refine c9 rfl rfl hg5 ?_
     first | refine a4 rfl T.a6 rfl (b7 mB rfl) ?_ | refine a4 rfl T.a6 rfl (c8 mB rfl) ?_ | refine a4 rfl T.a6 rfl (c5 mB (b4 (by omega) rfl)) ?_ | refine a4 rfl T.a6 rfl (b8 mB (rows_get (by omega) rfl)) ?_
     refine c9 rfl rfl hg5 (t8 rfl rfl rfl ?_); refine p_f rfl rfl (bf1 hg5) rfl ?_; refine a8 rfl (a7 ?_)
     first | refine i8 rfl (fun hb9 => ?_) (fun hb9 => ?_) | refine b9 rfl (fun hb9 => ?_) (fun hb9 => ?_)
     ·have hb9' := hb9; try simp at hb9'
      refine c3 (q9 (q9 (b6 (c6 ?_)))); refine p7 _ rfl rfl rfl rfl l9 ?_; refine a5 rfl (b3 ?_); exact again _ (k + 1) ⟨by omega, Q5 ht (by first | (exfalso; omega) | (rw [hm]; (try rw [hm2]); unfold mErr; (repeat (first | rw [if_pos (by omega)] | rw [if_neg (by omega)])); done))⟩ (y5 (by omega)) mC i1 ⟨m0, trivial⟩
     have hb9' := hb9; try simp at hb9'
     refine a9 ?_
     first | refine a3 ⟨_, 0, none⟩ rfl rfl T.d9 rfl ?_ | refine a3 _ rfl rfl T.d9 rfl ?_
     first | refine a4 rfl T.a6 rfl (b7 mB rfl) ?_ | refine a4 rfl T.a6 rfl (c8 mB rfl) ?_ | refine a4 rfl T.a6 rfl (c5 mB (b4 (by omega) rfl)) ?_ | refine a4 rfl T.a6 rfl (b8 mB (rows_get (by omega) rfl)) ?_
     refine t8 rfl rfl rfl (a8 rfl (a7 ?_))
     first | refine i8 rfl (fun hb10 => ?_) (fun hb10 => ?_) | refine b9 rfl (fun hb10 => ?_) (fun hb10 => ?_)
     ·have hb10' := hb10; try simp at hb10'
      refine a9 (a8 rfl (a7 (i6 (C3 (t5 (l6 (t5 ?_))))))); exact ret1 () rfl (congrArg (fun b => some (int b)) (by refine (D3 h12 hk2 ht (e := 5) (by first | (exfalso; omega) | (rw [hm]; (try rw [hm2]); unfold mErr; (repeat (first | rw [if_pos (by omega)] | rw [if_neg (by omega)])); done)) (by omega)).symm)) rfl trivial i1 trivial
     have hb10' := hb10; try simp at hb10'
     refine a9 (a8 rfl (a7 (i6 (C3 (t5 (l6 (t5 ?_))))))); exact ret1 () rfl (congrArg (fun b => some (int b)) (by refine (D3 h12 hk2 ht (e := 4) (by first | (exfalso; omega) | (rw [hm]; (try rw [hm2]); unfold mErr; (repeat (first | rw [if_pos (by omega)] | rw [if_neg (by omega)])); done)) (by omega)).symm)) rfl trivial i1 trivial
    intro hg5; have hg5' := hg5; try simp at hg5'
    refine k5 rfl rfl rfl rfl rfl hg5 (k5 rfl rfl rfl rfl rfl hg5 (k5 rfl rfl rfl rfl rfl hg5 ?_)); refine p_t rfl rfl (bt2 hg5) rfl ?_; refine a8 rfl (a7 (c_t rfl rfl (c3 (q9 (q9 (b6 (c6 ?_))))))); refine p7 _ rfl rfl rfl rfl l9 ?_; refine a5 rfl (b3 ?_); exact again _ (k + 1) ⟨by omega, Q5 ht (by first | (exfalso; omega) | (rw [hm]; (try rw [hm2]); unfold mErr; (repeat (first | rw [if_pos (by omega)] | rw [if_neg (by omega)])); done))⟩ (y5 (by omega)) mC i1 ⟨m0, trivial⟩
   intro hg4; have hg4' := hg4; try simp at hg4'
   refine k5 rfl rfl rfl rfl rfl hg4 (k5 rfl rfl rfl rfl rfl hg4 (k5 rfl rfl rfl rfl rfl hg4 (k5 rfl rfl rfl rfl rfl hg4 ?_))); refine p_t rfl rfl (bt2 hg4) rfl ?_; refine a7 (c_t rfl rfl (a9 (a8 rfl (a7 (s6 (t5 ?_)))))); refine l6 (t5 ?_); exact ret1 () rfl (congrArg (fun b => some (int b)) (by refine (D3 h12 hk2 ht (e := 3) (by first | (exfalso; omega) | (rw [hm]; (try rw [hm2]); unfold mErr; (repeat (first | rw [if_pos (by omega)] | rw [if_neg (by omega)])); done)) (by omega)).symm)) rfl trivial i1 trivial
  intro hg1; have hg1' := hg1; try simp at hg1'
  refine k5 rfl rfl rfl rfl rfl hg1 (k5 rfl rfl rfl rfl rfl hg1 (k5 rfl rfl rfl rfl rfl hg1 ?_)); refine p_t rfl rfl (bt2 hg1) rfl ?_; refine a7 (c_t rfl rfl (a9 (a8 rfl (a7 (s6 (t5 ?_)))))); refine l6 (t5 ?_); exact ret1 () rfl (congrArg (fun b => some (int b)) (by refine (D3 h12 hk2 ht (e := 8) (by first | (exfalso; omega) | (rw [hm]; (try rw [hm2]); unfold mErr; (repeat (first | rw [if_pos (by omega)] | rw [if_neg (by omega)])); done)) (by omega)).symm)) rfl trivial i1 trivial
 have hb2' := hb2; try simp at hb2'
 have hk2 : k = l.length := by omega
 refine n5 (y6 (n4 (b6 (a9 (a8 rfl (a7 (i6 ?_))))))); exact ret1 () rfl (congrArg (fun b => some (int b)) (by rw [aq9 h12 hk2 ht])) rfl trivial i1 trivial
theorem X7 (n lo hi : Int) : Meets Tryz.prog F.cL [int n, int lo, int hi] { val := fun _ : Unit => .bool (decide (lo ≤ n ∧ n ≤ hi)) } := by
 refine c4 F.qY rfl l5 fun w0 => ?_; refine a9 (a8 rfl (k9 (a5 rfl (a5 rfl (jC rfl rfl rfl (a5 rfl ?_)))))); refine l3 rfl rfl ?_ ?_
 ·intro hg1; have hg1' := hg1; try simp at hg1'
  refine c9 rfl rfl hg1 (a5 rfl (c9 rfl rfl hg1 (a5 rfl (c9 rfl rfl hg1 (zU rfl rfl rfl ?_))))); refine p_t rfl rfl (bt1 hg1) rfl ?_; refine a8 rfl (a7 (i6 ?_)); exact ret1 () rfl (congrArg (fun b => some (Value.bool b)) (by simp [hg1'])) rfl trivial (.refl _) trivial
 intro hg1; have hg1' := hg1; try simp at hg1'
 refine k5 rfl rfl rfl rfl rfl hg1 (k5 rfl rfl rfl rfl rfl hg1 (k5 rfl rfl rfl rfl rfl hg1 ?_)); refine p_f rfl rfl (bf2 hg1) rfl ?_; refine a8 rfl (a7 (i6 ?_)); exact ret1 () rfl (congrArg (fun b => some (Value.bool b)) (by simp [Int.not_le.2 hg1'])) rfl trivial (.refl _) trivial
theorem jK {m : Mk} (h : ¬ m.1 = 3) : textErr m = lineErr m.2.2 := by rw [textErr, if_pos h]
theorem aj8 {m : Mk} (h : m.1 = 3) (h2 : ¬ m.2.2 = []) : textErr m = 2 := by rw [textErr, if_neg (by omega), if_pos h2]
theorem uB {m : Mk} (h : m.1 = 3) (h2 : m.2.2 = []) : textErr m = 0 := by rw [textErr, if_neg (by omega), if_neg (by simp [h2])]
theorem V2 {A B : Option Addr} {ca cb : Nat} (p : List Str) (l : List Mk) :
    Meets Tryz.prog F.aJ [.slice A p.length ca, .slice B l.length cb] { LI := [Row A (rows p), Row B (rows l)], val := fun _ : Unit => int (checkErr p l) } := by
 refine c4 F.pR rfl l5 fun w0 => ?_; refine a9 (a8 rfl (a7 (b5 (a9 (a5 rfl ?_))))); refine d6 F.E7 rfl rfl (A1 p) (.refl _) ⟨m0, trivial⟩ fun _ _ => ?_; refine a8 rfl (k9 (a5 rfl (u9 rfl rfl rfl (a7 ?_))))
 first | refine i8 rfl (fun hb1 => ?_) (fun hb1 => ?_) | refine b9 rfl (fun hb1 => ?_) (fun hb1 => ?_)
 ·have hb1' := hb1; try simp at hb1'
  refine a9 (a5 rfl (a8 rfl (a7 (s6 ?_)))); exact ret1 () rfl (congrArg (fun b => some (int b)) (by rw [checkErr, if_neg hb1])) rfl trivial i1 trivial
 have hb1' := hb1; try simp at hb1'
 have h6 : pageErr p = 0 := by omega
 have hp : p.length ≤ 1000000 := by unfold pageErr at h6; split at h6 <;> omega
 refine c3 (b6 (a9 (a5 rfl (a5 rfl ?_)))); refine d6 F.iQ rfl rfl (cU l hp) (.refl _) ⟨m1, trivial⟩ fun _ _ => ?_; refine a8 rfl (a7 (i6 ?_)); exact ret1 () rfl (congrArg (fun b => some (int b)) (by rw [checkErr, if_pos h6])) rfl trivial i1 trivial
end Go.Proofs.YtegfgegnhjkcfaaGreatDoor
end
section
namespace Go.W
open Go Go.RowKit
/-! ### The first of a list of slices -/
theorem yQ {α : Type} [El α] {b : Bx} {hp : Hp} {L : List Fact} {w : World} {A : Option Addr} {ps : List (Sl α)} (n : Nat) (h : Rows2 A ps ∈ L) (hw : WI b w hp L) : WI b w hp (Rows2 A (ps.take n) :: L) := by
  have h1 := hw.fs _ h; refine R3 hw ⟨fun j u hu => ?_, fun p hp => h1.2 p (List.mem_of_mem_take hp)⟩ (fun k hk => ⟨_, h, ?_⟩)
  · refine h1.1 j u ?_
    rw [← hZ] at hu; rw [List.getElem?_take] at hu
    split at hu
    · exact hu
    cases hu
  rcases hk with ⟨ad, e, hb, hne⟩ | ⟨p, hp, hk⟩
  · exact .inl ⟨ad, e, hb, fun e => hne (by rw [← hZ, e]; simp)⟩
  exact .inr ⟨p, List.mem_of_mem_take hp, hk⟩
theorem cj2 {α : Type} [El α] {c : Cx} {Q : Exit → Act → World → Prop} {fr : Fr} {hp : Hp} {L : List Fact} {ops : Array Oper} {rest : List Oper} {A : Option Addr} {ps : List (Sl α)} (n : Nat) (h : Rows2 A ps ∈ L) (k : HL c ops Q rest fr hp (Rows2 A (ps.take n) :: L)) : HL c ops Q rest fr hp L := fun a w ha hw => k a w ha (yQ n h hw)
theorem wZ {α : Type} [El α] {b : Bx} {hp : Hp} {L : List Fact} {w : World} {A : Option Addr} {ps : List (Sl α)} (h : Row A (rows ps) ∈ L) (h2 : ∀ p ∈ ps, Row p.a (rows p.l) ∈ L) (hw : WI b w hp L) : WI b w hp (Rows2 A ps :: L) :=
  R3 hw ⟨hw.fs _ h, fun p hp => hw.fs _ (h2 p hp)⟩ (fun k hk => by
    rcases hk with hk | ⟨p, hp, hk⟩
    · exact ⟨_, h, hk⟩
    exact ⟨_, h2 p hp, hk⟩)
section
variable {α : Type} [El α] {c : Cx} {Q : Exit → Act → World → Prop} {fr : Fr} {hp : Hp} {L : List Fact} {ops : Array Oper} {rest : List Oper} {A : Option Addr} {ps : List (Sl α)}
theorem cj5 {x : Code} (h : Row A (rows ps) ∈ L) (h2 : ∀ p ∈ ps, Row p.a (rows p.l) ∈ L) (k : HC c x Q fr hp (Rows2 A ps :: L)) : HC c x Q fr hp L := fun a w ha hw => k a w ha (wZ h h2 hw)
theorem cj0 {e : Exit} (h : Row A (rows ps) ∈ L) (h2 : ∀ p ∈ ps, Row p.a (rows p.l) ∈ L) (k : HQ c Q e fr hp (Rows2 A ps :: L)) : HQ c Q e fr hp L := fun a w ha hw => k a w ha (wZ h h2 hw)
end
/-! ### Facts that follow from the world; nil -/
section
variable {c : Cx} {Q : Exit → Act → World → Prop} {fr : Fr} {hp : Hp} {L : List Fact} {ops : Array Oper} {rest : List Oper}
theorem hc_pure {φ : Prop} {x : Code} (h : ∀ w, WI c.b w hp L → φ) (k : φ → HC c x Q fr hp L) : HC c x Q fr hp L := fun a w ha hw => k (h w hw) a w ha hw
theorem ax3 {g : Nat} {o : Obj} {e : Exit} (k : HQ c Q e fr hp (Blk g o :: L)) : HQ c Q e fr ((g, o) :: hp) L := fun a w ha hw => k a w ha (mS hw)
theorem bq8 {α : Type} [El α] {l : List α} {w : World} (h0 : 0 < El.sz α) (h : (Row none (rows l)).P w) : l = [] := by
  cases l with
  | nil => rfl
  | cons a l =>
    have hl : 0 < (rows (a :: l)).length := by rw [E5]; exact Nat.mul_pos (by simp) h0
    obtain ⟨ad, e, _⟩ := h 0 _ (List.getElem?_eq_getElem hl)
    cases e
variable {d : Tmp} {ty : TypeId} {pos : String} {af : Array Edge}
theorem bx4 {t e yt : TypeId} {x y : Operand} {A : Option Addr} {n cp : Nat} (hd : Nat.blt d c.n = true) (ht : c.P.underlying t = some (.slice e)) (hx : ev fr x = some (.slice A n cp)) (hy : ev fr y = some (.slice none 0 0)) (k : HL c ops Q rest ((d, .bool A.isNone) :: fr) hp L) :
    HL c ops Q (⟨some d, .binOp .eql t x y yt, ty, pos, af, none⟩ :: rest) fr hp L :=
  D2 _ hd hx hy (fun _ => rfl) (fun w => by
    show ((do pure (Value.bool (← Op.equal t (.slice A n cp) (.slice none 0 0)))) : Sem Value).run c.P w = _
    simp only [Sem.run_bind, run_equal_slice_nil w t e A n cp ht, Result.andThen_ok, Sem.run_pure]) k
end
/-! ### A store into a slice of the call's own -/
theorem uF {α : Type} [El α] (h1 : El.sz α = 1) (v : Value) (a : α) (hv : El.cells a = [v]) : ∀ (l : List α) (k : Nat), (rows l).set k v = rows (l.set k a)
  | [], k => by simp [gC]
  | b :: l, 0 => by
    have hb : ∃ u, El.cells b = [u] := by
      have := El.len b; rw [h1] at this; exact List.length_eq_one_iff.1 this
    obtain ⟨u, hu⟩ := hb; rw [List.set_cons_zero, H4, H4, hu, hv]
    rfl
  | b :: l, k + 1 => by
    have hb : ∃ u, El.cells b = [u] := by
      have := El.len b; rw [h1] at this; exact List.length_eq_one_iff.1 this
    obtain ⟨u, hu⟩ := hb; rw [List.set_cons_succ, H4, H4, hu, ← uF h1 v a hv l k]
    rfl
theorem Grow.set {α : Type} [El α] {e : TypeId} {cap g k : Nat} {cur : Array Value} {l : List α} {v : Value} {a : α} (h1 : El.sz α = 1) (hv : El.cells a = [v]) (h3 : l.length ≤ cap) (h4 : cap ≤ maxLen) (h5 : cur.size = cap * 1) (h6 : cur.toList.take (l.length * 1) = rows l) :
    Grow e 1 (j4 g) l.length cap (rows (l.set k a)) [(g, Obj.cells (cur.setIfInBounds k v) e (0, 0))] := by
  refine ⟨by rw [E5, h1, List.length_set], .inr ⟨g, _, rfl, rfl, h3, h4, by simpa using h5, ?_⟩⟩; rw [← uF h1 v a hv, ← h6, Array.toList_setIfInBounds, List.take_set]
/-! ### make -/
/-! ### Scopes and labels -/
section
variable {Q : Exit → Act → World → Prop} {fr : Fr} {hp : Hp} {L : List Fact}
theorem cj4 {P : Program} {n : Nat} {b : Bx} {D : List Deferred} {x : Code} (h : HC ⟨P, n, b, D, none⟩ x (Exit.noGoto Q) fr hp L) : HC ⟨P, n, b, D, none⟩ (.scope x) Q fr hp L :=
  fun a w ha hw => wpIn_wide.2 (wp_scope_straight (wpIn_wide.1 (h a w ha hw)))
theorem nG {c : Cx} (h : HQ c Q .ret fr hp L) : HQ c (Exit.noGoto Q) .ret fr hp L := fun a w ha hw => h a w ha hw
theorem cj7 {c : Cx} {l : Nat} (h : HQ c Q .normal fr hp L) : HC c (.label l) Q fr hp L := fun a w ha hw => wpIn_label (h a w ha hw)
end
/-! ### A loop's yield -/
def recL (fn : FuncId) (tmps : Array Value) (ps : Array Tmp) (assign body : Code) (d : Nat) (j : Option Code) : Loop := { state := if j.isNone then .ready else .done, pending := j, fn, tmps, params := ps, assign, body, defers := d }
def recB (fn : FuncId) (tmps : Array Value) (ps : Array Tmp) (assign body : Code) (d : Nat) : Loop := { state := .busy, pending := none, fn, tmps, params := ps, assign, body, defers := d }
def yieldV (l : Nat) : Value := .func (.yield l) #[] #[]
def MeetsY (P : Program) (l : Nat) (args : List Value) {β : Type} (k : Con β) : Prop :=
  ∀ w, WI (k.entry w) w k.hpI k.LI → ∃ f tmps assign body, (Instr.yield l args.toArray).run P w = .ok (.round l f tmps assign body) w ∧ RoundIn Fence.wide 0 P l f tmps assign body w (k.post w)
theorem evals {n : Cx} {a : Act} {fr : Fr} (ha : Ok n a fr) : ∀ (xs : List Operand) (vs : List Value), xs.mapM (ev fr) = some vs → xs.map a.eval = vs := by
  intro xs
  induction xs with
  | nil => intro vs h; simpa using h
  | cons x xs ih =>
    intro vs h; simp only [List.mapM_cons, Option.bind_eq_bind, Option.bind_eq_some_iff, Option.pure_def, Option.some.injEq] at h; obtain ⟨v, hv, us, hus, rfl⟩ := h; rw [List.map_cons, ha.ev hv, ih us hus]
section
variable {c : Cx} {Q : Exit → Act → World → Prop} {fr : Fr} {hp : Hp} {L : List Fact} {ops : Array Oper} {rest : List Oper}
variable {d : Tmp} {ty : TypeId} {pos : String} {af : Array Edge}
theorem cj1 {l : Nat} {x : Operand} {aS9 : Array Operand} {ats : Array TypeId} {vs : List Value} {β : Type} {k : Con β} {hpR : Hp} (hd : Nat.blt d c.n = true) (hf : ev fr x = some (yieldV l)) (hx : aS9.toList.mapM (ev fr) = some vs)
    (hm : MeetsY c.P l vs k) (h1 : hp.Perm (k.hpI ++ hpR)) (h2 : LSub L k.LI) (kk : ∀ x, k.inv x → HL c ops Q rest ((d, k.val x) :: fr) (k.hpO x ++ hpR) (k.LO x ++ L)) :
    HL c ops Q (⟨some d, .call ⟨.value x, aS9, ats⟩, ty, pos, af, none⟩ :: rest) fr hp L := by
  intro a w ha hw; refine yL rfl (.inr ⟨rfl, ?_⟩); have e1 : aS9.map a.eval = vs.toArray := by apply Array.ext'; simpa using evals ha _ _ hx
  obtain ⟨f, tmps, assign, body, h3, h4⟩ := hm w (hw.entry h1 h2.mem); refine ⟨l, f, tmps, assign, body, ?_, h4.mono fun e w' hp => ?_⟩
  · show ((do let dd ← resolve a.eval ⟨.value x, aS9, ats⟩ ty; invoke dd.target dd.args) : Sem Next).run c.P w = _
    simp only [resolve, ha.ev hf, yieldV, e1, Deferred.ofValue, Sem.run_bind, Sem.run_pure, Result.andThen_ok, invoke]
    simpa using h3
  obtain ⟨x, rfl, hi, hwi⟩ := hp; exact ⟨_, rfl, kk x hi _ _ (ha.put (by simpa using hd) _) (hw.back h1 h2.mem hwi)⟩
end
def setAll (ps : List (Tmp × Value)) (fr : Fr) : Fr := ps.foldl (fun fr p => p :: fr) fr
theorem uD : ∀ (ps : List (Tmp × Value)) (tmps : Array Value) (fr : Fr), (∀ p ∈ ps, p.1 < tmps.size) → (∀ t v, lk fr t = some v → tmps.getD t undef = v) →
    (ps.foldl (fun tmps p => tmps.setIfInBounds p.1 p.2) tmps).size = tmps.size ∧ ∀ t v, lk (setAll ps fr) t = some v → (ps.foldl (fun tmps p => tmps.setIfInBounds p.1 p.2) tmps).getD t undef = v
  | [], tmps, fr, _, h => ⟨rfl, h⟩
  | (p, u) :: ps, tmps, fr, hlt, h => by
    have h1 := uD ps (tmps.setIfInBounds p u) ((p, u) :: fr) (fun q hq => by simpa using hlt q (by simp [hq])) (fun t v hv => by
      rw [t9] at hv; have hp : p < tmps.size := hlt (p, u) (by simp)
      by_cases e : p = t
      · subst e
        simp at hv
        subst hv
        simp [hp]
      rw [if_neg e] at hv; have := h t v hv
      simpa [Array.getElem?_setIfInBounds_ne e] using this)
    exact ⟨by simpa using h1.1, h1.2⟩
def BeginQ (c : Cx) (l : Nat) (body : Code) (Q : Exit → Act → World → Prop) (a : Act) (w : World) : Prop :=
  ∃ w2, (Instr.beginRound l).run c.P w = .ok () w2 ∧ body.wpIn (FF c.rd) 0 c.P Q a w2
theorem WI.putObj {b : Bx} {w : World} {hp : Hp} {L : List Fact} {g : Nat} {o : Obj} (o' : Obj) (h : WI b w ((g, o) :: hp) L) : WI b (w.putObj g o') ((g, o') :: hp) L :=
  h.write ⟨rfl, rfl, rfl, by simp, fun k _ hn => World.putObj_heap_other (by simpa using hn), Nat.le_refl _⟩ (World.putObj_heap_same (C8 (h.own (g, o) (by simp))))
section
variable {c : Cx} {fr : Fr} {hp : Hp} {L : List Fact} {fn : FuncId} {tmps : Array Value} {ps : Array Tmp} {assign body : Code} {d l : Nat} {β : Type} {k : Con β} {w0 : World}
theorem yN {Q : Exit → Act → World → Prop} {hp' : Hp} (hpp : hp.Perm ((l, .loop (recL fn tmps ps assign body d none)) :: hp')) (h : HC c body Q fr ((l, .loop (recB fn tmps ps assign body d)) :: hp') L) : HQ c (Exit.then (BeginQ c l body Q) (fun _ _ _ => False)) .normal fr hp L := by
  intro a w ha hw; have hw' := hw.perm hpp; have hl := hw'.own (l, .loop (recL fn tmps ps assign body d none)) (by simp); exact ⟨_, run_beginRound hl rfl, h a _ ha (hw'.putObj _)⟩
theorem bq7 {hp' : Hp} (x : β) (j : Option Code) (hpp : hp.Perm ((l, .loop (recB fn tmps ps assign body d)) :: hp')) (hb : c.b = k.entry w0) (hv : k.val x = .bool j.isNone) (hi : k.inv x) (h2 : (k.hpO x).Sublist ((l, .loop (recL fn tmps ps assign body d j)) :: hp')) (h3 : LSub L (k.LO x)) {a : Act} {w : World} (hw : WI c.b w hp L) :
    ∃ v w', (Instr.endRound l j).run c.P w = .ok v w' ∧ (k.post w0) (.returned v) w' := by
  have hw' := hw.perm hpp; have hl := hw'.own (l, .loop (recB fn tmps ps assign body d)) (by simp); exact ⟨_, _, run_endRound j hl, x, by rw [hv], hi, hb ▸ (hw'.putObj _).weak h2 h3.mem⟩
theorem rp_n {hp' : Hp} (x : β) (hpp : hp.Perm ((l, .loop (recB fn tmps ps assign body d)) :: hp')) (hb : c.b = k.entry w0) (hv : k.val x = .bool true) (hi : k.inv x) (h2 : (k.hpO x).Sublist ((l, .loop (recL fn tmps ps assign body d none)) :: hp')) (h3 : LSub L (k.LO x)) : HQ c (roundPost c.P l (k.post w0)) .normal fr hp L :=
  fun a w _ hw => bq7 (a := a) x none hpp hb hv hi h2 h3 hw
theorem rp_ret {hp' : Hp} (x : β) (hpp : hp.Perm ((l, .loop (recB fn tmps ps assign body d)) :: hp')) (hb : c.b = k.entry w0) (hv : k.val x = .bool false) (hi : k.inv x) (h2 : (k.hpO x).Sublist ((l, .loop (recL fn tmps ps assign body d (some .ret))) :: hp')) (h3 : LSub L (k.LO x)) : HQ c (roundPost c.P l (k.post w0)) .ret fr hp L :=
  fun a w _ hw => bq7 (a := a) x (some .ret) hpp hb hv hi h2 h3 hw
end
theorem vM {β : Type} {P : Program} {l n d : Nat} {args : List Value} {k : Con β} {fn : FuncId} {tmps : Array Value} {ps : Array Tmp} {assign body : Code} {fr : Fr} (hI : (l, Obj.loop (recL fn tmps ps assign body d none)) ∈ k.hpI)
    (hsz : tmps.size = n) (hfr : ∀ t v, lk fr t = some v → tmps.getD t undef = v) (hlen : args.length = ps.size) (hps : ∀ t ∈ ps, t < n)
    (h : ∀ w, HC ⟨P, n, k.entry w, [], some l⟩ assign (Exit.then (BeginQ ⟨P, n, k.entry w, [], some l⟩ l body (roundPost P l (k.post w))) (fun _ _ _ => False)) (setAll (ps.toList.zip args) fr) k.hpI k.LI) : MeetsY P l args k := by
  intro w hw; have hl := hw.own _ hI; refine ⟨_, _, _, _, run_yield hl (by simpa [recL] using hlen), ?_⟩
  have h1 := uD (ps.toList.zip args) tmps fr (fun p hp => by
    have := List.of_mem_zip hp; rw [hsz]
    exact hps _ (by simpa using this.1)) hfr
  have e : ((ps.zip args.toArray).foldl (fun tmps (x : Tmp × Value) => tmps.setIfInBounds x.1 x.2) tmps) = (ps.toList.zip args).foldl (fun tmps p => tmps.setIfInBounds p.1 p.2) tmps := by
    rw [← Array.foldl_toList]
    simp
  refine roundIn_of_wpIn trivial ?_; refine h w _ w ⟨rfl, ?_, fun t v hv => ?_⟩ hw
  · exact (congrArg Array.size e).trans (h1.1.trans hsz)
  have := h1.2 t v hv; rw [← e] at this; exact this
/-! ### The statement -/
def markOf (d : Nat) : Deferred := { target := .collected d, args := #[] }
theorem wC {P : Program} {n : Nat} {b : Bx} {D : List Deferred} {Q : Exit → Act → World → Prop} {fr : Fr} {hp hpR : Hp} {L : List Fact} {g : Operand} {ps : Array Tmp} {assign body : Code} {f : Nat} {cap : List Value} {β : Type}
    (R : Hp) (LI : List Fact) (inv : β → Prop) (val : β → Value) (pend : β → Option Code) (RO : β → Hp) (LO : β → List Fact)
    (hg : ev fr g = some (.func (.func f) #[] cap.toArray)) (hcb : Callable P f) (hpp : hp.Perm (R ++ hpR)) (hL : LSub L LI)
    (hm : ∀ l d fn tmps, tmps.size = n → (∀ t v, lk fr t = some v → tmps.getD t undef = v) →
      Meets P f (yieldV l :: cap) ({ hpI := (l, .loop (recL fn tmps ps assign body d none)) :: R, LI := LI, inv := inv, val := val, hpO := fun x => (l, .loop (recL fn tmps ps assign body d (pend x))) :: RO x, LO := LO } : Con β))
    (k1 : ∀ x d, inv x → pend x = none → HQ ⟨P, n, b, markOf d :: D, none⟩ Q .normal fr ((d, .deferred (some [])) :: (RO x ++ hpR)) (LO x ++ L))
    (k2 : ∀ x d j, inv x → pend x = some j → HC ⟨P, n, b, markOf d :: D, none⟩ j Q fr ((d, .deferred (some [])) :: (RO x ++ hpR)) (LO x ++ L)) :
    HC ⟨P, n, b, D, none⟩ (.rangeFunc g ps assign body) Q fr hp L := by
  intro a w ha hw; have hsz : a.tmps.size = n := ha.sz; have hwa := (hw.perm hpp).alloc (.deferred (some [])); refine wpIn_rangeFunc fun fn _ => ?_; have hwb := hwa.alloc (.loop (recL fn a.tmps ps assign body w.heap.size none)); have hs1 : (w.alloc (.deferred (some []))).heap.size = w.heap.size + 1 := by simp
  rw [hs1] at hwb; have hno : (FF none).depth.isSome = true → 1 ≤ 0 := fun h => by cases h
  let W2 := (w.alloc (.deferred (some []))).alloc (.loop (recL fn a.tmps ps assign body w.heap.size none))
  refine ⟨w.heap.size + 1, [markOf w.heap.size], W2, ⟨.fn (.func f) cap.toArray, #[] ++ #[yieldV (w.heap.size + 1)]⟩, W2, f, #[yieldV (w.heap.size + 1)] ++ cap.toArray, W2, run_enterLoop_outer fn a.tmps ps assign body, ?_, fun _ _ => trivial, ?_, hno, ?_⟩
  · have e1 := ha.ev hg
    have e2 : a.eval (.const (.func (.yield (w.heap.size + 1)) #[] #[])) = yieldV (w.heap.size + 1) := rfl; simp only [rangeCall, resolve, e1, e2, Deferred.ofValue, List.map_toArray, List.map_cons, List.map_nil, Sem.run_pure]
  · have e3 : (#[] ++ #[yieldV (w.heap.size + 1)] ++ cap.toArray : Array Value) = #[yieldV (w.heap.size + 1)] ++ cap.toArray := by simp
    simp only [invoke, e3]; exact hcb.run _ _
  have hmm := hm (w.heap.size + 1) w.heap.size fn a.tmps hsz ha.at_
  let kk : Con β := { hpI := (w.heap.size + 1, .loop (recL fn a.tmps ps assign body w.heap.size none)) :: R, LI := LI, inv := inv, val := val, hpO := fun x => (w.heap.size + 1, .loop (recL fn a.tmps ps assign body w.heap.size (pend x))) :: RO x, LO := LO }
  have hperm : ((w.heap.size + 1, Obj.loop (recL fn a.tmps ps assign body w.heap.size none)) :: (w.heap.size, Obj.deferred (some [])) :: (R ++ hpR)).Perm (kk.hpI ++ ((w.heap.size, Obj.deferred (some [])) :: hpR)) := by
    refine L7 fun p => ?_; simp only [kk, List.cons_append, List.countP_cons, List.countP_append]
    omega
  have hc := hmm _ (WI.entry (k := kk) hwb hperm hL.mem); have e4 : (#[yieldV (w.heap.size + 1)] ++ cap.toArray : Array Value) = (yieldV (w.heap.size + 1) :: cap).toArray := by simp
  rw [e4]; refine yC (hc.mono fun e w3 hpo => ?_); obtain ⟨x, rfl, hi, hwi⟩ := hpo; have hwi2 := WI.back (k := kk) (x := x) hwb hperm hL.mem hwi; have hl := hwi2.own (w.heap.size + 1, .loop (recL fn a.tmps ps assign body w.heap.size (pend x))) (by simp [kk])
  have hwi3 : WI b (w3.putObj (w.heap.size + 1) (.loop { recL fn a.tmps ps assign body w.heap.size (pend x) with state := .exhausted })) ((w.heap.size, .deferred (some [])) :: (RO x ++ hpR)) (LO x ++ L) := by
    have h5 := WI.putObj (.loop { recL fn a.tmps ps assign body w.heap.size (pend x) with state := .exhausted }) (by simpa [kk] using hwi2); refine (h5.weak (List.sublist_cons_self _ _) (fun _ h => h)).perm (L7 fun p => ?_); simp only [List.countP_cons, List.countP_append]
    omega
  have hend : (Instr.endLoop (w.heap.size + 1)).run P w3 = .ok (pend x) _ := run_endLoop hl (by show (if (pend x).isNone = true then LoopState.ready else LoopState.done) ≠ .busy; split <;> simp); refine ⟨pend x, _, hend, ?_⟩; have hok : Ok ⟨P, n, b, markOf w.heap.size :: D, none⟩ { a with defers := [markOf w.heap.size] ++ a.defers } fr := ⟨by show markOf w.heap.size :: a.defers = _; rw [ha.d], ha.sz, ha.at_⟩
  cases hpx : pend x with
  | none =>
    rw [hpx] at hwi3; exact k1 x w.heap.size hi hpx _ _ hok hwi3
  | some j =>
    rw [hpx] at hwi3; exact k2 x w.heap.size j hi hpx _ _ hok hwi3
/-! ### Functions that leave with marks -/
theorem vN {β : Type} {P : Program} {f : Nat} {args : List Value} {k : Con β} {fn : Func} {code : Code} (hf : P.funcs[f]? = some fn) (hb : fn.body = some code) (hn : args.length ≤ fn.ntmps)
    (h : ∀ w, HC ⟨P, fn.ntmps, k.entry w, [], none⟩ code (bodyPostM Fence.wide 0 P fn (k.post w)) (argFr 0 args) k.hpI k.LI) : Meets P f args k := by
  intro w hw; refine callsIn_wide.1 (callsIn_of_wp_marks (n := 0) hf hb trivial (h w _ w ⟨rfl, by simp; omega, fun t v hv => ?_⟩ hw)); obtain ⟨_, h2⟩ := lU args 0 t v hv; simp only [Nat.sub_zero] at h2
  have hlt : t < args.length := by
    rcases Nat.lt_or_ge t args.length with h' | h'
    · exact h'
    rw [List.getElem?_eq_none h'] at h2; cases h2
  rw [List.getElem?_eq_getElem hlt] at h2
  injection h2 with h2
  simp [Array.getElem?_append, hlt, h2]
def shutM (ds : List Nat) : Hp := ds.map fun d => (d, Obj.deferred (some []))
theorem lX {c : Cx} {β : Type} {k : Con β} {fn : Func} {w0 : World} {tmps : Array Value} {hp' : Hp} {L : List Fact} (x : β)
    (hr : ∀ w, WI c.b w hp' L → (results fn tmps).run c.P w = .ok (k.val x) w) (hb : c.b = k.entry w0) (hi : k.inv x) (h2 : (k.hpO x).Sublist hp') (h3 : LSub L (k.LO x)) :
    ∀ (ds : List Nat) (w : World), WI c.b w (shutM ds ++ hp') L → LeavesInM Fence.wide 0 c.P fn tmps (k.post w0) (ds.map markOf) .returning w
  | [], w, hw => ⟨k.val x, hr w hw, x, rfl, hi, hb ▸ hw.weak h2 h3.mem⟩
  | d :: ds, w, hw => by
    have hw' : WI c.b w ((d, Obj.deferred (some [])) :: (shutM ds ++ hp')) L := hw; have ho := hw'.own (d, Obj.deferred (some [])) (by simp); refine ⟨by simp, .inl ⟨d, _, rfl, run_takeDeferred ho, ?_⟩⟩; exact lX x hr hb hi h2 h3 ds _ ((hw'.putObj _).weak (List.sublist_cons_self _ _) fun _ h => h)
theorem W7 {c : Cx} {fr : Fr} {hp hp' : Hp} {L : List Fact} {β : Type} {k : Con β} {fn : Func} {w0 : World} (ds : List Nat) (x : β) (hD : c.D = ds.map markOf) (hpp : hp.Perm (shutM ds ++ hp'))
    (hr : ∀ (a : Act) w, a.tmps.size = c.n → (∀ t v, lk fr t = some v → a.tmps.getD t undef = v) → WI c.b w hp' L → (results fn a.tmps).run c.P w = .ok (k.val x) w) (hb : c.b = k.entry w0) (hi : k.inv x) (h2 : (k.hpO x).Sublist hp') (h3 : LSub L (k.LO x)) :
    HQ c (bodyPostM Fence.wide 0 c.P fn (k.post w0)) .ret fr hp L := fun a w ha hw => by
  show LeavesInM Fence.wide 0 c.P fn a.tmps (k.post w0) a.defers .returning w; rw [ha.d, hD]; exact lX x (fun w hw => hr a w ha.sz ha.at_ hw) hb hi h2 h3 ds w (hw.perm hpp)
theorem D9 {c : Cx} {fr : Fr} {hp : Hp} {L : List Fact} {fn : Func} {t u : Tmp} {ty tz : TypeId} {p q : Addr} {v1 v2 : Value} (hres : fn.results = #[.cell t ty, .cell u tz]) (hv : lk fr t = some (.pointer (some p))) (hv2 : lk fr u = some (.pointer (some q))) (ht : NoR c.P ty) (hz : NoR c.P tz)
    (h1 : Cell c.b hp L p v1) (h2 : Cell c.b hp L q v2) (a : Act) (w : World) (hsz : a.tmps.size = c.n) (hfr : ∀ t v, lk fr t = some v → a.tmps.getD t undef = v) (hw : WI c.b w hp L) : (results fn a.tmps).run c.P w = .ok (.tuple #[v1, v2]) w := by
  have hload : ∀ {ty : TypeId} {p : Addr} {v : Value}, NoR c.P ty → Cell c.b hp L p v → (loadVar ty p).run c.P w = .ok v w := by
    intro ty p v ht hc; obtain ⟨dd, ht, hr⟩ := ht
    have hagg : (isAgg ty).run c.P w = .ok false w := by
      unfold isAgg; rw [Sem.run_bind, run_underlying ht w]
      cases dd <;> simp_all [TypeDesc.isRow]
    simp only [loadVar, Sem.run_bind, hagg, Result.andThen_ok, Bool.false_eq_true, if_false, run_load, hc w hw]
  have h5 : a.tmps[t]?.getD undef = .pointer (some p) := by simpa using hfr _ _ hv
  have h6 : a.tmps[u]?.getD undef = .pointer (some q) := by simpa using hfr _ _ hv2
  unfold results; rw [hres]
  simp [h5, h6, asAddr, hload ht h1, hload hz h2]
end Go.W
end
section
namespace Go.W
open Go Go.RowKit
section
variable {c : Cx} {Q : Exit → Act → World → Prop} {fr : Fr} {hp : Hp} {L : List Fact} {ops : Array Oper} {rest : List Oper}
variable {α : Type} [El α]
abbrev innerF (ps : List (Sl α)) : Fact := Facts (ps.map fun p => Row p.a (rows p.l))
end
end Go.W
end
