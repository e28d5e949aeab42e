/- Texts. -/
import Derived.Sort.Walk0
import Derived.Test.YtpfbbggmcbhboaaGreatDoorAAh
import Derived.Test.YtpfbbggmcbhboaaGreatDoorAAn
import Derived.Test.YtpfbbggmcbhboaaGreatDoorAAi
import Derived.Test.YtpfbbggmcbhboaaGreatDoorAAk
import Derived.Test.YtpfbbggmcbhboaaGreatDoorAAm
set_option linter.unusedVariables false
set_option linter.unusedSimpArgs false
section
namespace Go.Proofs.YtpfbbggmcbhboaaGreatDoor
open Go Go.W Tryz T F
set_option maxRecDepth 20000
attribute [local irreducible] HL HC HQ HB Row Rows2 Blk Facts
structure Good {α : Type} (c : α → α → Int) : Prop where
  eq : ∀ a b, c a b = 0 ↔ a = b
  anti : ∀ a b, c a b < 0 ↔ 0 < c b a
  tr : ∀ a b d, c a b < 0 → c b d < 0 → c a d < 0
theorem Good.irr {α : Type} {c : α → α → Int} (h : Good c) (a : α) : ¬ c a a < 0 := by
  have := (h.eq a a).2 rfl; omega
theorem Good.tri {α : Type} {c : α → α → Int} (h : Good c) {a b : α} (h1 : ¬ c a b < 0) (h2 : ¬ c b a < 0) : a = b := by
  have h3 := h.anti b a
  have : c a b = 0 := by
    have : ¬ 0 < c a b := fun h => h2 (h3.2 h)
    omega
  exact (h.eq a b).1 this
theorem good_I : Good cmpI where
  eq a b := by unfold cmpI; split <;> (try split) <;> omega
  anti a b := by unfold cmpI; split <;> (try split) <;> (try split) <;> (try split) <;> omega
  tr a b d := by unfold cmpI; split <;> (try split) <;> (try split) <;> (try split) <;> (try split) <;> (try split) <;> omega
theorem dV (a : Str) : ¬ a < a := List.lt_irrefl a
theorem str_tri {a b : Str} (h1 : ¬ a < b) (h2 : ¬ b < a) : a = b := List.le_antisymm (List.not_lt.1 h2) (List.not_lt.1 h1)
theorem rP (a b : Str) : cmpS a b = if a < b then -1 else if a = b then 0 else 1 := by
  unfold cmpS; simp only [bytesLess_eq]
  by_cases h1 : a < b
  · simp [h1]
  by_cases h2 : a = b
  · simp [h2, dV]
  simp [h1, h2]
theorem good_S : Good cmpS where
  eq a b := by
    rw [rP]
    split
    · rename_i h; constructor
      · intro h; omega
      rintro rfl; exact absurd h (dV _)
    split
    · rename_i h; exact ⟨fun _ => h, fun _ => rfl⟩
    rename_i h; exact ⟨fun h => by omega, fun e => absurd e h⟩
  anti a b := by
    rw [rP, rP]
    by_cases h1 : a < b
    · have h2 : ¬ b < a := fun h => dV _ (List.lt_trans h1 h)
      have h3 : ¬ b = a := by rintro rfl; exact dV _ h1
      simp [h1, h2, h3]
    by_cases h2 : b < a
    · have h3 : ¬ a = b := by rintro rfl; exact dV _ h2
      simp [h1, h2, h3]
    have h3 := str_tri h1 h2
    simp [h3, dV]
  tr a b d := by
    rw [rP, rP, rP]; intro h1 h2
    have h3 : a < b := by
      apply Classical.byContradiction; intro h; rw [if_neg h] at h1; split at h1 <;> omega
    have h4 : b < d := by
      apply Classical.byContradiction; intro h; rw [if_neg h] at h2; split at h2 <;> omega
    rw [if_pos (List.lt_trans h3 h4)]
    omega
theorem good_or {α β γ : Type} {c : β → β → Int} {d : γ → γ → Int} (f : α → β) (g : α → γ) (hc : Good c) (hd : Good d) (hi : ∀ a b, f a = f b → g a = g b → a = b) : Good (fun a b => if ¬ c (f a) (f b) = 0 then c (f a) (f b) else d (g a) (g b)) where
  eq a b := by
    split
    · rename_i h
      exact ⟨fun h0 => absurd h0 h, fun e => by subst e; exact absurd ((hc.eq _ _).2 rfl) h⟩
    rename_i h
    have h1 := (hc.eq _ _).1 (Classical.not_not.1 h); rw [hd.eq]; exact ⟨fun h2 => hi _ _ h1 h2, fun e => by rw [e]⟩
  anti a b := by
    have h1 := hc.anti (f a) (f b); have h2 := hc.anti (f b) (f a); have h3 := hd.anti (g a) (g b)
    split <;> split <;> omega
  tr a b e := by
    have h1 := hc.tr (f a) (f b) (f e); have h2 := hd.tr (g a) (g b) (g e); have e1 := hc.eq (f a) (f b); have e2 := hc.eq (f b) (f e); have e3 := hc.eq (f a) (f e); have a1 := hc.anti (f a) (f b); have a2 := hc.anti (f b) (f e)
    by_cases k1 : c (f a) (f b) = 0
    · have q1 := e1.1 k1
      rw [q1] at *; rw [if_neg (by simp [(hc.eq _ _).2 rfl])]
      by_cases k2 : c (f b) (f e) = 0
      · rw [if_neg (by simp [k2]), if_neg (by simp [k2])]
        exact h2
      rw [if_pos k2, if_pos k2]; intro _ h; exact h
    rw [if_pos k1]
    by_cases k2 : c (f b) (f e) = 0
    · have q2 := e2.1 k2
      rw [← q2, if_pos k1]; intro h _; exact h
    rw [if_pos k2]; intro h3 h4; have h5 := h1 h3 h4; rw [if_pos (by omega)]; exact h5
theorem orL3 (a b c : Int) : orL [a, b, c] = if ¬ a = 0 then a else if ¬ b = 0 then b else c := by
  simp only [orL]
  split
  · rfl
  split
  · rfl
  split
  · rfl
  rename_i h; omega
theorem kz8 {α β : Type} {c : β → β → Int} (f : α → β) (h : Good c) (hf : ∀ a b, f a = f b → a = b) : Good (fun a b => c (f a) (f b)) where
  eq a b := (h.eq _ _).trans ⟨hf a b, fun e => by rw [e]⟩
  anti a b := h.anti _ _
  tr a b d := h.tr _ _ _
theorem uX {β γ : Type} {c : β → β → Int} {d : γ → γ → Int} (hc : Good c) (hd : Good d) : Good (fun a b : β × γ => if ¬ c a.1 b.1 = 0 then c a.1 b.1 else d a.2 b.2) :=
  good_or (fun a => a.1) (fun a => a.2) hc hd (fun a b h1 h2 => Prod.ext h1 h2)
theorem good_Mk : Good cmpMk := by
  have h := kz8 (α := Mk) (fun m => (m.2.1, m.1, m.2.2)) (uX good_I (uX good_I good_S)) (fun a b e => by
    simp only [Prod.mk.injEq] at e
    exact Prod.ext e.2.1 (Prod.ext e.1 e.2.2))
  have e : cmpMk = fun a b : Mk => (fun a b : Int × Int × Str => if ¬ cmpI a.1 b.1 = 0 then cmpI a.1 b.1 else (fun a b : Int × Str => if ¬ cmpI a.1 b.1 = 0 then cmpI a.1 b.1 else cmpS a.2 b.2) a.2 b.2) (a.2.1, a.1, a.2.2) (b.2.1, b.1, b.2.2) := by
    funext a b
    rw [cmpMk, orL3]
  rw [e]; exact h
theorem good_Ms : Good cmpMs where
  eq a := by
    induction a with
    | nil => intro b; cases b <;> simp [cmpMs]
    | cons x a ih =>
      intro b
      cases b with
      | nil => simp [cmpMs]
      | cons y b =>
        rw [cmpMs]
        split
        · rename_i h
          refine ⟨fun h0 => absurd h0 h, fun e => ?_⟩
          injection e with e1 e2
          exact absurd ((good_Mk.eq _ _).2 e1) h
        rename_i h
        have h1 := (good_Mk.eq _ _).1 (Classical.not_not.1 h); rw [ih, h1]
        simp
  anti a := by
    induction a with
    | nil => intro b; cases b <;> simp [cmpMs]
    | cons x a ih =>
      intro b
      cases b with
      | nil => simp [cmpMs]
      | cons y b =>
        rw [cmpMs, cmpMs]; have h1 := good_Mk.anti x y; have h2 := good_Mk.anti y x; have h3 := ih b
        split <;> split <;> omega
  tr a := by
    induction a with
    | nil =>
      intro b d h1 h2
      cases d with
      | nil =>
        cases b with
        | nil => exact h1
        | cons y b => simp [cmpMs] at h2
      | cons z d => simp [cmpMs]
    | cons x a ih =>
      intro b d h1 h2
      cases b with
      | nil => simp [cmpMs] at h1
      | cons y b =>
        cases d with
        | nil => simp [cmpMs] at h2
        | cons z d =>
          have t1 := good_Mk.tr x y z; have e1 := good_Mk.eq x y; have e2 := good_Mk.eq y z; have a1 := good_Mk.anti x y; rw [cmpMs] at h1 h2 ⊢
          by_cases k1 : cmpMk x y = 0
          · rw [if_neg (by simp [k1])] at h1
            have q1 := e1.1 k1; subst q1
            by_cases k2 : cmpMk x z = 0
            · rw [if_neg (by simp [k2])] at h2 ⊢
              exact ih b d h1 h2
            rw [if_pos k2] at h2 ⊢; exact h2
          rw [if_pos k1] at h1
          by_cases k2 : cmpMk y z = 0
          · have q2 := e2.1 k2
            subst q2; rw [if_pos k1]; exact h1
          rw [if_pos k2] at h2; have h5 := t1 h1 h2; rw [if_pos (by omega)]; exact h5
theorem good_L : Good cmpL := by
  have h := kz8 (α := Lst) (fun l => (l.1, ((l.2.length : Nat) : Int), l.2)) (uX good_I (uX good_I good_Ms)) (fun a b e => by
    simp only [Prod.mk.injEq] at e
    exact Prod.ext e.1 e.2.2)
  have e : cmpL = fun a b : Lst => (fun a b : Int × Int × List Mk => if ¬ cmpI a.1 b.1 = 0 then cmpI a.1 b.1 else (fun a b : Int × List Mk => if ¬ cmpI a.1 b.1 = 0 then cmpI a.1 b.1 else cmpMs a.2 b.2) a.2 b.2) (a.1, ((a.2.length : Nat) : Int), a.2) (b.1, ((b.2.length : Nat) : Int), b.2) := by
    funext a b
    rw [cmpL, orL3]
  rw [e]; exact h
theorem mx5 {a b : Mk} (h : ¬ a = b) : beforeR a b = decide (cmpMk a b < 0) := by
  rw [cmpMk, orL3, beforeR]; have i1 : ∀ x y : Int, ¬ x = y → ¬ cmpI x y = 0 := fun x y h h0 => h ((good_I.eq x y).1 h0); have i2 : ∀ x y : Int, (x < y) = (cmpI x y < 0) := fun x y => by apply propext; unfold cmpI; split <;> (try split) <;> omega
  by_cases h1 : a.2.1 = b.2.1
  · rw [if_neg (not_not_intro h1), if_neg (not_not_intro ((good_I.eq _ _).2 h1))]
    by_cases h2 : a.1 = b.1
    · rw [if_neg (not_not_intro h2), if_neg (not_not_intro ((good_I.eq _ _).2 h2))]
      rw [rP, bytesLess_eq]
      apply decide_eq_decide.2
      split
      · rename_i h; simp [h]
      rename_i h; split <;> simp [h]
    rw [if_pos h2, if_pos (i1 _ _ h2)]; exact decide_eq_decide.2 (by rw [i2])
  rw [if_pos h1, if_pos (i1 _ _ h1)]; exact decide_eq_decide.2 (by rw [i2])
theorem nj3 : ∀ {a b : List Mk}, a.length = b.length → lexR a b = decide (cmpMs a b < 0)
  | [], [], _ => by simp [lexR, cmpMs]
  | [], _ :: _, h => by simp at h
  | _ :: _, [], h => by simp at h
  | a :: l, b :: l', h => by
    rw [lexR, cmpMs]
    by_cases h1 : a = b
    · rw [if_neg (not_not_intro h1), if_neg (not_not_intro ((good_Mk.eq _ _).2 h1))]
      exact nj3 (by simpa using h)
    rw [if_pos h1, if_pos (fun h0 => h1 ((good_Mk.eq _ _).1 h0)), mx5 h1]
abbrev cL (l : List Mk) : Lst := ((costM l : Int), l)
theorem mx3 (a b : List Mk) : betterR a b = decide (cmpL (cL a) (cL b) < 0) := by
  have i1 : ∀ x y : Int, ¬ x = y → ¬ cmpI x y = 0 := fun x y h h0 => h ((good_I.eq x y).1 h0); have i2 : ∀ x y : Int, (x < y) = (cmpI x y < 0) := fun x y => by apply propext; unfold cmpI; split <;> (try split) <;> omega
  rw [betterR, cmpL, orL3]
  by_cases h1 : (costM a : Int) = costM b
  · rw [if_neg (not_not_intro h1), if_neg (not_not_intro ((good_I.eq _ _).2 h1))]
    by_cases h2 : (a.length : Int) = b.length
    · rw [if_neg (not_not_intro h2), if_neg (not_not_intro ((good_I.eq _ _).2 h2))]
      exact nj3 (by omega)
    rw [if_pos h2, if_pos (i1 _ _ h2)]; exact decide_eq_decide.2 (by rw [i2])
  rw [if_pos h1, if_pos (i1 _ _ h1)]; exact decide_eq_decide.2 (by rw [i2])
def Bt (a b : List Mk) : Prop := cmpL (cL a) (cL b) < 0
theorem Bt.of {a b : List Mk} : betterR a b = true ↔ Bt a b := by rw [mx3, decide_eq_true_iff]; rfl
theorem Bt.irr (a : List Mk) : ¬ Bt a a := good_L.irr _
theorem Bt.trans {a b c : List Mk} (h : Bt a b) (h2 : Bt b c) : Bt a c := good_L.tr _ _ _ h h2
theorem Bt.tri {a b : List Mk} (h : ¬ Bt a b) (h2 : ¬ Bt b a) : a = b := congrArg Prod.snd (good_L.tri h h2)
structure Best (S : List (List Mk)) (b : List Mk) : Prop where
  mem : b ∈ S
  le : ∀ x ∈ S, ¬ Bt x b
theorem Best.uniq {S S' : List (List Mk)} {b b' : List Mk} (h : Best S b) (h' : Best S' b') (h1 : b ∈ S') (h2 : b' ∈ S) : b = b' := Bt.tri (h'.le b h1) (h.le b' h2)
def BestO (S : List (List Mk)) (o : Option (List Mk)) : Prop := (S = [] ∧ o = none) ∨ ∃ b, o = some b ∧ Best S b
theorem BestO.pick {S : List (List Mk)} {o : Option (List Mk)} (h : BestO S o) (l : List Mk) : BestO (S ++ [l]) (pickR o l) := by
  rcases h with ⟨rfl, rfl⟩ | ⟨b, rfl, hb⟩
  · exact .inr ⟨l, rfl, by simp, fun x hx => by simp at hx; subst hx; exact Bt.irr _⟩
  right
  unfold pickR
  simp only
  split
  · rename_i hlt
    have hlt := Bt.of.1 hlt; refine ⟨l, rfl, by simp, fun x hx => ?_⟩
    rcases List.mem_append.1 hx with hx | hx
    · exact fun h => hb.le x hx (h.trans hlt)
    simp at hx; subst hx; exact Bt.irr _
  rename_i hlt
  refine ⟨b, rfl, by simp [hb.mem], fun x hx => ?_⟩
  rcases List.mem_append.1 hx with hx | hx
  · exact hb.le x hx
  simp at hx; subst hx; exact fun h => hlt (Bt.of.2 h)
def seed0 : Int × Int := (0, 11400714819323198485)
abbrev Pg := Sl Str
abbrev Mg := Sl Mk
/-! ### What marks make -/
def Asc : List Mk → Prop
  | [] => True
  | m :: l => (∀ b ∈ l, m.2.1 < b.2.1 ∨ (m.2.1 = b.2.1 ∧ m.1 = 1)) ∧ Asc l
theorem Asc.filter {l : List Mk} (h : Asc l) (q : Mk → Bool) : Asc (l.filter q) := by
  induction l with
  | nil => exact h
  | cons m l ih =>
    by_cases hq : q m = true
    · rw [List.filter_cons_of_pos hq]
      exact ⟨fun b hb => h.1 b ((List.mem_filter.1 hb).1), ih h.2⟩
    rw [List.filter_cons_of_neg hq]; exact ih h.2
def finR (st : List Str × Str × Bool) : List Str := if st.2.2 = true then st.1 ++ [st.2.1] else st.1
/-! ### The marks of a diff -/
def finP (old : List Str) (st : List Str × Nat) : List Str := st.1 ++ old.drop st.2
structure DM (old page : List Str) (i j : Nat) (l : List Mk) : Prop where
  v : ∀ m ∈ l, (i : Int) ≤ m.2.1 ∧ m.2.1 ≤ old.length ∧ 1 ≤ m.1 ∧ m.1 ≤ 3 ∧ (m.1 = 1 ∨ m.2.1 < old.length) ∧ textErr m = 0
  a : Asc l
  f : ∀ nx, nx ≤ i → ∀ ls, finP old (l.foldl (stepP old) (ls, nx)) = ls ++ (old.take i).drop nx ++ page.drop j
/-! ### A page with itself -/
structure OriginOK (ps : List (Sl Str)) (s : Str) (n : Nat) (o : Int) : Prop where
  lo : -1 ≤ o
  hi : o < n
  mem : 0 ≤ o → s ∈ (ps.getD o.toNat default).l
  no : ∀ j : Nat, o < j → j < n → s ∉ (ps.getD j default).l
theorem ij0 (ps : List (Sl Str)) (s : Str) : ∀ n, OriginOK ps s n (originN ps s n)
  | 0 => ⟨by simp [originN], by simp [originN], by simp [originN], by intro j _ h; omega⟩
  | n + 1 => by
    have ih := ij0 ps s n; rw [originN]
    by_cases h : s ∈ (ps.getD n default).l
    · rw [if_pos h]
      exact ⟨by omega, by omega, fun _ => by rw [Int.toNat_natCast]; exact h, by intro j h1 h2; omega⟩
    rw [if_neg h]; have h1 := ih.hi; refine ⟨ih.lo, by omega, ih.mem, fun j h2 h3 => ?_⟩
    by_cases hj : j = n
    · rw [hj]; exact h
    exact ih.no j h2 (by omega)
def qB (ps : List (Sl Str)) (p : List Str) (i : Nat) : Bool := decide (0 ≤ originN ps (p.getD i default) ps.length) && decide (originN ps (p.getD i default) ps.length < (ps.length : Int) - 1)
def backL (ps : List (Sl Str)) (p : List Str) (k : Nat) : List Int := ((List.range k).filter (qB ps p)).map fun i : Nat => (i : Int)
theorem qj3 (ps : List (Sl Str)) (p : List Str) (k : Nat) : backL ps p (k + 1) = backL ps p k ++ (if qB ps p k = true then [(k : Int)] else []) := by
  unfold backL; rw [List.range_succ, List.filter_append, List.map_append]
  congr 1
  by_cases h : qB ps p k = true
  · rw [if_pos h, List.filter_cons_of_pos h]; rfl
  rw [if_neg h, List.filter_cons_of_neg h]; rfl
theorem back_le (ps : List (Sl Str)) (p : List Str) (k : Nat) : (backL ps p k).length ≤ k := by
  unfold backL; rw [List.length_map]; exact Nat.le_trans (List.length_filter_le _ _) (by simp)
def backE (ps : List (Sl Str)) (p : List Str) : List Int × Int := if ¬ askedErr (years ps) p = 0 then ([], askedErr (years ps) p) else (backL ps p p.length, 0)
theorem aq0 {A B : Option Addr} {ca cb : Nat} (ps : List (Sl Str)) (p : List Str) : Meets prog gY [.slice A ps.length ca, .slice B p.length cb] { outE (backE ps p) with LI := [Rows2 A ps, Row B (rows p)] } := by
 refine i3 cq5 rfl q6 fun w0 => ?_; refine c7 (c3 rfl (c3 rfl (b8 (c8 (c7 (b7 rfl (b7 rfl ?_))))))); refine d5 dA rfl rfl (cQ ps p) (.refl _) ⟨m0, m1, tK⟩ fun _ _ => ?_; refine c3 rfl (n7 (b7 rfl (y5 rfl rfl rfl (b8 ?_))))
 first | refine k8 rfl (fun hb1 => ?_) (fun hb1 => ?_) | refine d9 rfl (fun hb1 => ?_) (fun hb1 => ?_)
 ·have hb1' := hb1; try simp at hb1'
  have e : backE ps p = ([], askedErr (years ps) p) := by rw [backE, if_pos hb1]
  rw [e]; refine c7 (b7 rfl (c3 rfl (c3 rfl (b8 (D4 (uU ?_)))))); exact ret2 (none, 0) rfl rfl rfl rfl rfl tK nK ⟨m0, tK⟩
 have hb1' := hb1; try simp at hb1'
 have e : backE ps p = (backL ps p p.length, 0) := by rw [backE, if_neg hb1]
 rw [e]; obtain ⟨h1, h2⟩ := mZ (Classical.not_not.1 hb1); obtain ⟨h3, h4⟩ := aV h1; have h5 := V1 h2; refine d8 (d4 (c7 (c3 rfl (b8 (c8 (c7 (b7 rfl ?_))))))); refine l8 rfl r5 rfl ?_; refine b7 rfl (b8 (k6 ?_)); refine y6 (β := Nat × OutC × Hp) ⟨fun ⟨k, o, og⟩ => k ≤ p.length ∧ Grow I6 1 o.1 (backL ps p k).length o.2 (rows (backL ps p k)) og, fun ⟨k, o, og⟩ => [(0, .slice A ps.length ca), (7, .slice o.1 (backL ps p k).length o.2), (17, .slice B p.length cb), (18, int p.length), (19, int k)], fun ⟨k, o, og⟩ => og, fun _ => [Rows2 A ps, Row B (rows p)]⟩ (fun x => p.length - x.1) (0, (none, 0), []) ⟨Nat.zero_le _, Grow.nil _ _⟩ mC (.refl _) ⟨m0, m1, tK⟩ fun x hx => ?_; obtain ⟨k, o, og⟩ := x; obtain ⟨hk, hG⟩ := hx; refine c7 (z8 rfl rfl rfl (b8 (c8 ?_)))
 first | refine k8 rfl (fun hb2 => ?_) (fun hb2 => ?_) | refine d9 rfl (fun hb2 => ?_) (fun hb2 => ?_)
 ·have hb2' := hb2; try simp at hb2'
  have hk2 : k < p.length := by omega
  have hbl := back_le ps p k; have hbs := qj3 ps p k; have ho := ij0 ps (p.getD k default) ps.length; have ho1 := ho.lo; have ho2 := ho.hi; refine d8 (d4 (c8 (k6 (c7 (b7 rfl ?_))))); refine z5 (α := Str) _ _ rfl r5 z2 rfl rfl rfl mB rfl (by omega) (by decide) (b6 rfl j5 rfl (i9 mB (d7 (by omega) rfl)) ?_); refine c3 rfl (c3 rfl (n7 (b7 rfl (b7 rfl ?_)))); refine d5 bS rfl rfl (bO ps (p.getD k default) (by omega) (fun q hq => by have := h4 q hq; omega)) l6 ⟨m0, tK⟩ fun _ _ => ?_; refine c3 rfl (n7 (b7 rfl (lN rfl rfl rfl (b7 rfl ?_)))); refine n6 rfl rfl ?_ ?_
  ·intro hg1; have hg1' := hg1; try simp at hg1'
   have hq1 : 0 ≤ originN ps (p.getD k default) ps.length := of_decide_eq_true (bt1 hg1); refine k9 hg1 (b7 rfl (k9 hg1 (b7 rfl (k9 hg1 ?_)))); refine l8 rfl G2 rfl (k9 hg1 (iF _ rfl rfl rfl rfl r6 ?_)); refine k9 hg1 (z8 rfl rfl rfl ?_); refine p_t rfl rfl (bt1 hg1) rfl (b8 ?_)
   first | refine k8 rfl (fun hb3 => ?_) (fun hb3 => ?_) | refine d9 rfl (fun hb3 => ?_) (fun hb3 => ?_)
   ·have hb3' := hb3; try simp at hb3'
    have hqt : qB ps p k = true := by unfold qB; rw [decide_eq_true hq1, decide_eq_true hb3]; rfl
    rw [if_pos hqt] at hbs; refine i4 (b7 rfl (b7 rfl ?_)); refine j8 _ rfl rfl (fun _ => jB ..) fun gS => ?_; refine E7 ((backL ps p k).length + 1) (rows (backL ps p (k + 1))) qA rfl rfl rfl hG (List.perm_append_comm (l₁ := [_])) (Src.own (cs := #[int k]) (m := 1) (List.mem_append_right _ m0) rfl rfl) rfl (by rw [hbs, z7]; rfl) (by unfold maxLen; omega) (by omega) fun A' c' og' hG' => ?_; refine c3 rfl (d6 (u7 (d4 (i4 ?_)))); refine v6 _ rfl rfl rfl rfl r6 ?_; refine b7 rfl (d6 ?_); have hl2 : (backL ps p (k + 1)).length = (backL ps p k).length + 1 := by rw [hbs, B7]
    exact again _ (k + 1, (A', c'), og') ⟨by omega, by rw [hl2]; exact hG'⟩ (D5 (by omega)) ⟨rfl, by rw [hl2]; rfl, rfl, rfl, rfl, tK⟩ (List.sublist_append_left _ _) ⟨m0, m1, tK⟩
   have hb3' := hb3; try simp at hb3'
   have hqf : ¬ qB ps p k = true := fun h => by unfold qB at h; rw [decide_eq_true hq1, decide_eq_false hb3] at h; cases h
   rw [if_neg hqf, List.append_nil] at hbs; refine d8 (u7 (d4 (i4 ?_))); refine v6 _ rfl rfl rfl rfl r6 ?_; refine b7 rfl (d6 ?_); exact again _ (k + 1, o, og) ⟨by omega, by rw [hbs]; exact hG⟩ (D5 (by omega)) ⟨rfl, by rw [hbs]; rfl, rfl, rfl, rfl, tK⟩ (.refl _) ⟨m0, m1, tK⟩
  intro hg1; have hg1' := hg1; try simp at hg1'
  have hq1 : ¬ 0 ≤ originN ps (p.getD k default) ps.length := of_decide_eq_false (bf2 hg1); have hqf : ¬ qB ps p k = true := fun h => by unfold qB at h; rw [decide_eq_false hq1] at h; cases h
  rw [if_neg hqf, List.append_nil] at hbs; refine u2 hg1 (u2 hg1 (u2 hg1 (u2 hg1 (u2 hg1 ?_)))); refine p_f rfl rfl (bf2 hg1) rfl ?_; refine b8 (c_f rfl rfl (d8 (u7 (d4 (i4 ?_))))); refine v6 _ rfl rfl rfl rfl r6 ?_; refine b7 rfl (d6 ?_); exact again _ (k + 1, o, og) ⟨by omega, by rw [hbs]; exact hG⟩ (D5 (by omega)) ⟨rfl, by rw [hbs]; rfl, rfl, rfl, rfl, tK⟩ (.refl _) ⟨m0, m1, tK⟩
 have hb2' := hb2; try simp at hb2'
 have hk2 : k = p.length := by omega
 subst hk2; refine s9 (E4 (u6 (d4 (c7 (b7 rfl (c3 rfl (c3 rfl (b8 ?_)))))))); refine l4 (aq5 hG ?_); exact ret2 o rfl rfl rfl rfl rfl tK (.refl _) ⟨m0, tK⟩
theorem bq2 (s : Str) : ∀ (ps : List (Sl Str)) (n : Nat), 0 < ps.foldl (fun n p => max n (countN p.l s)) n ↔ 0 < n ∨ ∃ p ∈ ps, s ∈ p.l
  | [], n => by simp
  | p :: ps, n => by
    rw [List.foldl_cons, bq2 s ps]
    have h1 : 0 < countN p.l s ↔ s ∈ p.l := by
      unfold countN; rw [List.length_pos_iff_exists_mem]
      simp
    constructor
    · rintro (h | ⟨q, hq, hs⟩)
      · by_cases h2 : 0 < n
        · exact .inl h2
        exact .inr ⟨p, List.mem_cons_self, h1.1 (by omega)⟩
      exact .inr ⟨q, List.mem_cons_of_mem _ hq, hs⟩
    rintro (h | ⟨q, hq, hs⟩)
    · left; omega
    rcases List.mem_cons.1 hq with rfl | hq
    · left; have := h1.2 hs; omega
    exact .inr ⟨q, hq, hs⟩
def freshN (f : Str → Nat) : List Str → Nat
  | [] => 0
  | s :: r => if f s = 0 then 1 + freshN f r else freshN (updF f s (f s - 1)) r
def sumN (K : List Str) (g : Str → Nat) : Nat := (K.map g).sum
theorem aj5 {ps : List (Sl Str)} {s : Str} : 0 < stockN ps s ↔ ∃ p ∈ ps, s ∈ p.l := by
  unfold stockN; rw [bq2]
  simp
def linesOf (ps : List (Sl Str)) : List Str := ps.flatMap (·.l)
theorem ij1 {ps : List (Sl Str)} {m : Nat} (h : ∀ p ∈ ps, p.l.length ≤ m) : (linesOf ps).length ≤ ps.length * m := by
  unfold linesOf
  induction ps with
  | nil => simp
  | cons p ps ih =>
    have h1 := h p List.mem_cons_self; have h2 := ih fun q hq => h q (List.mem_cons_of_mem _ hq); rw [List.flatMap_cons, List.length_append, List.length_cons, Nat.add_mul]
    omega
theorem bq1 {ps : List (Sl Str)} {s : Str} (h : 0 < stockN ps s) : s ∈ linesOf ps := by
  obtain ⟨p, hp, hs⟩ := aj5.1 h; exact List.mem_flatMap.2 ⟨p, hp, hs⟩
abbrev Ty := Str × Int
structure StockIs (ps : List (Sl Str)) (ts : List Ty) : Prop where
  asc : ts.Pairwise fun a b => a.1 < b.1
  mem : ∀ s n, (s, n) ∈ ts ↔ 0 < stockN ps s ∧ n = (stockN ps s : Int)
theorem mj2 (a : Str) : ¬ a < a := List.lt_irrefl a
theorem lt_asm {a b : Str} (h : a < b) : ¬ b < a := List.lt_asymm h
theorem lq4 : ∀ {a b : List Ty}, a.Pairwise (fun x y => x.1 < y.1) → b.Pairwise (fun x y => x.1 < y.1) → (∀ x, x ∈ a ↔ x ∈ b) → a = b
  | [], [], _, _, _ => rfl
  | [], y :: b, _, _, h => by have := (h y).2 List.mem_cons_self; cases this
  | x :: a, [], _, _, h => by have := (h x).1 List.mem_cons_self; cases this
  | x :: a, y :: b, ha, hb, h => by
    rw [List.pairwise_cons] at ha hb
    have e : x = y := by
      rcases List.mem_cons.1 ((h x).1 List.mem_cons_self) with e | e
      · exact e
      rcases List.mem_cons.1 ((h y).2 List.mem_cons_self) with e2 | e2
      · exact e2.symm
      exact absurd (ha.1 y e2) (lt_asm (hb.1 x e))
    subst e
    congr 1
    refine lq4 ha.2 hb.2 fun z => ?_; have hz := h z; rw [List.mem_cons, List.mem_cons] at hz
    constructor
    · intro hm
      rcases hz.1 (.inr hm) with e | e
      · subst e; exact absurd (ha.1 z hm) (mj2 _)
      exact e
    intro hm
    rcases hz.2 (.inr hm) with e | e
    · subst e; exact absurd (hb.1 z hm) (mj2 _)
    exact e
theorem StockIs.uniq {ps : List (Sl Str)} {a b : List Ty} (ha : StockIs ps a) (hb : StockIs ps b) : a = b :=
  lq4 ha.asc hb.asc fun x => by obtain ⟨s, n⟩ := x; rw [ha.mem, hb.mem]
theorem StockIs.nodup {ps : List (Sl Str)} {ts : List Ty} (h : StockIs ps ts) : (ts.map (·.1)).Nodup := by
  rw [List.Nodup, List.pairwise_map]; exact h.asc.imp fun {a b} (h1 : a.1 < b.1) (e : a.1 = b.1) => mj2 b.1 (by rw [e] at h1; exact h1)
theorem StockIs.all {ps : List (Sl Str)} {ts : List Ty} (h : StockIs ps ts) {s : Str} (hs : 0 < stockN ps s) : s ∈ ts.map (·.1) := List.mem_map.2 ⟨(s, _), (h.mem s _).2 ⟨hs, rfl⟩, rfl⟩
theorem StockIs.at {ps : List (Sl Str)} {ts : List Ty} (h : StockIs ps ts) {t : Ty} (ht : t ∈ ts) : t.2 = (stockN ps t.1 : Int) ∧ 0 < stockN ps t.1 := by
  have := (h.mem t.1 t.2).1 ht; exact ⟨this.2, this.1⟩
theorem StockIs.sum {ps : List (Sl Str)} {ts : List Ty} (h : StockIs ps ts) : (ts.map (·.2)).sum = (sumN (ts.map (·.1)) (stockN ps) : Int) := by
  have h1 : ∀ l : List Ty, (∀ t ∈ l, t.2 = (stockN ps t.1 : Int)) → (l.map (·.2)).sum = (sumN (l.map (·.1)) (stockN ps) : Int) := by
    intro l
    induction l with
    | nil => intro _; rfl
    | cons t l ih =>
      intro hl; unfold sumN at ih ⊢; rw [List.map_cons, List.sum_cons, List.map_cons, List.map_cons, List.sum_cons, ih fun t ht => hl t (List.mem_cons_of_mem _ ht), hl t List.mem_cons_self]
      push_cast
      rfl
  exact h1 ts fun t ht => (h.at ht).1
theorem StockIs.len {ps : List (Sl Str)} {ts : List Ty} (h : StockIs ps ts) {m : Nat} (hp : ∀ p ∈ ps, p.l.length ≤ m) : ts.length ≤ ps.length * m := by
  have h2 := uR (K := linesOf ps) h.nodup fun s hs => by
    obtain ⟨t, ht, rfl⟩ := List.mem_map.1 hs; exact bq1 (h.at ht).2
  rw [List.length_map] at h2; exact Nat.le_trans h2 (ij1 hp)
abbrev KS : KeyC prog z3 str := KeyC.str l7
theorem iq6 (w : World) : (zeroValue I6).run prog w = .ok (int 0) w := n5
theorem px8 {p : List Str} {k : Nat} (h : k < p.length) (s : Str) : updF (countN (p.take k)) (p.getD k default) (countN (p.take k) (p.getD k default) + 1) s = countN (p.take (k + 1)) s := by
  rw [lj7 h]; unfold updF
  by_cases e : s = p.getD k default
  · subst e; rw [if_pos rfl, if_pos rfl]
  rw [if_neg e, if_neg (fun e2 => e e2.symm)]; omega
theorem wL {B : Option Addr} {cb : Nat} (p : List Str) (hl : p.length ≤ 1000000) : Meets prog iS [.slice B p.length cb] { LI := [Row B (rows p)], inv := fun x : Nat × List (Ment Str) × Nat => MapIs x.2.1 x.2.2 (countN p), val := fun x => .map (some x.1), hpO := fun x => [(x.1, mapO str x.2.1 x.2.2)] } := by
 refine i3 zF rfl q6 fun w0 => ?_; refine c7 (c3 rfl (n7 ?_)); refine qM str rfl fun gm => ?_; refine c3 rfl (b8 (c8 (c7 (b7 rfl ?_)))); refine l8 rfl r5 rfl ?_; refine b7 rfl (b8 (k6 ?_)); refine y6 (β := Nat × List (Ment Str) × Nat) ⟨fun x => x.1 ≤ p.length ∧ MapIs x.2.1 x.2.2 (countN (p.take x.1)), fun x => [(3, .map (some gm)), (7, .slice B p.length cb), (8, int p.length), (9, int x.1)], fun x => [(gm, mapO str x.2.1 x.2.2)], fun _ => [Row B (rows p)]⟩ (fun x => p.length - x.1) (0, [], 0) ⟨Nat.zero_le _, MapIs.nil.congr fun s => rfl⟩ mC (.refl _) ⟨m0, tK⟩ fun x hx => ?_; obtain ⟨k, l, clk⟩ := x; obtain ⟨hk, hM⟩ := hx; simp only at hk hM; refine c7 (z8 rfl rfl rfl (b8 (c8 ?_)))
 first | refine k8 rfl (fun hb1 => ?_) (fun hb1 => ?_) | refine d9 rfl (fun hb1 => ?_) (fun hb1 => ?_)
 ·have hb1' := hb1; try simp at hb1'
  have hk2 : k < p.length := by omega
  have hcl := iq4 (p.take k) (p.getD k default); rw [List.length_take] at hcl; refine d8 (d4 (c8 (k6 (c7 ?_)))); refine z5 (α := Str) _ _ rfl r5 z2 rfl rfl rfl mB rfl (by omega) (by decide) (b6 rfl j5 rfl (i9 mB (d7 (by omega) rfl)) ?_); refine c3 rfl (b8 (i4 (b7 rfl (b7 rfl ?_)))); refine cz3 (k := (p.getD k default)) KS rfl z4 rfl rfl (V2 m0) iq6 hM ?_; refine v6 (((countN (p.take k) (p.getD k default)) + 1 : Nat) : Int) rfl rfl rfl (by show (((countN (p.take k) (p.getD k default)) : Nat) : Int) + 1 = (((countN (p.take k) (p.getD k default)) + 1 : Nat) : Int); omega) r6 ?_; refine kF (k := (p.getD k default)) (v := int (((countN (p.take k) (p.getD k default)) + 1 : Nat) : Int)) KS (.inl rfl) z4 rfl rfl rfl l6 ?_; refine d6 (u7 (d4 (i4 ?_))); refine v6 _ rfl rfl rfl rfl r6 ?_; refine b7 rfl (d6 ?_); exact again _ (k + 1, putM l (p.getD k default) (int (((countN (p.take k) (p.getD k default)) + 1 : Nat) : Int)) clk, clkM l (p.getD k default) clk) ⟨by show k + 1 ≤ p.length; omega, (hM.put (p.getD k default) (Nat.succ_pos _)).congr (px8 hk2)⟩ (D5 (by omega)) mC (.refl _) ⟨m0, tK⟩
 have hb1' := hb1; try simp at hb1'
 have hk2 : k = p.length := by omega
 subst hk2; rw [List.take_length] at hM; refine s9 (E4 (u6 (d4 (c7 (b7 rfl (c3 rfl (b8 (l4 ?_)))))))); exact ret1 (gm, l, clk) rfl rfl rfl hM (.refl _) tK
-- the stock while a page is gone through
def stV (f c : Str → Nat) (vis : List (Ment Str)) (s : Str) : Nat := if s ∈ vis.map (·.1) then max (f s) (c s) else f s
theorem stV_nil (f c : Str → Nat) (s : Str) : f s = stV f c [] s := by unfold stV; rw [if_neg (by simp)]
theorem stV_new {f c : Str → Nat} {vis : List (Ment Str)} {s : Str} (h : s ∉ vis.map (·.1)) : stV f c vis s = f s := by unfold stV; rw [if_neg h]
theorem stV_up {f c : Str → Nat} {vis : List (Ment Str)} {q : Ment Str} (h : q.1 ∉ vis.map (·.1)) (s : Str) : updF (stV f c vis) q.1 (max (f q.1) (c q.1)) s = stV f c (vis ++ [q]) s := by
  unfold updF stV; rw [List.map_append]
  by_cases e : s = q.1
  · subst e; rw [if_pos rfl, if_pos (by simp)]
  rw [if_neg e]
  by_cases h2 : s ∈ vis.map (·.1)
  · rw [if_pos h2, if_pos (List.mem_append_left _ h2)]
  rw [if_neg h2, if_neg (by rw [List.mem_append, not_or]; exact ⟨h2, by simpa using e⟩)]
theorem stV_end {f c : Str → Nat} {vis : List (Ment Str)} (h : ∀ s, 0 < c s → s ∈ vis.map (·.1)) (s : Str) : stV f c vis s = max (f s) (c s) := by
  unfold stV
  by_cases h2 : s ∈ vis.map (·.1)
  · rw [if_pos h2]
  rw [if_neg h2]
  have : c s = 0 := by
    rcases Nat.eq_zero_or_pos (c s) with h3 | h3
    · exact h3
    exact absurd (h s h3) h2
  omega
theorem lP {A : Option Addr} {c : Nat} (ps : List (Sl Str)) (hl : ps.length ≤ 1000000) (hp : ∀ p ∈ ps, p.l.length ≤ 1000000) : Meets prog kQ [.slice A ps.length c] { LI := [Rows2 A ps], inv := fun x : Nat × List (Ment Str) × Nat => MapIs x.2.1 x.2.2 (stockN ps), val := fun x => .map (some x.1), hpO := fun x => [(x.1, mapO str x.2.1 x.2.2)] } := by
 refine i3 ax0 rfl q6 fun w0 => ?_; refine c7 (c3 rfl (n7 ?_)); refine qM str rfl fun gm => ?_; refine c3 rfl (b8 (yR ?_)); refine yU (A := A) (ps := ps) mB ?_; refine i4 (b7 rfl ?_); refine l8 rfl G2 rfl ?_; refine b7 rfl (b8 (k6 ?_)); refine y6 (β := Nat × List (Ment Str) × Nat) ⟨fun x => x.1 ≤ ps.length ∧ MapIs x.2.1 x.2.2 (stockN (ps.take x.1)), fun x => [(3, .map (some gm)), (9, .slice A ps.length c), (10, int ps.length), (11, int x.1)], fun x => [(gm, mapO str x.2.1 x.2.2)], fun _ => [Row A (rows ps), Rows2 A ps]⟩ (fun x => ps.length - x.1) (0, [], 0) ⟨Nat.zero_le _, MapIs.nil.congr fun s => rfl⟩ mC (.refl _) mC fun x hx => ?_; obtain ⟨k, l, clk⟩ := x; obtain ⟨hk, hM⟩ := hx; simp only at hk hM; refine c7 (z8 rfl rfl rfl (b8 (c8 ?_)))
 first | refine k8 rfl (fun hb1 => ?_) (fun hb1 => ?_) | refine d9 rfl (fun hb1 => ?_) (fun hb1 => ?_)
 ·have hb1' := hb1; try simp at hb1'
  have hk2 : k < ps.length := by omega
  have hpk := hp _ (W0 hk2); refine d8 (d4 (c8 (k6 (c7 ?_)))); refine z5 (α := (Sl Str)) _ _ rfl G2 U1 rfl rfl rfl mB rfl (by omega) (by decide) (b6 rfl j1 rfl (i9 mB (d7 (by omega) rfl)) ?_); refine c3 rfl (n7 (b7 rfl ?_)); refine tO (A := A) (ps := ps) (p := (ps.getD k default)) mB (W0 hk2) (d5 wV rfl rfl (wL (ps.getD k default).l hpk) (hpR := [_]) l6 mC fun x2 hx2 => ?_); obtain ⟨g2, l2, clk2⟩ := x2; have hM2 : MapIs l2 clk2 (countN (ps.getD k default).l) := hx2; clear hx2; refine kq7 rfl z4 rfl (V2 m0) fun gi => ?_; refine b8 (k6 ?_); refine y6 (β := List (Ment Str) × List (Ment Str) × Nat) ⟨fun x => Vis l2 x.1 ∧ MapIs x.2.1 x.2.2 (stV (stockN (ps.take k)) (countN (ps.getD k default).l) x.1), fun x => [(3, .map (some gm)), (9, .slice A ps.length c), (10, int ps.length), (11, int k), (17, .pointer (k5 gi))], fun x => [(gi, iterM g2 clk2 x.1), (g2, mapO str l2 clk2), (gm, mapO str x.2.1 x.2.2)], fun _ => [Row A (rows ps), Rows2 A ps]⟩ (fun x => l2.length - x.1.length) ([], l, clk) ⟨Vis.nil _, hM.congr (stV_nil _ _)⟩ mC (.refl _) mC fun x hx => ?_; clear hM; obtain ⟨vis, l, clk⟩ := x; obtain ⟨hV, hM⟩ := hx; simp only at hV hM; refine c7 (mz6 (enc := str) rfl rfl (V2 m1) hM2.lt l6 fun x hx0 hx1 => mz7 (enc := str) rfl rfl ?_); refine b8 (c8 ?_)
  first | refine k8 rfl (fun hb2 => ?_) (fun hb2 => ?_) | refine d9 rfl (fun hb2 => ?_) (fun hb2 => ?_)
  ·have hb2' := hb2; try simp at hb2'
   obtain ⟨q, rfl⟩ := Option.isSome_iff_exists.1 hb2; obtain ⟨hq1, hq2⟩ := hx1 q rfl; have hqk := hM2.newKey hV hq1 hq2; have hqv := hM2.vl q hq1; have hlt := hV.lt hq1 hq2; obtain ⟨s, v, b⟩ := q; simp only at hqk hqv; obtain ⟨rfl, hqp⟩ := hqv; have hsv : stV (stockN (ps.take k)) (countN (ps.getD k default).l) vis s = (stockN (ps.take k)) s := stV_new hqk; refine d8 (d4 (k6 (c7 ?_))); refine mz9 (p := (s, int (((countN (ps.getD k default).l) s : Nat) : Int), b)) rfl rfl (V2 m1) (V2 m0) hq1 hM2.bs ?_; refine j6 rfl rfl rfl (j6 rfl rfl rfl (c3 rfl (c3 rfl (b8 (i4 (b7 rfl (b7 rfl (b7 rfl (b7 rfl ?_))))))))); refine cz3 (k := s) KS rfl z4 rfl rfl (V2 m2) iq6 hM ?_; rw [hsv]; refine b7 rfl ?_; refine rj3 (((max ((stockN (ps.take k)) s) ((countN (ps.getD k default).l) s)) : Nat) : Int) rfl rfl rfl (by split <;> omega) ?_; refine kF (k := s) (v := int (((max ((stockN (ps.take k)) s) ((countN (ps.getD k default).l) s)) : Nat) : Int)) KS (.inl rfl) z4 rfl rfl rfl (l := l) (clk := clk) (hp' := [(gi, iterM g2 clk2 (vis ++ [(s, int ((((countN (ps.getD k default).l) s : Nat)) : Int), b)])), (g2, mapO str l2 clk2)]) (C0 fun q => by simp only [List.countP_cons, List.countP_nil, Option.toList_some]; omega) ?_; refine d6 (u7 ?_); refine jq3 (hp' := [(gi, iterM g2 clk2 (vis ++ [(s, int ((((countN (ps.getD k default).l) s : Nat)) : Int), b)])), (g2, mapO str l2 clk2), (gm, mapO str (putM l s (int (((max ((stockN (ps.take k)) s) ((countN (ps.getD k default).l) s)) : Nat) : Int)) clk) (clkM l s clk))]) (C0 fun q => by simp only [List.countP_cons, List.countP_nil, Option.toList_some]; omega) ?_; exact again _ (vis ++ [(s, int ((((countN (ps.getD k default).l) s : Nat)) : Int), b)], putM l s (int ((((max ((stockN (ps.take k)) s) ((countN (ps.getD k default).l) s)) : Nat)) : Int)) clk, clkM l s clk) ⟨hV.snoc hq1 hq2, (hM.put s (Nat.lt_of_lt_of_le hqp (Nat.le_max_right ..))).congr (stV_up (q := (s, int ((((countN (ps.getD k default).l) s : Nat)) : Int), b)) hqk)⟩ (by show l2.length - (vis ++ [_]).length < l2.length - vis.length; rw [List.length_append, List.length_singleton]; omega) mC (.refl _) mC
  have hb2' := hb2; try simp at hb2'
  have hx : x = none := by cases x with | none => rfl | some q => simp at hb2
  subst hx; refine s9 (E4 (u6 (u7 (d4 (i4 ?_))))); refine v6 _ rfl rfl rfl rfl r6 ?_; refine b7 rfl (d6 ?_); exact again _ (k + 1, l, clk) ⟨by show k + 1 ≤ ps.length; omega, hM.congr fun s => by rw [kj7 hk2]; exact stV_end (fun s hs => hM2.allVis hV (hx0 rfl) hs) s⟩ (D5 (by omega)) mC (.cons _ (.cons _ (.refl _))) mC
 have hb1' := hb1; try simp at hb1'
 have hk2 : k = ps.length := by omega
 subst hk2; rw [List.take_length] at hM; refine s9 (E4 (u6 (d4 (c7 (b7 rfl (c3 rfl (b8 (l4 ?_)))))))); exact ret1 (gm, l, clk) rfl rfl rfl hM (.refl _) tK
theorem mj8 {f : Str → Nat} {p : List Str} {k : Nat} (h : k < p.length) : freshN f (p.drop k) = if f (p.getD k default) = 0 then 1 + freshN f (p.drop (k + 1)) else freshN (updF f (p.getD k default) (f (p.getD k default) - 1)) (p.drop (k + 1)) := by
  rw [jP h, freshN]
theorem kj6 {m : Nat} {ps : List (Sl Str)} (h : ∀ p ∈ ps, p.l.length ≤ m) (s : Str) : stockN ps s ≤ m := by
  have h1 : ∀ (l : List (Sl Str)) (n : Nat), (∀ p ∈ l, p.l.length ≤ m) → n ≤ m → l.foldl (fun n p => max n (countN p.l s)) n ≤ m := by
    intro l
    induction l with
    | nil => intro n _ hn; exact hn
    | cons p l ih =>
      intro n hl hn; have h2 := hl p List.mem_cons_self; have h3 := iq4 p.l s; exact ih _ (fun q hq => hl q (List.mem_cons_of_mem _ hq)) (Nat.max_le.2 ⟨hn, by omega⟩)
  exact h1 ps 0 h (Nat.zero_le _)
theorem mx8 {f : Str → Nat} {m n : Nat} (h : ∀ s, f s ≤ m) (hn : n ≤ m) (k s : Str) : updF f k n s ≤ m := by
  unfold updF
  split
  · exact hn
  exact h s
def freshE (ps : List (Sl Str)) (p : List Str) : Nat := if askedErr (years ps) p = 0 then freshN (stockN ps) p else 0
theorem lR {A B : Option Addr} {ca cb : Nat} (ps : List (Sl Str)) (p : List Str) : Meets prog Z8 [.slice A ps.length ca, .slice B p.length cb] { LI := [Rows2 A ps, Row B (rows p)], val := fun _ : Unit => .tuple #[int (freshE ps p : Nat), int (askedErr (years ps) p)] } := by
 refine i3 ax9 rfl q6 fun w0 => ?_; refine c7 (c3 rfl (c3 rfl (b8 (c8 (c7 (b7 rfl (b7 rfl ?_))))))); refine d5 dA rfl rfl (cQ ps p) l6 mC fun _ _ => ?_; refine c3 rfl (n7 (b7 rfl (y5 rfl rfl rfl (b8 ?_))))
 first | refine k8 rfl (fun hb1 => ?_) (fun hb1 => ?_) | refine d9 rfl (fun hb1 => ?_) (fun hb1 => ?_)
 ·have hb1' := hb1; try simp at hb1'
  refine c7 (b7 rfl (c3 rfl (c3 rfl (b8 (D4 ?_))))); exact ret2 () rfl rfl rfl (by show Value.tuple #[int (freshE ps p : Nat), _] = _; rw [freshE, if_neg hb1]; rfl) rfl tK (.refl _) tK
 have hb1' := hb1; try simp at hb1'
 have hq0 := Classical.not_not.1 hb1; obtain ⟨hy0, hp0⟩ := mZ hq0; obtain ⟨hy4, hy6⟩ := aV hy0; have hp6 := V1 hp0; refine d8 (d4 (c7 (b7 rfl ?_))); refine d5 lV rfl rfl (lP ps (by omega) (fun q hq => by have := hy6 q hq; omega)) l6 mC fun x hx => ?_; obtain ⟨gm, l0, clk0⟩ := x; have hM0 : MapIs l0 clk0 (stockN ps) := hx; clear hx; refine c3 rfl (c3 rfl (b8 (c8 (c7 (b7 rfl ?_))))); refine l8 rfl r5 rfl ?_; refine b7 rfl (b8 (k6 ?_)); refine y6 (β := Nat × Nat × List (Ment Str) × Nat × (Str → Nat)) ⟨fun x => x.1 ≤ p.length ∧ MapIs x.2.2.1 x.2.2.2.1 x.2.2.2.2 ∧ freshN (stockN ps) p = x.2.1 + freshN x.2.2.2.2 (p.drop x.1) ∧ x.2.1 ≤ x.1 ∧ ∀ s, x.2.2.2.2 s ≤ 6, fun x => [(7, int (x.2.1 : Nat)), (8, .map (some gm)), (19, .slice B p.length cb), (20, int p.length), (21, int x.1)], fun x => [(gm, mapO str x.2.2.1 x.2.2.2.1)], fun _ => [Rows2 A ps, Row B (rows p)]⟩ (fun x => p.length - x.1) (0, 0, l0, clk0, stockN ps) ⟨Nat.zero_le _, hM0, by show _ = 0 + freshN _ p; rw [Nat.zero_add], Nat.le_refl _, kj6 hy6⟩ mC (.refl _) mC fun x hx => ?_; clear hM0; obtain ⟨k, n, l, clk, f⟩ := x; obtain ⟨hk, hM, hfr, hnk, hfb⟩ := hx; simp only at hk hM hfr hnk hfb; refine c7 (z8 rfl rfl rfl (b8 (c8 ?_)))
 first | refine k8 rfl (fun hb2 => ?_) (fun hb2 => ?_) | refine d9 rfl (fun hb2 => ?_) (fun hb2 => ?_)
 ·have hb2' := hb2; try simp at hb2'
  have hk2 : k < p.length := by omega
  rw [mj8 hk2] at hfr; refine d8 (d4 (c8 (k6 (c7 ?_)))); refine z5 (α := Str) _ _ rfl r5 z2 rfl rfl rfl mB rfl (by omega) (by decide) (b6 rfl j5 rfl (i9 mB (d7 (by omega) rfl)) ?_); refine c3 rfl (n7 (b7 rfl (b7 rfl ?_))); refine cz3 (k := (p.getD k default)) KS rfl z4 rfl rfl (V2 m0) iq6 hM ?_; refine b8 (k6 (c7 (E3 rfl rfl rfl (c3 rfl (b8 ?_)))))
  first | refine k8 rfl (fun hb3 => ?_) (fun hb3 => ?_) | refine d9 rfl (fun hb3 => ?_) (fun hb3 => ?_)
  ·have hb3' := hb3; try simp at hb3'
   have h0 : (f (p.getD k default)) = 0 := by omega
   rw [if_pos h0] at hfr; refine i4 (b7 rfl ?_); refine v6 ((n + 1 : Nat) : Int) rfl rfl rfl (by show (n : Int) + 1 = ((n + 1 : Nat) : Int); omega) r6 ?_; refine c3 rfl (d6 (u7 (u7 (d4 (i4 ?_))))); refine v6 _ rfl rfl rfl rfl r6 ?_; refine b7 rfl (d6 ?_); exact again _ (k + 1, (n + 1), l, clk, f) ⟨by show k + 1 ≤ p.length; omega, hM, by show freshN (stockN ps) p = (n + 1) + freshN f (p.drop (k + 1)); omega, by show (n + 1) ≤ k + 1; omega, hfb⟩ (D5 (by omega)) mC (.refl _) mC
  have hb3' := hb3; try simp at hb3'
  have h0 : ¬ (f (p.getD k default)) = 0 := by omega
  rw [if_neg h0] at hfr; refine c7 (E3 rfl rfl rfl (c3 rfl (b8 ?_)))
  first | refine k8 rfl (fun hb4 => ?_) (fun hb4 => ?_) | refine d9 rfl (fun hb4 => ?_) (fun hb4 => ?_)
  ·have hb4' := hb4; try simp at hb4'
   have h1 : (f (p.getD k default)) = 1 := by omega
   rw [h1] at hfr; refine i4 (b7 rfl (b7 rfl ?_)); refine rj6 (k := (p.getD k default)) KS z4 rfl rfl l6 ?_; refine d6 (u7 (u7 (d4 (i4 ?_)))); refine v6 _ rfl rfl rfl rfl r6 ?_; refine b7 rfl (d6 ?_); exact again _ (k + 1, n, (delM l (p.getD k default)), clk, (updF f (p.getD k default) 0)) ⟨by show k + 1 ≤ p.length; omega, hM.del (p.getD k default), by show freshN (stockN ps) p = n + freshN (updF f (p.getD k default) 0) (p.drop (k + 1)); exact hfr, by show n ≤ k + 1; omega, mx8 hfb (Nat.zero_le _) _⟩ (D5 (by omega)) mC (.refl _) mC
  have hb4' := hb4; try simp at hb4'
  have h1 : ¬ (f (p.getD k default)) = 1 := by omega
  refine i4 (b7 rfl (b7 rfl ?_)); refine cz3 (k := (p.getD k default)) KS rfl z4 rfl rfl (V2 m0) iq6 hM ?_; refine iF (((f (p.getD k default)) - 1 : Nat) : Int) rfl rfl rfl (by show (((f (p.getD k default)) : Nat) : Int) - 1 = (((f (p.getD k default)) - 1 : Nat) : Int); omega) (by have hb := hfb (p.getD k default); unfold I64; omega) ?_; refine kF (k := (p.getD k default)) (v := int (((f (p.getD k default)) - 1 : Nat) : Int)) KS (.inl rfl) z4 rfl rfl rfl l6 ?_; refine d6 (u7 (u7 (d4 (i4 ?_)))); refine v6 _ rfl rfl rfl rfl r6 ?_; refine b7 rfl (d6 ?_); exact again _ (k + 1, n, (putM l (p.getD k default) (int (((f (p.getD k default)) - 1 : Nat) : Int)) clk), (clkM l (p.getD k default) clk), (updF f (p.getD k default) ((f (p.getD k default)) - 1))) ⟨by show k + 1 ≤ p.length; omega, hM.put (p.getD k default) (by omega), by show freshN (stockN ps) p = n + freshN (updF f (p.getD k default) ((f (p.getD k default)) - 1)) (p.drop (k + 1)); exact hfr, by show n ≤ k + 1; omega, mx8 hfb (by have := hfb (p.getD k default); omega) _⟩ (D5 (by omega)) mC (.refl _) mC
 have hb2' := hb2; try simp at hb2'
 have hk2 : k = p.length := by omega
 subst hk2; rw [List.drop_length] at hfr; refine s9 (E4 (u6 (d4 (c7 (b7 rfl (c3 rfl (c3 rfl (b8 ?_)))))))); refine l4 ?_; exact ret2 () rfl rfl rfl (by show Value.tuple #[int (freshE ps p : Nat), int (askedErr (years ps) p)] = Value.tuple #[int (n : Nat), int 0]; rw [freshE, if_pos hq0, hq0, hfr]; rfl) rfl tK nK tK
end Go.Proofs.YtpfbbggmcbhboaaGreatDoor
end
section
namespace Go.W
open Go Go.RowKit
structure Pre {α : Type} (cf : α → α → Int) : Prop where
  asym : ∀ a b, cf a b < 0 → ¬ cf b a < 0
  tr : ∀ a b c, ¬ cf b a < 0 → ¬ cf c b < 0 → ¬ cf c a < 0
section
variable {α : Type} [El α]
theorem sj9 {l : List α} {i j : Nat} {v : α} (hi : i < l.length) : (l.set i v).getD j default = if i = j then v else l.getD j default := by
  rw [List.getD_eq_getElem?_getD, List.getD_eq_getElem?_getD, List.getElem?_set]
  split
  · rfl
  rfl
def exc (l : List α) (j : Nat) : List α := (l.set (j + 1) (l.getD j default)).set j (l.getD (j + 1) default)
theorem sj5 {l : List α} {j : Nat} (hj : j + 1 < l.length) : (exc l j).Perm l := by
  unfold exc; rw [show l.getD (j + 1) default = l[j + 1] by rw [List.getD_eq_getElem?_getD, List.getElem?_eq_getElem hj]; rfl, show l.getD j default = l[j]'(by omega) by rw [List.getD_eq_getElem?_getD, List.getElem?_eq_getElem (by omega)]; rfl]; exact List.set_set_perm hj (by omega)
theorem jq8 {l : List α} {j k : Nat} (hj : j + 1 < l.length) : (exc l j).getD k default = if k = j then l.getD (j + 1) default else if k = j + 1 then l.getD j default else l.getD k default := by
  unfold exc; rw [sj9 (by simp; omega), sj9 (by omega)]
  by_cases h1 : k = j
  · rw [if_pos h1.symm, if_pos h1]
  rw [if_neg (fun e => h1 e.symm), if_neg h1]
  by_cases h2 : k = j + 1
  · rw [if_pos h2.symm, if_pos h2]
  rw [if_neg (fun e => h2 e.symm), if_neg h2]
variable {cf : α → α → Int}
def sortTo (cf : α → α → Int) (l : List α) (m : Nat) : Prop := ∀ p q, p < q → q < m → ¬ cf (l.getD q default) (l.getD p default) < 0
structure InsO (cf : α → α → Int) (l : List α) (i j : Nat) : Prop where
  o : ∀ p q, p < q → q ≤ i → ¬ p = j → ¬ q = j → ¬ cf (l.getD q default) (l.getD p default) < 0
  a : ∀ q, j < q → q ≤ i → ¬ cf (l.getD q default) (l.getD j default) < 0
theorem InsO.start {l : List α} {i : Nat} (h : sortTo cf l i) : InsO cf l i i := ⟨fun p q h1 h2 h3 h4 => h p q h1 (by omega), fun q h1 h2 => by omega⟩
theorem InsO.swap {l : List α} {i j : Nat} (hP : Pre cf) (h : InsO cf l i (j + 1)) (hi : i < l.length) (hj : j + 1 ≤ i) (hlt : cf (l.getD (j + 1) default) (l.getD j default) < 0) : InsO cf (exc l j) i j := by
  have hj2 : j + 1 < l.length := by omega
  refine ⟨fun p q h1 h2 h3 h4 => ?_, fun q h1 h2 => ?_⟩
  · rw [jq8 hj2, jq8 hj2, if_neg h3, if_neg h4]
    by_cases hp : p = j + 1
    · rw [if_pos hp, if_neg (by omega)]
      exact h.o j q (by omega) h2 (by omega) (by omega)
    rw [if_neg hp]
    by_cases hq : q = j + 1
    · rw [if_pos hq]
      exact h.o p j (by omega) (by omega) (by omega) (by omega)
    rw [if_neg hq]; exact h.o p q h1 h2 hp hq
  rw [jq8 hj2, jq8 hj2, if_pos rfl, if_neg (by omega)]
  by_cases hq : q = j + 1
  · rw [if_pos hq]; exact hP.asym _ _ hlt
  rw [if_neg hq]; exact h.a q (by omega) h2
theorem InsO.done {l : List α} {i j : Nat} (hP : Pre cf) (h : InsO cf l i j) (hj : j ≤ i) (he : ∀ k, j = k + 1 → ¬ cf (l.getD j default) (l.getD k default) < 0) : sortTo cf l (i + 1) := by
  intro p q h1 h2
  by_cases hp : p = j
  · subst hp; exact h.a q h1 (by omega)
  by_cases hq : q = j
  · subst hq
    obtain ⟨k, rfl⟩ : ∃ k, q = k + 1 := ⟨q - 1, by omega⟩; have h3 := he k rfl
    by_cases hpk : p = k
    · subst hpk; exact h3
    exact hP.tr _ _ _ (h.o p k (by omega) (by omega) hp (by omega)) h3
  exact h.o p q h1 (by omega) hp hq
abbrev Srtd (cf : α → α → Int) (ws l : List α) : Prop := l.Perm ws ∧ (Pre cf → sortTo cf l l.length)
theorem kj9 {l : List α} (h : sortTo cf l l.length) : l.Pairwise fun a b => ¬ cf b a < 0 := by
  rw [List.pairwise_iff_getElem]; intro i j hi hj hij; have := h i j hij hj
  rwa [List.getD_eq_getElem?_getD, List.getD_eq_getElem?_getD, List.getElem?_eq_getElem hi, List.getElem?_eq_getElem hj] at this
theorem nj0 {cur : Array Value} {l : List α} {k q : Nat} (h : cur.toList.take (l.length * El.sz α) = rows l) (hk : k < l.length) (hq : q = k * El.sz α) : ∀ i u, (El.cells (l.getD k default))[i]? = some u → cur[q + i]? = some u := fun i u hu => own_f h hk (by rw [hq]) hu
theorem kz7 {e : TypeId} {g cap : Nat} {cur : Array Value} {l : List α} (h3 : l.length ≤ cap) (h4 : cap ≤ maxLen) (h5 : cur.size = cap * El.sz α) (h6 : cur.toList.take (l.length * El.sz α) = rows l) : Grow e (El.sz α) (k5 g) l.length cap (rows l) [(g, Obj.cells cur e (0, 0))] :=
  ⟨by rw [O9], .inr ⟨g, cur, rfl, rfl, h3, h4, h5, h6⟩⟩
end
end Go.W
end
section
namespace Go.Proofs.YtpfbbggmcbhboaaGreatDoor
open Go Go.W Tryz T F
set_option maxRecDepth 20000
attribute [local irreducible] HL HC HQ HB Row Rows2 Blk Facts
def cmpB (a b : UInt8) : Int := if a.toNat < b.toNat then -1 else if b.toNat < a.toNat then 1 else 0
def cmpT : Str → Str → Int
  | [], [] => 0
  | [], _ :: _ => -1
  | _ :: _, [] => 1
  | a :: l, b :: l' => if ¬ cmpB a b = 0 then cmpB a b else cmpT l l'
theorem pz5 {a b : UInt8} (h : cmpB a b = 0) : a = b := by
  unfold cmpB at h
  split at h
  · cases h
  split at h
  · cases h
  exact UInt8.toNat_inj.1 (by omega)
theorem pz6 (a : UInt8) : cmpB a a = 0 := by unfold cmpB; rw [if_neg (by omega), if_neg (by omega)]
theorem zT : ∀ a b : Str, cmpT a b < 0 ↔ a < b
  | [], [] => by simp [cmpT]
  | [], b :: l => by simp [cmpT]
  | a :: l, [] => by simp [cmpT]
  | a :: l, b :: l' => by
    rw [List.cons_lt_cons_iff, cmpT]
    by_cases h : cmpB a b = 0
    · have e := pz5 h
      subst e; rw [if_neg (not_not_intro h), zT l l']
      constructor
      · intro h; exact .inr ⟨rfl, h⟩
      rintro (h | h)
      · exact absurd h (UInt8.lt_irrefl _)
      exact h.2
    rw [if_pos h]; have hne : a ≠ b := fun e => h (by rw [e]; exact pz6 b); unfold cmpB
    constructor
    · intro h1
      left
      rw [UInt8.lt_iff_toNat_lt]
      split at h1
      · assumption
      split at h1 <;> omega
    rintro (h1 | h1)
    · rw [UInt8.lt_iff_toNat_lt] at h1
      rw [if_pos h1]; decide
    exact absurd h1.1 hne
theorem cmpT_eq : ∀ {a b : Str}, ¬ a < b → ¬ b < a → a = b := fun {a b} h1 h2 => List.le_antisymm (List.not_lt.1 h2) (List.not_lt.1 h1)
theorem pz4 {a b : Str} {k : Nat} (ha : k < a.length) (hb : k < b.length) : cmpT (a.drop k) (b.drop k) = if ¬ cmpB (a.getD k default) (b.getD k default) = 0 then cmpB (a.getD k default) (b.getD k default) else cmpT (a.drop (k + 1)) (b.drop (k + 1)) := by
  rw [jP ha, jP hb, cmpT]
theorem cmpT_le {a : Str} : cmpT a [] = if a.length = 0 then 0 else 1 := by cases a <;> rfl
theorem cmpT_ge {b : Str} : cmpT [] b = if b.length = 0 then 0 else -1 := by cases b <;> rfl
abbrev cfT (x y : Ty) : Int := cmpT x.1 y.1
instance : El Ty where
  default := ([], 0)
  cells x := [str x.1, int x.2]
  sz := 2
  len _ := rfl
  one a u h := by simp at h; rcases h with h | h <;> subst h <;> rfl
def tyOf (ps : List (Sl Str)) (vis : List (Ment Str)) : List Ty := vis.map fun q => (q.1, (stockN ps q.1 : Int))
theorem nq4 (ps : List (Sl Str)) (vis : List (Ment Str)) (q : Ment Str) : tyOf ps (vis ++ [q]) = tyOf ps vis ++ [(q.1, (stockN ps q.1 : Int))] := by unfold tyOf; rw [List.map_append]; rfl
theorem qx8 {ps : List (Sl Str)} {l vis : List (Ment Str)} {clk : Nat} {ts : List Ty} (hM : MapIs l clk (stockN ps)) (hV : Vis l vis) (ha : ∀ p ∈ l, p.2.2 ∈ vis.map (·.2.2)) (hp : ts.Perm (tyOf ps vis)) (hs : ts.Pairwise fun a b => ¬ cfT b a < 0) : StockIs ps ts := by
  have hnd : (ts.map (·.1)).Nodup := by
    refine (hp.map _).nodup_iff.2 ?_; have e : (tyOf ps vis).map (·.1) = vis.map (·.1) := by unfold tyOf; rw [List.map_map]; rfl
    rw [e]; have h1 := hV.nd; have h2 := hV.sub; clear hp hs ha e hV
    induction vis with
    | nil => simp
    | cons q vis ih =>
      rw [List.map_cons, List.nodup_cons] at h1 ⊢; refine ⟨fun hm => h1.1 ?_, ih h1.2 fun p hp => h2 p (List.mem_cons_of_mem _ hp)⟩; obtain ⟨r, hr, e⟩ := List.mem_map.1 hm; have := MapIs.key hM.nd (h2 r (List.mem_cons_of_mem _ hr)) (h2 q List.mem_cons_self) e; subst this; exact List.mem_map_of_mem hr
  constructor
  · rw [List.Nodup, List.pairwise_map] at hnd
    refine (hs.and hnd).imp fun {a b} h => ?_; have h1 : ¬ b.1 < a.1 := fun hh => h.1 ((zT b.1 a.1).2 hh); exact Classical.byContradiction fun h2 => h.2 (cmpT_eq h2 h1)
  intro s n; rw [hp.mem_iff]; unfold tyOf; rw [List.mem_map]
  constructor
  · rintro ⟨q, hq, e⟩
    obtain ⟨rfl, rfl⟩ := Prod.mk.inj e; exact ⟨(hM.vl q (hV.sub q hq)).2, rfl⟩
  rintro ⟨h1, rfl⟩; obtain ⟨q, hq, rfl⟩ := List.mem_map.1 (hM.allVis hV ha h1); exact ⟨q, hq, rfl⟩
theorem iJ (a : UInt8) : Meets prog dH [(.int .u8 (a.toNat : Nat))] { val := fun _ : Unit => .bool false } := by
 refine i3 vP rfl q6 fun w0 => ?_; refine c7 (c3 rfl (n7 (b7 rfl (b7 rfl (y5 rfl rfl rfl (c3 rfl (d6 ?_))))))); refine d4 (l4 ?_); exact ret1 () rfl (congrArg (fun b => some (Value.bool b)) (by simp)) rfl tK (.refl _) tK
theorem rO (a b : UInt8) : Meets prog aT [(.int .u8 (a.toNat : Nat)), (.int .u8 (b.toNat : Nat))] { val := fun _ : Unit => int (cmpB a b) } := by
 refine i3 sQ rfl q6 fun w0 => ?_; refine c7 (c3 rfl (n7 (b7 rfl ?_))); refine d5 iI rfl rfl (iJ _) (.refl _) tK fun _ _ => ?_; refine c3 rfl (n7 (b7 rfl ?_)); refine d5 iI rfl rfl (iJ _) (.refl _) tK fun _ _ => ?_; refine c3 rfl (b8 (c8 (c7 (b7 rfl (b8 ?_))))); refine c_f rfl gq7 ?_; refine d8 (d4 (c8 (c7 (b7 rfl (b8 ?_))))); refine c_f rfl gq7 ?_; refine d8 (d4 (c8 (c7 (b7 rfl (b7 rfl (z8 rfl rfl rfl (b8 ?_)))))))
 first | refine k8 rfl (fun hb4 => ?_) (fun hb4 => ?_) | refine d9 rfl (fun hb4 => ?_) (fun hb4 => ?_)
 ·have hb4' := hb4; try simp at hb4'
  refine c7 (c3 rfl (b8 (D4 ?_))); exact ret1 () rfl (congrArg (fun n => some (int n)) (by rw [cmpB, if_pos (by omega)])) rfl tK nK tK
 have hb4' := hb4; try simp at hb4'
 refine d8 (d4 (c8 (c7 (b7 rfl (b7 rfl (M5 rfl rfl rfl (b8 ?_)))))))
 first | refine k8 rfl (fun hb5 => ?_) (fun hb5 => ?_) | refine d9 rfl (fun hb5 => ?_) (fun hb5 => ?_)
 ·have hb5' := hb5; try simp at hb5'
  refine c7 (c3 rfl (b8 (D4 ?_))); exact ret1 () rfl (congrArg (fun n => some (int n)) (by rw [cmpB, if_neg (by omega), if_pos (by omega)])) rfl tK nK tK
 have hb5' := hb5; try simp at hb5'
 refine d8 (d4 (c7 (c3 rfl (b8 (l4 ?_))))); exact ret1 () rfl (congrArg (fun n => some (int n)) (by rw [cmpB, if_neg (by omega), if_neg (by omega)])) rfl tK nK tK
theorem kE {A B : Option Addr} {ca cb : Nat} (a b : Str) (ha : a.length ≤ 1000000) (hb : b.length ≤ 1000000) : Meets prog L4 [.slice A a.length ca, .slice B b.length cb] { LI := [Row A (rows a), Row B (rows b)], val := fun _ : Unit => int (cmpT a b) } := by
 refine i3 iG rfl q6 fun w0 => ?_; refine c7 (c3 rfl (b8 (c8 (c7 (b7 rfl ?_))))); refine l8 rfl A5 rfl ?_; refine b7 rfl (b8 (k6 ?_)); refine y6 (β := Nat) ⟨fun k => k ≤ a.length ∧ k ≤ b.length ∧ cmpT a b = cmpT (a.drop k) (b.drop k), fun k => [(0, .slice A a.length ca), (1, .slice B b.length cb), (9, .slice A a.length ca), (10, int a.length), (11, int k)], fun _ => [], fun _ => [Row A (rows a), Row B (rows b)]⟩ (fun k => a.length - k) 0 ⟨Nat.zero_le _, Nat.zero_le _, rfl⟩ mC (.refl _) mC fun k hk => ?_; obtain ⟨hk, hkb, ht⟩ := hk; refine c7 (z8 rfl rfl rfl (b8 (c8 ?_)))
 first | refine k8 rfl (fun hb1 => ?_) (fun hb1 => ?_) | refine d9 rfl (fun hb1 => ?_) (fun hb1 => ?_)
 ·have hb1' := hb1; try simp at hb1'
  have hk2 : k < a.length := by omega
  refine d8 (d4 (c8 (k6 (c7 (b7 rfl ?_))))); refine z5 (α := UInt8) _ _ rfl A5 xM rfl rfl rfl mB rfl (by omega) (by decide) (b6 rfl qC rfl (i9 mB (d7 (by omega) rfl)) ?_); refine c3 rfl (c3 rfl (b8 (c8 (c7 (b7 rfl (b7 rfl ?_)))))); refine l8 rfl A5 rfl ?_; refine lN rfl rfl rfl (b8 ?_)
  first | refine k8 rfl (fun hb2 => ?_) (fun hb2 => ?_) | refine d9 rfl (fun hb2 => ?_) (fun hb2 => ?_)
  ·have hb2' := hb2; try simp at hb2'
   have hkb2 : k = b.length := by omega
   rw [hkb2, List.drop_length, cmpT_le, List.length_drop, if_neg (by omega)] at ht; refine c7 (c3 rfl (b8 (D4 (C7 (r9 (C7 ?_)))))); exact ret1 () rfl (congrArg (fun n => some (int n)) (by rw [ht])) rfl tK nK tK
  have hb2' := hb2; try simp at hb2'
  have hkb2 : k < b.length := by omega
  rw [pz4 hk2 hkb2] at ht; refine d8 (d4 (c7 (b7 rfl (b7 rfl ?_)))); refine z5 (α := UInt8) _ _ rfl A5 xM rfl rfl rfl mB rfl (by omega) (by decide) (b6 rfl qC rfl (i9 mB (d7 (by omega) rfl)) ?_); refine c3 rfl (n7 (b7 rfl (b7 rfl ?_))); refine d5 rL rfl rfl (rO (a.getD k default) (b.getD k default)) l6 tK fun _ _ => ?_; refine c3 rfl (n7 (b7 rfl (y5 rfl rfl rfl (b8 ?_))))
  first | refine k8 rfl (fun hb3 => ?_) (fun hb3 => ?_) | refine d9 rfl (fun hb3 => ?_) (fun hb3 => ?_)
  ·have hb3' := hb3; try simp at hb3'
   rw [if_pos hb3] at ht; refine c7 (b7 rfl (c3 rfl (b8 (l4 (C7 (r9 (C7 ?_))))))); exact ret1 () rfl (congrArg (fun n => some (int n)) (by rw [ht])) rfl tK nK tK
  have hb3' := hb3; try simp at hb3'
  rw [if_neg hb3] at ht; refine d8 (u7 (d4 (i4 ?_))); refine v6 _ rfl rfl rfl rfl r6 ?_; refine b7 rfl (d6 ?_); exact again _ (k + 1) ⟨by show k + 1 ≤ a.length; omega, by show k + 1 ≤ b.length; omega, ht⟩ (D5 (by omega)) mC (.refl _) mC
 have hb1' := hb1; try simp at hb1'
 obtain rfl : k = a.length := by omega
 rw [List.drop_length, cmpT_ge, List.length_drop] at ht; refine s9 (E4 (u6 (d4 (c8 (c7 (b7 rfl ?_)))))); refine l8 rfl A5 rfl (b7 rfl (l8 rfl A5 rfl ?_)); refine z8 rfl rfl rfl (b8 ?_)
 first | refine k8 rfl (fun hb4 => ?_) (fun hb4 => ?_) | refine d9 rfl (fun hb4 => ?_) (fun hb4 => ?_)
 ·have hb4' := hb4; try simp at hb4'
  refine c7 (c3 rfl (b8 (D4 ?_))); exact ret1 () rfl (congrArg (fun n => some (int n)) (by rw [ht, if_neg (by omega)])) rfl tK nK tK
 have hb4' := hb4; try simp at hb4'
 refine d8 (d4 (c7 (c3 rfl (b8 (l4 ?_))))); exact ret1 () rfl (congrArg (fun n => some (int n)) (by rw [ht, if_pos (by omega)])) rfl tK nK tK
theorem vF (x y : Ty) (hx : x.1.length ≤ 1000000) (hy : y.1.length ≤ 1000000) : Meets prog D8 [.agg #[str x.1, int x.2], .agg #[str y.1, int y.2]] { val := fun _ : Unit => int (cmpT x.1 y.1) } := by
 refine i3 wY rfl q6 fun w0 => c7 (aJ rfl rfl fun ga => aJ rfl rfl fun gb => ?_); refine c3 rfl (n7 ?_)
 first | refine b3 ⟨_, 0, none⟩ rfl rfl aC rfl ?_ | refine b3 _ rfl rfl aC rfl ?_
 first | refine b6 rfl j5 rfl (i5 mB rfl) ?_ | refine b6 rfl j5 rfl (j4 mB rfl) ?_ | refine b6 rfl j5 rfl (i9 mB (d7 (by omega) rfl)) ?_ | refine b6 rfl j5 rfl (i7 mB (rows_get (by omega) rfl)) ?_
 refine cz4 rfl l7 A5 pZ rfl fun g1 cap1 => ?_
 first | refine b3 ⟨_, 0, none⟩ rfl rfl aC rfl ?_ | refine b3 _ rfl rfl aC rfl ?_
 first | refine b6 rfl j5 rfl (i5 mB rfl) ?_ | refine b6 rfl j5 rfl (j4 mB rfl) ?_ | refine b6 rfl j5 rfl (i9 mB (d7 (by omega) rfl)) ?_ | refine b6 rfl j5 rfl (i7 mB (rows_get (by omega) rfl)) ?_
 refine cz4 rfl l7 A5 pZ rfl fun g2 cap2 => d5 gH rfl rfl (kE x.1 y.1 hx hy) (hpR := [_, _]) l6 mC fun _ _ => ?_; refine c3 rfl (b8 (l4 ?_)); exact ret1 () rfl rfl rfl tK nK tK
theorem preT : Pre cfT where
  asym a b h1 h2 := List.lt_asymm ((zT _ _).1 h1) ((zT _ _).1 h2)
  tr a b c h1 h2 h3 := by
    rw [zT] at *; exact List.not_lt.2 (List.le_trans (List.not_lt.1 h1) (List.not_lt.1 h2)) h3
set_option maxHeartbeats 1000000 in
theorem cF {A : Option Addr} {cap : Nat} (ws : List Ty) (hb : ∀ t ∈ ws, t.1.length ≤ 1000000) (og : Hp) (hG : Grow z6 2 A ws.length cap (rows ws) og) (hn : ws.length ≤ 1000000) :
    Meets prog H9 [.slice A ws.length cap, int (0 : Nat), int ws.length, .func (.func D8) #[] #[]] { hpI := og, inv := fun x : List Ty × Hp => Srtd cfT ws x.1 ∧ Grow z6 2 A x.1.length cap (rows x.1) x.2, val := fun _ => .tuple #[], hpO := fun x => x.2 } := by
 refine i3 cX rfl q6 fun w0 => ?_; refine c7 (b7 rfl ?_); refine v6 ((1 : Nat) : Int) rfl rfl rfl (by rfl) r6 ?_; refine c3 rfl (b8 (k6 ?_)); refine y6 (β := Nat × List Ty × Hp) ⟨fun x => 1 ≤ x.1 ∧ x.2.1.Perm ws ∧ sortTo cfT x.2.1 x.1 ∧ Grow z6 2 A x.2.1.length cap (rows x.2.1) x.2.2, fun x => [(0, .slice A ws.length cap), (1, int (0 : Nat)), (2, int ws.length), (3, .func (.func D8) #[] #[]), (8, int x.1)], fun x => x.2.2, fun _ => []⟩ (fun x => ws.length - x.1) (1, ws, og) ⟨Nat.le_refl _, .refl _, fun p q h1 h2 => by omega, hG⟩ mC (by first | (rw [List.append_nil]; exact List.Sublist.refl _) | exact List.Sublist.refl _) tK fun x hx => ?_; clear hG; obtain ⟨i, l, og⟩ := x; obtain ⟨hi0, hP, hS, hG⟩ := hx; simp only at hi0 hP hS hG; have hll : l.length = ws.length := hP.length_eq; refine c8 (c7 (b7 rfl (b7 rfl (z8 rfl rfl rfl (b8 ?_)))))
 first | refine k8 rfl (fun hb1 => ?_) (fun hb1 => ?_) | refine d9 rfl (fun hb1 => ?_) (fun hb1 => ?_)
 ·have hb1' := hb1; try simp at hb1'
  have hi : i < ws.length := by omega
  obtain ⟨gd, cur, e1, e2, hnc, hcm, hcs, hct, _⟩ := hG.open_ (by omega); subst e1; subst e2; rw [hll] at hnc; refine d8 (d4 (c8 (k6 (c7 (b7 rfl (c3 rfl (b8 (k6 ?_)))))))); refine y6 (β := Nat × List Ty × Array Value) ⟨fun x => x.1 ≤ i ∧ x.2.1.Perm ws ∧ InsO cfT x.2.1 i x.1 ∧ x.2.2.size = cap * 2 ∧ x.2.2.toList.take (x.2.1.length * 2) = rows x.2.1, fun x => [(0, .slice (k5 gd) ws.length cap), (1, int (0 : Nat)), (2, int ws.length), (3, .func (.func D8) #[] #[]), (8, int i), (9, int x.1)], fun x => [(gd, Obj.cells x.2.2 z6 (0, 0))], fun _ => []⟩ (fun x => x.1) (i, l, cur) ⟨Nat.le_refl _, hP, .start hS, hcs, hct⟩ mC (List.Sublist.refl _) tK fun x hx => ?_; clear hG hS hcs hct hP hll; obtain ⟨j, l, cur⟩ := x; obtain ⟨hj, hP, hS, hcs, hct⟩ := hx; simp only at hj hP hS hcs hct; have hll : l.length = ws.length := hP.length_eq; have hbl : ∀ k, k < l.length → (l.getD k default).1.length ≤ 1000000 := fun k hk => hb _ (hP.subset (W0 hk)); refine yR (V3 14 mixed (by decide) (by decide) rfl rfl (v0 rfl (v0 rfl (u9 (fun w1 => M5 rfl rfl rfl (q_z rfl)) (v0 rfl ?_))))); refine yV (t := 21) (want := true) rfl ?_ ?_
  ·intro hg1; have hg1' := hg1; try simp at hg1'
   obtain ⟨k, rfl⟩ : ∃ k, j = k + 1 := ⟨j - 1, by simp at hg1; omega⟩
   apply q9 _ rfl rfl rfl
   ·intro w1; refine k9 hg1 (b7 rfl (d6 ?_)); exact l3 rfl
   apply q9 _ rfl rfl rfl
   ·intro w1; refine k9 hg1 (b7 rfl (d6 ?_)); exact l3 rfl
   apply q9 _ rfl rfl rfl
   ·intro w1; refine k9 hg1 (b7 rfl (d6 ?_)); exact l3 rfl
   apply q9 _ rfl rfl rfl
   ·intro w1; refine k9 hg1 (O5 (k + 1) ((k + 1) * 2) rfl A6 y4 rfl rfl rfl (by omega) (by omega) (d6 ?_)); exact l3 rfl
   apply q9 _ rfl rfl rfl
   ·intro w1; refine k9 hg1 (u3 (cs := [str (l.getD ((k + 1)) default).1, int (l.getD ((k + 1)) default).2]) rfl O3 y4 rfl rfl (pU mB (nj0 (α := Ty) hct (by omega) rfl)) (d6 ?_)); exact l3 rfl
   apply q9 _ rfl rfl rfl
   ·intro w1; refine k9 hg1 (b7 rfl (d6 ?_)); exact l3 rfl
   apply q9 _ rfl rfl rfl
   ·intro w1; refine k9 hg1 (b7 rfl (d6 ?_)); exact l3 rfl
   apply q9 _ rfl rfl rfl
   ·intro w1; refine k9 hg1 (iF (k : Int) rfl rfl rfl (by omega) r6 (d6 ?_)); exact l3 rfl
   apply q9 _ rfl rfl rfl
   ·intro w1; refine k9 hg1 (O5 (k) ((k) * 2) rfl A6 y4 rfl rfl rfl (by omega) (by omega) (d6 ?_)); exact l3 rfl
   apply q9 _ rfl rfl rfl
   ·intro w1; refine k9 hg1 (u3 (cs := [str (l.getD (k) default).1, int (l.getD (k) default).2]) rfl O3 y4 rfl rfl (pU mB (nj0 (α := Ty) hct (by omega) rfl)) (d6 ?_)); exact l3 rfl
   refine E8 ⟨rfl, ?_⟩; refine k9 hg1 (V9 (vs := [.agg #[str (l.getD (k + 1) default).1, int (l.getD (k + 1) default).2], .agg #[str (l.getD k default).1, int (l.getD k default).2]]) (cap := []) vN rfl rfl rfl (vF (l.getD (k + 1) default) (l.getD k default) (hbl _ (by omega)) (hbl _ (by omega))) l6 tK fun _ _ => ?_); refine k9 hg1 (z8 rfl rfl rfl ?_); refine p_t rfl rfl (bt1 hg1) rfl (b8 ?_)
   first | refine k8 rfl (fun hb2 => ?_) (fun hb2 => ?_) | refine d9 rfl (fun hb2 => ?_) (fun hb2 => ?_)
   ·have hb2' := hb2; try simp at hb2'
    refine d8 (d4 (c8 (k6 ?_))); refine R6 ([(gd, Obj.cells cur z6 (0, 0))]) ([]) l6 16 [15, 1000013, 1000009] mixed (by decide) (by decide) (by decide) rfl rfl rfl (v0 rfl (v0 rfl (v0 rfl (v0 rfl (u9 (fun w1 => iF (k : Int) rfl rfl rfl (by omega) r6 (q_z rfl)) (v0 rfl (v0 rfl (u9 (fun w1 => iF (k : Int) rfl rfl rfl (by omega) r6 (q_z rfl)) (u9 (fun w1 => O5 (k) ((k) * 2) rfl A6 y4 rfl rfl rfl (by omega) (by omega) (q_z rfl)) ?_))))))))); refine hb_rd (.agg #[str (l.getD k default).1, int (l.getD k default).2]) rfl rfl rfl ?_ ?_
    ·intro w1; refine u3 (cs := [str (l.getD (k) default).1, int (l.getD (k) default).2]) rfl O3 y4 rfl rfl (pU mB (nj0 (α := Ty) hct (by omega) rfl)) (d6 ?_); exact l3 rfl
    refine v0 rfl (v0 rfl (u9 (fun w1 => O5 (k + 1) ((k + 1) * 2) rfl A6 y4 rfl rfl rfl (by omega) (by omega) (q_z rfl)) ?_)); refine hb_rd (.agg #[str (l.getD (k + 1) default).1, int (l.getD (k + 1) default).2]) rfl rfl rfl ?_ ?_
    ·intro w1; refine u3 (cs := [str (l.getD ((k + 1)) default).1, int (l.getD ((k + 1)) default).2]) rfl O3 y4 rfl rfl (pU mB (nj0 (α := Ty) hct (by omega) rfl)) (d6 ?_); exact l3 rfl
    refine u9 (fun w1 => O5 (k + 1) ((k + 1) * 2) rfl A6 y4 rfl rfl rfl (by omega) (by omega) (q_z rfl)) ?_; refine hb_st ⟨Unit, fun _ => True, fun _ => undef, fun _ => [], fun _ => [(gd, Obj.cells (cur.toList.take ((k + 1) * 2) ++ [str (l.getD (k) default).1, int (l.getD (k) default).2] ++ cur.toList.drop ((k + 1) * 2 + 2)).toArray z6 (0, 0))]⟩ rfl rfl ?_ ?_
    ·intro _ _; intro w1; refine kq5 rfl rfl (.refl _) y4 (show (k + 1) * 2 + 2 ≤ cur.size by omega) (by rfl) (d6 ?_); exact X2 () tK (fun h => by cases h) (.refl _) tK
    refine E8 ⟨rfl, ?_⟩; intro _ _ _ _ _ _; have hct1 := hq9 (α := Ty) (k := k + 1) (a := l.getD k default) (by omega) (show l.length ≤ cap by omega) hcs hct; have hct2 := hq9 (α := Ty) (k := k) (a := l.getD (k + 1) default) (cur := (cur.toList.take ((k + 1) * 2) ++ [str (l.getD (k) default).1, int (l.getD (k) default).2] ++ cur.toList.drop ((k + 1) * 2 + 2)).toArray) (by simp; omega) (show (l.set (k + 1) (l.getD k default)).length ≤ cap by simp; omega) hct1.2 hct1.1; refine O5 (k) ((k) * 2) rfl A6 y4 rfl rfl rfl (by omega) (by omega) ?_; refine kq5 rfl rfl (.refl _) y4 (show k * 2 + 2 ≤ ((cur.toList.take ((k + 1) * 2) ++ [str (l.getD (k) default).1, int (l.getD (k) default).2] ++ cur.toList.drop ((k + 1) * 2 + 2)).toArray).size by have := hct1.2; rw [List.size_toArray]; exact Nat.le_trans (show k * 2 + 2 ≤ cap * 2 by omega) (Nat.le_of_eq this.symm)) (by rfl) ?_; refine d6 (u7 (d4 (i4 (b7 rfl ?_)))); refine iF (k : Int) rfl rfl rfl (by omega) r6 ?_; refine c3 rfl (d6 ?_); exact again _ (k, exc l k, (((cur.toList.take ((k + 1) * 2) ++ [str (l.getD (k) default).1, int (l.getD (k) default).2] ++ cur.toList.drop ((k + 1) * 2 + 2)).toArray).toList.take ((k) * 2) ++ [str (l.getD (k + 1) default).1, int (l.getD (k + 1) default).2] ++ ((cur.toList.take ((k + 1) * 2) ++ [str (l.getD (k) default).1, int (l.getD (k) default).2] ++ cur.toList.drop ((k + 1) * 2 + 2)).toArray).toList.drop ((k) * 2 + 2)).toArray) ⟨by show k ≤ i; omega, (sj5 (by omega)).trans hP, hS.swap preT (by omega) hj (by simpa using hb2), hct2.2, hct2.1⟩ (by show k < k + 1; omega) mC (List.Sublist.refl _) tK
   have hb2' := hb2; try simp at hb2'
   refine s9 (E4 (u6 (u7 (d4 (i4 (b7 rfl ?_)))))); refine v6 _ rfl rfl rfl rfl r6 ?_; refine c3 rfl (d6 ?_); exact again _ (i + 1, l, [(gd, Obj.cells cur z6 (0, 0))]) ⟨by show 1 ≤ i + 1; omega, hP, hS.done preT hj (fun q hq hlt => by obtain rfl : k = q := (by omega); exact hb2 (by simpa using hlt)), kz7 (α := Ty) (by show l.length ≤ cap; omega) hcm hcs hct⟩ (D5 (by omega)) mC (List.Sublist.refl _) tK
  intro hg1; have hg1' := hg1; try simp at hg1'
  have hj0 : j = 0 := by simp at hg1; omega
  subst hj0; refine u9 (fun w1 => u2 hg1 (q_z rfl)) (u9 (fun w1 => u2 hg1 (q_z rfl)) (u9 (fun w1 => u2 hg1 (q_z rfl)) (u9 (fun w1 => u2 hg1 (q_z rfl)) (u9 (fun w1 => u2 hg1 (q_z rfl)) (u9 (fun w1 => u2 hg1 (q_z rfl)) (u9 (fun w1 => u2 hg1 (q_z rfl)) (u9 (fun w1 => u2 hg1 (q_z rfl)) (u9 (fun w1 => u2 hg1 (q_z rfl)) (u9 (fun w1 => u2 hg1 (q_z rfl)) ?_))))))))); refine E8 ⟨rfl, ?_⟩; refine u2 hg1 (u2 hg1 ?_); refine p_f rfl rfl (bf2 hg1) rfl ?_; refine b8 (c_f rfl rfl (s9 (E4 (u6 (u7 (d4 (i4 (b7 rfl ?_)))))))); refine v6 _ rfl rfl rfl rfl r6 ?_; refine c3 rfl (d6 ?_); exact again _ (i + 1, l, [(gd, Obj.cells cur z6 (0, 0))]) ⟨by show 1 ≤ i + 1; omega, hP, hS.done preT hj (fun q hq => by omega), kz7 (α := Ty) (by show l.length ≤ cap; omega) hcm hcs hct⟩ (D5 (by omega)) mC (List.Sublist.refl _) tK
 have hb1' := hb1; try simp at hb1'
 refine s9 (E4 (u6 ?_)); exact ret0n (l, og) rfl rfl rfl ⟨⟨hP, fun _ p q h1 h2 => hS p q h1 (by have h3 : q < l.length := h2; omega)⟩, hG⟩ (List.Sublist.refl _) tK
theorem i64_u8 (u : UInt8) : IntKind.i64.wrap (u.toNat : Int) = u.toNat := IntWalk.i64_in _ (by have := u.toNat_lt; omega)
theorem i64_b (u : UInt8) : I64 ((0 : Int) + (u.toNat : Int)) := by have := u.toNat_lt; unfold I64; omega
theorem sH (n : Nat) (hn : n ≤ 12) : Meets prog bU [.int .u64 (n : Int)] { inv := fun _ : Int => True, val := fun z => int z } := by
 refine i3 tZ rfl q6 fun w0 => ?_; refine c7 (c3 rfl (b8 (c8 (c7 (b7 rfl (lN rfl rfl rfl (b8 ?_)))))))
 first | refine k8 rfl (fun hb1 => ?_) (fun hb1 => ?_) | refine d9 rfl (fun hb1 => ?_) (fun hb1 => ?_)
 ·exact absurd hb1 (by omega)
 have hb1' := hb1; try simp at hb1'
 refine d8 (d4 (c8 (c7 (b7 rfl (lN rfl rfl rfl (b8 ?_))))))
 first | refine k8 rfl (fun hb2 => ?_) (fun hb2 => ?_) | refine d9 rfl (fun hb2 => ?_) (fun hb2 => ?_)
 ·exact absurd hb2 (by omega)
 have hb2' := hb2; try simp at hb2'
 refine d8 (d4 (c8 (c7 (b7 rfl (lN rfl rfl rfl (b8 ?_))))))
 first | refine k8 rfl (fun hb3 => ?_) (fun hb3 => ?_) | refine d9 rfl (fun hb3 => ?_) (fun hb3 => ?_)
 ·exact absurd hb3 (by omega)
 have hb3' := hb3; try simp at hb3'
 refine d8 (d4 (c7 (b7 rfl (b7 rfl ?_)))); refine jj0 (n : Int) rfl qx1 pZ rfl (wrap8 (by omega)) ?_; refine L7 n rfl l7 rfl rfl rfl (List.getElem?_eq_getElem (show n < 256 by omega)) ?_; refine jj0 _ rfl pZ V7 rfl (i64_u8 _) (v6 _ rfl rfl rfl rfl (i64_b _) ?_); refine c3 rfl (b8 (l4 ?_)); exact ret1 _ rfl rfl rfl tK nK tK
theorem vG (n : Nat) (hn : n ≤ 12) : Meets prog gL [.int .u64 (n : Int)] { inv := fun _ : Int => True, val := fun z => int z } := by
 refine i3 xA rfl q6 fun w0 => ?_; refine c7 (c3 rfl (b8 (c8 (c_f rfl rfl (d8 (d4 (c7 (b7 rfl ?_)))))))); refine d5 sM rfl rfl (sH n hn) (.refl _) tK fun z _ => ?_; refine c3 rfl (b8 (l4 ?_)); exact ret1 z rfl rfl rfl tK nK tK
theorem jF {A : Option Addr} {cap : Nat} (ws : List Ty) (hb : ∀ t ∈ ws, t.1.length ≤ 1000000) (og : Hp) (z : Int) (hG : Grow z6 2 A ws.length cap (rows ws) og) (hn : ws.length ≤ 12) : Meets prog P7 [.slice A ws.length cap, int (0 : Nat), int ws.length, int z, .func (.func D8) #[] #[]] { hpI := og, inv := fun x : List Ty × Hp => Srtd cfT ws x.1 ∧ Grow z6 2 A x.1.length cap (rows x.1) x.2, val := fun _ => .tuple #[], hpO := fun x => x.2 } := by
 refine i3 kN rfl q6 fun w0 => ?_; refine c7 (c3 rfl (n7 (c3 rfl (b8 (k6 ?_))))); refine y6 (β := Unit) ⟨fun _ => True, fun _ => [(0, .slice A ws.length cap), (1, int (0 : Nat)), (2, int ws.length), (3, int z), (4, .func (.func D8) #[] #[])], fun _ => og, fun _ => []⟩ (fun _ => 0) () tK mC (List.Sublist.refl _) tK fun _ _ => ?_; refine k6 (c7 (b7 rfl (b7 rfl ?_))); refine iF _ rfl rfl rfl rfl r6 ?_; refine c3 rfl (b8 (c8 (c7 (b7 rfl (r_leq rfl rfl rfl (b8 ?_))))))
 first | refine k8 rfl (fun hb1 => ?_) (fun hb1 => ?_) | refine d9 rfl (fun hb1 => ?_) (fun hb1 => ?_)
 ·have hb1' := hb1; try simp at hb1'
  refine c7 (b7 rfl (b7 rfl (b7 rfl (b7 rfl ?_)))); refine d5 (hpR := []) cG rfl rfl (cF ws hb og hG (by omega)) (by first | (rw [List.append_nil]; done) | (rw [List.append_nil]; exact List.Perm.refl _) | exact List.Perm.refl _) tK fun x hx => ?_; refine b8 (D4 (C7 (P3 ?_))); exact ret0 x rfl rfl rfl hx (List.sublist_append_left _ _) tK
 exact absurd (by omega) hb1
theorem sG {A : Option Addr} {cap : Nat} (ws : List Ty) (hb : ∀ t ∈ ws, t.1.length ≤ 1000000) (og : Hp) (hG : Grow z6 2 A ws.length cap (rows ws) og) (hn : ws.length ≤ 12) : Meets prog bP [.slice A ws.length cap, .func (.func D8) #[] #[]] { hpI := og, inv := fun x : List Ty × Hp => Srtd cfT ws x.1 ∧ Grow z6 2 A x.1.length cap (rows x.1) x.2, val := fun _ => .tuple #[], hpO := fun x => x.2 } := by
 refine i3 tU rfl q6 fun w0 => ?_; refine c7 (b7 rfl ?_); refine l8 rfl A6 rfl ?_; refine c3 rfl (b8 (i4 (b7 rfl (b7 rfl (b7 rfl ?_))))); refine jj0 (ws.length : Int) rfl V7 nq9 rfl (IntWalk.u64_in _ (by omega)) (d5 vO rfl rfl (vG ws.length hn) (.refl _) tK fun z _ => b7 rfl ?_); refine d5 (hpR := []) jI rfl rfl (jF ws hb og z hG hn) (by first | (rw [List.append_nil]; done) | (rw [List.append_nil]; exact List.Perm.refl _) | exact List.Perm.refl _) tK fun x hx => ?_; refine d6 ?_; exact ret0n x rfl rfl rfl hx (List.sublist_append_left _ _) tK
theorem lx7 {ps : List (Sl Str)} {s : Str} (h : yearsErr (years ps) = 0) (hs : 0 < stockN ps s) : s.length ≤ 1000000 := by
  obtain ⟨p, hp, hm⟩ := aj5.1 hs; rw [hJ] at h
  split at h
  · omega
  have h1 := W8 h p hp; unfold pageErr at h1
  split at h1
  · omega
  have h2 := W8 h1 s hm; unfold lineErr at h2
  split at h2
  · omega
  split at h2
  · omega
  omega
set_option maxHeartbeats 1000000 in
theorem yA {A : Option Addr} {c : Nat} (ps : List (Sl Str)) (hy0 : yearsErr (years ps) = 0) (hsm : (linesOf ps).length ≤ 12) : Meets prog dC [.slice A ps.length c] { LI := [Rows2 A ps], inv := fun x : List Ty × OutC => StockIs ps x.1, val := fun x => .tuple #[.slice x.2.1 x.1.length x.2.2, int 0], LO := fun x => [Row x.2.1 (rows x.1)] } := by
 refine i3 ax6 rfl q6 fun w0 => ?_; refine c7 (c3 rfl (c3 rfl (b8 (c8 (c7 (b7 rfl ?_)))))); refine d5 V4 rfl rfl (V0 ps) l6 mC fun _ _ => ?_; refine c3 rfl (n7 (b7 rfl (y5 rfl rfl rfl (b8 ?_))))
 first | refine k8 rfl (fun hb1 => ?_) (fun hb1 => ?_) | refine d9 rfl (fun hb1 => ?_) (fun hb1 => ?_)
 ·exact absurd hy0 hb1
 have hb1' := hb1; try simp at hb1'
 obtain ⟨hy4, hy6⟩ := aV hy0; have hsb := kj6 hy6; refine d8 (d4 (c7 (c3 rfl (b8 (c8 (c7 (b7 rfl ?_))))))); refine d5 lV rfl rfl (lP ps (by omega) (fun q hq => by have := hy6 q hq; omega)) l6 mC fun x hx => ?_; obtain ⟨gm, l0, clk0⟩ := x; have hM : MapIs l0 clk0 (stockN ps) := hx; clear hx; have hll := hM.len (K := linesOf ps) fun s hs => bq1 hs; have hl24 := ij1 hy6; refine kq7 rfl z4 rfl (V2 m0) fun gi => ?_; refine b8 (k6 ?_); refine y6 (β := List (Ment Str) × OutC × Hp) ⟨fun x => Vis l0 x.1 ∧ Grow z6 2 x.2.1.1 x.1.length x.2.1.2 (rows (tyOf ps x.1)) x.2.2, fun x => [(5, .slice x.2.1.1 x.1.length x.2.1.2), (15, .pointer (k5 gi))], fun x => x.2.2 ++ [(gi, iterM gm clk0 x.1), (gm, mapO str l0 clk0)], fun _ => []⟩ (fun x => l0.length - x.1.length) ([], (none, 0), []) ⟨Vis.nil _, Grow.nil _ _⟩ mC (.refl _) tK fun x hx => ?_; obtain ⟨vis, ⟨na, nc⟩, og⟩ := x; obtain ⟨hV, hG⟩ := hx; simp only at hV hG; have hvl := hV.len; refine c7 ?_; refine mz6 (enc := str) (vis := vis) (hp' := og ++ [(gm, mapO str l0 clk0)]) rfl rfl (V2 (List.mem_append_right _ m1)) hM.lt (C0 fun q => by simp only [List.countP_append, List.countP_cons, List.countP_nil]; omega) fun x hx0 hx1 => ?_; refine mz7 (enc := str) rfl rfl ?_; refine b8 (c8 ?_)
 first | refine k8 rfl (fun hb2 => ?_) (fun hb2 => ?_) | refine d9 rfl (fun hb2 => ?_) (fun hb2 => ?_)
 ·have hb2' := hb2; try simp at hb2'
  obtain ⟨q, rfl⟩ := Option.isSome_iff_exists.1 hb2; obtain ⟨hq1, hq2⟩ := hx1 q rfl; have hqv := hM.vl q hq1; have hlt := hV.lt hq1 hq2; obtain ⟨s, v, b⟩ := q; simp only at hqv; obtain ⟨rfl, hqp⟩ := hqv; have hts := nq4 ps vis (s, int ((stockN ps s : Nat) : Int), b); refine d8 (d4 (k6 (c7 ?_))); refine mz9 (p := (s, int ((stockN ps s : Nat) : Int), b)) rfl rfl (V2 (List.mem_cons_of_mem _ (List.mem_append_right _ m0))) (V2 m0) hq1 hM.bs ?_; refine j6 rfl rfl rfl (j6 rfl rfl rfl (c3 rfl (c3 rfl (b8 (i4 (b7 rfl (b7 rfl (b7 rfl ?_)))))))); refine A9 _ rfl rfl (fun _ => U7 ..) (j8 _ rfl rfl (fun _ => wB ..) fun gS => ?_); refine E7 (vis.length + 1) (rows (tyOf ps (vis ++ [(s, int ((stockN ps s : Nat) : Int), b)]))) aj2 rfl rfl rfl hG (hp' := [(gS, .cells #[str s, int ((stockN ps s : Nat) : Int)] z6 (0, 0)), (gi, iterM gm clk0 (vis ++ [(s, int ((stockN ps s : Nat) : Int), b)])), (gm, mapO str l0 clk0)]) (show List.Perm ((gS, Obj.cells #[str s, int ((stockN ps s : Nat) : Int)] z6 (0, 0)) :: (gi, iterM gm clk0 (vis ++ [(s, int ((stockN ps s : Nat) : Int), b)])) :: (og ++ [(gm, mapO str l0 clk0)])) (og ++ [(gS, Obj.cells #[str s, int ((stockN ps s : Nat) : Int)] z6 (0, 0)), (gi, iterM gm clk0 (vis ++ [(s, int ((stockN ps s : Nat) : Int), b)])), (gm, mapO str l0 clk0)]) from C0 fun q => by simp only [List.countP_append, List.countP_cons, List.countP_nil]; omega) (Src.own (cs := #[str s, int ((stockN ps s : Nat) : Int)]) (m := 1) (List.mem_append_right _ m0) rfl rfl) rfl (by rw [hts, z7]; rfl) (by unfold maxLen; omega) (by omega) fun A' c' og' hG' => ?_; refine c3 rfl (d6 (u7 ?_)); exact again _ (vis ++ [(s, int ((stockN ps s : Nat) : Int), b)], (A', c'), og') ⟨hV.snoc hq1 hq2, by show Grow _ _ _ (vis ++ [_]).length _ _ _; rw [List.length_append]; exact hG'⟩ (by show l0.length - (vis ++ [_]).length < l0.length - vis.length; rw [List.length_append, List.length_singleton]; omega) ⟨by show some (Value.slice A' (vis.length + 1) c') = some (Value.slice A' (vis ++ [_]).length c'); rw [List.length_append]; rfl, rfl, tK⟩ (List.Sublist.append_left (.cons _ (.refl _)) _) tK
 have hb2' := hb2; try simp at hb2'
 have hx : x = none := by cases x with | none => rfl | some q => simp at hb2
 subst hx; refine s9 (E4 (u6 (d4 (c7 (b7 rfl ?_))))); have hG2 : Grow z6 2 na (tyOf ps vis).length nc (rows (tyOf ps vis)) og := by unfold tyOf; rw [List.length_map]; exact hG
 have hso := sG (tyOf ps vis) (fun t ht => by obtain ⟨q, hq, rfl⟩ := List.mem_map.1 ht; exact lx7 hy0 (hM.vl q (hV.sub q hq)).2) og hG2 (by unfold tyOf; rw [List.length_map]; omega); rw [show (tyOf ps vis).length = vis.length by unfold tyOf; rw [List.length_map]] at hso; refine d5 sI rfl rfl hso (hpR := [(gi, iterM gm clk0 vis), (gm, mapO str l0 clk0)]) (C0 fun q => by simp only [List.countP_append, List.countP_cons, List.countP_nil, Option.toList_none, List.append_nil]; omega) tK fun y hy => ?_; obtain ⟨ts, og2⟩ := y; obtain ⟨⟨hp1, hp2⟩, hp3⟩ := hy; simp only at hp1 hp2 hp3; refine n7 (b7 rfl (c3 rfl (c3 rfl (b8 (l4 ?_))))); have htl : ts.length = vis.length := by have := hp1.length_eq; rw [show (tyOf ps vis).length = vis.length by unfold tyOf; rw [List.length_map]] at this; exact this
 refine dz2 hp3 ?_; exact ret2 (ts, (na, nc)) rfl rfl rfl (by show Value.tuple #[.slice na ts.length nc, int 0] = _; rw [htl]) rfl (qx8 hM hV (hx0 rfl) hp1 (kj9 (hp2 preT))) nK ⟨m0, tK⟩
end Go.Proofs.YtpfbbggmcbhboaaGreatDoor
end
