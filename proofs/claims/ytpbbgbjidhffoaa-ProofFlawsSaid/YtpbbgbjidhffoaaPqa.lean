/- Plain laws: the comparison of lists of marks is an order; the program's marks from page to page are the document's. -/
import Derived.Test.YtpbbgbjidhffoaaPi
import Derived.Sort.Walk0
namespace Go.Proofs.Ytpbbgbjidhffoaa
open Go Go.W
set_option linter.unusedVariables false
set_option linter.unusedSimpArgs false
set_option maxRecDepth 20000
attribute [local irreducible] HL HC HQ HB Row Rows2 Blk Facts

/-- A comparison that is one of an order. -/
structure Good {α : Type} (c : α → α → Int) : Prop where
  eq : ∀ a b, c a b = 0 ↔ a = b
  anti : ∀ a b, c a b < 0 ↔ 0 < c b a
  tr : ∀ a b d, c a b < 0 → c b d < 0 → c a d < 0
theorem Good.irr {α : Type} {c : α → α → Int} (h : Good c) (a : α) : ¬ c a a < 0 := by
  have := (h.eq a a).2 rfl; omega
theorem Good.tri {α : Type} {c : α → α → Int} (h : Good c) {a b : α} (h1 : ¬ c a b < 0) (h2 : ¬ c b a < 0) : a = b := by
  have h3 := h.anti b a
  have : c a b = 0 := by
    have : ¬ 0 < c a b := fun h => h2 (h3.2 h)
    omega
  exact (h.eq a b).1 this
theorem good_I : Good cmpI where
  eq a b := by unfold cmpI; split <;> (try split) <;> omega
  anti a b := by unfold cmpI; split <;> (try split) <;> (try split) <;> (try split) <;> omega
  tr a b d := by unfold cmpI; split <;> (try split) <;> (try split) <;> (try split) <;> (try split) <;> (try split) <;> omega
theorem str_lt_irr (a : Str) : ¬ a < a := List.lt_irrefl a
theorem str_tri {a b : Str} (h1 : ¬ a < b) (h2 : ¬ b < a) : a = b := List.le_antisymm (List.not_lt.1 h2) (List.not_lt.1 h1)
theorem cmpS_eq (a b : Str) : cmpS a b = if a < b then -1 else if a = b then 0 else 1 := by
  unfold cmpS
  simp only [bytesLess_eq]
  by_cases h1 : a < b
  · simp [h1]
  · by_cases h2 : a = b
    · simp [h2, str_lt_irr]
    · simp [h1, h2]
theorem good_S : Good cmpS where
  eq a b := by
    rw [cmpS_eq]
    split
    · rename_i h; constructor
      · intro h; omega
      · rintro rfl; exact absurd h (str_lt_irr _)
    · split
      · rename_i h; exact ⟨fun _ => h, fun _ => rfl⟩
      · rename_i h; exact ⟨fun h => by omega, fun e => absurd e h⟩
  anti a b := by
    rw [cmpS_eq, cmpS_eq]
    by_cases h1 : a < b
    · have h2 : ¬ b < a := fun h => str_lt_irr _ (List.lt_trans h1 h)
      have h3 : ¬ b = a := by rintro rfl; exact str_lt_irr _ h1
      simp [h1, h2, h3]
    · by_cases h2 : b < a
      · have h3 : ¬ a = b := by rintro rfl; exact str_lt_irr _ h2
        simp [h1, h2, h3]
      · have h3 := str_tri h1 h2
        simp [h3, str_lt_irr]
  tr a b d := by
    rw [cmpS_eq, cmpS_eq, cmpS_eq]
    intro h1 h2
    have h3 : a < b := by
      apply Classical.byContradiction; intro h; rw [if_neg h] at h1; split at h1 <;> omega
    have h4 : b < d := by
      apply Classical.byContradiction; intro h; rw [if_neg h] at h2; split at h2 <;> omega
    rw [if_pos (List.lt_trans h3 h4)]
    omega
/-- First by one thing, then by another one. -/
theorem good_or {α β γ : Type} {c : β → β → Int} {d : γ → γ → Int} (f : α → β) (g : α → γ) (hc : Good c) (hd : Good d) (hi : ∀ a b, f a = f b → g a = g b → a = b) : Good (fun a b => if ¬ c (f a) (f b) = 0 then c (f a) (f b) else d (g a) (g b)) where
  eq a b := by
    split
    · rename_i h
      exact ⟨fun h0 => absurd h0 h, fun e => by subst e; exact absurd ((hc.eq _ _).2 rfl) h⟩
    · rename_i h
      have h1 := (hc.eq _ _).1 (Classical.not_not.1 h)
      rw [hd.eq]
      exact ⟨fun h2 => hi _ _ h1 h2, fun e => by rw [e]⟩
  anti a b := by
    have h1 := hc.anti (f a) (f b)
    have h2 := hc.anti (f b) (f a)
    have h3 := hd.anti (g a) (g b)
    split <;> split <;> omega
  tr a b e := by
    have h1 := hc.tr (f a) (f b) (f e)
    have h2 := hd.tr (g a) (g b) (g e)
    have e1 := hc.eq (f a) (f b)
    have e2 := hc.eq (f b) (f e)
    have e3 := hc.eq (f a) (f e)
    have a1 := hc.anti (f a) (f b)
    have a2 := hc.anti (f b) (f e)
    by_cases k1 : c (f a) (f b) = 0
    · have q1 := e1.1 k1
      rw [q1] at *
      rw [if_neg (by simp [(hc.eq _ _).2 rfl])]
      by_cases k2 : c (f b) (f e) = 0
      · rw [if_neg (by simp [k2]), if_neg (by simp [k2])]
        exact h2
      · rw [if_pos k2, if_pos k2]
        intro _ h; exact h
    · rw [if_pos k1]
      by_cases k2 : c (f b) (f e) = 0
      · have q2 := e2.1 k2
        rw [← q2, if_pos k1]
        intro h _; exact h
      · rw [if_pos k2]
        intro h3 h4
        have h5 := h1 h3 h4
        rw [if_pos (by omega)]
        exact h5
theorem orL3 (a b c : Int) : orL [a, b, c] = if ¬ a = 0 then a else if ¬ b = 0 then b else c := by
  simp only [orL]
  split
  · rfl
  · split
    · rfl
    · split
      · rfl
      · rename_i h; omega
theorem good_map {α β : Type} {c : β → β → Int} (f : α → β) (h : Good c) (hf : ∀ a b, f a = f b → a = b) : Good (fun a b => c (f a) (f b)) where
  eq a b := (h.eq _ _).trans ⟨hf a b, fun e => by rw [e]⟩
  anti a b := h.anti _ _
  tr a b d := h.tr _ _ _
theorem good_prod {β γ : Type} {c : β → β → Int} {d : γ → γ → Int} (hc : Good c) (hd : Good d) : Good (fun a b : β × γ => if ¬ c a.1 b.1 = 0 then c a.1 b.1 else d a.2 b.2) :=
  good_or (fun a => a.1) (fun a => a.2) hc hd (fun a b h1 h2 => Prod.ext h1 h2)
theorem good_Mk : Good cmpMk := by
  have h := good_map (α := Mk) (fun m => (m.2.1, m.1, m.2.2)) (good_prod good_I (good_prod good_I good_S)) (fun a b e => by
    simp only [Prod.mk.injEq] at e
    exact Prod.ext e.2.1 (Prod.ext e.1 e.2.2))
  have e : cmpMk = fun a b : Mk => (fun a b : Int × Int × Str => if ¬ cmpI a.1 b.1 = 0 then cmpI a.1 b.1 else (fun a b : Int × Str => if ¬ cmpI a.1 b.1 = 0 then cmpI a.1 b.1 else cmpS a.2 b.2) a.2 b.2) (a.2.1, a.1, a.2.2) (b.2.1, b.1, b.2.2) := by
    funext a b
    rw [cmpMk, orL3]
  rw [e]
  exact h
theorem good_Ms : Good cmpMs where
  eq a := by
    induction a with
    | nil => intro b; cases b <;> simp [cmpMs]
    | cons x a ih =>
      intro b
      cases b with
      | nil => simp [cmpMs]
      | cons y b =>
        rw [cmpMs]
        split
        · rename_i h
          refine ⟨fun h0 => absurd h0 h, fun e => ?_⟩
          injection e with e1 e2
          exact absurd ((good_Mk.eq _ _).2 e1) h
        · rename_i h
          have h1 := (good_Mk.eq _ _).1 (Classical.not_not.1 h)
          rw [ih, h1]
          simp
  anti a := by
    induction a with
    | nil => intro b; cases b <;> simp [cmpMs]
    | cons x a ih =>
      intro b
      cases b with
      | nil => simp [cmpMs]
      | cons y b =>
        rw [cmpMs, cmpMs]
        have h1 := good_Mk.anti x y
        have h2 := good_Mk.anti y x
        have h3 := ih b
        split <;> split <;> omega
  tr a := by
    induction a with
    | nil =>
      intro b d h1 h2
      cases d with
      | nil =>
        cases b with
        | nil => exact h1
        | cons y b => simp [cmpMs] at h2
      | cons z d => simp [cmpMs]
    | cons x a ih =>
      intro b d h1 h2
      cases b with
      | nil => simp [cmpMs] at h1
      | cons y b =>
        cases d with
        | nil => simp [cmpMs] at h2
        | cons z d =>
          have t1 := good_Mk.tr x y z
          have e1 := good_Mk.eq x y
          have e2 := good_Mk.eq y z
          have a1 := good_Mk.anti x y
          rw [cmpMs] at h1 h2 ⊢
          by_cases k1 : cmpMk x y = 0
          · rw [if_neg (by simp [k1])] at h1
            have q1 := e1.1 k1
            subst q1
            by_cases k2 : cmpMk x z = 0
            · rw [if_neg (by simp [k2])] at h2 ⊢
              exact ih b d h1 h2
            · rw [if_pos k2] at h2 ⊢
              exact h2
          · rw [if_pos k1] at h1
            by_cases k2 : cmpMk y z = 0
            · have q2 := e2.1 k2
              subst q2
              rw [if_pos k1]
              exact h1
            · rw [if_pos k2] at h2
              have h5 := t1 h1 h2
              rw [if_pos (by omega)]
              exact h5
theorem good_L : Good cmpL := by
  have h := good_map (α := Lst) (fun l => (l.1, ((l.2.length : Nat) : Int), l.2)) (good_prod good_I (good_prod good_I good_Ms)) (fun a b e => by
    simp only [Prod.mk.injEq] at e
    exact Prod.ext e.1 e.2.2)
  have e : cmpL = fun a b : Lst => (fun a b : Int × Int × List Mk => if ¬ cmpI a.1 b.1 = 0 then cmpI a.1 b.1 else (fun a b : Int × List Mk => if ¬ cmpI a.1 b.1 = 0 then cmpI a.1 b.1 else cmpMs a.2 b.2) a.2 b.2) (a.1, ((a.2.length : Nat) : Int), a.2) (b.1, ((b.2.length : Nat) : Int), b.2) := by
    funext a b
    rw [cmpL, orL3]
  rw [e]
  exact h
theorem beforeR_eq {a b : Mk} (h : ¬ a = b) : beforeR a b = decide (cmpMk a b < 0) := by
  rw [cmpMk, orL3, beforeR]
  have i1 : ∀ x y : Int, ¬ x = y → ¬ cmpI x y = 0 := fun x y h h0 => h ((good_I.eq x y).1 h0)
  have i2 : ∀ x y : Int, (x < y) = (cmpI x y < 0) := fun x y => by apply propext; unfold cmpI; split <;> (try split) <;> omega
  by_cases h1 : a.2.1 = b.2.1
  · rw [if_neg (not_not_intro h1), if_neg (not_not_intro ((good_I.eq _ _).2 h1))]
    by_cases h2 : a.1 = b.1
    · rw [if_neg (not_not_intro h2), if_neg (not_not_intro ((good_I.eq _ _).2 h2))]
      rw [cmpS_eq, bytesLess_eq]
      apply decide_eq_decide.2
      split
      · rename_i h; simp [h]
      · rename_i h; split <;> simp [h]
    · rw [if_pos h2, if_pos (i1 _ _ h2)]
      exact decide_eq_decide.2 (by rw [i2])
  · rw [if_pos h1, if_pos (i1 _ _ h1)]
    exact decide_eq_decide.2 (by rw [i2])
theorem lexR_eq : ∀ {a b : List Mk}, a.length = b.length → lexR a b = decide (cmpMs a b < 0)
  | [], [], _ => by simp [lexR, cmpMs]
  | [], _ :: _, h => by simp at h
  | _ :: _, [], h => by simp at h
  | a :: l, b :: l', h => by
    rw [lexR, cmpMs]
    by_cases h1 : a = b
    · rw [if_neg (not_not_intro h1), if_neg (not_not_intro ((good_Mk.eq _ _).2 h1))]
      exact lexR_eq (by simpa using h)
    · rw [if_pos h1, if_pos (fun h0 => h1 ((good_Mk.eq _ _).1 h0)), beforeR_eq h1]
abbrev cL (l : List Mk) : Lst := ((costM l : Int), l)
theorem betterR_eq (a b : List Mk) : betterR a b = decide (cmpL (cL a) (cL b) < 0) := by
  have i1 : ∀ x y : Int, ¬ x = y → ¬ cmpI x y = 0 := fun x y h h0 => h ((good_I.eq x y).1 h0)
  have i2 : ∀ x y : Int, (x < y) = (cmpI x y < 0) := fun x y => by apply propext; unfold cmpI; split <;> (try split) <;> omega
  rw [betterR, cmpL, orL3]
  by_cases h1 : (costM a : Int) = costM b
  · rw [if_neg (not_not_intro h1), if_neg (not_not_intro ((good_I.eq _ _).2 h1))]
    by_cases h2 : (a.length : Int) = b.length
    · rw [if_neg (not_not_intro h2), if_neg (not_not_intro ((good_I.eq _ _).2 h2))]
      exact lexR_eq (by omega)
    · rw [if_pos h2, if_pos (i1 _ _ h2)]
      exact decide_eq_decide.2 (by rw [i2])
  · rw [if_pos h1, if_pos (i1 _ _ h1)]
    exact decide_eq_decide.2 (by rw [i2])
/-- Better, as a proposition. -/
def Bt (a b : List Mk) : Prop := cmpL (cL a) (cL b) < 0
theorem Bt.of {a b : List Mk} : betterR a b = true ↔ Bt a b := by rw [betterR_eq, decide_eq_true_iff]; rfl
theorem Bt.irr (a : List Mk) : ¬ Bt a a := good_L.irr _
theorem Bt.trans {a b c : List Mk} (h : Bt a b) (h2 : Bt b c) : Bt a c := good_L.tr _ _ _ h h2
theorem Bt.tri {a b : List Mk} (h : ¬ Bt a b) (h2 : ¬ Bt b a) : a = b := congrArg Prod.snd (good_L.tri h h2)
/-- The best of some lists. -/
structure Best (S : List (List Mk)) (b : List Mk) : Prop where
  mem : b ∈ S
  le : ∀ x ∈ S, ¬ Bt x b
theorem Best.uniq {S S' : List (List Mk)} {b b' : List Mk} (h : Best S b) (h' : Best S' b') (h1 : b ∈ S') (h2 : b' ∈ S) : b = b' := Bt.tri (h'.le b h1) (h.le b' h2)
def BestO (S : List (List Mk)) (o : Option (List Mk)) : Prop := (S = [] ∧ o = none) ∨ ∃ b, o = some b ∧ Best S b
theorem BestO.pick {S : List (List Mk)} {o : Option (List Mk)} (h : BestO S o) (l : List Mk) : BestO (S ++ [l]) (pickR o l) := by
  rcases h with ⟨rfl, rfl⟩ | ⟨b, rfl, hb⟩
  · exact .inr ⟨l, rfl, by simp, fun x hx => by simp at hx; subst hx; exact Bt.irr _⟩
  · right
    unfold pickR
    simp only
    split
    · rename_i hlt
      have hlt := Bt.of.1 hlt
      refine ⟨l, rfl, by simp, fun x hx => ?_⟩
      rcases List.mem_append.1 hx with hx | hx
      · exact fun h => hb.le x hx (h.trans hlt)
      · simp at hx; subst hx; exact Bt.irr _
    · rename_i hlt
      refine ⟨b, rfl, by simp [hb.mem], fun x hx => ?_⟩
      rcases List.mem_append.1 hx with hx | hx
      · exact hb.le x hx
      · simp at hx; subst hx; exact fun h => hlt (Bt.of.2 h)
theorem leastP_best (f : List Mk) (l : List (List Mk)) : ∃ b, leastP (cL f) (l.map cL) = cL b ∧ Best (f :: l) b := by
  induction l generalizing f with
  | nil => exact ⟨f, rfl, by simp, fun x hx => by simp at hx; subst hx; exact Bt.irr _⟩
  | cons x l ih =>
    show ∃ b, List.foldl _ (if cmpL (cL x) (cL f) < 0 then cL x else cL f) (l.map cL) = cL b ∧ _
    by_cases h : cmpL (cL x) (cL f) < 0
    · rw [if_pos h]
      obtain ⟨b, h1, h2⟩ := ih x
      refine ⟨b, h1, List.mem_cons_of_mem _ h2.mem, fun y hy => ?_⟩
      rcases List.mem_cons.1 hy with rfl | hy
      · intro hyb
        exact h2.le x (by simp) (Bt.trans h hyb)
      · exact h2.le y hy
    · rw [if_neg h]
      obtain ⟨b, h1, h2⟩ := ih f
      refine ⟨b, h1, ?_, fun y hy => ?_⟩
      · rcases List.mem_cons.1 h2.mem with h3 | h3
        · simp [h3]
        · simp [h3]
      · rcases List.mem_cons.1 hy with rfl | hy
        · exact h2.le y (by simp)
        · rcases List.mem_cons.1 hy with rfl | hy
          · intro hyb
            have h3 : ¬ Bt f b := h2.le f (by simp)
            by_cases h4 : Bt b f
            · exact h (Bt.trans hyb h4)
            · have := Bt.tri h3 h4
              subst this
              exact h hyb
          · exact h2.le y (by simp [hy])
theorem leastOf_best {S : List (List Mk)} (h : S ≠ []) : ∃ b, leastOf (S.map cL) = cL b ∧ Best S b := by
  cases S with
  | nil => exact absurd rfl h
  | cons f l => exact leastP_best f l
theorem behindP_cL (l : List Mk) (m : Mk) : behindP (cL l) m = cL (m :: l) := by
  unfold behindP cL costM
  congr 1
  by_cases h : m.1 = 3
  · rw [if_pos h, List.filter_cons_of_neg (by simpa using h)]
  · rw [if_neg h, List.filter_cons_of_pos (by simpa using h)]
    simp
/-- The program's marks from page to page are the document's. -/
theorem diff_eq (old page : List Str) : ∀ (d i j : Nat), (old.length - i) + (page.length - j) ≤ d → i ≤ old.length → j ≤ page.length → diffP old page i j = cL (diffR old page i j) := by
  intro d
  induction d with
  | zero =>
    intro i j h hi hj
    have e1 : i = old.length := by omega
    have e2 : j = page.length := by omega
    rw [diffR_eq, if_pos ⟨e1, e2⟩]
    unfold diffP
    rw [if_pos ⟨e1, e2⟩, dif_neg (by omega), dif_neg (by omega), dif_neg (by omega)]
    rfl
  | succ d ih =>
    intro i j h hi hj
    by_cases he : i = old.length ∧ j = page.length
    · rw [diffR_eq, if_pos he]
      unfold diffP
      rw [if_pos he, dif_neg (by omega), dif_neg (by omega), dif_neg (by omega)]
      rfl
    · have b0 : BestO (if i < old.length ∧ j < page.length ∧ old.getD i default = page.getD j default then [diffR old page (i + 1) (j + 1)] else []) (dr0 old page i j) := by
        unfold dr0
        split
        · exact .inr ⟨_, rfl, by simp, fun x hx => by simp at hx; subst hx; exact Bt.irr _⟩
        · exact .inl ⟨rfl, rfl⟩
      generalize hS0 : (if i < old.length ∧ j < page.length ∧ old.getD i default = page.getD j default then [diffR old page (i + 1) (j + 1)] else []) = S0 at b0
      have b1 : BestO (S0 ++ (if j < page.length then [(1, (i : Int), page.getD j default) :: diffR old page i (j + 1)] else [])) (dr1 old page i j) := by
        unfold dr1
        split
        · exact b0.pick _
        · simpa using b0
      generalize hS1 : (if j < page.length then [(1, (i : Int), page.getD j default) :: diffR old page i (j + 1)] else []) = S1 at b1
      have b2 : BestO (S0 ++ S1 ++ (if i < old.length ∧ j < page.length then [(2, (i : Int), page.getD j default) :: diffR old page (i + 1) (j + 1)] else [])) (dr2 old page i j) := by
        unfold dr2
        split
        · exact b1.pick _
        · simpa using b1
      generalize hS2 : (if i < old.length ∧ j < page.length then [(2, (i : Int), page.getD j default) :: diffR old page (i + 1) (j + 1)] else []) = S2 at b2
      have b3 : BestO (S0 ++ S1 ++ S2 ++ (if i < old.length then [(3, (i : Int), ([] : Str)) :: diffR old page (i + 1) j] else [])) (dr3 old page i j) := by
        unfold dr3
        split
        · exact b2.pick _
        · simpa using b2
      generalize hS3 : (if i < old.length then [(3, (i : Int), ([] : Str)) :: diffR old page (i + 1) j] else []) = S3 at b3
      have hne : S1 ++ S3 ++ (S2 ++ S0) ≠ [] := by
        intro h0
        simp only [List.append_eq_nil_iff] at h0
        by_cases hj2 : j < page.length
        · rw [if_pos hj2] at hS1; rw [← hS1] at h0; simp at h0
        · rw [if_pos (by omega)] at hS3; rw [← hS3] at h0; simp at h0
      obtain ⟨b, h1, h2⟩ := leastOf_best hne
      have eD : diffP old page i j = leastOf ((S1 ++ S3 ++ (S2 ++ S0)).map cL) := by
        rw [diffP, if_neg he, List.nil_append, List.map_append, List.map_append, List.map_append]
        congr 1
        congr 1
        · congr 1
          · rw [← hS1]
            by_cases hj2 : j < page.length
            · rw [dif_pos hj2, if_pos hj2, ih i (j + 1) (by omega) hi (by omega), behindP_cL]; rfl
            · rw [dif_neg hj2, if_neg hj2]; rfl
          · rw [← hS3]
            by_cases hi2 : i < old.length
            · rw [dif_pos hi2, if_pos hi2, ih (i + 1) j (by omega) (by omega) hj, behindP_cL]; rfl
            · rw [dif_neg hi2, if_neg hi2]; rfl
        · rw [← hS2, ← hS0]
          by_cases hb : i < old.length ∧ j < page.length
          · rw [dif_pos hb, if_pos hb, ih (i + 1) (j + 1) (by omega) (by omega) (by omega), behindP_cL]
            by_cases hq : old.getD i default = page.getD j default
            · rw [if_pos hq, if_pos ⟨hb.1, hb.2, hq⟩]; rfl
            · rw [if_neg hq, if_neg (fun h => hq h.2.2)]; rfl
          · rw [dif_neg hb, if_neg hb, if_neg (fun h => hb ⟨h.1, h.2.1⟩)]; rfl
      rw [eD, h1, diffR_eq, if_neg he]
      congr 1
      rcases b3 with ⟨h0, _⟩ | ⟨b', hb', hB⟩
      · refine absurd ?_ hne
        simp only [List.append_eq_nil_iff] at h0 ⊢
        exact ⟨⟨h0.1.1.2, h0.2⟩, h0.1.2, h0.1.1.1⟩
      · rw [hb']
        refine h2.uniq hB ?_ ?_
        · have := h2.mem
          simp only [List.mem_append] at this ⊢
          rcases this with (h | h) | (h | h) <;> simp [h]
        · have := hB.mem
          simp only [List.mem_append] at this ⊢
          rcases this with ((h | h) | h) | h <;> simp [h]
theorem diff_same (old page : List Str) : (diffP old page 0 0).2 = diffR old page 0 0 := by rw [diff_eq old page _ 0 0 (Nat.le_refl _) (Nat.zero_le _) (Nat.zero_le _)]


end Go.Proofs.Ytpbbgbjidhffoaa
