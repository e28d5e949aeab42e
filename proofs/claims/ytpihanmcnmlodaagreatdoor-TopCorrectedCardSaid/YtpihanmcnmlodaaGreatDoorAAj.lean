/- Texts. -/
import Derived.Sort.Walk0
import Derived.Test.YtpihanmcnmlodaaGreatDoorAAh
import Derived.Test.YtpihanmcnmlodaaGreatDoorAAi
import Derived.Test.YtpihanmcnmlodaaGreatDoorAAe
import Derived.Test.YtpihanmcnmlodaaGreatDoorAAg
set_option linter.unusedVariables false
set_option linter.unusedSimpArgs false
section
namespace Go.Proofs.YtpihanmcnmlodaaGreatDoor
open Go Go.W Tryz T F
set_option maxRecDepth 20000
attribute [local irreducible] HL HC HQ HB Row Rows2 Blk Facts
structure Good {α : Type} (c : α → α → Int) : Prop where
  eq : ∀ a b, c a b = 0 ↔ a = b
  anti : ∀ a b, c a b < 0 ↔ 0 < c b a
  tr : ∀ a b d, c a b < 0 → c b d < 0 → c a d < 0
theorem Good.irr {α : Type} {c : α → α → Int} (h : Good c) (a : α) : ¬ c a a < 0 := by
  have := (h.eq a a).2 rfl; omega
theorem Good.tri {α : Type} {c : α → α → Int} (h : Good c) {a b : α} (h1 : ¬ c a b < 0) (h2 : ¬ c b a < 0) : a = b := by
  have h3 := h.anti b a
  have : c a b = 0 := by
    have : ¬ 0 < c a b := fun h => h2 (h3.2 h)
    omega
  exact (h.eq a b).1 this
theorem good_I : Good cmpI where
  eq a b := by unfold cmpI; split <;> (try split) <;> omega
  anti a b := by unfold cmpI; split <;> (try split) <;> (try split) <;> (try split) <;> omega
  tr a b d := by unfold cmpI; split <;> (try split) <;> (try split) <;> (try split) <;> (try split) <;> (try split) <;> omega
theorem Q5 (a : Str) : ¬ a < a := List.lt_irrefl a
theorem str_tri {a b : Str} (h1 : ¬ a < b) (h2 : ¬ b < a) : a = b := List.le_antisymm (List.not_lt.1 h2) (List.not_lt.1 h1)
theorem cT (a b : Str) : cmpS a b = if a < b then -1 else if a = b then 0 else 1 := by
  unfold cmpS; simp only [bytesLess_eq]
  by_cases h1 : a < b
  · simp [h1]
  by_cases h2 : a = b
  · simp [h2, Q5]
  simp [h1, h2]
theorem good_S : Good cmpS where
  eq a b := by
    rw [cT]
    split
    · rename_i h; constructor
      · intro h; omega
      rintro rfl; exact absurd h (Q5 _)
    split
    · rename_i h; exact ⟨fun _ => h, fun _ => rfl⟩
    rename_i h; exact ⟨fun h => by omega, fun e => absurd e h⟩
  anti a b := by
    rw [cT, cT]
    by_cases h1 : a < b
    · have h2 : ¬ b < a := fun h => Q5 _ (List.lt_trans h1 h)
      have h3 : ¬ b = a := by rintro rfl; exact Q5 _ h1
      simp [h1, h2, h3]
    by_cases h2 : b < a
    · have h3 : ¬ a = b := by rintro rfl; exact Q5 _ h2
      simp [h1, h2, h3]
    have h3 := str_tri h1 h2
    simp [h3, Q5]
  tr a b d := by
    rw [cT, cT, cT]; intro h1 h2
    have h3 : a < b := by
      apply Classical.byContradiction; intro h; rw [if_neg h] at h1; split at h1 <;> omega
    have h4 : b < d := by
      apply Classical.byContradiction; intro h; rw [if_neg h] at h2; split at h2 <;> omega
    rw [if_pos (List.lt_trans h3 h4)]
    omega
theorem good_or {α β γ : Type} {c : β → β → Int} {d : γ → γ → Int} (f : α → β) (g : α → γ) (hc : Good c) (hd : Good d) (hi : ∀ a b, f a = f b → g a = g b → a = b) : Good (fun a b => if ¬ c (f a) (f b) = 0 then c (f a) (f b) else d (g a) (g b)) where
  eq a b := by
    split
    · rename_i h
      exact ⟨fun h0 => absurd h0 h, fun e => by subst e; exact absurd ((hc.eq _ _).2 rfl) h⟩
    rename_i h
    have h1 := (hc.eq _ _).1 (Classical.not_not.1 h); rw [hd.eq]; exact ⟨fun h2 => hi _ _ h1 h2, fun e => by rw [e]⟩
  anti a b := by
    have h1 := hc.anti (f a) (f b); have h2 := hc.anti (f b) (f a); have h3 := hd.anti (g a) (g b)
    split <;> split <;> omega
  tr a b e := by
    have h1 := hc.tr (f a) (f b) (f e); have h2 := hd.tr (g a) (g b) (g e); have e1 := hc.eq (f a) (f b); have e2 := hc.eq (f b) (f e); have e3 := hc.eq (f a) (f e); have a1 := hc.anti (f a) (f b); have a2 := hc.anti (f b) (f e)
    by_cases k1 : c (f a) (f b) = 0
    · have q1 := e1.1 k1
      rw [q1] at *; rw [if_neg (by simp [(hc.eq _ _).2 rfl])]
      by_cases k2 : c (f b) (f e) = 0
      · rw [if_neg (by simp [k2]), if_neg (by simp [k2])]
        exact h2
      rw [if_pos k2, if_pos k2]; intro _ h; exact h
    rw [if_pos k1]
    by_cases k2 : c (f b) (f e) = 0
    · have q2 := e2.1 k2
      rw [← q2, if_pos k1]; intro h _; exact h
    rw [if_pos k2]; intro h3 h4; have h5 := h1 h3 h4; rw [if_pos (by omega)]; exact h5
theorem orL3 (a b c : Int) : orL [a, b, c] = if ¬ a = 0 then a else if ¬ b = 0 then b else c := by
  simp only [orL]
  split
  · rfl
  split
  · rfl
  split
  · rfl
  rename_i h; omega
theorem vR {α β : Type} {c : β → β → Int} (f : α → β) (h : Good c) (hf : ∀ a b, f a = f b → a = b) : Good (fun a b => c (f a) (f b)) where
  eq a b := (h.eq _ _).trans ⟨hf a b, fun e => by rw [e]⟩
  anti a b := h.anti _ _
  tr a b d := h.tr _ _ _
theorem gO {β γ : Type} {c : β → β → Int} {d : γ → γ → Int} (hc : Good c) (hd : Good d) : Good (fun a b : β × γ => if ¬ c a.1 b.1 = 0 then c a.1 b.1 else d a.2 b.2) :=
  good_or (fun a => a.1) (fun a => a.2) hc hd (fun a b h1 h2 => Prod.ext h1 h2)
theorem good_Mk : Good cmpMk := by
  have h := vR (α := Mk) (fun m => (m.2.1, m.1, m.2.2)) (gO good_I (gO good_I good_S)) (fun a b e => by
    simp only [Prod.mk.injEq] at e
    exact Prod.ext e.2.1 (Prod.ext e.1 e.2.2))
  have e : cmpMk = fun a b : Mk => (fun a b : Int × Int × Str => if ¬ cmpI a.1 b.1 = 0 then cmpI a.1 b.1 else (fun a b : Int × Str => if ¬ cmpI a.1 b.1 = 0 then cmpI a.1 b.1 else cmpS a.2 b.2) a.2 b.2) (a.2.1, a.1, a.2.2) (b.2.1, b.1, b.2.2) := by
    funext a b
    rw [cmpMk, orL3]
  rw [e]; exact h
theorem good_Ms : Good cmpMs where
  eq a := by
    induction a with
    | nil => intro b; cases b <;> simp [cmpMs]
    | cons x a ih =>
      intro b
      cases b with
      | nil => simp [cmpMs]
      | cons y b =>
        rw [cmpMs]
        split
        · rename_i h
          refine ⟨fun h0 => absurd h0 h, fun e => ?_⟩
          injection e with e1 e2
          exact absurd ((good_Mk.eq _ _).2 e1) h
        rename_i h
        have h1 := (good_Mk.eq _ _).1 (Classical.not_not.1 h); rw [ih, h1]
        simp
  anti a := by
    induction a with
    | nil => intro b; cases b <;> simp [cmpMs]
    | cons x a ih =>
      intro b
      cases b with
      | nil => simp [cmpMs]
      | cons y b =>
        rw [cmpMs, cmpMs]; have h1 := good_Mk.anti x y; have h2 := good_Mk.anti y x; have h3 := ih b
        split <;> split <;> omega
  tr a := by
    induction a with
    | nil =>
      intro b d h1 h2
      cases d with
      | nil =>
        cases b with
        | nil => exact h1
        | cons y b => simp [cmpMs] at h2
      | cons z d => simp [cmpMs]
    | cons x a ih =>
      intro b d h1 h2
      cases b with
      | nil => simp [cmpMs] at h1
      | cons y b =>
        cases d with
        | nil => simp [cmpMs] at h2
        | cons z d =>
          have t1 := good_Mk.tr x y z; have e1 := good_Mk.eq x y; have e2 := good_Mk.eq y z; have a1 := good_Mk.anti x y; rw [cmpMs] at h1 h2 ⊢
          by_cases k1 : cmpMk x y = 0
          · rw [if_neg (by simp [k1])] at h1
            have q1 := e1.1 k1; subst q1
            by_cases k2 : cmpMk x z = 0
            · rw [if_neg (by simp [k2])] at h2 ⊢
              exact ih b d h1 h2
            rw [if_pos k2] at h2 ⊢; exact h2
          rw [if_pos k1] at h1
          by_cases k2 : cmpMk y z = 0
          · have q2 := e2.1 k2
            subst q2; rw [if_pos k1]; exact h1
          rw [if_pos k2] at h2; have h5 := t1 h1 h2; rw [if_pos (by omega)]; exact h5
theorem good_L : Good cmpL := by
  have h := vR (α := Lst) (fun l => (l.1, ((l.2.length : Nat) : Int), l.2)) (gO good_I (gO good_I good_Ms)) (fun a b e => by
    simp only [Prod.mk.injEq] at e
    exact Prod.ext e.1 e.2.2)
  have e : cmpL = fun a b : Lst => (fun a b : Int × Int × List Mk => if ¬ cmpI a.1 b.1 = 0 then cmpI a.1 b.1 else (fun a b : Int × List Mk => if ¬ cmpI a.1 b.1 = 0 then cmpI a.1 b.1 else cmpMs a.2 b.2) a.2 b.2) (a.1, ((a.2.length : Nat) : Int), a.2) (b.1, ((b.2.length : Nat) : Int), b.2) := by
    funext a b
    rw [cmpL, orL3]
  rw [e]; exact h
theorem zF {a b : Mk} (h : ¬ a = b) : beforeR a b = decide (cmpMk a b < 0) := by
  rw [cmpMk, orL3, beforeR]; have i1 : ∀ x y : Int, ¬ x = y → ¬ cmpI x y = 0 := fun x y h h0 => h ((good_I.eq x y).1 h0); have i2 : ∀ x y : Int, (x < y) = (cmpI x y < 0) := fun x y => by apply propext; unfold cmpI; split <;> (try split) <;> omega
  by_cases h1 : a.2.1 = b.2.1
  · rw [if_neg (not_not_intro h1), if_neg (not_not_intro ((good_I.eq _ _).2 h1))]
    by_cases h2 : a.1 = b.1
    · rw [if_neg (not_not_intro h2), if_neg (not_not_intro ((good_I.eq _ _).2 h2))]
      rw [cT, bytesLess_eq]
      apply decide_eq_decide.2
      split
      · rename_i h; simp [h]
      rename_i h; split <;> simp [h]
    rw [if_pos h2, if_pos (i1 _ _ h2)]; exact decide_eq_decide.2 (by rw [i2])
  rw [if_pos h1, if_pos (i1 _ _ h1)]; exact decide_eq_decide.2 (by rw [i2])
theorem zV : ∀ {a b : List Mk}, a.length = b.length → lexR a b = decide (cmpMs a b < 0)
  | [], [], _ => by simp [lexR, cmpMs]
  | [], _ :: _, h => by simp at h
  | _ :: _, [], h => by simp at h
  | a :: l, b :: l', h => by
    rw [lexR, cmpMs]
    by_cases h1 : a = b
    · rw [if_neg (not_not_intro h1), if_neg (not_not_intro ((good_Mk.eq _ _).2 h1))]
      exact zV (by simpa using h)
    rw [if_pos h1, if_pos (fun h0 => h1 ((good_Mk.eq _ _).1 h0)), zF h1]
abbrev cL (l : List Mk) : Lst := ((costM l : Int), l)
theorem zE (a b : List Mk) : betterR a b = decide (cmpL (cL a) (cL b) < 0) := by
  have i1 : ∀ x y : Int, ¬ x = y → ¬ cmpI x y = 0 := fun x y h h0 => h ((good_I.eq x y).1 h0); have i2 : ∀ x y : Int, (x < y) = (cmpI x y < 0) := fun x y => by apply propext; unfold cmpI; split <;> (try split) <;> omega
  rw [betterR, cmpL, orL3]
  by_cases h1 : (costM a : Int) = costM b
  · rw [if_neg (not_not_intro h1), if_neg (not_not_intro ((good_I.eq _ _).2 h1))]
    by_cases h2 : (a.length : Int) = b.length
    · rw [if_neg (not_not_intro h2), if_neg (not_not_intro ((good_I.eq _ _).2 h2))]
      exact zV (by omega)
    rw [if_pos h2, if_pos (i1 _ _ h2)]; exact decide_eq_decide.2 (by rw [i2])
  rw [if_pos h1, if_pos (i1 _ _ h1)]; exact decide_eq_decide.2 (by rw [i2])
def Bt (a b : List Mk) : Prop := cmpL (cL a) (cL b) < 0
theorem Bt.of {a b : List Mk} : betterR a b = true ↔ Bt a b := by rw [zE, decide_eq_true_iff]; rfl
theorem Bt.irr (a : List Mk) : ¬ Bt a a := good_L.irr _
theorem Bt.trans {a b c : List Mk} (h : Bt a b) (h2 : Bt b c) : Bt a c := good_L.tr _ _ _ h h2
theorem Bt.tri {a b : List Mk} (h : ¬ Bt a b) (h2 : ¬ Bt b a) : a = b := congrArg Prod.snd (good_L.tri h h2)
structure Best (S : List (List Mk)) (b : List Mk) : Prop where
  mem : b ∈ S
  le : ∀ x ∈ S, ¬ Bt x b
theorem Best.uniq {S S' : List (List Mk)} {b b' : List Mk} (h : Best S b) (h' : Best S' b') (h1 : b ∈ S') (h2 : b' ∈ S) : b = b' := Bt.tri (h'.le b h1) (h.le b' h2)
def BestO (S : List (List Mk)) (o : Option (List Mk)) : Prop := (S = [] ∧ o = none) ∨ ∃ b, o = some b ∧ Best S b
theorem BestO.pick {S : List (List Mk)} {o : Option (List Mk)} (h : BestO S o) (l : List Mk) : BestO (S ++ [l]) (pickR o l) := by
  rcases h with ⟨rfl, rfl⟩ | ⟨b, rfl, hb⟩
  · exact .inr ⟨l, rfl, by simp, fun x hx => by simp at hx; subst hx; exact Bt.irr _⟩
  right
  unfold pickR
  simp only
  split
  · rename_i hlt
    have hlt := Bt.of.1 hlt; refine ⟨l, rfl, by simp, fun x hx => ?_⟩
    rcases List.mem_append.1 hx with hx | hx
    · exact fun h => hb.le x hx (h.trans hlt)
    simp at hx; subst hx; exact Bt.irr _
  rename_i hlt
  refine ⟨b, rfl, by simp [hb.mem], fun x hx => ?_⟩
  rcases List.mem_append.1 hx with hx | hx
  · exact hb.le x hx
  simp at hx; subst hx; exact fun h => hlt (Bt.of.2 h)
/-! ### What marks make -/
def Asc : List Mk → Prop
  | [] => True
  | m :: l => (∀ b ∈ l, m.2.1 < b.2.1 ∨ (m.2.1 = b.2.1 ∧ m.1 = 1)) ∧ Asc l
theorem Asc.filter {l : List Mk} (h : Asc l) (q : Mk → Bool) : Asc (l.filter q) := by
  induction l with
  | nil => exact h
  | cons m l ih =>
    by_cases hq : q m = true
    · rw [List.filter_cons_of_pos hq]
      exact ⟨fun b hb => h.1 b ((List.mem_filter.1 hb).1), ih h.2⟩
    rw [List.filter_cons_of_neg hq]; exact ih h.2
def finR (st : List Str × Str × Bool) : List Str := if st.2.2 = true then st.1 ++ [st.2.1] else st.1
theorem mZ {α : Type} (p : List α) (i : Nat) : (p.take i).drop i = [] := List.drop_eq_nil_of_le (by rw [List.length_take]; omega)
theorem asc_of {l : List Mk} (h : ∀ k, k + 1 < l.length → okNext (l.getD k default) (l.getD (k + 1) default)) : Asc l := by
  induction l with
  | nil => trivial
  | cons m l ih =>
    have h2 : Asc l := ih fun k hk => by
      have := h (k + 1) (by simpa using hk)
      simpa [List.getD_eq_getElem?_getD] using this
    refine ⟨?_, h2⟩
    cases l with
    | nil => intro b hb; simp at hb
    | cons b l =>
      have h0 : okNext m b := by simpa [List.getD_eq_getElem?_getD] using h 0 (by simp)
      intro c hc
      rcases List.mem_cons.1 hc with rfl | hc
      · exact h0
      have h3 := h2.1 c hc
      rcases h0 with h4 | ⟨h4, h5⟩ <;> rcases h3 with h6 | ⟨h6, h7⟩
      · exact .inl (by omega)
      · exact .inl (by omega)
      · exact .inl (by omega)
      exact .inr ⟨by omega, h5⟩
theorem ax8 {n : Nat} {l : List Mk} (h : marksErr n l = 0) : Asc l := by
  refine asc_of fun k hk => ?_; unfold marksErr at h
  split at h
  · omega
  have := I3 h (k + 1) (by simpa using hk); unfold markErr at this; rw [Nat.add_sub_cancel] at this; generalize l.getD k default = b at *; generalize l.getD (k + 1) default = m at *; unfold mErr at this; unfold okNext
  split at this
  · omega
  split at this
  · omega
  split at this
  · first | omega | (rename_i h1; exact absurd this h1)
  split at this
  · omega
  split at this
  · omega
  split at this
  · rename_i h3; omega
  split at this <;> omega
theorem L3 {α : Type} {f : α → Int} : ∀ {l : List α}, (∀ a ∈ l, f a = 0) → firstErr f l = 0
  | [], _ => rfl
  | a :: l, h => by rw [firstErr, if_pos (h a (by simp))]; exact L3 fun b hb => h b (by simp [hb])
theorem wM {a b : List Str} (ms : List Mk) (ha : pageErr a = 0) (hb : pageErr b = 0) : diffE a b ms = (ms, 0) := by
  rw [diffE, if_neg (by simp [ha]), if_neg (by simp [hb])]
/-! ### The marks of a diff -/
def finP (old : List Str) (st : List Str × Nat) : List Str := st.1 ++ old.drop st.2
structure DM (old page : List Str) (i j : Nat) (l : List Mk) : Prop where
  v : ∀ m ∈ l, (i : Int) ≤ m.2.1 ∧ m.2.1 ≤ old.length ∧ 1 ≤ m.1 ∧ m.1 ≤ 3 ∧ (m.1 = 1 ∨ m.2.1 < old.length) ∧ textErr m = 0
  a : Asc l
  f : ∀ nx, nx ≤ i → ∀ ls, finP old (l.foldl (stepP old) (ls, nx)) = ls ++ (old.take i).drop nx ++ page.drop j
theorem dz0 (old page : List Str) : DM old page old.length page.length [] where
  v := by simp
  a := tK
  f nx _ ls := by simp [finP]
theorem qK {old : List Str} {i nx : Nat} (ls : List Str) (k : Int) (t : Str) (h : nx ≤ i) : stepP old (ls, nx) (k, (i : Int), t) = (deedL (k, (i : Int), t) (ls ++ (old.take i).drop nx), (deedN (k, (i : Int), t) (i : Nat)).toNat) := by
  have hmax : max nx ((k, (i : Int), t) : Mk).2.1.toNat = i := by simp only [Int.toNat_natCast]; omega
  unfold stepP; simp only [hmax]
theorem dm_ins {old page : List Str} {i j : Nat} {l : List Mk} (hi : i ≤ old.length) (hj : j < page.length) (ht : lineErr (page.getD j default) = 0) (h : DM old page i (j + 1) l) : DM old page i j ((1, (i : Int), page.getD j default) :: l) where
  v m hm := by
    rcases List.mem_cons.1 hm with rfl | hm
    · exact ⟨Int.le_refl _, by simp only; omega, by simp, by simp, .inl rfl, by rw [textErr, if_pos (by simp)]; exact ht⟩
    exact h.v m hm
  a := ⟨fun b hb => (Int.lt_or_eq_of_le (h.v b hb).1).elim .inl fun e => .inr ⟨e, rfl⟩, h.a⟩
  f nx hnx ls := by
    rw [List.foldl_cons, qK ls 1 _ hnx, deedL, if_neg (by simp), deedN, if_pos rfl, Int.toNat_natCast, h.f i (Nat.le_refl _), mZ, List.append_nil, List.drop_eq_getElem_cons hj, z8 hj, List.append_assoc]
    rfl
theorem dm_del {old page : List Str} {i j : Nat} {l : List Mk} (hi : i < old.length) (h : DM old page (i + 1) j l) : DM old page i j ((3, (i : Int), []) :: l) where
  v m hm := by
    rcases List.mem_cons.1 hm with rfl | hm
    · exact ⟨Int.le_refl _, by simp only; omega, by simp, by simp, .inr (by simp only; omega), by rw [textErr, if_neg (by simp), if_neg (by simp)]⟩
    have := h.v m hm; exact ⟨by omega, this.2⟩
  a := ⟨fun b hb => by have := (h.v b hb).1; simp only; omega, h.a⟩
  f nx hnx ls := by
    have e : (deedN (3, (i : Int), []) (i : Nat)).toNat = i + 1 := by rw [deedN, if_neg (by simp)]; simp only; omega
    rw [List.foldl_cons, qK ls 3 _ hnx, deedL, if_pos rfl, e, h.f (i + 1) (Nat.le_refl _), mZ, List.append_nil]
theorem dm_rep {old page : List Str} {i j : Nat} {l : List Mk} (hi : i < old.length) (hj : j < page.length) (ht : lineErr (page.getD j default) = 0) (h : DM old page (i + 1) (j + 1) l) : DM old page i j ((2, (i : Int), page.getD j default) :: l) where
  v m hm := by
    rcases List.mem_cons.1 hm with rfl | hm
    · exact ⟨Int.le_refl _, by simp only; omega, by simp, by simp, .inr (by simp only; omega), by rw [textErr, if_pos (by simp)]; exact ht⟩
    have := h.v m hm; exact ⟨by omega, this.2⟩
  a := ⟨fun b hb => by have := (h.v b hb).1; simp only; omega, h.a⟩
  f nx hnx ls := by
    have e : (deedN (2, (i : Int), page.getD j default) (i : Nat)).toNat = i + 1 := by rw [deedN, if_neg (by simp)]; simp only; omega
    rw [List.foldl_cons, qK ls 2 _ hnx, deedL, if_neg (by simp), e, h.f (i + 1) (Nat.le_refl _), mZ, List.append_nil, List.drop_eq_getElem_cons hj, z8 hj, List.append_assoc]
    rfl
theorem dm_keep {old page : List Str} {i j : Nat} {l : List Mk} (hi : i < old.length) (hj : j < page.length) (he : old.getD i default = page.getD j default) (h : DM old page (i + 1) (j + 1) l) : DM old page i j l where
  v m hm := by
    have := h.v m hm; exact ⟨by omega, this.2⟩
  a := h.a
  f nx hnx ls := by
    rw [h.f nx (by omega), s9 old i hi, List.drop_append_of_le_length (by rw [List.length_take]; omega), List.drop_eq_getElem_cons hj, he, z8 hj]; simp only [List.append_assoc]
    rfl
theorem dz4 (old page : List Str) (hp : ∀ s ∈ page, lineErr s = 0) : ∀ (d i j : Nat), (old.length - i) + (page.length - j) ≤ d → i ≤ old.length → j ≤ page.length → DM old page i j (diffP old page i j).2 := by
  intro d
  induction d with
  | zero =>
    intro i j h hi hj; obtain rfl : i = old.length := by omega
    obtain rfl : j = page.length := by omega
    unfold diffP; rw [dif_neg (by omega), dif_neg (by omega), dif_neg (by omega), if_pos ⟨rfl, rfl⟩]; exact dz0 old page
  | succ d ih =>
    intro i j h hi hj; unfold diffP; refine (fun (c : List Lst) (hne : c ≠ []) (hc : ∀ x ∈ c, DM old page i j x.2) => hc _ (aA hne)) _ ?_ ?_
    · by_cases h1 : j < page.length
      · simp [h1]
      by_cases h2 : i < old.length
      · simp [h2]
      rw [if_pos ⟨by omega, by omega⟩]; simp
    intro x hx; simp only [List.mem_append] at hx
    rcases hx with ((hx | hx) | hx) | hx
    · split at hx
      · rename_i h0
        obtain ⟨rfl, rfl⟩ := h0
        simp at hx; subst hx
        exact dz0 old page
      simp at hx
    · split at hx
      · rename_i h1
        simp at hx; subst hx
        exact dm_ins hi h1 (hp _ (r7 h1)) (ih i (j + 1) (by omega) hi (by omega))
      simp at hx
    · split at hx
      · rename_i h1
        simp at hx; subst hx
        exact dm_del h1 (ih (i + 1) j (by omega) (by omega) hj)
      simp at hx
    split at hx
    · rename_i h1
      rcases List.mem_cons.1 hx with rfl | hx
      · exact dm_rep h1.1 h1.2 (hp _ (r7 h1.2)) (ih (i + 1) (j + 1) (by omega) (by omega) (by omega))
      split at hx
      · rename_i h2
        rw [List.mem_singleton] at hx; subst hx; exact dm_keep h1.1 h1.2 h2 (ih (i + 1) (j + 1) (by omega) (by omega) (by omega))
      simp at hx
    simp at hx
theorem wQ : ∀ {l : List Mk} {k : Nat}, Asc l → k + 1 < l.length → okNext (l.getD k default) (l.getD (k + 1) default)
  | [], k, _, h => by simp at h
  | m :: l, 0, h, hk => by
    have h1 : 0 < l.length := by simpa using hk
    have := h.1 (l.getD 0 default) (r7 h1)
    simpa [List.getD_eq_getElem?_getD, okNext] using this
  | m :: l, k + 1, h, hk => by
    have := wQ (l := l) (k := k) h.2 (by simpa using hk)
    simpa [List.getD_eq_getElem?_getD] using this
theorem dz1 {old page : List Str} {l : List Mk} (h : DM old page 0 0 l) (hl : l.length ≤ 12) : marksErr old.length l = 0 := by
  rw [marksErr, if_neg (by omega)]; refine L3 fun k hk => ?_; have hk := List.mem_range.1 hk; have hv := h.v _ (r7 hk)
  have hn : ¬ k = 0 → okNext (l.getD (k - 1) default) (l.getD k default) := fun h0 => by
    have := wQ (k := k - 1) h.a (by omega)
    rwa [Nat.sub_add_cancel (by omega)] at this
  unfold markErr mErr; unfold okNext at hn; generalize l.getD k default = m at *; generalize l.getD (k - 1) default = b at *; rw [if_neg (by omega), if_neg (by split <;> omega), if_neg (by simp [hv.2.2.2.2.2])]
  split
  · rfl
  rename_i h0
  have := hn h0; rw [if_neg (by omega), if_pos (by omega)]
theorem zA {a b : List Str} (ha : pageErr a = 0) (hb : pageErr b = 0) (hbl : ∀ s ∈ b, lineErr s = 0) : applyP a (diffP a b 0 0).2 = (b, 0) := by
  have ha6 := G1 ha; have hb6 := G1 hb; have hd := dz4 a b hbl _ 0 0 (Nat.le_refl _) (Nat.zero_le _) (Nat.zero_le _); have hl := (dY a b _ 0 0 (Nat.le_refl _)).2.2; have hm := dz1 hd (by omega)
  have hmade : madeP a (diffP a b 0 0).2 = b := by
    have := hd.f 0 (Nat.le_refl _) []
    simpa [finP, madeP] using this
  have hc : checkErr a (diffP a b 0 0).2 = 0 := by rw [checkErr, if_pos ha]; exact hm
  rw [applyP, if_neg (by rw [hc]; decide), hmade, if_neg (by omega)]
/-! ### A page with itself -/
theorem sQ (old page : List Str) (i j : Nat) : 0 ≤ (diffP old page i j).1 := (dY old page _ i j (Nat.le_refl _)).1
theorem gj2 (a b : Str) : Op.bytesLess a b = decide (a < b) := bytesLess_eq a b
theorem tM {a b : Str} (h1 : ¬ a < b) (h2 : ¬ b < a) : a = b := List.le_antisymm (List.not_lt.1 h2) (List.not_lt.1 h1)
theorem W5 (a : Str) : ¬ a < a := List.lt_irrefl a
theorem dz8 (a b : Str) : cmpS a b < 0 ↔ a < b := by
  unfold cmpS; rw [gj2]
  by_cases h : a < b
  · simp [h]
  rw [decide_eq_false h]; simp only [Bool.false_eq_true, if_false, h, iff_false]
  split <;> omega
theorem bq5 (a b : Str) : cmpS a b = 0 ↔ a = b := by
  unfold cmpS; rw [gj2]
  by_cases h : a < b
  · have hne : ¬ a = b := fun e => by subst e; exact W5 _ h
    simp [h, hne]
  rw [decide_eq_false h]
  by_cases e : a = b
  · subst e; simp
  have : (a == b) = false := by simpa using e
  simp [this, e]
theorem dz9 (a b : Int) : cmpI a b < 0 ↔ a < b := by unfold cmpI; split <;> (try split) <;> omega
theorem lG (a b : Str) : cmpN a b < 0 ↔ keyOf a < keyOf b ∨ (keyOf a = keyOf b ∧ kindN (a.getD 0 default) < kindN (b.getD 0 default)) := by
  have h1 := dz8 (keyOf a) (keyOf b); have h2 := bq5 (keyOf a) (keyOf b); have h3 := dz9 (kindN (a.getD 0 default)) (kindN (b.getD 0 default)); unfold cmpN; generalize cmpI (kindN (a.getD 0 default)) (kindN (b.getD 0 default)) = y at *; generalize cmpS (keyOf a) (keyOf b) = x at *
  have e : orL [x, y] = if ¬ x = 0 then x else y := by
    unfold orL
    split
    · rfl
    unfold orL
    split
    · rfl
    unfold orL; omega
  rw [e, ← h1, ← h2, ← h3]
  split
  · rename_i hx
    constructor
    · exact fun h => .inl h
    rintro (h | h)
    · exact h
    exact absurd h.1 hx
  rename_i hx
  have hx : x = 0 := Classical.not_not.1 hx
  constructor
  · exact fun h => .inr ⟨hx, h⟩
  rintro (h | h)
  · omega
  exact h.2
theorem pre_N : Pre cmpN where
  asym a b h1 h2 := by
    rw [lG] at h1 h2
    rcases h1 with h1 | ⟨e1, h1⟩
    · rcases h2 with h2 | ⟨e2, h2⟩
      · exact List.lt_asymm h1 h2
      rw [e2] at h1; exact W5 _ h1
    rcases h2 with h2 | ⟨e2, h2⟩
    · rw [e1] at h2; exact W5 _ h2
    omega
  tr a b c h1 h2 h3 := by
    rw [lG] at *
    rcases Classical.em (keyOf a < keyOf b) with hab | hab
    · rcases Classical.em (keyOf b < keyOf c) with hbc | hbc
      · have hac := List.lt_trans hab hbc
        rcases h3 with h3 | ⟨e3, h3⟩
        · exact List.lt_asymm hac h3
        rw [e3] at hac; exact W5 _ hac
      have e : keyOf b = keyOf c := tM hbc (fun h => h2 (.inl h)); rw [e] at hab
      rcases h3 with h3 | ⟨e3, h3⟩
      · exact List.lt_asymm hab h3
      rw [e3] at hab; exact W5 _ hab
    have e : keyOf a = keyOf b := tM hab (fun h => h1 (.inl h))
    rcases Classical.em (keyOf b < keyOf c) with hbc | hbc
    · rw [← e] at hbc
      rcases h3 with h3 | ⟨e3, h3⟩
      · exact List.lt_asymm hbc h3
      rw [e3] at hbc; exact W5 _ hbc
    have e2 : keyOf b = keyOf c := tM hbc (fun h => h2 (.inl h))
    rcases h3 with h3 | ⟨e3, h3⟩
    · rw [← e2, ← e] at h3; exact W5 _ h3
    have q1 : ¬ kindN (b.getD 0 default) < kindN (a.getD 0 default) := fun h => h1 (.inr ⟨e.symm, h⟩); have q2 : ¬ kindN (c.getD 0 default) < kindN (b.getD 0 default) := fun h => h2 (.inr ⟨e2.symm, h⟩)
    omega
theorem cz4 (l : List Str) : Pre (cmpAt l) where
  asym a b := pre_N.asym _ _
  tr a b c := pre_N.tr _ _ _
def keysAt (l : List Str) (z : List Int) : List Str := z.map fun i => keyOf (l.getD i.toNat default)
structure KeyedOK (l K : List Str) : Prop where
  perm : K.Perm (l.map keyOf)
  ord : K.Pairwise fun a b => ¬ b < a
theorem dj6 (l : List Str) : keysAt l (idxL l.length) = l.map keyOf := by
  unfold keysAt idxL; rw [List.map_map]
  apply List.ext_getElem
  · simp
  intro i h1 h2; simp only [List.getElem_map, List.getElem_range, Function.comp_apply, Int.toNat_natCast]; have hi : i < l.length := by simpa using h2
  rw [z8 hi]
theorem dj7 {l : List Str} {z : List Int} (hz : Srtd (cmpAt l) (idxL l.length) z) : KeyedOK l (keysAt l z) := by
  refine ⟨?_, ?_⟩
  · rw [← dj6]
    exact hz.1.map _
  have h := nG (hz.2 (cz4 l)); unfold keysAt; rw [List.pairwise_map]; refine h.imp fun {a b} hab hlt => hab ?_; exact (lG _ _).2 (.inl hlt)
theorem yI (l : List Str) (z : List Int) : (keysAt l z).length = z.length := by simp [keysAt]
theorem vN (l : List Str) {z : List Int} {k : Nat} (h : k < z.length) : keysAt l (z.take (k + 1)) = keysAt l (z.take k) ++ [keyOf (l.getD (z.getD k default).toNat default)] := by
  rw [s9 z k h]; unfold keysAt; simp
theorem yF {l : List Str} (h6 : l.length ≤ 6) (h : ∀ s ∈ l, nameErr s = 0) : listErr l = 0 := by
  rw [listErr, if_neg (by omega)]; exact L3 h
theorem nO {A : Option Addr} {c : Nat} (l : List Str) (h6 : l.length ≤ 6) (hv : ∀ s ∈ l, VN s) : Meets prog cJ [.slice A l.length c] { LI := [Row A (rows l)], inv := fun x : List Str × OutC => KeyedOK l x.1 ∧ x.1.length ≤ x.2.2, val := fun x => .tuple #[.slice x.2.1 x.1.length x.2.2, .bool true], LO := fun x => [Row x.2.1 (rows x.1)] } := by
 refine d5 rF rfl r4 fun w0 => ?_; refine c5 (b7 rfl (b7 rfl (l7 (b3 rfl ?_)))); refine h8 dA rfl rfl (cX l (by omega) (fun s h => (hv s h).1)) p9 mC fun x hx => ?_; obtain ⟨⟨z, e⟩, oz⟩ := x; have hx : SortOK l (z, e) := hx; obtain ⟨he, hz⟩ := hx.ok (yF h6 fun s h => (hv s h).2); simp only at he hz; subst he; have hzl : z.length = l.length := by rw [hz.1.length_eq, U7]
 refine b3 rfl (l4 rfl rfl rfl (l4 rfl rfl rfl (b7 rfl (b7 rfl (b5 (c6 (c5 (b3 rfl (w7 rfl rfl rfl ?_))))))))); refine b3 rfl ?_; refine l8 rfl rfl ?_ ?_
 ·intro hg1; have hg1' := hg1; try simp at hg1'
  refine j0 hg1 (b3 rfl (j0 hg1 ?_)); refine i7 rfl r5 rfl ?_; refine j0 hg1 (b3 rfl (j0 hg1 ?_)); refine i7 rfl j7 rfl ?_; refine j0 hg1 (w7 rfl rfl rfl ?_); refine p_f rfl rfl (bf1 hg1) rfl (b5 ?_)
  first | refine i6 rfl (fun hb1 => ?_) (fun hb1 => ?_) | refine c8 rfl (fun hb1 => ?_) (fun hb1 => ?_)
  ·exact absurd (show (z.length : Int) = l.length by omega) hb1
  have hb1' := hb1; try simp at hb1'
  refine c4 (c3 (c5 (b7 rfl (b5 (c6 (c5 (b7 rfl (b6 ?_)))))))); refine c3 (i5 ?_); refine v6 (β := Nat × OutC × Hp) ⟨fun ⟨k, o, og⟩ => k ≤ z.length ∧ Grow y6 1 o.1 (keysAt l (z.take k)).length o.2 (rows (keysAt l (z.take k))) og, fun ⟨k, o, og⟩ => [(0, .slice A l.length c), (4, .slice oz.1 z.length oz.2), (6, .slice o.1 (keysAt l (z.take k)).length o.2), (7, int k)], fun ⟨k, o, og⟩ => og, fun _ => [Row oz.1 (rows z), Row A (rows l)]⟩ (fun x => z.length - x.1) (0, (none, 0), []) ⟨Nat.zero_le _, Grow.nil _ _⟩ mC nK mC fun x hx => ?_; obtain ⟨k, o, og⟩ := x; obtain ⟨hk, hG⟩ := hx; have hkl := yI l (z.take k); rw [List.length_take] at hkl
  try simp only at hk hG
  refine c6 (c5 (b3 rfl (b3 rfl ?_))); refine i7 rfl r5 rfl ?_; refine y5 rfl rfl rfl (b5 ?_)
  first | refine i6 rfl (fun hb2 => ?_) (fun hb2 => ?_) | refine c8 rfl (fun hb2 => ?_) (fun hb2 => ?_)
  ·have hb2' := hb2; try simp at hb2'
   have hk2 : k < z.length := by omega
   obtain ⟨i, hi, hzi⟩ := qU.1 (hz.1.subset (r7 hk2)); have hvi := hv _ (r7 (l := l) hi); have zvi := K7 hvi.2; have hks := vN l hk2; have hkt : keyOf (l.getD (z.getD k default).toNat default) = keyOf (l.getD i default) := by rw [hzi]; rfl
   rw [hkt] at hks; refine c4 (c3 (c6 (i5 (c6 (c5 (b3 rfl (b3 rfl ?_))))))); refine u6 (α := Int) z k rfl r5 w6 rfl rfl rfl mB rfl hk2 (by decide) (a7 (v := int (z.getD k default)) rfl a6 rfl (b9 mB (b4 hk2 rfl)) ?_); refine y5 rfl rfl rfl (b3 rfl ?_); refine l8 rfl rfl ?_ ?_
   ·intro hg2; have hg2' := hg2; try simp at hg2'
    refine j0 hg2 (b3 rfl (j0 hg2 (b3 rfl (j0 hg2 ?_)))); refine u6 (α := Int) z k rfl r5 w6 rfl rfl rfl mB rfl hk2 (by decide) (j0 hg2 (a7 (v := int (z.getD k default)) rfl a6 rfl (b9 mB (b4 hk2 rfl)) ?_)); refine j0 hg2 (b3 rfl (j0 hg2 ?_)); refine i7 rfl j7 rfl ?_; refine j0 hg2 (cV rfl rfl rfl ?_); refine p_f rfl rfl (bf1 hg2) rfl (b5 ?_)
    first | refine i6 rfl (fun hb3 => ?_) (fun hb3 => ?_) | refine c8 rfl (fun hb3 => ?_) (fun hb3 => ?_)
    ·exact absurd hb3 (by omega)
    have hb3' := hb3; try simp at hb3'
    refine c4 (c3 (c5 (b3 rfl (b3 rfl (b3 rfl ?_))))); refine u6 (α := Int) z k rfl r5 w6 rfl rfl rfl mB rfl hk2 (by decide) (a7 (v := int (z.getD k default)) rfl a6 rfl (b9 mB (b4 hk2 rfl)) (u6 (α := Str) l i rfl j7 q7 rfl rfl hzi mB rfl hi (by decide) (a7 (v := str (l.getD i default)) rfl d6 rfl (b9 mB (b4 hi rfl)) ?_))); have hd := qT (l.getD i default) hvi.1 (by omega); rw [hvi.2, if_pos rfl] at hd; refine h8 rI rfl rfl (hd) (hpR := og) (.refl _) tK fun _ _ => ?_; refine b3 rfl (l4 rfl rfl rfl (l4 rfl rfl rfl (b7 rfl (b7 rfl (b5 (c6 (c5 (b3 rfl (w7 rfl rfl rfl ?_))))))))); refine b5 ?_
    first | refine i6 rfl (fun hb4 => ?_) (fun hb4 => ?_) | refine c8 rfl (fun hb4 => ?_) (fun hb4 => ?_)
    ·have hb4' := hb4; try simp at hb4'
    have hb4' := hb4; try simp at hb4'
    refine c4 (c3 (c7 (b3 rfl (b3 rfl ?_)))); refine j8 _ rfl rfl (fun _ => E9 ..) fun gS => ?_; refine E6 ((keysAt l (z.take k)).length + 1) (rows (keysAt l (z.take (k + 1)))) H6 rfl rfl rfl hG (List.perm_append_comm (l₁ := [_])) (Src.own (cs := #[str (keyOf (l.getD i default))]) (m := 1) (List.mem_append_right _ m0) rfl rfl) rfl (by rw [hks]; exact (y4 _ [keyOf (l.getD i default)]).symm) (by unfold maxLen; omega) (by omega) fun A' c' og' hG' => ?_; refine b7 rfl (b6 (u4 (c3 (c7 (b3 rfl ?_))))); refine w5 _ rfl rfl rfl rfl q8 ?_; refine b7 rfl (b6 ?_); have hkl2 : (keysAt l (z.take (k + 1))).length = (keysAt l (z.take k)).length + 1 := by rw [hks]; simp
    exact again _ (k + 1, (A', c'), og') ⟨by omega, by show Grow _ _ _ (keysAt l (z.take (k + 1))).length _ _ _; rw [hkl2]; exact hG'⟩ (C5 (by omega)) ⟨rfl, rfl, by show some (Value.slice A' ((keysAt l (z.take k)).length + 1) c') = some (Value.slice A' (keysAt l (z.take (k + 1))).length c'); rw [hkl2], rfl, tK⟩ (List.sublist_append_left _ _) mC
   intro hg2; have hg2' := hg2; try simp at hg2'
   all_goals (have h := of_decide_eq_true (bt2 hg2); omega)
  have hb2' := hb2; try simp at hb2'
  have hk2 : k = z.length := by omega
  subst hk2; refine r9 (B2 (r8 (c3 (c5 (b3 rfl (b7 rfl (b7 rfl (b5 ?_)))))))); refine i8 ?_; rw [List.take_length] at hG; have hle := hG.le; refine az7 hG ?_; exact ret2 (keysAt l z, o) rfl rfl rfl (by show Value.tuple #[.slice o.1 (keysAt l z).length o.2, .bool true] = Value.tuple #[.slice o.1 (keysAt l (z.take z.length)).length o.2, .bool true]; rw [List.take_length]) rfl ⟨dj7 hz, hle⟩ nK ⟨m0, tK⟩
 intro hg1; have hg1' := hg1; try simp at hg1'
structure LCS {α : Type} (a b : List α) (n : Nat) : Prop where
  ex : ∃ s : List α, s.Sublist a ∧ s.Sublist b ∧ s.length = n
  le : ∀ s : List α, s.Sublist a → s.Sublist b → s.length ≤ n
theorem LCS.uniq {α : Type} {a b : List α} {n m : Nat} (h : LCS a b n) (h' : LCS a b m) : n = m := by
  obtain ⟨s, h1, h2, h3⟩ := h.ex; obtain ⟨t, h4, h5, h6⟩ := h'.ex; have := h.le t h4 h5; have := h'.le s h1 h2
  omega
theorem dO {α : Type} : ∀ (b s t : List α), s.Sublist b → t.Sublist b → ∃ u : List α, u.Sublist s ∧ u.Sublist t ∧ s.length + t.length ≤ b.length + u.length
  | [], s, t, hs, ht => ⟨[], List.nil_sublist _, List.nil_sublist _, by rw [List.eq_nil_of_sublist_nil hs, List.eq_nil_of_sublist_nil ht]; simp⟩
  | x :: b, s, t, hs, ht => by
    cases hs with
    | cons _ hs =>
      cases ht with
      | cons _ ht =>
        obtain ⟨u, h1, h2, h3⟩ := dO b s t hs ht; exact ⟨u, h1, h2, by simp only [List.length_cons]; omega⟩
      | cons_cons _ ht =>
        obtain ⟨u, h1, h2, h3⟩ := dO b s _ hs ht; exact ⟨u, h1, .cons _ h2, by simp only [List.length_cons]; omega⟩
    | cons_cons _ hs =>
      cases ht with
      | cons _ ht =>
        obtain ⟨u, h1, h2, h3⟩ := dO b _ t hs ht; exact ⟨u, .cons _ h1, h2, by simp only [List.length_cons]; omega⟩
      | cons_cons _ ht =>
        obtain ⟨u, h1, h2, h3⟩ := dO b _ _ hs ht; exact ⟨x :: u, h1.cons_cons _, h2.cons_cons _, by simp only [List.length_cons]; omega⟩
theorem LCS.tri {α : Type} {a b c : List α} {n m k : Nat} (h1 : LCS a b n) (h2 : LCS b c m) (h3 : LCS a c k) : n + m ≤ b.length + k := by
  obtain ⟨s, sa, sb, hs⟩ := h1.ex; obtain ⟨t, tb, tc, ht⟩ := h2.ex; obtain ⟨u, us, ut, hu⟩ := dO b s t sb tb; have := h3.le u (us.trans sa) (ut.trans tc)
  omega
theorem cmpL_fst {x y : Lst} (h : ¬ cmpL x y < 0) : y.1 ≤ x.1 := by
  apply Classical.byContradiction
  intro hlt
  apply h
  have e : cmpI x.1 y.1 = -1 := by rw [cmpI, if_pos (show x.1 < y.1 by omega)]
  rw [cmpL, orL3]
  simp [e]
theorem cmpL_fst' {x y : Lst} (h : cmpL x y < 0) : x.1 ≤ y.1 := by
  apply Classical.byContradiction
  intro hlt; have e : cmpI x.1 y.1 = 1 := by rw [cmpI, if_neg (show ¬ x.1 < y.1 by omega), if_pos (show y.1 < x.1 by omega)]
  rw [cmpL, orL3] at h
  simp [e] at h
theorem lV : ∀ (l : List Lst) (f : Lst), (leastP f l).1 ≤ f.1 ∧ ∀ x ∈ l, (leastP f l).1 ≤ x.1
  | [], f => ⟨Int.le_refl _, by simp⟩
  | y :: l, f => by
    have e : leastP f (y :: l) = leastP (if cmpL y f < 0 then y else f) l := rfl; obtain ⟨h1, h2⟩ := lV l (if cmpL y f < 0 then y else f); rw [e]
    by_cases hc : cmpL y f < 0
    · rw [if_pos hc] at *
      have := cmpL_fst' hc; exact ⟨by omega, fun x hx => (List.mem_cons.1 hx).elim (fun e => by rw [e]; exact h1) (h2 x)⟩
    rw [if_neg hc] at *; have := cmpL_fst hc; exact ⟨h1, fun x hx => (List.mem_cons.1 hx).elim (fun e => by rw [e]; omega) (h2 x)⟩
theorem iG {l : List Lst} {x : Lst} (h : x ∈ l) : (leastOf l).1 ≤ x.1 := by
  cases l with
  | nil => simp at h
  | cons f l =>
    rcases List.mem_cons.1 h with rfl | h
    · exact (lV l x).1
    exact (lV l f).2 x h
theorem L4 {l : List Str} {i : Nat} (h : i < l.length) : l.drop i = l.getD i default :: l.drop (i + 1) := by rw [List.drop_eq_getElem_cons h, z8 h]
theorem dz2 (old page : List Str) : ∀ (d i j : Nat), (old.length - i) + (page.length - j) ≤ d → i ≤ old.length → j ≤ page.length → ∀ s : List Str, s.Sublist (old.drop i) → s.Sublist (page.drop j) → (diffP old page i j).1 + s.length ≤ (page.length - j : Nat) := by
  intro d
  induction d with
  | zero =>
    intro i j h hi hj s h1 h2; obtain rfl : i = old.length := by omega
    obtain rfl : j = page.length := by omega
    have hs := h1.length_le; rw [List.length_drop, Nat.sub_self] at hs; unfold diffP; rw [dif_neg (by omega), dif_neg (by omega), dif_neg (by omega), if_pos ⟨rfl, rfl⟩]; show (0 : Int) + _ ≤ _
    omega
  | succ d ih =>
    intro i j h hi hj s h1 h2
    have ins : ∀ hj2 : j < page.length, (diffP old page i j).1 ≤ (diffP old page i (j + 1)).1 + 1 := by
      intro hj2; have : (behindP (diffP old page i (j + 1)) (1, (i : Int), page.getD j default)).1 = (diffP old page i (j + 1)).1 + 1 := rfl; rw [← this]
      conv => lhs; unfold diffP
      exact iG (by simp [hj2])
    have del : ∀ hi2 : i < old.length, (diffP old page i j).1 ≤ (diffP old page (i + 1) j).1 := by
      intro hi2; have : (behindP (diffP old page (i + 1) j) (3, (i : Int), [])).1 = (diffP old page (i + 1) j).1 := rfl; rw [← this]
      conv => lhs; unfold diffP
      exact iG (by simp [hi2])
    have kp : ∀ (hi2 : i < old.length) (hj2 : j < page.length), old.getD i default = page.getD j default → (diffP old page i j).1 ≤ (diffP old page (i + 1) (j + 1)).1 := by
      intro hi2 hj2 he
      conv => lhs; unfold diffP
      refine iG (List.mem_append_right _ ?_); rw [dif_pos ⟨hi2, hj2⟩, if_pos he]
      simp
    by_cases hi2 : i < old.length
    · rw [L4 hi2] at h1
      cases h1 with
      | cons _ h1 =>
        have := ih (i + 1) j (by omega) (by omega) hj s h1 h2; have := del hi2
        omega
      | cons_cons _ h1 =>
        rename_i s'
        have hj2 : j < page.length := by
          have := h2.length_le; rw [List.length_drop] at this
          simp at this
          omega
        rw [L4 hj2] at h2; generalize he : old.getD i default = o at *
        cases h2 with
        | cons _ h2 =>
          have := ih i (j + 1) (by omega) hi (by omega) (o :: s') (by rw [L4 hi2, he]; exact h1.cons_cons _) h2; have := ins hj2
          omega
        | cons_cons _ h2 =>
          have := ih (i + 1) (j + 1) (by omega) (by omega) (by omega) s' h1 h2; have := kp hi2 hj2 rfl; simp only [List.length_cons]
          omega
    have hs := h1.length_le; rw [List.length_drop] at hs; have hs0 : s = [] := List.length_eq_zero_iff.1 (by omega); subst hs0
    by_cases hj2 : j < page.length
    · have := ih i (j + 1) (by omega) hi (by omega) [] nK nK
      have := ins hj2; simp only [List.length_nil] at *
      omega
    have := (dY old page _ i j (Nat.le_refl _)).2.1; simp only [List.length_nil] at *
    omega
def HasS (old page : List Str) (i j : Nat) (c : Int) : Prop := ∃ s : List Str, s.Sublist (old.drop i) ∧ s.Sublist (page.drop j) ∧ (page.length - j : Nat) ≤ c + s.length
theorem bq2 (old page : List Str) : ∀ (d i j : Nat), (old.length - i) + (page.length - j) ≤ d → i ≤ old.length → j ≤ page.length → HasS old page i j (diffP old page i j).1 := by
  intro d
  induction d with
  | zero =>
    intro i j h hi hj; exact ⟨[], List.nil_sublist _, List.nil_sublist _, by have := sQ old page i j; simp only [List.length_nil]; omega⟩
  | succ d ih =>
    intro i j h hi hj
    by_cases h00 : ¬ i < old.length ∧ ¬ j < page.length
    · exact ⟨[], List.nil_sublist _, List.nil_sublist _, by have := sQ old page i j; simp only [List.length_nil]; omega⟩
    unfold diffP; refine (fun (c : List Lst) (hne : c ≠ []) (hc : ∀ x ∈ c, HasS old page i j x.1) => hc _ (aA hne)) _ ?_ ?_
    · by_cases h1 : j < page.length
      · simp [h1]
      by_cases h2 : i < old.length
      · simp [h2]
      exact absurd ⟨h2, h1⟩ h00
    intro x hx; simp only [List.mem_append] at hx
    rcases hx with ((hx | hx) | hx) | hx
    · split at hx
      · rename_i h0; omega
      simp at hx
    · split at hx
      · rename_i h1
        simp at hx; subst hx
        obtain ⟨s, s1, s2, s3⟩ := ih i (j + 1) (by omega) hi (by omega); exact ⟨s, s1, by rw [L4 h1]; exact .cons _ s2, by show _ ≤ (diffP old page i (j + 1)).1 + 1 + _; omega⟩
      simp at hx
    · split at hx
      · rename_i h1
        simp at hx; subst hx
        obtain ⟨s, s1, s2, s3⟩ := ih (i + 1) j (by omega) (by omega) hj; exact ⟨s, by rw [L4 h1]; exact .cons _ s1, s2, s3⟩
      simp at hx
    split at hx
    · rename_i h1
      obtain ⟨s, s1, s2, s3⟩ := ih (i + 1) (j + 1) (by omega) (by omega) (by omega)
      rcases List.mem_cons.1 hx with rfl | hx
      · exact ⟨s, by rw [L4 h1.1]; exact .cons _ s1, by rw [L4 h1.2]; exact .cons _ s2, by show _ ≤ (diffP old page (i + 1) (j + 1)).1 + 1 + _; omega⟩
      split at hx
      · rename_i h2
        rw [List.mem_singleton] at hx; subst hx; exact ⟨page.getD j default :: s, by rw [L4 h1.1, h2]; exact s1.cons_cons _, by rw [L4 h1.2]; exact s2.cons_cons _, by simp only [List.length_cons]; omega⟩
      simp at hx
    simp at hx
theorem yZ {a b : List Str} {n : Nat} (h : LCS a b n) : (diffP a b 0 0).1 = (b.length : Int) - n := by
  obtain ⟨s, s1, s2, s3⟩ := h.ex; have h1 := dz2 a b _ 0 0 (Nat.le_refl _) (Nat.zero_le _) (Nat.zero_le _) s (by simpa using s1) (by simpa using s2); obtain ⟨t, t1, t2, t3⟩ := bq2 a b _ 0 0 (Nat.le_refl _) (Nat.zero_le _) (Nat.zero_le _); have := h.le t (by simpa using t1) (by simpa using t2); simp only [Nat.sub_zero] at h1 t3
  omega
def longP (p : List Str) : Bool := (p.any fun s => decide (30 < s.length)) || decide (20 < p.length)
def manyP (l : List Mk) : Bool := (l.any fun m => decide (30 < m.2.2.length)) || decide (20 < l.length)
def oldP (ys : List (List Str)) : Bool := (ys.any longP) || decide (20 < ys.length)
abbrev CapOK (ps : List (Sl Str)) : Prop := ∀ p ∈ ps, p.l.length ≤ p.c
theorem CapOK.snoc {ps : List (Sl Str)} {p : Sl Str} (h : CapOK ps) (hp : p.l.length ≤ p.c) : CapOK (ps ++ [p]) := fun q hq => by
  rcases List.mem_append.1 hq with hq | hq
  · exact h q hq
  simp at hq; subst hq; exact hp
def stepC (b : List Str) (x : Str) (st : List Int × Int) (k : Nat) : List Int × Int :=
  (st.1.set (k + 1) (if x = b.getD k default then st.2 + 1 else if st.1.getD k default > st.1.getD (k + 1) default then st.1.getD k default else st.1.getD (k + 1) default), st.1.getD (k + 1) default)
def rowC (b : List Str) (cur : List Int) (x : Str) : List Int := ((List.range b.length).foldl (stepC b x) (cur, 0)).1
def zeroC (b : List Str) : List Int := List.replicate (b.length + 1) 0
def commonI (a b : List Str) : Int := (a.foldl (rowC b) (zeroC b)).getD b.length default
structure BdC (m i k : Nat) (st : List Int × Int) : Prop where
  len : st.1.length = m + 1
  c0 : 0 ≤ st.2
  c1 : st.2 ≤ i
  lo : ∀ j : Nat, 0 ≤ st.1.getD j default
  hi : ∀ j : Nat, j ≤ k → st.1.getD j default ≤ (i : Int) + 1
  hi2 : ∀ j : Nat, k < j → st.1.getD j default ≤ i
theorem getD_set' {l : List Int} {k j : Nat} {v : Int} (hk : k < l.length) : (l.set k v).getD j default = if k = j then v else l.getD j default := by
  rw [List.getD_eq_getElem?_getD, List.getD_eq_getElem?_getD, List.getElem?_set]
  split
  · rfl
  rfl
theorem BdC.step {m i k : Nat} {st : List Int × Int} (h : BdC m i k st) (b : List Str) (x : Str) (hk : k < m) : BdC m i (k + 1) (stepC b x st k) := by
  have hl : k + 1 < st.1.length := by rw [h.len]; omega
  have h1 := h.lo k; have h2 := h.hi k (Nat.le_refl _); have h3 := h.lo (k + 1); have h4 := h.hi2 (k + 1) (by omega); have h5 := h.c0; have h6 := h.c1; refine ⟨by simp [stepC, h.len], h3, h4, fun j => ?_, fun j hj => ?_, fun j hj => ?_⟩
  · show 0 ≤ (st.1.set (k + 1) _).getD j default
    rw [getD_set' hl]
    split
    · split
      · omega
      split <;> omega
    exact h.lo j
  · show (st.1.set (k + 1) _).getD j default ≤ _
    rw [getD_set' hl]
    split
    · split
      · omega
      split <;> omega
    exact h.hi j (by omega)
  show (st.1.set (k + 1) _).getD j default ≤ _; rw [getD_set' hl, if_neg (by omega)]; exact h.hi2 j (by omega)
def arrB (g : Nat) (l : List Int) : Nat × Obj := (g, .cells (rows l).toArray E2 (0, 0))
theorem dK {α : Type} {s a : List α} {x : α} (h : s.Sublist (a ++ [x])) : s.Sublist a ∨ ∃ t : List α, s = t ++ [x] ∧ t.Sublist a := by
  obtain ⟨l1, l2, rfl, h1, h2⟩ := List.sublist_append_iff.1 h
  cases h2 with
  | cons _ h2 => rw [List.eq_nil_of_sublist_nil h2, List.append_nil]; exact .inl h1
  | cons_cons _ h2 => rw [List.eq_nil_of_sublist_nil h2]; exact .inr ⟨l1, rfl, h1⟩
theorem LCS.nil_right {α : Type} (a : List α) : LCS a [] 0 := ⟨⟨[], List.nil_sublist _, List.nil_sublist _, rfl⟩, fun s _ h => by rw [List.eq_nil_of_sublist_nil h]; exact Nat.le_refl _⟩
theorem LCS.snoc_eq {α : Type} {a b : List α} {n : Nat} (x : α) (h : LCS a b n) : LCS (a ++ [x]) (b ++ [x]) (n + 1) := by
  obtain ⟨s, s1, s2, s3⟩ := h.ex; refine ⟨⟨s ++ [x], s1.append (List.Sublist.refl _), s2.append (List.Sublist.refl _), by simp [s3]⟩, fun t t1 t2 => ?_⟩
  rcases dK t1 with h1 | ⟨u, rfl, hu⟩
  · rcases dK t2 with h2 | ⟨v, rfl, hv⟩
    · have := h.le t h1 h2; omega
    have := h.le v ((List.sublist_append_left v [x]).trans h1) hv
    simp; omega
  rcases dK t2 with h2 | ⟨v, e, hv⟩
  · have := h.le u hu ((List.sublist_append_left u [x]).trans h2)
    simp; omega
  obtain rfl : u = v := List.append_cancel_right e; have := h.le u hu hv
  simp; omega
theorem LCS.snoc_ne {α : Type} {a b : List α} {n m : Nat} {x y : α} (hxy : ¬ x = y) (h : LCS a (b ++ [y]) n) (h' : LCS (a ++ [x]) b m) : LCS (a ++ [x]) (b ++ [y]) (max n m) := by
  refine ⟨?_, fun t t1 t2 => ?_⟩
  · obtain ⟨s, s1, s2, s3⟩ := h.ex
    obtain ⟨t, t1, t2, t3⟩ := h'.ex
    by_cases hle : n ≤ m
    · exact ⟨t, t1, t2.trans (List.sublist_append_left _ _), by omega⟩
    exact ⟨s, s1.trans (List.sublist_append_left _ _), s2, by omega⟩
  rcases dK t1 with h1 | ⟨u, e, hu⟩
  · have := h.le t h1 t2; omega
  rcases dK t2 with h2 | ⟨v, e2, hv⟩
  · have := h'.le t t1 h2; omega
  rw [e] at e2; have := (List.append_inj' e2 rfl).2
  simp at this
  exact absurd this hxy
structure RowL (a b : List Str) (cur : List Int) : Prop where
  len : cur.length = b.length + 1
  at_ : ∀ j, j ≤ b.length → ∃ n : Nat, cur.getD j default = n ∧ LCS a (b.take j) n
structure MidL (a b : List Str) (x : Str) (k : Nat) (st : List Int × Int) : Prop where
  len : st.1.length = b.length + 1
  new : ∀ j, j ≤ k → ∃ n : Nat, st.1.getD j default = n ∧ LCS (a ++ [x]) (b.take j) n
  old : ∀ j, k < j → j ≤ b.length → ∃ n : Nat, st.1.getD j default = n ∧ LCS a (b.take j) n
  dia : ∃ n : Nat, st.2 = n ∧ LCS a (b.take k) n
theorem MidL.step {a b : List Str} {x : Str} {k : Nat} {st : List Int × Int} (h : MidL a b x k st) (hk : k < b.length) : MidL a b x (k + 1) (stepC b x st k) := by
  have hl : k + 1 < st.1.length := by rw [h.len]; omega
  obtain ⟨n1, e1, l1⟩ := h.new k (Nat.le_refl _); obtain ⟨n2, e2, l2⟩ := h.old (k + 1) (by omega) (by omega); obtain ⟨n3, e3, l3⟩ := h.dia; refine ⟨by simp [stepC, h.len], fun j hj => ?_, fun j hj hj2 => ?_, ⟨n2, e2, l2⟩⟩
  · show ∃ n : Nat, (st.1.set (k + 1) _).getD j default = n ∧ _
    rw [getD_set' hl]
    by_cases hjk : k + 1 = j
    · subst hjk
      rw [if_pos rfl, s9 b k hk]; rw [s9 b k hk] at l2
      by_cases hx : x = b.getD k default
      · rw [if_pos hx, e3, ← hx]
        exact ⟨n3 + 1, by simp, l3.snoc_eq x⟩
      rw [if_neg hx, e1, e2]; have := l2.snoc_ne hx l1; refine ⟨max n2 n1, ?_, this⟩
      split <;> omega
    rw [if_neg hjk]; exact h.new j (by omega)
  show ∃ n : Nat, (st.1.set (k + 1) _).getD j default = n ∧ _; rw [getD_set' hl, if_neg (by omega)]; exact h.old j (by omega) hj2
theorem zO {a b : List Str} {x : Str} {cur : List Int} (h : RowL a b cur) : ∀ k, k ≤ b.length → MidL a b x k ((List.range k).foldl (stepC b x) (cur, 0))
  | 0, _ => by
    obtain ⟨n, e, l⟩ := h.at_ 0 (Nat.zero_le _); rw [List.take_zero] at l; have : n = 0 := l.uniq (.nil_right _); subst this; refine ⟨h.len, fun j hj => ?_, fun j _ hj => h.at_ j hj, ⟨0, rfl, by rw [List.take_zero]; exact .nil_right _⟩⟩; obtain rfl : j = 0 := by omega
    exact ⟨0, e, by rw [List.take_zero]; exact .nil_right _⟩
  | k + 1, hk => by
    rw [List.range_succ, List.foldl_append]; exact (zO h k (by omega)).step (by omega)
theorem RowL.next {a b : List Str} {cur : List Int} (x : Str) (h : RowL a b cur) : RowL (a ++ [x]) b (rowC b cur x) := by
  have := zO (x := x) h b.length (Nat.le_refl _); exact ⟨this.len, fun j hj => this.new j hj⟩
def insM (l : List Mk) : Nat := (l.filter fun m => decide (m.1 = 1)).length
def outsM (l : List Mk) : Nat := (l.filter fun m => decide (m.1 = 3)).length
def mk2 (p : List Str) : List Mk → Nat → List Str
  | [], nx => p.drop nx
  | m :: l, nx => (p.take m.2.1.toNat).drop nx ++ ((if m.1 = 3 then [] else [m.2.2]) ++ mk2 p l (if m.1 = 1 then m.2.1.toNat else m.2.1.toNat + 1))
def From (nx : Nat) (l : List Mk) : Prop := ∀ m ∈ l, (nx : Int) ≤ m.2.1
theorem From.next {nx : Nat} {m : Mk} {l : List Mk} (hA : Asc (m :: l)) (h : From nx (m :: l)) : From (if m.1 = 1 then m.2.1.toNat else m.2.1.toNat + 1) l := by
  intro b hb; have h1 := h m (by simp); have h2 := hA.1 b hb
  split <;> omega
theorem MV.next {n : Nat} {m : Mk} {l : List Mk} (h : MV n (m :: l)) : MV n l := fun b hb => h b (by simp [hb])
theorem vK (p : List Str) : ∀ (l : List Mk) (nx : Nat) (ls : List Str), Asc l → MV p.length l → From nx l →
    (l.foldl (stepP p) (ls, nx)).1 ++ p.drop (l.foldl (stepP p) (ls, nx)).2 = ls ++ mk2 p l nx
  | [], nx, ls, _, _, _ => rfl
  | m :: l, nx, ls, hA, hV, hF => by
    have h1 := hF m (by simp); have hmax : max nx m.2.1.toNat = m.2.1.toNat := by omega
    have hs : stepP p (ls, nx) m = (deedL m (ls ++ (p.take m.2.1.toNat).drop nx), (deedN m (m.2.1.toNat : Nat)).toNat) := by
      unfold stepP; simp only [hmax]
    have hn : (deedN m (m.2.1.toNat : Nat)).toNat = (if m.1 = 1 then m.2.1.toNat else m.2.1.toNat + 1) := by
      unfold deedN
      split <;> omega
    rw [List.foldl_cons, hs, hn, vK p l _ _ hA.2 hV.next (hF.next hA), mk2, deedL]
    split <;> simp
theorem zT (p : List Str) : ∀ (l : List Mk) (nx : Nat), Asc l → MV p.length l → From nx l → nx ≤ p.length → (mk2 p l nx).length + outsM l + nx = p.length + insM l
  | [], nx, _, _, _, h => by simp [mk2, outsM, insM]; omega
  | m :: l, nx, hA, hV, hF, h => by
    have h1 := hF m (by simp); have hv := hV m (by simp); have ih := zT p l _ hA.2 hV.next (hF.next hA) (by split <;> omega)
    have e1 : insM (m :: l) = insM l + (if m.1 = 1 then 1 else 0) := by
      unfold insM
      by_cases k : m.1 = 1
      · rw [List.filter_cons_of_pos (by simpa using k), if_pos k]; simp
      rw [List.filter_cons_of_neg (by simpa using k), if_neg k]; simp
    have e3 : outsM (m :: l) = outsM l + (if m.1 = 3 then 1 else 0) := by
      unfold outsM
      by_cases k : m.1 = 3
      · rw [List.filter_cons_of_pos (by simpa using k), if_pos k]; simp
      rw [List.filter_cons_of_neg (by simpa using k), if_neg k]; simp
    rw [mk2, e1, e3]; simp only [List.length_append, List.length_drop, List.length_take]
    by_cases k1 : m.1 = 1
    · have k3 : ¬ m.1 = 3 := by omega
      simp only [if_pos k1, if_neg k3, List.length_cons, List.length_nil] at ih ⊢
      omega
    by_cases k3 : m.1 = 3
    · simp only [if_neg k1, if_pos k3, List.length_nil] at ih ⊢
      omega
    simp only [if_neg k1, if_neg k3, List.length_cons, List.length_nil] at ih ⊢
    omega
def namedM (l : List Mk) (i : Nat) : Bool := l.any fun m => decide (m.2.1 = (i : Int)) && decide (¬ m.1 = 1)
def keptF (p : List Str) (l : List Mk) (nx n : Nat) : List Str := ((List.range' nx n).filter fun i => !namedM l i).map fun i => p.getD i default
theorem from0 {n : Nat} {l : List Mk} (h : MV n l) : From 0 l := fun m hm => by have := h m hm; omega
theorem zU (p : List Str) {l : List Mk} (hA : Asc l) (hV : MV p.length l) : madeP p l = mk2 p l 0 := by
  have := vK p l 0 [] hA hV (from0 hV); rw [List.nil_append] at this; exact this
structure LinesOK (p : List Str) (l : List Mk) : Prop where
  len : ((madeP p l).length : Int) = (p.length : Int) + insM l - outsM l
  kept : commonI (keptF p l 0 p.length) (madeP p l) = (keptF p l 0 p.length).length
  sum : (keptF p l 0 p.length).length + costM l = (madeP p l).length
def PaidOK (x : Lst) : Prop := x.1 = (costM x.2 : Nat)
theorem dN {x : Lst} (m : Mk) (h : PaidOK x) : PaidOK (behindP x m) := by
  unfold PaidOK at *; unfold behindP costM; unfold costM at h
  by_cases h3 : m.1 = 3
  · simp [h3, h]
  simp [h3, h]
theorem zB (old page : List Str) : ∀ (d i j : Nat), (old.length - i) + (page.length - j) ≤ d → PaidOK (diffP old page i j) := by
  intro d
  induction d with
  | zero =>
    intro i j h; unfold diffP; rw [dif_neg (by omega), dif_neg (by omega), dif_neg (by omega)]
    split <;> rfl
  | succ d ih =>
    intro i j h; unfold diffP; refine (fun (c : List Lst) (hc : ∀ x ∈ c, PaidOK x) => if hn : c = [] then by rw [hn]; rfl else hc _ (aA hn)) _ ?_; intro x hx; simp only [List.mem_append] at hx
    rcases hx with ((hx | hx) | hx) | hx
    · split at hx
      · simp at hx; subst hx; rfl
      simp at hx
    · split at hx
      · simp at hx; subst hx; exact dN _ (ih _ _ (by omega))
      simp at hx
    · split at hx
      · simp at hx; subst hx; exact dN _ (ih _ _ (by omega))
      simp at hx
    split at hx
    · rcases List.mem_cons.1 hx with rfl | hx
      · exact dN _ (ih _ _ (by omega))
      split at hx
      · rw [List.mem_singleton] at hx; subst hx; exact ih _ _ (by omega)
      simp at hx
    simp at hx
def seed0 : Int × Int := (0, 11400714819323198485)
theorem dok0 (nums : List Int) : DOK nums seed0 := ⟨by decide, by simp [seed0], by decide, by decide⟩
abbrev Pg := Sl Str
abbrev Mg := Sl Mk
structure OriginOK (ps : List (Sl Str)) (s : Str) (n : Nat) (o : Int) : Prop where
  lo : -1 ≤ o
  hi : o < n
  mem : 0 ≤ o → s ∈ (ps.getD o.toNat default).l
  no : ∀ j : Nat, o < j → j < n → s ∉ (ps.getD j default).l
def qB (ps : List (Sl Str)) (p : List Str) (i : Nat) : Bool := decide (0 ≤ originN ps (p.getD i default) ps.length) && decide (originN ps (p.getD i default) ps.length < (ps.length : Int) - 1)
def backL (ps : List (Sl Str)) (p : List Str) (k : Nat) : List Int := ((List.range k).filter (qB ps p)).map fun i : Nat => (i : Int)
def backE (ps : List (Sl Str)) (p : List Str) : List Int × Int := if ¬ askedErr (years ps) p = 0 then ([], askedErr (years ps) p) else (backL ps p p.length, 0)
theorem wR {p : List Str} {l : List Mk} (h : (applyP p l).2 = 0) : checkErr p l = 0 ∧ applyP p l = (madeP p l, 0) ∧ (madeP p l).length ≤ 6 := by
  unfold applyP at h ⊢
  split at h
  · rename_i h1; exact absurd h h1
  rename_i h1
  split at h
  · cases h
  rename_i h2
  exact ⟨Classical.not_not.1 h1, by rw [if_neg h1, if_neg h2], by omega⟩
theorem wN {p : List Str} {l : List Mk} (h : checkErr p l = 0) : pageErr p = 0 ∧ marksErr p.length l = 0 := by
  unfold checkErr at h
  split at h
  · rename_i h1; exact ⟨h1, h⟩
  rename_i h1; exact absurd h h1
theorem ax6 {p : List Str} (h : pageErr p = 0) : ∀ s ∈ p, lineErr s = 0 := by
  unfold pageErr at h
  split at h
  · omega
  exact I3 h
theorem zC {l : List Str} {s : Str} : countN l s = 0 ↔ s ∉ l := by
  unfold countN; rw [List.length_eq_zero_iff, List.filter_eq_nil_iff]
  constructor
  · intro h hs; have := h s hs; simp at this
  intro h x hx; simp; rintro rfl; exact h hx
/-! ### What flaws say -/
theorem vO (l : List Mk) : insM l ≤ costM l := by
  unfold insM costM
  induction l with
  | nil => simp
  | cons m l ih =>
    by_cases h : m.1 = 1
    · rw [List.filter_cons_of_pos (by simpa using h), List.filter_cons_of_pos (by simp; omega)]
      simp only [List.length_cons]; omega
    rw [List.filter_cons_of_neg (by simpa using h)]
    by_cases h3 : m.1 = 3
    · rw [List.filter_cons_of_neg (by simpa using h3)]; exact ih
    rw [List.filter_cons_of_pos (by simpa using h3)]; simp only [List.length_cons]; omega
def flawV (ps : List (Sl Str)) (R q : List Str) : Int × Int := if (diffP R q 0 0).2.length = 0 then (0, 0) else flawP ps R ((diffP R q 0 0).2.getD 0 default)
structure FlawOK (ps : List (Sl Str)) (R q : List Str) (w : Int × Int) : Prop where
  zero : w = (0, 0) ↔ R = q
  rng : ¬ R = q → 1 ≤ w.1 ∧ w.1 ≤ 3 ∧ 0 ≤ w.2 ∧ w.2 ≤ R.length
  back : w.1 = 2 → ∃ k, k < q.length ∧ q.getD k default ∉ R ∧ ∃ y, y < ps.length - 1 ∧ q.getD k default ∈ (ps.getD y default).l
  lost : w.1 = 1 → commonI R q < R.length
theorem qW {ps : List (Sl Str)} {l : List Mk} {q : List Str} (h1 : yearsErr (years ps) = 0) (h2 : ¬ ps.length = 0) (h3 : (applyP (lastP ps).l l).2 = 0) (h4 : pageErr q = 0) : lookP ps l q = (flawV ps (applyP (lastP ps).l l).1 q, 0) := by
  rw [lookP, if_neg (not_not_intro h1), if_neg h2, if_neg (not_not_intro h3), if_neg (not_not_intro h4)]; unfold flawV
  split <;> rfl
end Go.Proofs.YtpihanmcnmlodaaGreatDoor
end
section
namespace Go.W
open Go Go.RowKit
section
variable {κ : Type} [DecidableEq κ]
def updF (f : κ → Nat) (k : κ) (n : Nat) : κ → Nat := fun x => if x = k then n else f x
structure MapIs (l : List (Ment κ)) (clk : Nat) (f : κ → Nat) : Prop where
  bs : (l.map (·.2.2)).Pairwise (· < ·)
  lt : ∀ p ∈ l, p.2.2 < clk
  nd : (l.map (·.1)).Nodup
  vl : ∀ p ∈ l, p.2.1 = int (f p.1) ∧ 0 < f p.1
  al : ∀ k, 0 < f k → k ∈ l.map (·.1)
theorem MapIs.nil : MapIs ([] : List (Ment κ)) 0 (fun _ => 0) := ⟨.nil, by simp, by simp, by simp, fun k h => by omega⟩
theorem mD {l : List (Ment κ)} {k : κ} : getM l k = none ↔ k ∉ l.map (·.1) := by
  induction l with
  | nil => simp [getM, findM]
  | cons p l ih =>
    rw [W8]
    by_cases h : p.1 = k
    · rw [if_pos h]; simp [h]
    rw [if_neg h, ih, List.map_cons, List.mem_cons]; simp only [not_or]; exact ⟨fun e => ⟨fun e2 => h e2.symm, e⟩, fun e => e.2⟩
theorem MapIs.get {l : List (Ment κ)} {clk : Nat} {f : κ → Nat} (h : MapIs l clk f) (k : κ) : getM l k = if f k = 0 then none else some (int (f k)) := by
  split
  · rename_i e
    refine mD.2 fun hm => ?_; obtain ⟨p, hp, rfl⟩ := List.mem_map.1 hm; have := (h.vl p hp).2
    omega
  rename_i e
  cases hg : getM l k with
  | none => exact absurd (h.al k (by omega)) (mD.1 hg)
  | some v =>
    obtain ⟨p, hp, e1, e2⟩ := vS hg; rw [← e2, (h.vl p hp).1, e1]
theorem lR (p : Ment κ) (l : List (Ment κ)) (k : κ) (v : Value) (clk : Nat) : putM (p :: l) k v clk = if p.1 = k then (k, v, p.2.2) :: l else p :: putM l k v clk := by
  by_cases h : p.1 = k
  · simp [putM, findM, h]
  simp only [putM, findM, h, if_false]; rw [Z1]
  cases hf : findM k l 0 with
  | none => simp
  | some q => simp
theorem rJ {l : List (Ment κ)} {k : κ} : findM k l 0 = none ↔ k ∉ l.map (·.1) := by
  rw [← mD]; unfold getM
  cases findM k l 0 <;> simp
theorem clkM_eq (l : List (Ment κ)) (k : κ) (clk : Nat) : clkM l k clk = if k ∈ l.map (·.1) then clk else clk + 1 := by
  unfold clkM
  cases hf : findM k l 0 with
  | none => rw [if_neg (rJ.1 hf)]; rfl
  | some q =>
    have h1 : k ∈ l.map (·.1) := Classical.byContradiction fun h => by rw [rJ.2 h] at hf; cases hf
    rw [if_pos h1]
    rfl
theorem sG (l : List (Ment κ)) (k : κ) (v : Value) (clk : Nat) : (putM l k v clk).map (·.1) = if k ∈ l.map (·.1) then l.map (·.1) else l.map (·.1) ++ [k] := by
  induction l with
  | nil => simp [putM, findM]
  | cons p l ih =>
    rw [lR]
    by_cases h : p.1 = k
    · rw [if_pos h, if_pos (by simp [h])]
      simp [h]
    rw [if_neg h, List.map_cons, ih, List.map_cons]
    by_cases h2 : k ∈ l.map (·.1)
    · rw [if_pos h2, if_pos (List.mem_cons_of_mem _ h2)]
    rw [if_neg h2, if_neg (by rw [List.mem_cons, not_or]; exact ⟨fun e => h e.symm, h2⟩)]
    rfl
theorem qQ (l : List (Ment κ)) (k : κ) (v : Value) (clk : Nat) : (putM l k v clk).map (·.2.2) = if k ∈ l.map (·.1) then l.map (·.2.2) else l.map (·.2.2) ++ [clk] := by
  induction l with
  | nil => simp [putM, findM]
  | cons p l ih =>
    rw [lR]
    by_cases h : p.1 = k
    · rw [if_pos h, if_pos (by simp [h])]
      simp
    rw [if_neg h, List.map_cons, ih, List.map_cons, List.map_cons]
    by_cases h2 : k ∈ l.map (·.1)
    · rw [if_pos h2, if_pos (List.mem_cons_of_mem _ h2)]
    rw [if_neg h2, if_neg (by rw [List.mem_cons, not_or]; exact ⟨fun e => h e.symm, h2⟩)]
    rfl
theorem putM_in {l : List (Ment κ)} {k : κ} {v : Value} {clk : Nat} (hn : (l.map (·.1)).Nodup) {p : Ment κ} (h : p ∈ putM l k v clk) : (p.1 = k ∧ p.2.1 = v) ∨ (p ∈ l ∧ p.1 ≠ k) := by
  induction l with
  | nil => simp [putM, findM] at h; subst h; exact .inl ⟨rfl, rfl⟩
  | cons q l ih =>
    rw [lR] at h; rw [List.map_cons, List.nodup_cons] at hn
    by_cases e : q.1 = k
    · rw [if_pos e] at h
      rcases List.mem_cons.1 h with rfl | h
      · exact .inl ⟨rfl, rfl⟩
      refine .inr ⟨List.mem_cons_of_mem _ h, fun e2 => hn.1 ?_⟩; rw [e, ← e2]; exact List.mem_map_of_mem h
    rw [if_neg e] at h
    rcases List.mem_cons.1 h with rfl | h
    · exact .inr ⟨List.mem_cons_self, e⟩
    exact (ih hn.2 h).imp id fun h => ⟨List.mem_cons_of_mem _ h.1, h.2⟩
theorem MapIs.put {l : List (Ment κ)} {clk : Nat} {f : κ → Nat} (h : MapIs l clk f) (k : κ) {n : Nat} (hn : 0 < n) : MapIs (putM l k (int n) clk) (clkM l k clk) (updF f k n) where
  bs := by
    rw [qQ]
    split
    · exact h.bs
    refine List.pairwise_append.2 ⟨h.bs, by simp, fun a ha b hb => ?_⟩; obtain ⟨p, hp, rfl⟩ := List.mem_map.1 ha; rw [List.mem_singleton.1 hb]; exact h.lt p hp
  lt p hp := by
    have h1 : p.2.2 ∈ (putM l k (int n) clk).map (·.2.2) := List.mem_map_of_mem hp; rw [qQ] at h1; rw [clkM_eq]
    split at h1
    · rename_i e
      rw [if_pos e]; obtain ⟨q, hq, e2⟩ := List.mem_map.1 h1; rw [← e2]; exact h.lt q hq
    rename_i e
    rw [if_neg e]
    rcases List.mem_append.1 h1 with h1 | h1
    · obtain ⟨q, hq, e2⟩ := List.mem_map.1 h1
      have := h.lt q hq
      omega
    rw [List.mem_singleton.1 h1]; omega
  nd := by
    rw [sG]
    split
    · exact h.nd
    rename_i e
    refine List.nodup_append.2 ⟨h.nd, by simp, fun a ha b hb e2 => e ?_⟩; rw [← List.mem_singleton.1 hb, ← e2]; exact ha
  vl p hp := by
    unfold updF
    rcases putM_in h.nd hp with ⟨e1, e2⟩ | ⟨e1, e2⟩
    · rw [if_pos e1]; exact ⟨e2, hn⟩
    rw [if_neg e2]; exact h.vl p e1
  al x hx := by
    rw [sG]; unfold updF at hx
    by_cases e : x = k
    · subst e
      split
      · assumption
      simp
    rw [if_neg e] at hx; have := h.al x hx
    split
    · exact this
    exact List.mem_append_left _ this
def delM (l : List (Ment κ)) (k : κ) : List (Ment κ) := match findM k l 0 with | some (i, _) => l.eraseIdx i | none => l
theorem uG (l : List (Ment κ)) (k : κ) : delM l k = l.eraseP fun p => decide (p.1 = k) := by
  induction l with
  | nil => rfl
  | cons p l ih =>
    unfold delM; rw [List.eraseP_cons]
    by_cases h : p.1 = k
    · simp [findM, h]
    simp only [findM, h, if_false, decide_false]; rw [Z1]; unfold delM at ih
    cases hf : findM k l 0 with
    | none => rw [hf] at ih; simp only [Option.map_none]; rw [← ih]; rfl
    | some q => rw [hf] at ih; simp only [Option.map_some, List.eraseIdx_cons_succ]; rw [← ih]; rfl
theorem MapIs.del {l : List (Ment κ)} {clk : Nat} {f : κ → Nat} (h : MapIs l clk f) (k : κ) : MapIs (delM l k) clk (updF f k 0) := by
  have hs : (delM l k).Sublist l := by rw [uG]; exact List.eraseP_sublist
  have hk : ∀ p ∈ delM l k, p.1 ≠ k := by
    rw [uG]; have h1 := h.nd; clear hs h
    induction l with
    | nil => intro p hp; cases hp
    | cons q l ih =>
      rw [List.map_cons, List.nodup_cons] at h1; intro p hp e; rw [List.eraseP_cons] at hp
      by_cases e1 : q.1 = k
      · rw [decide_eq_true e1] at hp
        exact h1.1 (by rw [e1, ← e]; exact List.mem_map_of_mem hp)
      rw [decide_eq_false e1] at hp
      rcases List.mem_cons.1 hp with rfl | hp
      · exact e1 e
      exact ih h1.2 p hp e
  refine ⟨h.bs.sublist (hs.map _), fun p hp => h.lt p (hs.subset hp), h.nd.sublist (hs.map _), fun p hp => ?_, fun x hx => ?_⟩
  · unfold updF
    rw [if_neg (hk p hp)]; exact h.vl p (hs.subset hp)
  unfold updF at hx
  by_cases e : x = k
  · rw [if_pos e] at hx; omega
  rw [if_neg e] at hx; obtain ⟨p, hp, e2⟩ := List.mem_map.1 (h.al x hx); refine List.mem_map.2 ⟨p, ?_, e2⟩; rw [uG]; exact (List.mem_eraseP_of_neg (by rw [decide_eq_true_eq, e2]; exact e)).2 hp
omit [DecidableEq κ] in
theorem MapIs.congr {l : List (Ment κ)} {clk : Nat} {f g : κ → Nat} (h : MapIs l clk f) (e : ∀ k, f k = g k) : MapIs l clk g := by
  have : f = g := funext e; exact this ▸ h
theorem gK {α : Type} [DecidableEq α] : ∀ {l K : List α}, l.Nodup → (∀ x ∈ l, x ∈ K) → l.length ≤ K.length
  | [], K, _, _ => Nat.zero_le _
  | x :: l, K, hn, h => by
    rw [List.nodup_cons] at hn; have h1 := h x List.mem_cons_self; have h2 := gK (K := K.erase x) hn.2 fun y hy => (List.mem_erase_of_ne (fun e : y = x => hn.1 (by rw [← e]; exact hy))).2 (h y (List.mem_cons_of_mem _ hy)); rw [List.length_erase_of_mem h1] at h2; have := List.length_pos_of_mem h1; rw [List.length_cons]
    omega
theorem dX {α β : Type} (f : α → β) : ∀ (l : List α) (i : Nat), (l.map f).eraseIdx i = (l.eraseIdx i).map f
  | [], i => rfl
  | x :: l, 0 => rfl
  | x :: l, i + 1 => by rw [List.map_cons, List.eraseIdx_cons_succ, List.eraseIdx_cons_succ, List.map_cons, dX f l i]
theorem MapIs.len {l : List (Ment κ)} {clk : Nat} {f : κ → Nat} (h : MapIs l clk f) {K : List κ} (hK : ∀ k, 0 < f k → k ∈ K) : l.length ≤ K.length := by
  have h2 := gK (K := K) h.nd fun k hk => by
    obtain ⟨p, hp, rfl⟩ := List.mem_map.1 hk; exact hK _ (h.vl p hp).2
  rwa [List.length_map] at h2
end
structure Vis {κ : Type} (l vis : List (Ment κ)) : Prop where
  sub : ∀ p ∈ vis, p ∈ l
  nd : (vis.map (·.2.2)).Nodup
theorem Vis.nil {κ : Type} (l : List (Ment κ)) : Vis l [] := ⟨by simp, by simp⟩
theorem Vis.snoc {κ : Type} {l vis : List (Ment κ)} (h : Vis l vis) {p : Ment κ} (hp : p ∈ l) (hn : p.2.2 ∉ vis.map (·.2.2)) : Vis l (vis ++ [p]) := by
  refine ⟨fun q hq => ?_, ?_⟩
  · rcases List.mem_append.1 hq with hq | hq
    · exact h.sub q hq
    rw [List.mem_singleton.1 hq]; exact hp
  rw [List.map_append]; refine List.nodup_append.2 ⟨h.nd, by simp, fun a ha b hb e => hn ?_⟩; have h1 : b = p.2.2 := by simpa using hb
  rw [← h1, ← e]; exact ha
theorem Vis.len {κ : Type} {l vis : List (Ment κ)} (h : Vis l vis) : vis.length ≤ l.length := by
  have h2 := gK (K := l.map (·.2.2)) h.nd fun b hb => by
    obtain ⟨p, hp, rfl⟩ := List.mem_map.1 hb; exact List.mem_map_of_mem (h.sub p hp)
  rwa [List.length_map, List.length_map] at h2
theorem Vis.lt {κ : Type} {l vis : List (Ment κ)} (h : Vis l vis) {p : Ment κ} (hp : p ∈ l) (hn : p.2.2 ∉ vis.map (·.2.2)) : vis.length < l.length := by
  have := (h.snoc hp hn).len
  simp at this
  omega
theorem MapIs.born {κ : Type} {l : List (Ment κ)} (h : (l.map (·.2.2)).Pairwise (· < ·)) {p q : Ment κ} (hp : p ∈ l) (hq : q ∈ l) (e : p.2.2 = q.2.2) : p = q := by
  induction l with
  | nil => cases hp
  | cons x l ih =>
    rw [List.map_cons, List.pairwise_cons] at h
    rcases List.mem_cons.1 hp with h1 | h1 <;> rcases List.mem_cons.1 hq with h2 | h2
    · rw [h1, h2]
    · have := h.1 _ (List.mem_map_of_mem h2); rw [h1] at e; omega
    · have := h.1 _ (List.mem_map_of_mem h1); rw [h2] at e; omega
    exact ih h.2 h1 h2
theorem MapIs.key {κ : Type} {l : List (Ment κ)} (h : (l.map (·.1)).Nodup) {p q : Ment κ} (hp : p ∈ l) (hq : q ∈ l) (e : p.1 = q.1) : p = q := by
  induction l with
  | nil => cases hp
  | cons x l ih =>
    rw [List.map_cons, List.nodup_cons] at h
    rcases List.mem_cons.1 hp with h1 | h1 <;> rcases List.mem_cons.1 hq with h2 | h2
    · rw [h1, h2]
    · exact absurd (by rw [← h1, e]; exact List.mem_map_of_mem h2) h.1
    · exact absurd (by rw [← h2, ← e]; exact List.mem_map_of_mem h1) h.1
    exact ih h.2 h1 h2
theorem MapIs.newKey {κ : Type} [DecidableEq κ] {l vis : List (Ment κ)} {clk : Nat} {f : κ → Nat} (h : MapIs l clk f) (hv : Vis l vis) {p : Ment κ} (hp : p ∈ l) (hn : p.2.2 ∉ vis.map (·.2.2)) : p.1 ∉ vis.map (·.1) := fun hm => by
  obtain ⟨q, hq, e⟩ := List.mem_map.1 hm; have := MapIs.key h.nd (hv.sub q hq) hp e; subst this; exact hn (List.mem_map_of_mem hq)
theorem MapIs.allVis {κ : Type} [DecidableEq κ] {l vis : List (Ment κ)} {clk : Nat} {f : κ → Nat} (h : MapIs l clk f) (hv : Vis l vis) (ha : ∀ p ∈ l, p.2.2 ∈ vis.map (·.2.2)) {k : κ} (hk : 0 < f k) : k ∈ vis.map (·.1) := by
  obtain ⟨p, hp, rfl⟩ := List.mem_map.1 (h.al k hk); obtain ⟨q, hq, e⟩ := List.mem_map.1 (ha p hp); have := MapIs.born h.bs (hv.sub q hq) hp e; subst this; exact List.mem_map_of_mem hq
section
variable {κ : Type} [DecidableEq κ] {enc : κ → Value} {kt e : TypeId}
variable {c : Cx} {Q : Exit → Act → World → Prop} {fr : Fr} {hp : Hp} {L : List Fact} {ops : Array Oper} {rest : List Oper}
variable {d : Tmp} {ty : TypeId} {pos : String} {af : Array Edge}
theorem pT {t : TypeId} {x y : Operand} {g : Nat} {l : List (Ment κ)} {clk : Nat} {k : κ} {f : κ → Nat} (K : KeyC c.P kt enc) (hd : Nat.blt d c.n = true) (ht : c.P.underlying t = some (.map kt e)) (hx : ev fr x = some (.map (some g))) (hy : ev fr y = some (enc k)) (hm : MapAt c.b hp L g (mapO enc l clk))
    (hz : ∀ w, (zeroValue e).run c.P w = .ok (int 0) w) (h : MapIs l clk f) (kk : HL c ops Q rest ((d, int (f k)) :: fr) hp L) : HL c ops Q (⟨some d, .lookup t x y false, ty, pos, af, none⟩ :: rest) fr hp L := by
  have hg := h.get k
  by_cases e0 : f k = 0
  · rw [if_pos e0] at hg
    rw [e0] at kk; exact r_look0 K hd ht hx hy hm hz hg kk
  rw [if_neg e0] at hg; exact xY K hd ht hx hy hm hg kk
theorem cx9 {t u : TypeId} {x y : Operand} {g : Nat} {l : List (Ment κ)} {clk : Nat} {k : κ} {hp' : Hp} (K : KeyC c.P kt enc) (ht : c.P.underlying t = some (.map kt e)) (hx : ev fr x = some (.map (some g))) (hy : ev fr y = some (enc k))
    (hpp : hp.Perm ((g, mapO enc l clk) :: hp')) (kk : HL c ops Q rest fr ((g, mapO enc (delM l k) clk) :: hp') L) : HL c ops Q (⟨none, .call ⟨.builtin .delete, #[x, y], #[t, u]⟩, ty, pos, af, none⟩ :: rest) fr hp L :=
  hl_eff rfl rfl fun a w ha hw => by
    have hw' := hw.perm hpp; have hg := hw'.own (g, mapO enc l clk) (by simp); have hg' : w.heap[g]? = some (.map (l.map (entOf enc)).toArray clk) := hg; have hf := K.find k l w
    have hrun : (Builtin.delete_ #[t, u] ty #[.map (some g), enc k]).run c.P w = .ok (.tuple #[]) { w with heap := w.heap.setIfInBounds g (mapO enc (delM l k) clk) } := by
      unfold delM
      cases hr : findM k l 0 with
      | none =>
        rw [hr] at hf
        simp [Builtin.delete_, run_underlying ht, MapKept.run_getObj_map hg', K.chk, hf, MapKept.run_setObj_map _ hg', mapO]
      | some p =>
        obtain ⟨i, u⟩ := p; rw [hr] at hf
        have e1 : (l.map (entOf enc)).toArray.eraseIdxIfInBounds i = ((l.eraseIdx i).map (entOf enc)).toArray := by
          apply Array.ext'
          simp [dX]
        simp [Builtin.delete_, run_underlying ht, MapKept.run_getObj_map hg', K.chk, hf, MapKept.run_setObj_map _ hg', mapO, dX]
    refine ⟨.tuple #[], { w with heap := w.heap.setIfInBounds g (mapO enc (delM l k) clk) }, _, L, ?_, hw'.write (o' := mapO enc (delM l k) clk) ⟨rfl, rfl, rfl, by simp, fun j hj hn => by simp only [List.mem_singleton] at hn; simp [Array.getElem?_setIfInBounds_ne (Ne.symm hn)], Nat.le_refl _⟩ ?_, kk⟩
    · simp only [execOp, resolve, invoke, builtin, Sem.run_bind, Sem.run_pure, Result.andThen_ok, List.map_toArray, List.map_cons, List.map_nil, ha.ev hx, ha.ev hy, hrun]
    have := D1 hg; simp only at this
    simp [this]
/-! ### A map that is ranged over -/
def iterM (g clk : Nat) (vis : List (Ment κ)) : Obj := .mapIter (some g) clk (vis.map (·.2.2)).toArray clk
def nextMV (enc : κ → Value) : Option (Ment κ) → Value
  | none => .tuple #[.bool false]
  | some p => .tuple #[.bool true, enc p.1, p.2.1]
omit [DecidableEq κ] in
theorem cx2 {t : TypeId} {x : Operand} {g : Nat} {l : List (Ment κ)} {clk : Nat} (hd : Nat.blt d c.n = true) (ht : c.P.underlying t = some (.map kt e)) (hx : ev fr x = some (.map (some g))) (hm : MapAt c.b hp L g (mapO enc l clk)) (k : ∀ gi, HL c ops Q rest ((d, .pointer (n9 gi)) :: fr) ((gi, iterM g clk ([] : List (Ment κ))) :: hp) L) : HL c ops Q (⟨some d, .range t x, ty, pos, af, none⟩ :: rest) fr hp L :=
  mA (iterM g clk ([] : List (Ment κ))) (fun g => .pointer (n9 g)) rfl rfl hd (fun a w ha hw => by
    have hg : w.heap[g]? = some (.map (l.map (entOf enc)).toArray clk) := hm w hw; simp only [execOp, ha.ev hx, Instr.range, Sem.run_bind, run_underlying ht, Result.andThen_ok, MapKept.run_getObj_map hg]
    simp [run_newObj_alloc, iterM]) k
theorem vC (P : Program) (n : Nat) (w : World) : ∃ j w', (choose (.mapNext n)).run P w = .ok j w' ∧ (0 < n → j < n) ∧ (n ≤ 1 → j = 0) ∧ Ext [] w w' ∧ w'.heap = w.heap := by
  by_cases h : n ≤ 1
  · refine ⟨0, w, ?_, fun h => h, fun _ => rfl, Ext.refl _ _, rfl⟩
    have hf : (Question.mapNext n).forced = true := decide_eq_true h; show Sem.run P (Sem.choose (.mapNext n) Sem.pure) w = _; simp only [Sem.run, hf, if_true]
  refine ⟨(w.tape w.drawn (.mapNext n)) % n, w.drew, ?_, ?_, fun h2 => absurd h2 h, lD w, rfl⟩
  · have hf : (Question.mapNext n).forced = false := decide_eq_false h
    show Sem.run P (Sem.choose (.mapNext n) Sem.pure) w = _; simp only [Sem.run, hf, Bool.false_eq_true, if_false]
    rfl
  exact fun h0 => Nat.mod_lt _ h0
omit [DecidableEq κ] in
theorem lN {P : Program} {w : World} {r : Nat} {m : Option Nat} {a z : Nat} {s : Array Nat} (hb : w.heap[r]? = some (.mapIter m a s z)) : (getObj r).run P w = .ok (.mapIter m a s z) w := by simp [getObj, Sem.run, hb]
omit [DecidableEq κ] in
theorem aq8 {P : Program} {w : World} {r : Nat} {m : Option Nat} {a z : Nat} {s : Array Nat} (o : Obj) (hb : w.heap[r]? = some (.mapIter m a s z)) : (setObj r o).run P w = .ok () { w with heap := w.heap.setIfInBounds r o } := by simp [setObj, Sem.run, hb]
def restM (l vis : List (Ment κ)) : List (Ment κ) := l.filter fun p => !(vis.map (·.2.2)).contains p.2.2
omit [DecidableEq κ] in
theorem r_nextM {x : Operand} {gi g : Nat} {l vis : List (Ment κ)} {clk : Nat} {hp' : Hp} (hd : Nat.blt d c.n = true) (hx : ev fr x = some (.pointer (n9 gi))) (hm : MapAt c.b hp L g (mapO enc l clk)) (hlt : ∀ p ∈ l, p.2.2 < clk) (hpp : hp.Perm ((gi, iterM g clk vis) :: hp'))
    (kk : ∀ x : Option (Ment κ), (x = none → ∀ p ∈ l, p.2.2 ∈ vis.map (·.2.2)) → (∀ p, x = some p → p ∈ l ∧ p.2.2 ∉ vis.map (·.2.2)) → HL c ops Q rest ((d, nextMV enc x) :: fr) ((gi, iterM g clk (vis ++ x.toList)) :: hp') L) :
    HL c ops Q (⟨some d, .next x false, ty, pos, af, none⟩ :: rest) fr hp L :=
  iJ rfl rfl hd fun a w ha hw => by
    have hw' := hw.perm hpp; have hg : w.heap[g]? = some (.map (l.map (entOf enc)).toArray clk) := hm w hw; have hi : w.heap[gi]? = some (.mapIter (some g) clk (vis.map (·.2.2)).toArray clk) := hw'.own (gi, iterM g clk vis) (by simp); obtain ⟨j, w1, hch, hj, hj0, hext, hheap⟩ := vC c.P ((if (restM l vis).isEmpty then 1 else 0) + (restM l vis).length) w; have hi1 : w1.heap[gi]? = some (.mapIter (some g) clk (vis.map (·.2.2)).toArray clk) := by rw [hheap]; exact hi
    have hcond : (!(vis.map (·.2.2)).toArray.isEmpty && !(l.map (entOf enc)).toArray.isEmpty && (l.map (entOf enc)).toArray.all (fun e => decide (e.born ≥ clk))) = false := by
      cases l with
      | nil => simp
      | cons p l =>
        have := hlt p List.mem_cons_self
        simp [entOf]
        intro _ h
        omega
    have hleft : (l.map (entOf enc)).toArray.filter (fun e => !(vis.map (·.2.2)).toArray.contains e.born) = ((restM l vis).map (entOf enc)).toArray := by
      simp only [List.filter_toArray, List.filter_map, restM]
      congr 2
      apply List.filter_congr
      intro p _; show (!(vis.map (·.2.2)).toArray.contains p.2.2) = !(vis.map (·.2.2)).contains p.2.2; rw [List.contains_toArray]
    have hold : ((restM l vis).map (entOf enc)).toArray.filter (fun e => decide (e.born < clk)) = ((restM l vis).map (entOf enc)).toArray := by
      simp only [List.filter_toArray]
      congr 1
      rw [List.filter_eq_self]; intro e he; obtain ⟨p, hp, rfl⟩ := List.mem_map.1 he; exact decide_eq_true (show p.2.2 < clk from hlt p (List.mem_filter.1 hp).1)
    have hnew : ((restM l vis).map (entOf enc)).toArray.filter (fun e => decide (e.born ≥ clk)) = #[] := by
      simp only [List.filter_toArray]
      congr 1
      rw [List.filter_eq_nil_iff]; intro e he; obtain ⟨p, hp, rfl⟩ := List.mem_map.1 he; have := hlt p (List.mem_filter.1 hp).1
      simp [entOf]
      omega
    cases hr : restM l vis with
    | nil =>
      have hall : ∀ p ∈ l, p.2.2 ∈ vis.map (·.2.2) := by
        intro p hp; have := (List.filter_eq_nil_iff.1 hr) p hp
        simpa using this
      rw [hr] at hch hj0 hleft hold hnew; have hj0' := hj0 (by simp); subst hj0'; refine ⟨nextMV enc none, w1, hp, L, ?_, hw.quiet hext, ?_⟩
      · simp only [execOp, ha.ev hx, Instr.next, Sem.run_bind, lN hi, Result.andThen_ok, MapKept.run_getObj_map hg, hcond, Bool.false_eq_true, if_false, Sem.run_pure, hleft, hold, hnew]
        simp at hch
        simp [hch, nextMV]
      have k0 := kk none (fun _ => hall) (fun p h => by cases h); simp only [Option.toList_none, List.append_nil] at k0; exact fun a w ha hw => k0 a w ha (hw.perm hpp)
    | cons p0 r0 =>
      have hjl : j < (restM l vis).length := by
        have := hj (by rw [hr]; simp); rw [hr] at this ⊢
        simpa using this
      have hmem := List.getElem_mem hjl; have hin := List.mem_filter.1 hmem
      have hni : ((restM l vis)[j]).2.2 ∉ vis.map (·.2.2) := by
        have := hin.2
        simpa using this
      have hne : ((restM l vis).map (entOf enc)).toArray.isEmpty = false := by rw [hr]; simp
      rw [show (restM l vis).isEmpty = false by rw [hr]; rfl] at hch; simp only [Bool.false_eq_true, if_false, Nat.zero_add] at hch; have hcs : ((((restM l vis).map (entOf enc)).toArray ++ #[]).map some).size = (restM l vis).length := by simp
      have hce : ((((restM l vis).map (entOf enc)).toArray ++ #[]).map some)[j]? = some (some (entOf enc (restM l vis)[j])) := by simp [hjl]
      refine ⟨nextMV enc (some (restM l vis)[j]), { w1 with heap := w1.heap.setIfInBounds gi (iterM g clk (vis ++ [(restM l vis)[j]])) }, (gi, iterM g clk (vis ++ [(restM l vis)[j]])) :: hp', L, ?_, ((hw'.quiet hext).write (o' := iterM g clk (vis ++ [(restM l vis)[j]])) ⟨rfl, rfl, rfl, by simp, fun q _ hn => by simp only [List.mem_singleton] at hn; simp [Array.getElem?_setIfInBounds_ne (Ne.symm hn)], Nat.le_refl _⟩ ?_), kk (some (restM l vis)[j]) (fun h => by cases h) (fun p h => by cases h; exact ⟨hin.1, hni⟩)⟩
      · simp only [execOp, ha.ev hx, Instr.next, Sem.run_bind, lN hi, Result.andThen_ok, MapKept.run_getObj_map hg, hcond, Bool.false_eq_true, if_false, Sem.run_pure, hleft, hold, hnew, hne, Array.empty_append, hcs, hch, hce, aq8 _ hi1]
        simp [entOf, nextMV, iterM]
      have := D1 hi1
      simp [this]
omit [DecidableEq κ] in
theorem r_entry {x : Operand} {gi g : Nat} {l vis : List (Ment κ)} {p : Ment κ} {clk : Nat} (hd : Nat.blt d c.n = true) (hx : ev fr x = some (.pointer (n9 gi))) (hm : MapAt c.b hp L g (mapO enc l clk)) (hi : MapAt c.b hp L gi (iterM g clk (vis ++ [p]))) (hp' : p ∈ l) (hb : (l.map (·.2.2)).Pairwise (· < ·))
    (kk : HL c ops Q rest ((d, .tuple #[enc p.1, p.2.1]) :: fr) hp L) : HL c ops Q (⟨some d, .entry x, ty, pos, af, none⟩ :: rest) fr hp L :=
  u0 _ rfl rfl hd (fun a w ha hw => by
    have hg : w.heap[g]? = some (.map (l.map (entOf enc)).toArray clk) := hm w hw; have hit : w.heap[gi]? = some (.mapIter (some g) clk ((vis ++ [p]).map (·.2.2)).toArray clk) := hi w hw
    have hfind : (l.map (entOf enc)).toArray.find? (fun e => e.born == p.2.2) = some (entOf enc p) := by
      rw [List.find?_toArray]; clear hw hg hit hi hm
      induction l with
      | nil => cases hp'
      | cons q l ih =>
        rw [List.map_cons, List.pairwise_cons] at hb; rw [List.map_cons, List.find?_cons]
        rcases List.mem_cons.1 hp' with rfl | h
        · simp [entOf]
        have := hb.1 _ (List.mem_map_of_mem h); rw [show ((entOf enc q).born == p.2.2) = false by simp [entOf]; omega]; exact ih h hb.2
    have hback : ((vis ++ [p]).map (·.2.2)).toArray.back? = some p.2.2 := by simp
    simp only [execOp, ha.ev hx, Instr.entry, Sem.run_bind, lN hit, Result.andThen_ok, hback, MapKept.run_getObj_map hg, bne_self_eq_false, Bool.false_eq_true, if_false, Sem.run_pure, hfind]
    rfl) kk
omit [DecidableEq κ] in
theorem r_mext0 {x : Operand} {o : Option (Ment κ)} (hd : Nat.blt d c.n = true) (hx : ev fr x = some (nextMV enc o)) (k : HL c ops Q rest ((d, .bool o.isSome) :: fr) hp L) : HL c ops Q (⟨some d, .extract x 0, ty, pos, af, none⟩ :: rest) fr hp L := by
  cases o with
  | none => exact l4 hd hx rfl k
  | some p => exact l4 hd hx rfl k
end
end Go.W
end
section
namespace Go.Proofs.YtpihanmcnmlodaaGreatDoor
open Go Go.W Tryz T F
set_option maxRecDepth 20000
attribute [local irreducible] HL HC HQ HB Row Rows2 Blk Facts
theorem aC (s x : Str) (l : List Str) : countN (x :: l) s = (if x = s then 1 else 0) + countN l s := by
  unfold countN; rw [List.filter_cons]
  by_cases h : x = s
  · rw [if_pos h, if_pos (by simp [h]), List.length_cons]; omega
  rw [if_neg h, if_neg (by simp [h])]; omega
theorem nF (s : Str) : ∀ (ps : List (Sl Str)) (n : Nat), 0 < ps.foldl (fun n p => max n (countN p.l s)) n ↔ 0 < n ∨ ∃ p ∈ ps, s ∈ p.l
  | [], n => by simp
  | p :: ps, n => by
    rw [List.foldl_cons, nF s ps]
    have h1 : 0 < countN p.l s ↔ s ∈ p.l := by
      unfold countN; rw [List.length_pos_iff_exists_mem]
      simp
    constructor
    · rintro (h | ⟨q, hq, hs⟩)
      · by_cases h2 : 0 < n
        · exact .inl h2
        exact .inr ⟨p, List.mem_cons_self, h1.1 (by omega)⟩
      exact .inr ⟨q, List.mem_cons_of_mem _ hq, hs⟩
    rintro (h | ⟨q, hq, hs⟩)
    · left; omega
    rcases List.mem_cons.1 hq with rfl | hq
    · left; have := h1.2 hs; omega
    exact .inr ⟨q, hq, hs⟩
def freshN (f : Str → Nat) : List Str → Nat
  | [] => 0
  | s :: r => if f s = 0 then 1 + freshN f r else freshN (updF f s (f s - 1)) r
def sumN (K : List Str) (g : Str → Nat) : Nat := (K.map g).sum
theorem qJ {K : List Str} {g h : Str → Nat} (e : ∀ s ∈ K, g s = h s) : sumN K g = sumN K h := by
  unfold sumN; rw [List.map_congr_left e]
theorem qI {K : List Str} (hK : K.Nodup) {s : Str} (hs : s ∈ K) {g h : Str → Nat} (e1 : g s = 1 + h s) (e2 : ∀ x, x ≠ s → g x = h x) : sumN K g = 1 + sumN K h := by
  unfold sumN
  induction K with
  | nil => cases hs
  | cons y K ih =>
    rw [List.nodup_cons] at hK; simp only [List.map_cons, List.sum_cons]
    by_cases e : y = s
    · subst e
      have : (K.map g) = K.map h := List.map_congr_left fun x hx => e2 x fun e3 => hK.1 (e3 ▸ hx); rw [this, e1]
      omega
    rw [ih hK.2 ((List.mem_cons.1 hs).resolve_left fun e3 => e e3.symm), e2 y e]
    omega
theorem sA (K : List Str) : sumN K (fun _ => 0) = 0 := by
  unfold sumN
  induction K with
  | nil => rfl
  | cons x K ih => rw [List.map_cons, List.sum_cons, ih]
theorem mE {K : List Str} (hK : K.Nodup) : ∀ (p : List Str) (f : Str → Nat), (∀ s ∈ p, s ∈ K) → freshN f p = sumN K fun s => countN p s - f s
  | [], f, _ => by
    have : sumN K (fun s => countN [] s - f s) = sumN K fun _ => 0 := qJ fun s _ => Nat.zero_sub _; rw [this]; exact (sA K).symm
  | s :: r, f, h => by
    have hs := h s List.mem_cons_self; have hr : ∀ x ∈ r, x ∈ K := fun x hx => h x (List.mem_cons_of_mem _ hx); rw [freshN]
    split
    · rename_i e0
      rw [mE hK r f hr, qI hK hs (g := fun x => countN (s :: r) x - f x) (h := fun x => countN r x - f x)]
      · show countN (s :: r) s - f s = 1 + (countN r s - f s)
        rw [aC, if_pos rfl, e0]; omega
      intro x hx; show countN (s :: r) x - f x = countN r x - f x; rw [aC, if_neg (fun e => hx e.symm)]; omega
    rename_i e0
    rw [mE hK r _ hr]; refine qJ fun x _ => ?_; show countN r x - updF f s (f s - 1) x = countN (s :: r) x - f x; unfold updF; rw [aC]
    by_cases e : x = s
    · subst e; rw [if_pos rfl, if_pos rfl]; omega
    rw [if_neg e, if_neg (fun e2 => e e2.symm)]; omega
theorem vT {f g : Str → Nat} (h : ∀ s, f s = g s) (p : List Str) : freshN f p = freshN g p := by rw [funext h]
-- the stock
theorem aq4 {ps : List (Sl Str)} {s : Str} : 0 < stockN ps s ↔ ∃ p ∈ ps, s ∈ p.l := by
  unfold stockN; rw [nF]
  simp
def linesOf (ps : List (Sl Str)) : List Str := ps.flatMap (·.l)
theorem az1 {ps : List (Sl Str)} {m : Nat} (h : ∀ p ∈ ps, p.l.length ≤ m) : (linesOf ps).length ≤ ps.length * m := by
  unfold linesOf
  induction ps with
  | nil => simp
  | cons p ps ih =>
    have h1 := h p List.mem_cons_self; have h2 := ih fun q hq => h q (List.mem_cons_of_mem _ hq); rw [List.flatMap_cons, List.length_append, List.length_cons, Nat.add_mul]
    omega
theorem uZ {ps : List (Sl Str)} {s : Str} (h : 0 < stockN ps s) : s ∈ linesOf ps := by
  obtain ⟨p, hp, hs⟩ := aq4.1 h; exact List.mem_flatMap.2 ⟨p, hp, hs⟩
abbrev Ty := Str × Int
structure StockIs (ps : List (Sl Str)) (ts : List Ty) : Prop where
  asc : ts.Pairwise fun a b => a.1 < b.1
  mem : ∀ s n, (s, n) ∈ ts ↔ 0 < stockN ps s ∧ n = (stockN ps s : Int)
theorem yE (a : Str) : ¬ a < a := List.lt_irrefl a
theorem lt_asm {a b : Str} (h : a < b) : ¬ b < a := List.lt_asymm h
theorem wP : ∀ {a b : List Ty}, a.Pairwise (fun x y => x.1 < y.1) → b.Pairwise (fun x y => x.1 < y.1) → (∀ x, x ∈ a ↔ x ∈ b) → a = b
  | [], [], _, _, _ => rfl
  | [], y :: b, _, _, h => by have := (h y).2 List.mem_cons_self; cases this
  | x :: a, [], _, _, h => by have := (h x).1 List.mem_cons_self; cases this
  | x :: a, y :: b, ha, hb, h => by
    rw [List.pairwise_cons] at ha hb
    have e : x = y := by
      rcases List.mem_cons.1 ((h x).1 List.mem_cons_self) with e | e
      · exact e
      rcases List.mem_cons.1 ((h y).2 List.mem_cons_self) with e2 | e2
      · exact e2.symm
      exact absurd (ha.1 y e2) (lt_asm (hb.1 x e))
    subst e
    congr 1
    refine wP ha.2 hb.2 fun z => ?_; have hz := h z; rw [List.mem_cons, List.mem_cons] at hz
    constructor
    · intro hm
      rcases hz.1 (.inr hm) with e | e
      · subst e; exact absurd (ha.1 z hm) (yE _)
      exact e
    intro hm
    rcases hz.2 (.inr hm) with e | e
    · subst e; exact absurd (hb.1 z hm) (yE _)
    exact e
theorem StockIs.uniq {ps : List (Sl Str)} {a b : List Ty} (ha : StockIs ps a) (hb : StockIs ps b) : a = b :=
  wP ha.asc hb.asc fun x => by obtain ⟨s, n⟩ := x; rw [ha.mem, hb.mem]
theorem StockIs.nodup {ps : List (Sl Str)} {ts : List Ty} (h : StockIs ps ts) : (ts.map (·.1)).Nodup := by
  rw [List.Nodup, List.pairwise_map]; exact h.asc.imp fun {a b} (h1 : a.1 < b.1) (e : a.1 = b.1) => yE b.1 (by rw [e] at h1; exact h1)
theorem StockIs.all {ps : List (Sl Str)} {ts : List Ty} (h : StockIs ps ts) {s : Str} (hs : 0 < stockN ps s) : s ∈ ts.map (·.1) := List.mem_map.2 ⟨(s, _), (h.mem s _).2 ⟨hs, rfl⟩, rfl⟩
theorem StockIs.at {ps : List (Sl Str)} {ts : List Ty} (h : StockIs ps ts) {t : Ty} (ht : t ∈ ts) : t.2 = (stockN ps t.1 : Int) ∧ 0 < stockN ps t.1 := by
  have := (h.mem t.1 t.2).1 ht; exact ⟨this.2, this.1⟩
theorem StockIs.sum {ps : List (Sl Str)} {ts : List Ty} (h : StockIs ps ts) : (ts.map (·.2)).sum = (sumN (ts.map (·.1)) (stockN ps) : Int) := by
  have h1 : ∀ l : List Ty, (∀ t ∈ l, t.2 = (stockN ps t.1 : Int)) → (l.map (·.2)).sum = (sumN (l.map (·.1)) (stockN ps) : Int) := by
    intro l
    induction l with
    | nil => intro _; rfl
    | cons t l ih =>
      intro hl; unfold sumN at ih ⊢; rw [List.map_cons, List.sum_cons, List.map_cons, List.map_cons, List.sum_cons, ih fun t ht => hl t (List.mem_cons_of_mem _ ht), hl t List.mem_cons_self]
      push_cast
      rfl
  exact h1 ts fun t ht => (h.at ht).1
theorem StockIs.len {ps : List (Sl Str)} {ts : List Ty} (h : StockIs ps ts) {m : Nat} (hp : ∀ p ∈ ps, p.l.length ≤ m) : ts.length ≤ ps.length * m := by
  have h2 := gK (K := linesOf ps) h.nodup fun s hs => by
    obtain ⟨t, ht, rfl⟩ := List.mem_map.1 hs; exact uZ (h.at ht).2
  rw [List.length_map] at h2; exact Nat.le_trans h2 (az1 hp)
end Go.Proofs.YtpihanmcnmlodaaGreatDoor
end
