/- Texts of this claim, one behind another. -/

import Derived.Test.YtdlbbfcfahahdaaYAo
set_option linter.unusedVariables false
set_option linter.unusedSimpArgs false
section
namespace Go.Proofs.Ytdlbbfcfahahdaa
open Go Go.W
set_option maxRecDepth 20000
attribute [local irreducible] HL HC HQ HB Row Rows2 Blk Facts
abbrev lsts (ps : List (Sl Int)) : List (List Int) := ps.map (·.l)
theorem lsts_len (ps : List (Sl Int)) : (lsts ps).length = ps.length := List.length_map ..
theorem lsts_at (ps : List (Sl Int)) {k : Nat} (hk : k < ps.length) : (lsts ps).getD k [] = (ps.getD k default).l := by
  rw [getD_at hk]
  simp [List.getD_eq_getElem?_getD, hk]
theorem combos_none {α : Type} : ∀ (k : Nat) (l : List α), l.length < k → combos k l = []
  | 0, l, h => by omega
  | k + 1, [], _ => rfl
  | k + 1, x :: l, h => by
    rw [List.length_cons] at h; rw [combos, combos_none k l (by omega), combos_none (k + 1) l (by omega)]
    rfl
abbrev OutSL := List (Sl Int) × OutC
def upI (f n : Nat) : List Int := (List.range' f (n - f)).map fun i : Nat => (i : Int)
theorem upI_len (f n : Nat) : (upI f n).length = n - f := by rw [upI, List.length_map, List.length_range']
theorem upI_cons {f n : Nat} (h : f < n) : upI f n = (f : Int) :: upI (f + 1) n := by
  obtain ⟨k, e⟩ : ∃ k, n - f = k + 1 := ⟨n - f - 1, by omega⟩; have e2 : n - (f + 1) = k := by omega
  unfold upI; rw [e, e2, List.range'_succ]
  rfl
theorem combos_pow {α : Type} : ∀ (l : List α) (k : Nat), (combos k l).length ≤ 2 ^ l.length
  | l, 0 => by
    rw [combos]; exact Nat.one_le_two_pow
  | [], k + 1 => Nat.zero_le _
  | x :: l, k + 1 => by
    have h1 := combos_pow l k; have h2 := combos_pow l (k + 1); rw [combos, List.length_append, List.length_map, List.length_cons, Nat.pow_succ]
    omega
theorem combos_size {α : Type} : ∀ {k : Nat} {l c : List α}, c ∈ combos k l → c.length = k
  | 0, l, c, h => by
    rw [combos, List.mem_singleton] at h; rw [h]
    rfl
  | k + 1, [], c, h => by rw [combos] at h; cases h
  | k + 1, x :: l, c, h => by
    rw [combos, List.mem_append] at h
    rcases h with h | h
    · obtain ⟨d, hd, rfl⟩ := List.mem_map.1 h
      rw [List.length_cons, combos_size hd]
    · exact combos_size h
theorem combos_sub {α : Type} : ∀ {k : Nat} {l c : List α}, c ∈ combos k l → c.Sublist l
  | 0, l, c, h => by
    rw [combos, List.mem_singleton] at h; rw [h]; exact List.nil_sublist _
  | k + 1, [], c, h => by rw [combos] at h; cases h
  | k + 1, x :: l, c, h => by
    rw [combos, List.mem_append] at h
    rcases h with h | h
    · obtain ⟨d, hd, rfl⟩ := List.mem_map.1 h
      exact List.Sublist.cons_cons _ (combos_sub hd)
    · exact List.Sublist.cons _ (combos_sub h)
def subK (m f n k : Nat) : List (List Int) := ((List.range' f (k - f)).map fun i : Nat => (combos m (upI (i + 1) n)).map ((i : Int) :: ·)).flatten
theorem subK_succ {m f n k : Nat} (h : f ≤ k) : subK m f n (k + 1) = subK m f n k ++ (combos m (upI (k + 1) n)).map ((k : Int) :: ·) := by
  have e : k + 1 - f = (k - f) + 1 := by omega
  unfold subK; rw [e, List.range'_1_concat, List.map_append, List.flatten_append, show f + (k - f) = k by omega]
  simp
theorem subK_cut {m n : Nat} : ∀ (d f k : Nat), k - f = d → f ≤ k → k ≤ n → combos (m + 1) (upI f n) = subK m f n k ++ combos (m + 1) (upI k n)
  | 0, f, k, hd, h, _ => by
    obtain rfl : f = k := by omega
    unfold subK; rw [Nat.sub_self]
    rfl
  | d + 1, f, k, hd, h, hk => by
    rw [subK_cut d f (k - 1) (by omega) (by omega) (by omega)]; obtain ⟨j, rfl⟩ : ∃ j, k = j + 1 := ⟨k - 1, by omega⟩; rw [Nat.add_sub_cancel, subK_succ (by omega), upI_cons (show j < n by omega), combos, List.append_assoc]
theorem subK_end {m f n k : Nat} (h : f ≤ k) (hk : k ≤ n) (hn : n < k + (m + 1)) : combos (m + 1) (upI f n) = subK m f n k := by
  rw [subK_cut _ f k rfl h hk, combos_none (m + 1) (upI k n) (by rw [upI_len]; omega), List.append_nil]
theorem subK_len {m f n k : Nat} (h : f ≤ k) (hk : k ≤ n) (hn : n ≤ 16) : (subK m f n k).length ≤ 65536 := by
  have h1 := combos_pow (upI f n) (m + 1); rw [subK_cut _ f k rfl h hk, List.length_append, upI_len] at h1; have h2 : 2 ^ (n - f) ≤ 2 ^ 16 := Nat.pow_le_pow_right (by decide) (by omega)
  omega
theorem combos_mem {α : Type} : ∀ {c l : List α}, c.Sublist l → c ∈ combos c.length l
  | [], l, _ => by
    show [] ∈ combos 0 l; rw [combos]; exact List.mem_singleton.2 rfl
  | x :: c, l, h => by
    induction l with
    | nil => cases h
    | cons y l ih =>
      show x :: c ∈ combos (c.length + 1) (y :: l); rw [combos, List.mem_append]
      cases h with
      | cons _ h => exact .inr (ih h)
      | cons_cons _ h => exact .inl (List.mem_map.2 ⟨c, combos_mem h, rfl⟩)
theorem upI_snoc (n : Nat) : upI 0 (n + 1) = upI 0 n ++ [(n : Int)] := by
  unfold upI; rw [Nat.sub_zero, Nat.sub_zero, ← List.range_eq_range', ← List.range_eq_range', List.range_succ, List.map_append]; rfl
theorem pick_sub (s : Nat) : ∀ n, (pickK s n).Sublist (upI 0 n)
  | 0 => .refl _
  | n + 1 => by
    rw [pickK_succ, upI_snoc]
    split
    · exact (pick_sub s n).append (.refl _)
    · exact (pick_sub s n).trans (List.sublist_append_left _ _)
theorem pick_congr {s t n : Nat} (h : ∀ i, i < n → s.testBit i = t.testBit i) : pickK s n = pickK t n := by
  unfold pickK; refine congrArg _ (List.filter_congr fun i hi => h i (List.mem_range.1 hi))
theorem sub_one {a : Int} : ∀ {l : List Int}, l.Sublist [a] → l = [] ∨ l = [a]
  | _, .cons _ h => .inl (List.sublist_nil.1 h)
  | _, .cons_cons _ h => .inr (by rw [List.sublist_nil.1 h])
theorem pick_all : ∀ {n : Nat} {c : List Int}, c.Sublist (upI 0 n) → ∃ s, s < 2 ^ n ∧ pickK s n = c
  | 0, c, h => ⟨0, by decide, by
    have : c = [] := List.sublist_nil.1 h
    rw [this]; rfl⟩
  | n + 1, c, h => by
    rw [upI_snoc] at h; obtain ⟨c1, c2, rfl, h1, h2⟩ := List.sublist_append_iff.1 h; obtain ⟨s, hs, rfl⟩ := pick_all h1; have hsb : s.testBit n = false := Nat.testBit_lt_two_pow hs; have hp : 2 ^ (n + 1) = 2 * 2 ^ n := by rw [Nat.pow_succ]; omega
    rcases sub_one h2 with rfl | rfl
    · exact ⟨s, by omega, by rw [pickK_succ, hsb, List.append_nil]; rfl⟩
    · refine ⟨s ||| 2 ^ n, Nat.or_lt_two_pow (by omega) (by omega), ?_⟩
      rw [pickK_succ, Nat.testBit_or, hsb, Nat.testBit_two_pow_self, Bool.or_true, if_pos rfl]; rw [pick_congr (t := s) fun i hi => by rw [Nat.testBit_or, Nat.testBit_two_pow, show decide (n = i) = false from decide_eq_false (by omega), Bool.or_false]]
-- ---- orders
theorem cmpI_lt (a b : Int) : cmpI a b < 0 ↔ a < b := by
  unfold cmpI
  split
  · omega
  · split <;> omega
theorem cmpI_eq (a b : Int) : cmpI a b = 0 ↔ a = b := by
  unfold cmpI
  split
  · omega
  · split <;> omega
theorem cmpIs_nil (a : List Int) : ¬ cmpIs a [] < 0 := by cases a <;> simp [cmpIs]
theorem cmpIs_cons (a b : Int) (l l' : List Int) : cmpIs (a :: l) (b :: l') < 0 ↔ a < b ∨ (a = b ∧ cmpIs l l' < 0) := by
  rw [cmpIs]
  split
  · rename_i e
    rw [cmpI_lt]; have := mt (cmpI_eq a b).2 e
    omega
  · rename_i e
    have := (cmpI_eq a b).1 (Classical.not_not.1 e)
    omega
theorem cmpIs_trans : ∀ {a b c : List Int}, cmpIs a b < 0 → cmpIs b c < 0 → cmpIs a c < 0
  | [], [], c, h, _ => absurd h (cmpIs_nil _)
  | [], y :: b, [], _, h2 => absurd h2 (cmpIs_nil _)
  | [], y :: b, z :: c, _, _ => by simp [cmpIs]
  | x :: a, [], c, h, _ => absurd h (cmpIs_nil _)
  | x :: a, y :: b, [], _, h2 => absurd h2 (cmpIs_nil _)
  | x :: a, y :: b, z :: c, h, h2 => by
    rw [cmpIs_cons] at *
    rcases h with h | ⟨h, h3⟩ <;> rcases h2 with h2 | ⟨h2, h4⟩
    · exact .inl (by omega)
    · exact .inl (by omega)
    · exact .inl (by omega)
    · exact .inr ⟨by omega, cmpIs_trans h3 h4⟩
theorem cmpIs_irr : ∀ a : List Int, ¬ cmpIs a a < 0
  | [] => by simp [cmpIs]
  | x :: a => by rw [cmpIs_cons]; have := cmpIs_irr a; omega
theorem cmpIs_total : ∀ {a b : List Int}, ¬ a = b → cmpIs a b < 0 ∨ cmpIs b a < 0
  | [], [], h => absurd rfl h
  | [], y :: b, _ => .inl (by simp [cmpIs])
  | x :: a, [], _ => .inr (by simp [cmpIs])
  | x :: a, y :: b, h => by
    rw [cmpIs_cons, cmpIs_cons]
    by_cases e : x = y
    · subst e
      have := cmpIs_total (a := a) (b := b) (fun e => h (by rw [e]))
      omega
    · omega
theorem orL2 (a b : Int) : orL [a, b] < 0 ↔ a < 0 ∨ (a = 0 ∧ b < 0) := by
  simp only [orL]
  split
  · omega
  · split <;> omega
theorem orL3 (a b c : Int) : orL [a, b, c] < 0 ↔ a < 0 ∨ (a = 0 ∧ (b < 0 ∨ (b = 0 ∧ c < 0))) := by
  simp only [orL]
  split
  · omega
  · split
    · omega
    · split <;> omega
theorem ordF_lt (x y : Hn) : ordF x y < 0 ↔ y.2.2 < x.2.2 ∨ (y.2.2 = x.2.2 ∧ (y.2.1 < x.2.1 ∨ (y.2.1 = x.2.1 ∧ cmpIs x.1 y.1 < 0))) := by
  unfold ordF; rw [orL3, cmpI_lt, cmpI_lt, cmpI_eq, cmpI_eq]
theorem ordX_lt (x y : Hn) : ordX x y < 0 ↔ x.1.length < y.1.length ∨ (x.1.length = y.1.length ∧ cmpIs x.1 y.1 < 0) := by
  unfold ordX; rw [orL2, cmpI_lt, cmpI_eq]; omega
structure Tot (o : Hn → Hn → Int) : Prop where
  tr : ∀ {x y z}, o x y < 0 → o y z < 0 → o x z < 0
  to : ∀ {x y}, ¬ x.1 = y.1 → o x y < 0 ∨ o y x < 0
  ir : ∀ {x y}, x.1 = y.1 → x.2 = y.2 → ¬ o x y < 0
theorem tot_F : Tot ordF := ⟨fun {x y z} h1 h2 => by
    rw [ordF_lt] at *
    rcases h1 with h1 | ⟨h1, h1 | ⟨h3, h5⟩⟩ <;> rcases h2 with h2 | ⟨h2, h2 | ⟨h4, h6⟩⟩ <;> first | omega | exact .inr ⟨by omega, .inr ⟨by omega, cmpIs_trans h5 h6⟩⟩,
  fun {x y} h => by
    rw [ordF_lt, ordF_lt]; have := cmpIs_total h
    omega,
  fun {x y} h h2 => by
    rw [ordF_lt, h, h2]; have := cmpIs_irr y.1
    omega⟩
theorem tot_X : Tot ordX := ⟨fun {x y z} h1 h2 => by
    rw [ordX_lt] at *
    rcases h1 with h1 | ⟨h1, h3⟩ <;> rcases h2 with h2 | ⟨h2, h4⟩ <;> first | omega | exact .inr ⟨by omega, cmpIs_trans h3 h4⟩,
  fun {x y} h => by
    rw [ordX_lt, ordX_lt]; have := cmpIs_total h
    omega,
  fun {x y} h h2 => by
    rw [ordX_lt, h]; have := cmpIs_irr y.1
    omega⟩
def BestIs (o : Hn → Hn → Int) (S : Hn → Prop) (b : Hn) : Prop := S b ∧ ∀ x, S x → ¬ o x b < 0
theorem best_step {o : Hn → Hn → Int} (ho : Tot o) {S : Hn → Prop} {b x : Hn} (h : BestIs o S b) (hs : x.1 = b.1 → x = b) : BestIs o (fun y => S y ∨ y = x) (if o x b < 0 then x else b) := by
  split
  · rename_i e
    refine ⟨.inr rfl, fun y hy => ?_⟩
    rcases hy with hy | rfl
    · exact fun e2 => h.2 y hy (ho.tr e2 e)
    · exact ho.ir rfl rfl
  · rename_i e
    refine ⟨.inl h.1, fun y hy => ?_⟩
    rcases hy with hy | rfl
    · exact h.2 y hy
    · exact e
theorem best_uniq {o : Hn → Hn → Int} (ho : Tot o) {S S' : Hn → Prop} {b b' : Hn} (h : BestIs o S b) (h' : BestIs o S' b') (hS : ∀ x, S x ↔ S' x) (hf : ∀ x y, S x → S y → x.1 = y.1 → x = y) : b = b' := by
  refine hf _ _ h.1 ((hS _).2 h'.1) (Classical.byContradiction fun e => ?_)
  rcases ho.to e with h1 | h1
  · exact h'.2 _ ((hS _).1 h.1) h1
  · exact h.2 _ ((hS _).2 h'.1) h1
theorem bestL_is {o : Hn → Hn → Int} (ho : Tot o) : ∀ {l : List Hn}, (∀ x ∈ l, ∀ y ∈ l, x.1 = y.1 → x = y) → ((bestL o l).2 = false ∧ l = []) ∨ ((bestL o l).2 = true ∧ BestIs o (· ∈ l) (bestL o l).1) := by
  intro l; rw [← List.reverse_reverse l]; generalize l.reverse = r
  induction r with
  | nil => intro _; exact .inl ⟨rfl, rfl⟩
  | cons x r ih =>
    intro hf; rw [List.reverse_cons] at hf ⊢
    right
    rw [best_snoc]; have ih := ih fun x hx y hy => hf x (List.mem_append_left _ hx) y (List.mem_append_left _ hy); unfold offS
    rcases ih with ⟨h1, h2⟩ | ⟨h1, h2⟩
    · rw [if_pos (.inl h1), h2]
      exact ⟨rfl, List.mem_singleton.2 rfl, fun y hy => by rw [List.mem_singleton.1 hy]; exact ho.ir rfl rfl⟩
    · have h3 := best_step ho (x := x) h2 (fun e => hf x (List.mem_append_right _ (List.mem_singleton.2 rfl)) _ (List.mem_append_left _ h2.1) e)
      have h4 : ∀ b, BestIs o (fun y => y ∈ r.reverse ∨ y = x) b → BestIs o (· ∈ r.reverse ++ [x]) b := fun b hb => ⟨by show b ∈ r.reverse ++ [x]; rw [List.mem_append, List.mem_singleton]; exact hb.1, fun y hy => hb.2 y (by have hy : y ∈ r.reverse ++ [x] := hy; rw [List.mem_append, List.mem_singleton] at hy; exact hy)⟩
      by_cases e : o x (bestL o r.reverse).1 < 0
      · rw [if_pos (.inr e)]
        rw [if_pos e] at h3; exact ⟨rfl, h4 _ h3⟩
      · rw [if_neg (by rw [h1]; intro h; exact h.elim (fun h => by cases h) e)]
        rw [if_neg e] at h3; exact ⟨h1, h4 _ h3⟩
end Go.Proofs.Ytdlbbfcfahahdaa
end
section
namespace Go.Proofs.Ytdlbbfcfahahdaa
open Go Go.W
set_option maxRecDepth 20000
attribute [local irreducible] HL HC HQ HB Row Rows2 Blk Facts
abbrev saB (g : Nat) (c : Ch) (sA : Option Addr) (sn sC : Nat) (aA : Option Addr) (an aC : Nat) : Nat × Obj := (g, .cells #[int c.1, int c.2.1, int c.2.2.1, int c.2.2.2.1, int c.2.2.2.2.1, int c.2.2.2.2.2, .slice sA sn sC, .slice aA an aC] T.api_Sales (0, 0))
abbrev SRes := Ch × Sl Int × Sl Ad
structure SOf (m : Nat) (x : SRes) : Prop where
  ok : chkS x.1 x.2.1.l x.2.2.l = 0
  x8 : x.2.2.l.length ≤ m
  ca : x.2.1.l.length ≤ x.2.1.c
  cb : x.2.2.l.length ≤ x.2.2.c
end Go.Proofs.Ytdlbbfcfahahdaa
end
section
namespace Go.Proofs.Ytdlbbfcfahahdaa
open Go Go.W
set_option maxRecDepth 20000
attribute [local irreducible] HL HC HQ HB Row Rows2 Blk Facts
end Go.Proofs.Ytdlbbfcfahahdaa
end
section
namespace Go.Proofs.Ytdlbbfcfahahdaa
open Go Go.W
set_option maxRecDepth 20000
attribute [local irreducible] HL HC HQ HB Row Rows2 Blk Facts
theorem nil_less {a : Nat} {b : List Int} (h : a ≤ b.length) : cmpIs [] (b.drop a) < 0 ↔ a < b.length := by
  rcases Nat.lt_or_ge a b.length with h1 | h1
  · rw [drop_getD h1]; simp [cmpIs, h1]
  · rw [show a = b.length by omega, List.drop_length]; simp [cmpIs]
def handL (cs : List Cd) (ks : List Int) : Hn := (ks, (linL cs ks).sum, (priL cs ks).sum)
theorem handL_inj {cs : List Cd} {a b : List Int} (h : (handL cs a).1 = (handL cs b).1) : handL cs a = handL cs b := congrArg (handL cs) h
def fillS (cs : List Cd) (room : Int) (st : Hn) (x : List Int) : Hn := if (handL cs x).2.1 ≤ room ∧ ordF (handL cs x) st < 0 then handL cs x else st
def fillO (cs : List Cd) (room : Int) : Nat → Hn
  | 0 => handL cs []
  | m + 1 => (combos (m + 1) (upI 0 cs.length)).foldl (fillS cs room) (fillO cs room m)
theorem fold_best {cs : List Cd} {room : Int} : ∀ (l : List (List Int)) {st : Hn} {S : Hn → Prop}, BestIs ordF S st → (∀ x, S x → ∃ c, x = handL cs c) → BestIs ordF (fun x => S x ∨ ∃ c ∈ l, x = handL cs c ∧ (handL cs c).2.1 ≤ room) (l.foldl (fillS cs room) st)
  | [], st, S, h, _ => ⟨.inl h.1, fun x hx => h.2 x (hx.elim id fun ⟨c, hc, _⟩ => by cases hc)⟩
  | y :: l, st, S, h, hS => by
    rw [List.foldl_cons]
    by_cases e : (handL cs y).2.1 ≤ room
    · have h1 := best_step tot_F (x := handL cs y) h (fun e2 => by obtain ⟨c, hc⟩ := hS _ h.1; rw [hc] at e2 ⊢; exact handL_inj e2)
      have e2 : fillS cs room st y = if ordF (handL cs y) st < 0 then handL cs y else st := by
        unfold fillS
        by_cases e3 : ordF (handL cs y) st < 0
        · rw [if_pos ⟨e, e3⟩, if_pos e3]
        · rw [if_neg (fun h => e3 h.2), if_neg e3]
      rw [e2]; have h2 := fold_best l (room := room) h1 (fun x hx => hx.elim (hS x) fun hx => ⟨y, hx⟩); refine ⟨?_, fun x hx => h2.2 x ?_⟩
      · rcases h2.1 with (h3 | h3) | ⟨c, hc, h3⟩
        · exact .inl h3
        · exact .inr ⟨y, List.mem_cons_self .., h3, e⟩
        · exact .inr ⟨c, List.mem_cons_of_mem _ hc, h3⟩
      · rcases hx with h3 | ⟨c, hc, h3, h4⟩
        · exact .inl (.inl h3)
        · rcases List.mem_cons.1 hc with rfl | hc
          · exact .inl (.inr h3)
          · exact .inr ⟨c, hc, h3, h4⟩
    · have e2 : fillS cs room st y = st := if_neg (fun h => e h.1)
      rw [e2]; have h2 := fold_best l (room := room) h hS; refine ⟨?_, fun x hx => h2.2 x ?_⟩
      · rcases h2.1 with h3 | ⟨c, hc, h3⟩
        · exact .inl h3
        · exact .inr ⟨c, List.mem_cons_of_mem _ hc, h3⟩
      · rcases hx with h3 | ⟨c, hc, h3, h4⟩
        · exact .inl h3
        · rcases List.mem_cons.1 hc with rfl | hc
          · exact absurd h4 e
          · exact .inr ⟨c, hc, h3, h4⟩
def FitS (cs : List Cd) (room : Int) (x : Hn) : Prop := ∃ c, c.Sublist (upI 0 cs.length) ∧ x = handL cs c ∧ (handL cs c).2.1 ≤ room
theorem fillO_best {cs : List Cd} {room : Int} (hr : 0 ≤ room) : ∀ m, BestIs ordF (fun x => ∃ c, c.Sublist (upI 0 cs.length) ∧ c.length ≤ m ∧ x = handL cs c ∧ (handL cs c).2.1 ≤ room) (fillO cs room m)
  | 0 => ⟨⟨[], List.nil_sublist _, Nat.le_refl _, rfl, hr⟩, fun x ⟨c, _, h2, h3, _⟩ => by
      obtain rfl : c = [] := List.eq_nil_of_length_eq_zero (by omega)
      rw [h3]; exact tot_F.ir rfl rfl⟩
  | m + 1 => by
    have h1 := fold_best (cs := cs) (room := room) (combos (m + 1) (upI 0 cs.length)) (fillO_best hr m) (fun x hx => by obtain ⟨c, _, _, h, _⟩ := hx; exact ⟨c, h⟩); have hb : fillO cs room (m + 1) = (combos (m + 1) (upI 0 cs.length)).foldl (fillS cs room) (fillO cs room m) := rfl; rw [hb]; refine ⟨?_, fun x hx => h1.2 x ?_⟩
    · rcases h1.1 with ⟨c, h2, h3, h4⟩ | ⟨c, hc, h4⟩
      · exact ⟨c, h2, by omega, h4⟩
      · exact ⟨c, combos_sub hc, Nat.le_of_eq (combos_size hc), h4⟩
    · obtain ⟨c, h2, h3, h4⟩ := hx
      by_cases e : c.length ≤ m
      · exact .inl ⟨c, h2, e, h4⟩
      · have h5 := combos_mem h2
        rw [show c.length = m + 1 by omega] at h5; exact .inr ⟨c, h5, h4⟩
theorem hand_fit {cs : List Cd} {room : Int} {x : Hn} : x ∈ handsK cs room (2 ^ cs.length) ↔ FitS cs room x := by
  unfold handsK; rw [List.mem_filter, List.mem_map]
  constructor
  · rintro ⟨⟨s, hs, rfl⟩, h⟩
    exact ⟨pickK s cs.length, pick_sub s _, rfl, of_decide_eq_true h⟩
  · rintro ⟨c, h1, rfl, h2⟩
    obtain ⟨s, hs, rfl⟩ := pick_all h1; exact ⟨⟨s, List.mem_range.2 hs, rfl⟩, decide_eq_true h2⟩
theorem fit_inj {cs : List Cd} {room : Int} {x y : Hn} (hx : FitS cs room x) (hy : FitS cs room y) (h : x.1 = y.1) : x = y := by
  obtain ⟨c, _, rfl, _⟩ := hx; obtain ⟨d, _, rfl, _⟩ := hy; exact handL_inj h
def fillB (cs : List Cd) (room : Int) : Hn := (bestL ordF (handsK cs room (2 ^ cs.length))).1
theorem fillB_best {cs : List Cd} {room : Int} (hr : 0 ≤ room) : BestIs ordF (FitS cs room) (fillB cs room) := by
  rcases bestL_is tot_F (l := handsK cs room (2 ^ cs.length)) (fun x hx y hy => fit_inj (hand_fit.1 hx) (hand_fit.1 hy)) with ⟨_, h⟩ | ⟨_, h⟩
  · have h1 : handL cs [] ∈ handsK cs room (2 ^ cs.length) := hand_fit.2 ⟨[], List.nil_sublist _, rfl, hr⟩
    rw [h] at h1; cases h1
  · exact ⟨hand_fit.1 h.1, fun x hx => h.2 x (hand_fit.2 hx)⟩
theorem fill_same {cs : List Cd} {room : Int} (hr : 0 ≤ room) : fillO cs room cs.length = fillB cs room := by
  refine best_uniq tot_F (fillO_best hr cs.length) (fillB_best hr) (fun x => ⟨fun ⟨c, h1, _, h2⟩ => ⟨c, h1, h2⟩, fun ⟨c, h1, h2⟩ => ⟨c, h1, by have := h1.length_le; rw [upI_len] at this; omega, h2⟩⟩) fun x y hx hy => fit_inj (by obtain ⟨c, h1, _, h2⟩ := hx; exact ⟨c, h1, h2⟩) (by obtain ⟨c, h1, _, h2⟩ := hy; exact ⟨c, h1, h2⟩)
theorem upI_mem {f n : Nat} {z : Int} (h : z ∈ upI f n) : (f : Int) ≤ z ∧ z < (n : Int) := by
  obtain ⟨i, hi, rfl⟩ := List.mem_map.1 h; have h1 := List.mem_range'_1.1 hi
  omega
theorem fillO_len {cs : List Cd} {room : Int} (hr : 0 ≤ room) (m : Nat) : (fillO cs room m).1.length ≤ cs.length := by
  obtain ⟨c, h1, _, h2, _⟩ := (fillO_best (cs := cs) hr m).1; rw [h2]; have := h1.length_le; rw [upI_len] at this; show c.length ≤ _
  omega
end Go.Proofs.Ytdlbbfcfahahdaa
end
section
namespace Go.Proofs.Ytdlbbfcfahahdaa
open Go Go.W
set_option maxRecDepth 20000
attribute [local irreducible] HL HC HQ HB Row Rows2 Blk Facts
theorem combos_sorted : ∀ (k : Nat) (l : List Int), l.Pairwise (· < ·) → (combos k l).Pairwise fun a b => cmpIs a b < 0
  | 0, l, _ => by rw [combos]; exact List.pairwise_singleton _ _
  | k + 1, [], _ => by rw [combos]; exact .nil
  | k + 1, x :: l, h => by
    rw [List.pairwise_cons] at h; rw [combos, List.pairwise_append]; refine ⟨List.pairwise_map.2 ((combos_sorted k l h.2).imp fun h2 => (cmpIs_cons ..).2 (.inr ⟨rfl, h2⟩)), combos_sorted (k + 1) l h.2, fun a ha b hb => ?_⟩; obtain ⟨c, hc, rfl⟩ := List.mem_map.1 ha
    cases b with
    | nil => have := combos_size hb; cases this
    | cons y b => exact (cmpIs_cons ..).2 (.inl (h.1 y ((combos_sub hb).subset (List.mem_cons_self ..))))
theorem upI_lt (n : Nat) : (upI 0 n).Pairwise (· < ·) := by
  unfold upI; rw [Nat.sub_zero, ← List.range_eq_range']; exact List.pairwise_map.2 (List.pairwise_lt_range.imp fun h => by omega)
def ExS (cs : List Cd) (room : Int) (x : Hn) : Prop := ∃ c, c.Sublist (upI 0 cs.length) ∧ x = handL cs c ∧ (handL cs c).2.1 = room
theorem mem_exact {cs : List Cd} {room : Int} {x : Hn} : x ∈ (handsK cs room (2 ^ cs.length)).filter (fun x => decide (x.2.1 = room)) ↔ ExS cs room x := by
  rw [List.mem_filter, hand_fit, decide_eq_true_eq]; exact ⟨fun ⟨⟨c, h1, h2, h3⟩, h4⟩ => ⟨c, h1, h2, by rw [← h2]; exact h4⟩, fun ⟨c, h1, h2, h3⟩ => ⟨⟨c, h1, h2, by rw [h3]; exact Int.le_refl _⟩, by rw [h2]; exact h3⟩⟩
theorem ex_inj {cs : List Cd} {room : Int} {x y : Hn} (hx : ExS cs room x) (hy : ExS cs room y) (h : x.1 = y.1) : x = y := by
  obtain ⟨c, _, rfl, _⟩ := hx; obtain ⟨d, _, rfl, _⟩ := hy; exact handL_inj h
theorem exact_some {cs : List Cd} {room : Int} {b : Hn} (h0 : cardsE cs room = 0) (h : BestIs ordX (ExS cs room) b) : exactE cs room = (b.1, 0) := by
  unfold exactE exactL; rw [if_neg (fun e => e h0)]
  rcases bestL_is tot_X (l := (handsK cs room (2 ^ cs.length)).filter fun x => decide (x.2.1 = room)) (fun x hx y hy => ex_inj (mem_exact.1 hx) (mem_exact.1 hy)) with ⟨_, h2⟩ | ⟨h1, h2⟩
  · have h3 := mem_exact.2 h.1
    rw [h2] at h3; cases h3
  · rw [h1, if_neg (by decide)]
    have h3 := best_uniq tot_X (S := ExS cs room) (S' := ExS cs room) ⟨mem_exact.1 h2.1, fun x hx => h2.2 x (mem_exact.2 hx)⟩ h (fun x => Iff.rfl) fun x y hx hy => ex_inj hx hy; rw [h3]
theorem exact_none {cs : List Cd} {room : Int} (h0 : cardsE cs room = 0) (h : ∀ c : List Int, c.Sublist (upI 0 cs.length) → ¬ (handL cs c).2.1 = room) : exactE cs room = ([], 11) := by
  unfold exactE exactL; rw [if_neg (fun e => e h0)]
  rcases bestL_is tot_X (l := (handsK cs room (2 ^ cs.length)).filter fun x => decide (x.2.1 = room)) (fun x hx y hy => ex_inj (mem_exact.1 hx) (mem_exact.1 hy)) with ⟨h1, _⟩ | ⟨h1, h2⟩
  · rw [if_pos h1]
  · obtain ⟨c, h3, _, h4⟩ := mem_exact.1 h2.1
    exact absurd h4 (h c h3)
theorem first_best {cs : List Cd} {room : Int} {m i : Nat} (hi : i < (combos m (upI 0 cs.length)).length) (h1 : ∀ c : List Int, c.Sublist (upI 0 cs.length) → c.length < m → ¬ (handL cs c).2.1 = room) (h2 : ∀ j, j < i → ¬ (handL cs ((combos m (upI 0 cs.length)).getD j default)).2.1 = room) (h : (handL cs ((combos m (upI 0 cs.length)).getD i default)).2.1 = room) : BestIs ordX (ExS cs room) (handL cs ((combos m (upI 0 cs.length)).getD i default)) := by
  have hc := getD_mem hi; refine ⟨⟨_, combos_sub hc, rfl, h⟩, fun x hx => ?_⟩; obtain ⟨d, h3, rfl, h4⟩ := hx; rw [ordX_lt]; show ¬ (d.length < ((combos m (upI 0 cs.length)).getD i default).length ∨ (d.length = ((combos m (upI 0 cs.length)).getD i default).length ∧ cmpIs d ((combos m (upI 0 cs.length)).getD i default) < 0)); rw [combos_size hc]; rintro (h5 | ⟨h5, h6⟩)
  · exact h1 d h3 h5 h4
  · have h7 := combos_mem h3
    rw [h5] at h7; obtain ⟨j, hj, e⟩ := List.getElem_of_mem h7
    rcases Nat.lt_trichotomy j i with h8 | h8 | h8
    · exact h2 j h8 (by rw [getD_at hj, e]; exact h4)
    · subst h8
      rw [getD_at hj, e] at h6; exact cmpIs_irr _ h6
    · have h9 := List.pairwise_iff_getElem.1 (combos_sorted m _ (upI_lt cs.length)) i j hi hj h8
      rw [e, ← getD_at hi] at h9; exact cmpIs_irr _ (cmpIs_trans h6 h9)
end Go.Proofs.Ytdlbbfcfahahdaa
end
section
namespace Go.Proofs.Ytdlbbfcfahahdaa
open Go Go.W
set_option maxRecDepth 20000
attribute [local irreducible] HL HC HQ HB Row Rows2 Blk Facts
theorem ref09_within_meets (n lo hi : Int) : Meets Try.prog F.ref09_within [int n, int lo, int hi] { val := fun _ : Unit => .bool (decide (lo ≤ n ∧ n ≤ hi)) } := by
 refine meets_intro F.ref09_within_f rfl (Nat.le_of_ble_eq_true rfl) fun w0 => ?_; refine hc_seq (hc_region (r_assign rfl rfl (hl_nil (then_n (hc_seq (hc_region (r_move rfl rfl (r_move rfl rfl (r_geq rfl rfl rfl (r_move rfl rfl ?_)))))))))); refine g_split rfl rfl ?_ ?_
 ·intro hg1; have hg1' := hg1; try simp at hg1'
  refine g_yes rfl rfl hg1 (r_move rfl rfl (g_yes rfl rfl hg1 (r_move rfl rfl (g_yes rfl rfl hg1 (r_leq rfl rfl rfl ?_))))); refine p_t rfl rfl (bt1 hg1) rfl ?_; refine r_assign rfl rfl (hl_nil (then_n (hc_ret ?_))); exact ret1 () rfl (congrArg (fun b => some (Value.bool b)) (by simp [hg1'])) rfl trivial (List.nil_sublist _) trivial
 ·intro hg1; have hg1' := hg1; try simp at hg1'
  refine g_no rfl rfl rfl rfl rfl hg1 (g_no rfl rfl rfl rfl rfl hg1 (g_no rfl rfl rfl rfl rfl hg1 ?_)); refine p_f rfl rfl (bf2 hg1) rfl ?_; refine r_assign rfl rfl (hl_nil (then_n (hc_ret ?_))); exact ret1 () rfl (congrArg (fun b => some (Value.bool b)) (by simp [Int.not_le.2 hg1'])) rfl trivial (List.nil_sublist _) trivial
end Go.Proofs.Ytdlbbfcfahahdaa
end
section
namespace Go.Proofs.Ytdlbbfcfahahdaa
open Go Go.W
set_option maxRecDepth 20000
attribute [local irreducible] HL HC HQ HB Row Rows2 Blk Facts
set_option maxHeartbeats 1000000 in
theorem ref09_Picks_meets (n : Nat) (hn16 : n ≤ 16) : ∀ (many f : Nat), f ≤ n → many ≤ 20 → Meets Try.prog F.ref09_Picks [int (f : Int), int (n : Int), int (many : Int)] { inv := fun x : OutSL => lsts x.1 = combos many (upI f n), val := fun x => .slice x.2.1 x.1.length x.2.2, LO := fun x => [Rows2 x.2.1 x.1] } := by
 intro many
 induction many using Nat.strongRecOn
 rename_i many ih
 intro f hf hm20; refine meets_intro F.ref09_Picks_f rfl (Nat.le_of_ble_eq_true rfl) fun w0 => ?_; refine hc_seq (hc_region (r_assign rfl rfl (hl_nil (then_n (hc_seq (hc_seq (hc_region (r_move rfl rfl (r_eql rfl rfl rfl (hl_nil (then_n ?_))))))))))); refine c_dec rfl (fun hb1 => ?_) (fun hb1 => ?_)
 ·have hb1' := hb1; try simp at hb1'
  obtain rfl : many = 0 := by omega
  refine hc_seq (hc_region ?_); refine r_buildSlice _ rfl rfl (fun _ => T.bs_intss_1 ..) fun gS => ?_; refine r_assign rfl rfl (hl_nil (then_n (hc_ret (then_ret ?_)))); refine hq_letgo (rows [(⟨none, 0, []⟩ : Sl Int)]) (List.prefix_refl _) ?_; refine hq_nilrow (α := Int) ?_; refine hq_rows2 (A := some ⟨gS, 0, none⟩) (ps := [(⟨none, 0, []⟩ : Sl Int)]) mB (by intro p hp; rw [List.mem_singleton.1 hp]; exact mB) ?_; exact ret1 ([(⟨none, 0, []⟩ : Sl Int)], (some ⟨gS, 0, none⟩, 1)) rfl rfl rfl (by show lsts [(⟨none, 0, []⟩ : Sl Int)] = _; rw [combos]; rfl) (List.nil_sublist _) ⟨m0, trivial⟩
 ·have hb1' := hb1; try simp at hb1'
  obtain ⟨m, rfl⟩ : ∃ q, many = q + 1 := ⟨many - 1, by omega⟩; refine hc_skip (then_n (hc_seq (hc_region (r_assign rfl rfl (hl_nil (then_n (hc_seq (hc_seq (hc_region (r_move rfl rfl (r_assign rfl rfl ?_))))))))))); refine hl_nil (then_n (hc_block ?_)); refine hc_facts (Fs := ([] : List (Sl Int)).map (fun p : Sl Int => Row p.a (rows p.l))) (by intro F hF; simp at hF) ?_; refine hc_loop (β := Nat × List (Sl Int) × OutC × Hp) ⟨fun x => f ≤ x.1 ∧ x.1 ≤ n ∧ Grow T.ints 1 x.2.2.1.1 x.2.1.length x.2.2.1.2 (rows x.2.1) x.2.2.2 ∧ lsts x.2.1 = subK m f n x.1, fun x => [(1, int (n : Int)), (2, int ((m + 1 : Nat) : Int)), (7, .slice x.2.2.1.1 x.2.1.length x.2.2.1.2), (8, int x.1)], fun x => x.2.2.2, fun x => [innersF x.2.1 (fun p : Sl Int => Row p.a (rows p.l))]⟩ (fun x => n + 1 - x.1) (f, [], (none, 0), []) ⟨Nat.le_refl _, hf, Grow.nil _ _, by show [] = subK m f n f; unfold subK; rw [Nat.sub_self]; rfl⟩ ⟨rfl, rfl, rfl, rfl, trivial⟩ (List.nil_sublist _) ⟨mB, trivial⟩ fun x hx => ?_; obtain ⟨i, ps, ⟨na, nc⟩, og⟩ := x; obtain ⟨hif, hi, hG, hps⟩ := hx; simp only at hif hi hG hps; refine hc_seq (hc_seq (hc_region (r_move rfl rfl (r_move rfl rfl (r_lss rfl rfl rfl (hl_nil (then_n ?_))))))); refine c_dec rfl (fun hb2 => ?_) (fun hb2 => ?_)
  ·have hb2' := hb2; try simp at hb2'
   have hi2 : i < n := by omega
   refine hc_skip (then_n (hc_seq (hc_block (hc_seq (hc_region (r_move rfl rfl ?_)))))); refine r_add ((i + 1 : Nat) : Int) rfl rfl rfl (by show (i : Int) + 1 = ((i + 1 : Nat) : Int); omega) (by unfold I64; omega) ?_; refine r_move rfl rfl (r_move rfl rfl ?_); refine r_sub ((m : Nat) : Int) rfl rfl rfl (by show ((m + 1 : Nat) : Int) - 1 = (m : Int); omega) (by unfold I64; omega) ?_; refine hl_call F.ref09_Picks_cb rfl rfl (ih m (by omega) (i + 1) (by omega) (by omega)) (hpR := og) (List.Perm.refl _) trivial fun y hy => ?_; refine r_assign rfl rfl (hl_nil (then_n (hc_seq (hc_region (r_assign rfl rfl (hl_nil (then_n (hc_block ?_)))))))); have hyl : y.1.length = (combos m (upI (i + 1) n)).length := by have h9 := congrArg List.length hy; rw [lsts_len] at h9; exact h9
   have hyat : ∀ k, k < y.1.length → (y.1.getD k default).l = (combos m (upI (i + 1) n)).getD k default := fun k hk => by rw [← lsts_at y.1 hk, show lsts y.1 = _ from hy]; rfl
   have hsn := subK_succ (m := m) (n := n) hif; have hsl := subK_len (m := m) (n := n) (show f ≤ i + 1 by omega) (by omega) hn16; rw [hsn, List.length_append, List.length_map] at hsl; refine hc_loop (β := Nat × List (Sl Int) × OutC × Hp) ⟨fun x => x.1 ≤ y.1.length ∧ Grow T.ints 1 x.2.2.1.1 x.2.1.length x.2.2.1.2 (rows x.2.1) x.2.2.2 ∧ lsts x.2.1 = subK m f n i ++ (((combos m (upI (i + 1) n)).take x.1).map ((i : Int) :: ·)), fun x => [(1, int (n : Int)), (2, int ((m + 1 : Nat) : Int)), (7, .slice x.2.2.1.1 x.2.1.length x.2.2.1.2), (8, int i), (9, .slice y.2.1 y.1.length y.2.2), (10, int x.1)], fun x => x.2.2.2, fun x => [innersF x.2.1 (fun p : Sl Int => Row p.a (rows p.l)), Rows2 y.2.1 y.1]⟩ (fun x => y.1.length - x.1) (0, ps, (na, nc), og) ⟨Nat.zero_le _, hG, by show lsts ps = _; rw [hps, List.take_zero, List.map_nil, List.append_nil]⟩ ⟨rfl, rfl, rfl, rfl, rfl, rfl, trivial⟩ (List.Sublist.refl _) ⟨mB, mB, trivial⟩ fun x hx => ?_; clear hG hps; obtain ⟨k, ps, ⟨na, nc⟩, og⟩ := x; obtain ⟨hk, hG, hps⟩ := hx; simp only at hk hG hps; have hpl : ps.length ≤ 65536 := by have h9 := congrArg List.length hps; rw [lsts_len, List.length_append, List.length_map, List.length_take] at h9; omega
   refine hc_seq (hc_seq (hc_region (r_move rfl rfl (r_move rfl rfl ?_)))); refine r_len_sl rfl T.u_intss rfl ?_; refine r_lss rfl rfl rfl (hl_nil (then_n ?_)); refine c_dec rfl (fun hb3 => ?_) (fun hb3 => ?_)
   ·have hb3' := hb3; try simp at hb3'
    have hk2 : k < y.1.length := by omega
    have hyk := hyat k hk2; have hyc : (y.1.getD k default).l.length = m := by rw [hyk]; exact combos_size (getD_mem (by omega))
    refine hc_skip (then_n (hc_seq (hc_block (hc_region (r_move rfl rfl (r_move rfl rfl ?_)))))); refine r_buildSlice _ rfl rfl (fun _ => T.bs_ints_1 ..) fun gS => ?_; refine r_move rfl rfl (r_move rfl rfl ?_); refine hl_outer (A := y.2.1) (ps := y.1) mB ?_; refine r_elem (α := Sl Int) y.1 k rfl T.u_intss T.sz_ints rfl rfl rfl mB rfl hk2 (by decide) ?_; refine r_load (v := .slice (y.1.getD k default).a (y.1.getD k default).l.length (y.1.getD k default).c) rfl T.cell_ints rfl (cell_row mB (rows_get0 hk2 rfl)) ?_; refine hl_inner (A := y.2.1) (ps := y.1) (p := (y.1.getD k default)) mB (getD_mem hk2) ?_; refine r_append (hp' := og) ((y.1.getD k default).l.length + 1) (rows ((i : Int) :: (y.1.getD k default).l)) T.el_ints rfl rfl rfl (Grow.new (cs := #[int (i : Int)]) (n := 1) rfl (by decide)) (List.Perm.refl _) (Src.row mB (rows_len (y.1.getD k default).l) (rows_one (y.1.getD k default).l) (by decide)) (Nat.add_comm _ _) rfl (by unfold maxLen; omega) (by omega) fun A' c' og' hG' => ?_; refine hl_grown hG' ?_; refine r_buildSlice _ rfl rfl (fun _ => T.bs_intss_1 ..) fun gS2 => ?_; refine hl_letgo (rows [(⟨A', c', (i : Int) :: (y.1.getD k default).l⟩ : Sl Int)]) (List.prefix_refl _) ?_; refine r_append (ps.length + 1) (rows (ps ++ [(⟨A', c', (i : Int) :: (y.1.getD k default).l⟩ : Sl Int)])) T.el_intss rfl rfl rfl hG (hp' := []) (by first | (rw [List.append_nil]; done) | (rw [List.append_nil]; exact List.Perm.refl _)) (Src.row (news := rows [(⟨A', c', (i : Int) :: (y.1.getD k default).l⟩ : Sl Int)]) (m := 1) m0 rfl (rows_one _) (by decide)) rfl (rows_append _ _).symm (by unfold maxLen; omega) (by omega) fun A2 c2 og2 hG2 => ?_; refine r_assign rfl rfl (hl_nil (inb_n (then_n (hc_region (r_move rfl rfl ?_))))); refine r_add _ rfl rfl rfl rfl (by unfold I64; omega) ?_; refine r_assign rfl rfl (hl_nil ?_); refine hq_facts (innerF_snoc (ps := ps) (f := (fun p : Sl Int => Row p.a (rows p.l))) (p := (⟨A', c', (i : Int) :: (y.1.getD k default).l⟩ : Sl Int)) mB mB) ?_; exact again _ (k + 1, ps ++ [(⟨A', c', (i : Int) :: (y.1.getD k default).l⟩ : Sl Int)], (A2, c2), og2) ⟨by show k + 1 ≤ y.1.length; omega, by show Grow _ _ _ (ps ++ [_]).length _ _ _; rw [List.length_append]; exact hG2, by show lsts (ps ++ [_]) = _ ++ (((combos m (upI (i + 1) n)).take (k + 1)).map ((i : Int) :: ·)); rw [take_succ_getD _ k (by omega), List.map_append, ← List.append_assoc, ← hps, lsts, List.map_append, ← hyk]; rfl⟩ (by show y.1.length - (k + 1) < y.1.length - k; omega) ⟨rfl, rfl, by show some (Value.slice A2 (ps.length + 1) c2) = some (Value.slice A2 (ps ++ [_]).length c2); rw [List.length_append]; rfl, rfl, rfl, rfl, trivial⟩ (by first | exact List.Sublist.refl _ | (rw [List.append_nil]; exact List.Sublist.refl _)) ⟨mB, mB, trivial⟩
   ·have hb3' := hb3; try simp at hb3'
    obtain rfl : k = y.1.length := by omega
    rw [hyl, List.take_length, ← hsn] at hps; refine hc_exit (then_exit (then_exit (inb_hit (inb_n (then_n (hc_region (r_move rfl rfl ?_))))))); refine r_add _ rfl rfl rfl rfl (by unfold I64; omega) ?_; refine r_assign rfl rfl (hl_nil ?_); exact again _ (i + 1, ps, (na, nc), og) ⟨by show f ≤ i + 1; omega, by show i + 1 ≤ n; omega, hG, hps⟩ (by show n + 1 - (i + 1) < n + 1 - i; omega) ⟨rfl, rfl, rfl, rfl, trivial⟩ (List.Sublist.refl _) ⟨mB, trivial⟩
  ·have hb2' := hb2; try simp at hb2'
   have hi2 : n < i + (m + 1) := by omega
   refine hc_exit (then_exit (then_exit (inb_hit (then_n (hc_seq (hc_region (r_move rfl rfl (r_assign rfl rfl (hl_nil (then_n (hc_ret ?_))))))))))); refine hq_grown0 hG ?_; refine hq_rows2F (A := na) (ps := ps) mB mB ?_; exact ret1 (ps, (na, nc)) rfl rfl rfl (by show lsts ps = _; rw [subK_end hif hi hi2]; exact hps) (List.nil_sublist _) ⟨m0, trivial⟩
theorem kit_EqCards_meets {A B : Option Addr} {ca cb : Nat} (a b : List Cd) (ha : a.length ≤ 9223372036854775806) :
    Meets Try.prog F.kit_EqCards [.slice A a.length ca, .slice B b.length cb] { LI := [Row A (rows a), Row B (rows b)], val := fun _ : Unit => .bool (decide (a = b)) } := by
 refine meets_intro F.kit_EqCards_f rfl (Nat.le_of_ble_eq_true rfl) fun w0 => ?_; refine hc_seq (hc_region (r_assign rfl rfl (hl_nil (then_n (hc_seq (hc_seq (hc_region (r_move rfl rfl ?_)))))))); refine r_len_sl rfl T.u_L_api_Card rfl ?_; refine r_move rfl rfl ?_; refine r_len_sl rfl T.u_L_api_Card rfl ?_; refine r_neq rfl rfl rfl (hl_nil (then_n ?_)); refine c_dec rfl (fun hb1 => ?_) (fun hb1 => ?_)
 ·have hb1' := hb1; try simp at hb1'
  have hb1 : ¬ a = b := fun e => by subst e; exact hb1 rfl
  refine hc_seq (hc_region (r_assign rfl rfl (hl_nil (then_n (hc_ret (then_ret ?_)))))); exact ret1 () rfl (by rw [decide_eq_false hb1]; rfl) rfl trivial (.refl _) trivial
 ·have hb1' := hb1; try simp at hb1'
  have hb1 : a.length = b.length := by omega
  refine hc_skip (then_n (hc_seq (hc_seq (hc_region (r_assign rfl rfl (hl_nil (then_n (hc_block ?_)))))))); refine hc_loop (β := Nat) ⟨fun k => k ≤ a.length ∧ a.take k = b.take k, fun k => [(0, .slice A a.length ca), (1, .slice B b.length cb), (5, int k)], fun _ => [], fun _ => [Row A (rows a), Row B (rows b)]⟩ (fun k => a.length - k) 0 ⟨Nat.zero_le _, rfl⟩ ⟨rfl, rfl, rfl, trivial⟩ (.refl _) ⟨m0, m1, trivial⟩ fun k hk => ?_; obtain ⟨hk, ht⟩ := hk; refine hc_seq (hc_seq (hc_region (r_move rfl rfl (r_move rfl rfl ?_)))); refine r_len_sl rfl T.u_L_api_Card rfl ?_; refine r_lss rfl rfl rfl (hl_nil (then_n ?_)); refine c_dec rfl (fun hb2 => ?_) (fun hb2 => ?_)
  ·have hb2' := hb2; try simp at hb2'
   have hb2 : k < a.length := by omega
   refine hc_skip (then_n (hc_seq (hc_block (hc_seq ?_)))); refine hc_draw 8 mixed (by decide) (by decide) rfl rfl ?_; refine hb_ex _ rfl rfl rfl (fun w1 => r_move rfl rfl (hl_nil (qe_done rfl))) ?_; refine hb_ex _ rfl rfl rfl (fun w1 => r_move rfl rfl (hl_nil (qe_done rfl))) ?_; refine hb_ex _ rfl rfl rfl (fun w1 => r_elem (α := Cd) _ _ rfl T.u_L_api_Card T.sz_api_Card rfl rfl rfl mB rfl (by omega) (by decide) (hl_nil (qe_done rfl))) ?_; refine hb_ex _ rfl rfl rfl (fun w1 => r_loadS rfl T.row_api_Card T.sz_api_Card rfl rfl (cells_row mB (rows_all (by omega))) (hl_nil (qe_done rfl))) ?_; refine hb_ex _ rfl rfl rfl (fun w1 => r_move rfl rfl (hl_nil (qe_done rfl))) ?_; refine hb_ex _ rfl rfl rfl (fun w1 => r_move rfl rfl (hl_nil (qe_done rfl))) ?_; refine hb_ex _ rfl rfl rfl (fun w1 => r_elem (α := Cd) _ _ rfl T.u_L_api_Card T.sz_api_Card rfl rfl rfl mB rfl (by omega) (by decide) (hl_nil (qe_done rfl))) ?_; refine hb_ex _ rfl rfl rfl (fun w1 => r_loadS rfl T.row_api_Card T.sz_api_Card rfl rfl (cells_row mB (rows_all (by omega))) (hl_nil (qe_done rfl))) ?_; refine hb_nil ⟨rfl, ?_⟩; refine r_bin _ rfl rfl rfl (fun _ => T.eqg_api_Card ..) (fun _ => T.neq_api_Card ..) ?_; refine hl_nil (then_n ?_); refine c_dec rfl (fun hb3 => ?_) (fun hb3 => ?_)
   ·have hb3' := hb3; try simp at hb3'
    have hb3 : ¬ a = b := ne_at (a := a) (b := b) (k := k) hb3; refine hc_seq (hc_region (r_assign rfl rfl (hl_nil (then_n (hc_ret (inb_ret (then_ret (then_ret (inb_ret (then_ret ?_)))))))))); exact ret1 () rfl (by rw [decide_eq_false hb3]; rfl) rfl trivial (.refl _) trivial
   ·have hb3' := hb3; try simp at hb3'
    have hb3 : a.getD k default = b.getD k default := Classical.not_not.1 hb3; refine hc_skip (inb_n (then_n (hc_region (r_move rfl rfl ?_)))); refine r_add _ rfl rfl rfl rfl (by unfold I64; omega) ?_; refine r_assign rfl rfl (hl_nil ?_); exact again _ (k + 1) ⟨by omega, by rw [take_succ_getD a k hb2, take_succ_getD b k (by omega), ht, hb3]⟩ (by first | omega | (simp only; omega)) ⟨rfl, rfl, rfl, trivial⟩ (.refl _) ⟨m0, m1, trivial⟩
  ·have hb2' := hb2; try simp at hb2'
   have hb2 : k = a.length := by omega
   refine hc_exit (then_exit (then_exit (inb_hit (then_n (hc_seq (hc_region (r_assign rfl rfl (hl_nil (then_n (hc_ret ?_)))))))))); exact ret1 () rfl (by rw [decide_eq_true (eq_of_takes ht (by omega) (by omega))]; rfl) rfl trivial (.refl _) trivial
theorem nfi : ∀ {b : Bool}, ((!b) == false) = true → b = true := by decide
theorem nti : ∀ {b : Bool}, ((!b) == false) = false → b = false := by decide
theorem ref09_checkCards_meets {A : Option Addr} {c : Nat} (l : List Cd) (room : Int) (hn : l.length ≤ 1000000) : Meets Try.prog F.ref09_checkCards [.slice A l.length c, int room] { LI := [Row A (rows l)], val := fun _ : Unit => int (cardsE l room) } := by
 refine meets_intro F.ref09_checkCards_f rfl (Nat.le_of_ble_eq_true rfl) fun w0 => ?_; refine hc_seq (hc_region (r_assign rfl rfl (hl_nil (then_n (hc_seq (hc_seq (hc_region (r_move rfl rfl ?_)))))))); refine r_len_sl rfl T.u_L_api_Card rfl ?_; refine r_gtr rfl rfl rfl (hl_nil (then_n ?_)); refine c_dec rfl (fun hb1 => ?_) (fun hb1 => ?_)
 ·have hb1' := hb1; try simp at hb1'
  refine hc_seq (hc_region (r_assign rfl rfl (hl_nil (then_n (hc_ret (then_ret ?_)))))); exact ret1 () rfl (by show some _ = some (int (cardsE l room)); unfold cardsE; rw [if_pos (by omega)]) rfl trivial (List.nil_sublist _) trivial
 ·have hb1' := hb1; try simp at hb1'
  refine hc_skip (then_n (hc_seq (hc_seq (hc_region (r_assign rfl rfl (hl_nil (then_n (hc_block ?_)))))))); refine hc_loop (β := Nat) ⟨fun k => k ≤ l.length ∧ ∀ j, j < k → cdB (l.getD j default), fun k => [(0, .slice A l.length c), (1, int room), (5, int k)], fun _ => [], fun _ => [Row A (rows l)]⟩ (fun k => l.length - k) 0 ⟨Nat.zero_le _, fun j hj => absurd hj (Nat.not_lt_zero j)⟩ ⟨rfl, rfl, rfl, trivial⟩ (List.nil_sublist _) ⟨mB, trivial⟩ fun k hk => ?_; obtain ⟨hk, hq⟩ := hk; refine hc_seq (hc_seq (hc_region (r_move rfl rfl (r_move rfl rfl ?_)))); refine r_len_sl rfl T.u_L_api_Card rfl ?_; refine r_lss rfl rfl rfl (hl_nil (then_n ?_)); refine c_dec rfl (fun hb2 => ?_) (fun hb2 => ?_)
  ·have hb2' := hb2; try simp at hb2'
   have hk2 : k < l.length := by omega
   refine hc_skip (then_n (hc_seq (hc_block (hc_seq (hc_region (r_move rfl rfl (r_move rfl rfl ?_))))))); refine r_elem (α := Cd) l k rfl T.u_L_api_Card T.sz_api_Card rfl rfl rfl mB rfl (hk2) (by decide) ?_; refine r_fieldAddr _ rfl rfl T.fa_api_Card_0 rfl ?_; refine r_load rfl T.cell_int rfl (cell_row mB (rows_get0 (by omega) rfl)) ?_; refine hl_call F.ref09_within_cb rfl rfl (ref09_within_meets _ _ _) (List.Perm.refl _) trivial fun _ _ => ?_; refine r_not rfl rfl (r_move rfl rfl ?_); refine g_split rfl rfl ?_ ?_
   ·intro hg1; have hg1' := hg1; try simp at hg1'
    have hga := of_decide_eq_true (nfi hg1); refine g_yes rfl rfl hg1 (r_move rfl rfl (g_yes rfl rfl hg1 (r_move rfl rfl (g_yes rfl rfl hg1 ?_)))); refine r_elem (α := Cd) l k rfl T.u_L_api_Card T.sz_api_Card rfl rfl rfl mB rfl (hk2) (by decide) ?_; refine g_yes rfl rfl hg1 (r_fieldAddr _ rfl rfl T.fa_api_Card_1 rfl (g_yes rfl rfl hg1 ?_)); refine r_load rfl T.cell_int rfl (cell_row_f mB (rows_get (by omega) rfl)) ?_; refine g_yes rfl rfl hg1 ?_; refine hl_call F.ref09_within_cb rfl rfl (ref09_within_meets _ _ _) (List.Perm.refl _) trivial fun _ _ => ?_; refine g_yes rfl rfl hg1 (r_not rfl rfl ?_); refine p_f rfl rfl (bf1 hg1) rfl ?_; refine hl_nil (then_n ?_); refine hc_cond rfl (fun hb3 => ?_) (fun hb3 => ?_)
    ·have hb3' := hb3; try simp at hb3'
     refine hc_seq (hc_region (r_assign rfl rfl (hl_nil (then_n (hc_ret (inb_ret (then_ret (then_ret (inb_ret (then_ret ?_)))))))))); exact ret1 () rfl (by show some _ = some (int (cardsE l room)); unfold cardsE; rw [if_neg (by omega), if_pos (nall_at (p := cdB) hk2 fun e => nbt hb3 e.2)]) rfl trivial (List.nil_sublist _) trivial
    ·have hb3' := hb3; try simp at hb3'
     refine hc_skip (inb_n (then_n (hc_region (r_move rfl rfl ?_)))); refine r_add _ rfl rfl rfl rfl (by unfold I64; omega) ?_; refine r_assign rfl rfl (hl_nil ?_); exact again _ (k + 1) ⟨by show k + 1 ≤ l.length; omega, fun j hj => (Nat.lt_succ_iff_lt_or_eq.1 hj).elim (hq j) fun e => by subst e; exact ⟨hga, nbf hb3⟩⟩ (by show l.length - (k + 1) < l.length - k; omega) ⟨rfl, rfl, rfl, trivial⟩ (List.nil_sublist _) ⟨mB, trivial⟩
   ·intro hg1; have hg1' := hg1; try simp at hg1'
    have hga := of_decide_eq_false (nti hg1); refine g_no rfl rfl rfl rfl rfl hg1 (g_no rfl rfl rfl rfl rfl hg1 (g_no rfl rfl rfl rfl rfl hg1 (g_no rfl rfl rfl rfl rfl hg1 (g_no rfl rfl rfl rfl rfl hg1 (g_no rfl rfl rfl rfl rfl hg1 (g_no rfl rfl rfl rfl rfl hg1 ?_)))))); refine p_t rfl rfl (bt2 hg1) rfl ?_; refine hl_nil (then_n (c_t rfl rfl (hc_seq (hc_region (r_assign rfl rfl (hl_nil (then_n (hc_ret (inb_ret (then_ret (then_ret ?_))))))))))); refine inb_ret (then_ret ?_); exact ret1 () rfl (by show some _ = some (int (cardsE l room)); unfold cardsE; rw [if_neg (by omega), if_pos (nall_at (p := cdB) hk2 fun e => hga e.1)]) rfl trivial (List.nil_sublist _) trivial
  ·have hb2' := hb2; try simp at hb2'
   obtain rfl : k = l.length := by omega
   have hq := all_take (l := l) (p := cdB) hq; refine hc_exit (then_exit (then_exit (inb_hit (then_n (hc_seq (hc_seq (hc_region (r_move rfl rfl ?_)))))))); refine hl_call F.ref09_within_cb rfl rfl (ref09_within_meets _ _ _) (List.Perm.refl _) trivial fun _ _ => ?_; refine r_not rfl rfl (hl_nil (then_n ?_)); refine hc_cond rfl (fun hb4 => ?_) (fun hb4 => ?_)
   ·have hb4' := hb4; try simp at hb4'
    refine hc_seq (hc_region (r_assign rfl rfl (hl_nil (then_n (hc_ret (then_ret ?_)))))); exact ret1 () rfl (by show some _ = some (int (cardsE l room)); unfold cardsE; rw [if_neg (by omega), if_neg (Classical.not_not.2 hq), if_pos (nbt hb4)]) rfl trivial (List.nil_sublist _) trivial
   ·have hb4' := hb4; try simp at hb4'
    refine hc_skip (then_n (hc_seq (hc_region (r_assign rfl rfl (hl_nil (then_n (hc_ret ?_))))))); exact ret1 () rfl (by show some _ = some (int (cardsE l room)); unfold cardsE; rw [if_neg (by omega), if_neg (Classical.not_not.2 hq), if_neg (Classical.not_not.2 (nbf hb4))]) rfl trivial (List.nil_sublist _) trivial
theorem ref09_before_meets {A B : Option Addr} {ca cb n m : Nat} (a b : List Int) (ha : a.length ≤ 1000000) (hb : b.length ≤ 1000000) (ea : a.length = n) (eb : b.length = m) : Meets Try.prog F.ref09_before [.slice A n ca, .slice B m cb] { LI := [Row A (rows a), Row B (rows b)], val := fun _ : Unit => .bool (decide (cmpIs a b < 0)) } := by
 subst ea; subst eb; refine meets_intro F.ref09_before_f rfl (Nat.le_of_ble_eq_true rfl) fun w0 => ?_; refine hc_seq (hc_region (r_assign rfl rfl (hl_nil (then_n (hc_seq (hc_seq (hc_region (r_assign rfl rfl (hl_nil (then_n (hc_block ?_))))))))))); refine hc_loop (β := Nat) ⟨fun k => (k ≤ a.length ∧ k ≤ b.length) ∧ (cmpIs a b < 0 ↔ cmpIs (a.drop k) (b.drop k) < 0), fun k => [(0, .slice A a.length ca), (1, .slice B b.length cb), (5, int k)], fun _ => [], fun _ => [Row A (rows a), Row B (rows b)]⟩ (fun k => a.length - k) 0 ⟨⟨Nat.zero_le _, Nat.zero_le _⟩, Iff.rfl⟩ ⟨rfl, rfl, rfl, trivial⟩ (.refl _) ⟨mB, mB, trivial⟩ fun k hk => ?_; obtain ⟨hk, ht⟩ := hk; refine hc_seq (hc_seq (hc_region (r_move rfl rfl (r_move rfl rfl ?_)))); refine r_len_sl rfl T.u_ints rfl ?_; refine r_lss rfl rfl rfl (r_move rfl rfl ?_); refine g_split rfl rfl ?_ ?_
 ·intro hg1; have hg1' := hg1; try simp at hg1'
  have hk2 : k < a.length := by simpa using hg1
  refine g_yes rfl rfl hg1 (r_move rfl rfl (g_yes rfl rfl hg1 (r_move rfl rfl (g_yes rfl rfl hg1 ?_)))); refine r_len_sl rfl T.u_ints rfl ?_; refine g_yes rfl rfl hg1 (r_lss rfl rfl rfl ?_); refine p_t rfl rfl (bt1 hg1) rfl ?_; refine hl_nil (then_n ?_); refine c_dec rfl (fun hb1 => ?_) (fun hb1 => ?_)
  ·have hb1' := hb1; try simp at hb1'
   have hk3 : k < b.length := by omega
   rw [drop_getD hk2, drop_getD hk3, cmpIs_cons] at ht; refine hc_skip (then_n (hc_seq (hc_block (hc_seq ?_)))); refine hc_draw 8 mixed (by decide) (by decide) rfl rfl ?_; refine hb_ex _ rfl rfl rfl (fun w1 => r_move rfl rfl (hl_nil (qe_done rfl))) ?_; refine hb_ex _ rfl rfl rfl (fun w1 => r_move rfl rfl (hl_nil (qe_done rfl))) ?_; refine hb_ex _ rfl rfl rfl (fun w1 => r_elem (α := Int) _ _ rfl T.u_ints T.sz_int rfl rfl rfl mB rfl (by omega) (by decide) (hl_nil (qe_done rfl))) ?_; refine hb_ex _ rfl rfl rfl (fun w1 => r_load rfl T.cell_int rfl (cell_row mB (rows_get0 (by omega) rfl)) (hl_nil (qe_done rfl))) ?_; refine hb_ex _ rfl rfl rfl (fun w1 => r_move rfl rfl (hl_nil (qe_done rfl))) ?_; refine hb_ex _ rfl rfl rfl (fun w1 => r_move rfl rfl (hl_nil (qe_done rfl))) ?_; refine hb_ex _ rfl rfl rfl (fun w1 => r_elem (α := Int) _ _ rfl T.u_ints T.sz_int rfl rfl rfl mB rfl (by omega) (by decide) (hl_nil (qe_done rfl))) ?_; refine hb_ex _ rfl rfl rfl (fun w1 => r_load rfl T.cell_int rfl (cell_row mB (rows_get0 (by omega) rfl)) (hl_nil (qe_done rfl))) ?_; refine hb_nil ⟨rfl, ?_⟩; refine r_neq rfl rfl rfl (hl_nil (then_n ?_)); refine c_dec rfl (fun hb2 => ?_) (fun hb2 => ?_)
   ·have hb2' := hb2; try simp at hb2'
    refine hc_seq ?_; refine hc_draw 8 mixed (by decide) (by decide) rfl rfl ?_; refine hb_ex _ rfl rfl rfl (fun w1 => r_move rfl rfl (hl_nil (qe_done rfl))) ?_; refine hb_ex _ rfl rfl rfl (fun w1 => r_move rfl rfl (hl_nil (qe_done rfl))) ?_; refine hb_ex _ rfl rfl rfl (fun w1 => r_elem (α := Int) _ _ rfl T.u_ints T.sz_int rfl rfl rfl mB rfl (by omega) (by decide) (hl_nil (qe_done rfl))) ?_; refine hb_ex _ rfl rfl rfl (fun w1 => r_load rfl T.cell_int rfl (cell_row mB (rows_get0 (by omega) rfl)) (hl_nil (qe_done rfl))) ?_; refine hb_ex _ rfl rfl rfl (fun w1 => r_move rfl rfl (hl_nil (qe_done rfl))) ?_; refine hb_ex _ rfl rfl rfl (fun w1 => r_move rfl rfl (hl_nil (qe_done rfl))) ?_; refine hb_ex _ rfl rfl rfl (fun w1 => r_elem (α := Int) _ _ rfl T.u_ints T.sz_int rfl rfl rfl mB rfl (by omega) (by decide) (hl_nil (qe_done rfl))) ?_; refine hb_ex _ rfl rfl rfl (fun w1 => r_load rfl T.cell_int rfl (cell_row mB (rows_get0 (by omega) rfl)) (hl_nil (qe_done rfl))) ?_; refine hb_nil ⟨rfl, ?_⟩; refine r_lss rfl rfl rfl (r_assign rfl rfl (hl_nil (then_n (hc_ret (inb_ret (then_ret (then_ret (inb_ret (then_ret ?_))))))))); exact ret1 () rfl (congrArg (fun b => some (Value.bool b)) (decide_eq_decide.2 (by rw [ht]; omega))) rfl trivial (List.nil_sublist _) trivial
   ·have hb2' := hb2; try simp at hb2'
    refine hc_skip (inb_n (then_n (hc_region (r_move rfl rfl ?_)))); refine r_add _ rfl rfl rfl rfl (by unfold I64; omega) ?_; refine r_assign rfl rfl (hl_nil ?_); exact again _ (k + 1) ⟨⟨by show k + 1 ≤ a.length; omega, by show k + 1 ≤ b.length; omega⟩, by rw [ht]; exact ⟨fun h => h.elim (fun e => by omega) fun e => e.2, fun h => .inr ⟨by omega, h⟩⟩⟩ (by show a.length - (k + 1) < a.length - k; omega) ⟨rfl, rfl, rfl, trivial⟩ (.refl _) ⟨mB, mB, trivial⟩
  ·have hb1' := hb1; try simp at hb1'
   have hk3 : k = b.length := by omega
   refine hc_exit (then_exit (then_exit (inb_hit (then_n (hc_seq (hc_region (r_move rfl rfl ?_))))))); refine r_len_sl rfl T.u_ints rfl ?_; refine r_move rfl rfl ?_; refine r_len_sl rfl T.u_ints rfl ?_; refine r_lss rfl rfl rfl (r_assign rfl rfl (hl_nil (then_n (hc_ret ?_)))); exact ret1 () rfl (congrArg (fun b => some (Value.bool b)) (decide_eq_decide.2 (by rw [ht, hk3, List.drop_length]; have := cmpIs_nil (a.drop b.length); omega))) rfl trivial (List.nil_sublist _) trivial
 ·intro hg1; have hg1' := hg1; try simp at hg1'
  have hk2 : k = a.length := by have h9 : ¬ k < a.length := (by simpa using hg1); omega
  refine g_no rfl rfl rfl rfl rfl hg1 (g_no rfl rfl rfl rfl rfl hg1 (g_no rfl rfl rfl rfl rfl hg1 (g_no rfl rfl rfl rfl rfl hg1 ?_))); refine p_f rfl rfl (bf2 hg1) rfl ?_; refine hl_nil (then_n (c_f rfl rfl (hc_exit (then_exit (then_exit (inb_hit (then_n (hc_seq (hc_region (r_move rfl rfl ?_)))))))))); refine r_len_sl rfl T.u_ints rfl ?_; refine r_move rfl rfl ?_; refine r_len_sl rfl T.u_ints rfl ?_; refine r_lss rfl rfl rfl (r_assign rfl rfl (hl_nil (then_n (hc_ret ?_)))); exact ret1 () rfl (congrArg (fun b => some (Value.bool b)) (decide_eq_decide.2 (by rw [ht, hk2, List.drop_length]; have := nil_less (a := a.length) (b := b) (by omega); omega))) rfl trivial (List.nil_sublist _) trivial
theorem ref09_lines_meets {A B : Option Addr} {ca cb : Nat} (cs : List Cd) (ks : List Int) (hc : ∀ x ∈ cs, cdB x) (hk : ∀ v ∈ ks, 0 ≤ v ∧ v < (cs.length : Int)) (hn : ks.length ≤ 1000) : Meets Try.prog F.ref09_lines [.slice A cs.length ca, .slice B ks.length cb] { LI := [Row A (rows cs), Row B (rows ks)], val := fun _ : Unit => int (linL cs ks).sum } := by
 refine meets_intro F.ref09_lines_f rfl (Nat.le_of_ble_eq_true rfl) fun w0 => ?_; refine hc_seq (hc_region (r_assign rfl rfl (hl_nil (then_n (hc_seq (hc_region (r_assign rfl rfl (hl_nil (then_n (hc_seq (hc_seq ?_))))))))))); refine hc_region (r_assign rfl rfl (hl_nil (then_n (hc_block ?_)))); refine hc_loop (β := Nat) ⟨fun k => k ≤ ks.length, fun k => [(0, .slice A cs.length ca), (1, .slice B ks.length cb), (5, int ((linL cs ks).take k).sum), (6, int k)], fun _ => [], fun _ => [Row A (rows cs), Row B (rows ks)]⟩ (fun k => ks.length - k) 0 (Nat.zero_le _) ⟨rfl, rfl, rfl, rfl, trivial⟩ (.refl _) ⟨mB, mB, trivial⟩ fun k hkk => ?_; simp only at hkk; have hb0 := sum_bd (lin_bd hc hk) k; refine hc_seq (hc_seq (hc_region (r_move rfl rfl (r_move rfl rfl ?_)))); refine r_len_sl rfl T.u_ints rfl ?_; refine r_lss rfl rfl rfl (hl_nil (then_n ?_)); refine c_dec rfl (fun hb1 => ?_) (fun hb1 => ?_)
 ·have hb1' := hb1; try simp at hb1'
  have hk2 : k < ks.length := by omega
  have hkv := hk _ (getD_mem hk2); obtain ⟨m, hme⟩ := Int.eq_ofNat_of_zero_le hkv.1; have hm2 : m < cs.length := by omega
  have hcm := hc _ (getD_mem hm2); have hcm1 := hcm.1; have hcm2 := hcm.2; have hla := lin_at (cs := cs) hk2; rw [hme, Int.toNat_natCast] at hla; refine hc_skip (then_n (hc_seq (hc_block (hc_region (r_move rfl rfl (r_move rfl rfl (r_move rfl rfl (r_move rfl rfl ?_)))))))); refine r_elem (α := Int) ks k rfl T.u_ints T.sz_int rfl rfl rfl mB rfl (hk2) (by decide) ?_; refine r_load (v := int ((m : Int))) rfl T.cell_int rfl (cell_row mB (by rw [← hme]; exact rows_get0 (hk2) rfl)) ?_; refine r_elem (α := Cd) cs m rfl T.u_L_api_Card T.sz_api_Card rfl rfl rfl mB rfl (hm2) (by decide) ?_; refine r_fieldAddr _ rfl rfl T.fa_api_Card_0 rfl ?_; refine r_load rfl T.cell_int rfl (cell_row mB (rows_get0 (by omega) rfl)) ?_; refine r_add _ rfl rfl rfl rfl (by unfold I64; omega) ?_; refine r_assign rfl rfl (hl_nil (inb_n (then_n (hc_region (r_move rfl rfl ?_))))); refine r_add _ rfl rfl rfl rfl (by unfold I64; omega) ?_; refine r_assign rfl rfl (hl_nil ?_); exact again _ (k + 1) (by show k + 1 ≤ ks.length; omega) (by show ks.length - (k + 1) < ks.length - k; omega) ⟨rfl, rfl, congrArg (fun z => some (int z)) (show _ = ((linL cs ks).take (k + 1)).sum by rw [sum_take (by rw [lin_len]; exact hk2), hla]), rfl, trivial⟩ (.refl _) ⟨mB, mB, trivial⟩
 ·have hb1' := hb1; try simp at hb1'
  obtain rfl : k = ks.length := by omega
  refine hc_exit (then_exit (then_exit (inb_hit (then_n (hc_seq (hc_region (r_move rfl rfl (r_assign rfl rfl (hl_nil (then_n (hc_ret ?_))))))))))); exact ret1 () rfl (by show some _ = some (int (linL cs ks).sum); rw [List.take_of_length_le (Nat.le_of_eq (lin_len ..))]) rfl trivial (List.nil_sublist _) trivial
theorem ref09_worth_meets {A B : Option Addr} {ca cb : Nat} (cs : List Cd) (ks : List Int) (hc : ∀ x ∈ cs, cdB x) (hk : ∀ v ∈ ks, 0 ≤ v ∧ v < (cs.length : Int)) (hn : ks.length ≤ 1000) : Meets Try.prog F.ref09_worth [.slice A cs.length ca, .slice B ks.length cb] { LI := [Row A (rows cs), Row B (rows ks)], val := fun _ : Unit => int (priL cs ks).sum } := by
 refine meets_intro F.ref09_worth_f rfl (Nat.le_of_ble_eq_true rfl) fun w0 => ?_; refine hc_seq (hc_region (r_assign rfl rfl (hl_nil (then_n (hc_seq (hc_region (r_assign rfl rfl (hl_nil (then_n (hc_seq (hc_seq ?_))))))))))); refine hc_region (r_assign rfl rfl (hl_nil (then_n (hc_block ?_)))); refine hc_loop (β := Nat) ⟨fun k => k ≤ ks.length, fun k => [(0, .slice A cs.length ca), (1, .slice B ks.length cb), (5, int ((priL cs ks).take k).sum), (6, int k)], fun _ => [], fun _ => [Row A (rows cs), Row B (rows ks)]⟩ (fun k => ks.length - k) 0 (Nat.zero_le _) ⟨rfl, rfl, rfl, rfl, trivial⟩ (.refl _) ⟨mB, mB, trivial⟩ fun k hkk => ?_; simp only at hkk; have hb0 := sum_bd (pri_bd hc hk) k; refine hc_seq (hc_seq (hc_region (r_move rfl rfl (r_move rfl rfl ?_)))); refine r_len_sl rfl T.u_ints rfl ?_; refine r_lss rfl rfl rfl (hl_nil (then_n ?_)); refine c_dec rfl (fun hb1 => ?_) (fun hb1 => ?_)
 ·have hb1' := hb1; try simp at hb1'
  have hk2 : k < ks.length := by omega
  have hkv := hk _ (getD_mem hk2); obtain ⟨m, hme⟩ := Int.eq_ofNat_of_zero_le hkv.1; have hm2 : m < cs.length := by omega
  have hcm := hc _ (getD_mem hm2); have hcm1 := hcm.1; have hcm2 := hcm.2; have hla := pri_at (cs := cs) hk2; rw [hme, Int.toNat_natCast] at hla; refine hc_skip (then_n (hc_seq (hc_block (hc_region (r_move rfl rfl (r_move rfl rfl (r_move rfl rfl (r_move rfl rfl ?_)))))))); refine r_elem (α := Int) ks k rfl T.u_ints T.sz_int rfl rfl rfl mB rfl (hk2) (by decide) ?_; refine r_load (v := int ((m : Int))) rfl T.cell_int rfl (cell_row mB (by rw [← hme]; exact rows_get0 (hk2) rfl)) ?_; refine r_elem (α := Cd) cs m rfl T.u_L_api_Card T.sz_api_Card rfl rfl rfl mB rfl (hm2) (by decide) ?_; refine r_fieldAddr _ rfl rfl T.fa_api_Card_1 rfl ?_; refine r_load rfl T.cell_int rfl (cell_row_f mB (rows_get (by omega) rfl)) ?_; refine r_add _ rfl rfl rfl rfl (by unfold I64; omega) ?_; refine r_assign rfl rfl (hl_nil (inb_n (then_n (hc_region (r_move rfl rfl ?_))))); refine r_add _ rfl rfl rfl rfl (by unfold I64; omega) ?_; refine r_assign rfl rfl (hl_nil ?_); exact again _ (k + 1) (by show k + 1 ≤ ks.length; omega) (by show ks.length - (k + 1) < ks.length - k; omega) ⟨rfl, rfl, congrArg (fun z => some (int z)) (show _ = ((priL cs ks).take (k + 1)).sum by rw [sum_take (by rw [pri_len]; exact hk2), hla]), rfl, trivial⟩ (.refl _) ⟨mB, mB, trivial⟩
 ·have hb1' := hb1; try simp at hb1'
  obtain rfl : k = ks.length := by omega
  refine hc_exit (then_exit (then_exit (inb_hit (then_n (hc_seq (hc_region (r_move rfl rfl (r_assign rfl rfl (hl_nil (then_n (hc_ret ?_))))))))))); exact ret1 () rfl (by show some _ = some (int (priL cs ks).sum); rw [List.take_of_length_le (Nat.le_of_eq (pri_len ..))]) rfl trivial (List.nil_sublist _) trivial
theorem bet_iff {cs : List Cd} {a b : List Int} : ordF (handL cs a) (handL cs b) < 0 ↔ ((priL cs b).sum < (priL cs a).sum ∨ ((priL cs b).sum = (priL cs a).sum ∧ ((linL cs b).sum < (linL cs a).sum ∨ ((linL cs b).sum = (linL cs a).sum ∧ cmpIs a b < 0)))) := by
  rw [ordF_lt]; exact Iff.rfl
structure GoodS (cs : List Cd) (st : Hn) : Prop where
  e : st = handL cs st.1
  l : st.1.length ≤ cs.length
  b : ∀ v ∈ st.1, 0 ≤ v ∧ v < (cs.length : Int)
theorem good_nil (cs : List Cd) : GoodS cs (handL cs []) := ⟨rfl, Nat.zero_le _, fun v hv => by cases hv⟩
theorem good_step {cs : List Cd} {room : Int} {st : Hn} {x : List Int} (h : GoodS cs st) (hl : x.length ≤ cs.length) (hb : ∀ v ∈ x, 0 ≤ v ∧ v < (cs.length : Int)) : GoodS cs (fillS cs room st x) := by
  unfold fillS
  split
  · exact ⟨rfl, hl, hb⟩
  · exact h
theorem ref09_better_meets {A B D : Option Addr} {ca cb cd : Nat} (cs : List Cd) (a b : List Int) (hc : ∀ x ∈ cs, cdB x) (ha : ∀ v ∈ a, 0 ≤ v ∧ v < (cs.length : Int)) (hb : ∀ v ∈ b, 0 ≤ v ∧ v < (cs.length : Int)) (hal : a.length ≤ 1000) (hbl : b.length ≤ 1000) : Meets Try.prog F.ref09_better [.slice A cs.length ca, .slice B a.length cb, .slice D b.length cd] { LI := [Row A (rows cs), Row B (rows a), Row D (rows b)], val := fun _ : Unit => .bool (decide (ordF (handL cs a) (handL cs b) < 0)) } := by
 refine meets_intro F.ref09_better_f rfl (Nat.le_of_ble_eq_true rfl) fun w0 => ?_; refine hc_seq (hc_region (r_assign rfl rfl (hl_nil (then_n (hc_seq (hc_seq (hc_region (r_move rfl rfl (r_move rfl rfl ?_))))))))); refine hl_call F.ref09_worth_cb rfl rfl (ref09_worth_meets cs a hc ha hal) (List.Perm.refl _) ⟨mB, mB, trivial⟩ fun _ _ => ?_; refine r_move rfl rfl (r_move rfl rfl ?_); refine hl_call F.ref09_worth_cb rfl rfl (ref09_worth_meets cs b hc hb hbl) (List.Perm.refl _) ⟨mB, mB, trivial⟩ fun _ _ => ?_; refine r_neq rfl rfl rfl (hl_nil (then_n ?_)); refine c_dec rfl (fun hb1 => ?_) (fun hb1 => ?_)
 ·have hb1' := hb1; try simp at hb1'
  refine hc_seq (hc_region (r_move rfl rfl (r_move rfl rfl ?_))); refine hl_call F.ref09_worth_cb rfl rfl (ref09_worth_meets cs a hc ha hal) (List.Perm.refl _) ⟨mB, mB, trivial⟩ fun _ _ => ?_; refine r_move rfl rfl (r_move rfl rfl ?_); refine hl_call F.ref09_worth_cb rfl rfl (ref09_worth_meets cs b hc hb hbl) (List.Perm.refl _) ⟨mB, mB, trivial⟩ fun _ _ => ?_; refine r_gtr rfl rfl rfl (r_assign rfl rfl (hl_nil (then_n (hc_ret (then_ret ?_))))); exact ret1 () rfl (congrArg (fun b => some (Value.bool b)) (decide_eq_decide.2 (by rw [bet_iff]; omega))) rfl trivial (List.nil_sublist _) trivial
 ·have hb1' := hb1; try simp at hb1'
  refine hc_skip (then_n (hc_seq (hc_seq (hc_region (r_move rfl rfl (r_move rfl rfl ?_)))))); refine hl_call F.ref09_lines_cb rfl rfl (ref09_lines_meets cs a hc ha hal) (List.Perm.refl _) ⟨mB, mB, trivial⟩ fun _ _ => ?_; refine r_move rfl rfl (r_move rfl rfl ?_); refine hl_call F.ref09_lines_cb rfl rfl (ref09_lines_meets cs b hc hb hbl) (List.Perm.refl _) ⟨mB, mB, trivial⟩ fun _ _ => ?_; refine r_neq rfl rfl rfl (hl_nil (then_n ?_)); refine c_dec rfl (fun hb2 => ?_) (fun hb2 => ?_)
  ·have hb2' := hb2; try simp at hb2'
   refine hc_seq (hc_region (r_move rfl rfl (r_move rfl rfl ?_))); refine hl_call F.ref09_lines_cb rfl rfl (ref09_lines_meets cs a hc ha hal) (List.Perm.refl _) ⟨mB, mB, trivial⟩ fun _ _ => ?_; refine r_move rfl rfl (r_move rfl rfl ?_); refine hl_call F.ref09_lines_cb rfl rfl (ref09_lines_meets cs b hc hb hbl) (List.Perm.refl _) ⟨mB, mB, trivial⟩ fun _ _ => ?_; refine r_gtr rfl rfl rfl (r_assign rfl rfl (hl_nil (then_n (hc_ret (then_ret ?_))))); exact ret1 () rfl (congrArg (fun b => some (Value.bool b)) (decide_eq_decide.2 (by rw [bet_iff]; omega))) rfl trivial (List.nil_sublist _) trivial
  ·have hb2' := hb2; try simp at hb2'
   refine hc_skip (then_n (hc_seq (hc_region (r_move rfl rfl (r_move rfl rfl ?_))))); refine hl_call F.ref09_before_cb rfl rfl (ref09_before_meets a b (by omega) (by omega) rfl rfl) (List.Perm.refl _) ⟨mB, mB, trivial⟩ fun _ _ => ?_; refine r_assign rfl rfl (hl_nil (then_n (hc_ret ?_))); exact ret1 () rfl (congrArg (fun b => some (Value.bool b)) (decide_eq_decide.2 (by rw [bet_iff]; omega))) rfl trivial (List.nil_sublist _) trivial
theorem cards_ok9 {cs : List Cd} {room : Int} (h : cardsE cs room = 0) : cs.length ≤ 8 ∧ (∀ x ∈ cs, cdB x) ∧ 0 ≤ room ∧ room ≤ 60 := by
  unfold cardsE at h
  split at h
  · cases h
  · rename_i h1
    split at h
    · cases h
    · rename_i h2
      split at h
      · cases h
      · rename_i h3
        exact ⟨by omega, Classical.not_not.1 h2, Classical.not_not.1 h3⟩
theorem fill_e {cs : List Cd} {room : Int} (h0 : cardsE cs room = 0) : fillE cs room = ((fillO cs room cs.length).1, (fillO cs room cs.length).2.2, 0) := by
  have hr := (cards_ok9 h0).2.2.1; rw [fillE, if_neg (fun e => e h0), fill_same hr]; rfl
set_option maxHeartbeats 1000000 in
theorem ref09_Fill_meets {A : Option Addr} {ca : Nat} (cs : List Cd) (room : Int) (hn : cs.length ≤ 1000000) : Meets Try.prog F.ref09_Fill [.slice A cs.length ca, int room] { LI := [Row A (rows cs)], val := fun x : OutC => .tuple #[.slice x.1 (fillE cs room).1.length x.2, int (fillE cs room).2.1, int (fillE cs room).2.2], LO := fun x => [Row x.1 (rows (fillE cs room).1)] } := by
 refine meets_intro F.ref09_Fill_f rfl (Nat.le_of_ble_eq_true rfl) fun w0 => ?_; refine hc_seq (hc_region (r_assign rfl rfl (r_assign rfl rfl (r_assign rfl rfl (hl_nil (then_n (hc_seq (hc_seq (hc_region (r_move rfl rfl (r_move rfl rfl ?_))))))))))); refine hl_call F.ref09_checkCards_cb rfl rfl (ref09_checkCards_meets cs room hn) (List.Perm.refl _) ⟨mB, trivial⟩ fun _ _ => ?_; refine r_assign rfl rfl (hl_nil (then_n (hc_seq (hc_region (r_move rfl rfl (r_neq rfl rfl rfl (hl_nil (then_n ?_)))))))); refine c_dec rfl (fun hb1 => ?_) (fun hb1 => ?_)
 ·have hb1' := hb1; try simp at hb1'
  refine hc_seq (hc_region (r_move rfl rfl (r_assign rfl rfl (r_assign rfl rfl (r_assign rfl rfl (hl_nil (then_n (hc_ret (then_ret ?_))))))))); refine hq_nilrow (α := Int) ?_; exact ret3 (none, 0) rfl rfl rfl rfl (by show Value.tuple #[.slice none (fillE cs room).1.length 0, int (fillE cs room).2.1, int (fillE cs room).2.2] = _; rw [fillE, if_pos hb1]; rfl) rfl trivial (List.nil_sublist _) (by show LSub _ [Row none (rows (fillE cs room).1)]; rw [fillE, if_pos hb1]; exact ⟨m0, trivial⟩)
 ·have hb1' := hb1; try simp at hb1'
  have h0 : cardsE cs room = 0 := Classical.not_not.1 hb1; have hcs := cards_ok9 h0; obtain ⟨h8, hcd, hro⟩ := hcs; refine hc_skip (then_n (hc_seq (hc_region (r_assign rfl rfl (hl_nil (then_n (hc_seq (hc_seq (hc_region (r_assign rfl rfl (hl_nil ?_))))))))))); refine then_n (hc_block ?_); refine hc_nilrow (α := Int) ?_; refine hc_loop (β := Nat × OutC) ⟨fun x => x.1 ≤ cs.length ∧ GoodS cs (fillO cs room x.1), fun x => [(0, .slice A cs.length ca), (1, int room), (8, .slice x.2.1 (fillO cs room x.1).1.length x.2.2), (9, int (x.1 + 1 : Nat))], fun _ => [], fun x => [Row x.2.1 (rows (fillO cs room x.1).1), Row A (rows cs)]⟩ (fun x => cs.length - x.1) (0, (none, 0)) ⟨Nat.zero_le _, good_nil cs⟩ ⟨rfl, rfl, rfl, rfl, trivial⟩ (List.nil_sublist _) ⟨mB, mB, trivial⟩ fun x hm => ?_; obtain ⟨m, o⟩ := x; obtain ⟨hm, hg⟩ := hm; simp only at hm hg; refine hc_seq (hc_seq (hc_region (r_move rfl rfl (r_move rfl rfl ?_)))); refine r_len_sl rfl T.u_L_api_Card rfl ?_; refine r_leq rfl rfl rfl (hl_nil (then_n ?_)); refine c_dec rfl (fun hb2 => ?_) (fun hb2 => ?_)
  ·have hb2' := hb2; try simp at hb2'
   have hm2 : m < cs.length := by omega
   refine hc_skip (then_n (hc_seq (hc_block (hc_seq (hc_region (r_move rfl rfl ?_)))))); refine r_len_sl rfl T.u_L_api_Card rfl ?_; refine r_move rfl rfl ?_; refine hl_call F.ref09_Picks_cb rfl rfl (ref09_Picks_meets cs.length (by omega) (m + 1) 0 (by omega) (by omega)) (List.Perm.refl _) trivial fun y hz => ?_; obtain ⟨zp, ZA, zc⟩ := y; change lsts zp = _ at hz; have hzl : zp.length = (combos (m + 1) (upI 0 cs.length)).length := by rw [← lsts_len, hz]
   have hzb : zp.length ≤ 256 := by have h9 := combos_pow (upI 0 cs.length) (m + 1); rw [upI_len] at h9; have h8 : 2 ^ (cs.length - 0) ≤ 2 ^ 8 := Nat.pow_le_pow_right (by decide) (by omega); omega
   refine r_assign rfl rfl (hl_nil (then_n (hc_seq (hc_region (r_assign rfl rfl (hl_nil (then_n (hc_block ?_)))))))); refine hc_loop (β := Nat × OutC) ⟨fun x => x.1 ≤ zp.length ∧ GoodS cs (((combos (m + 1) (upI 0 cs.length)).take x.1).foldl (fillS cs room) (fillO cs room m)), fun x => [(0, .slice A cs.length ca), (1, int room), (8, .slice x.2.1 (((combos (m + 1) (upI 0 cs.length)).take x.1).foldl (fillS cs room) (fillO cs room m)).1.length x.2.2), (9, int (m + 1 : Nat)), (10, .slice ZA zp.length zc), (11, int x.1)], fun _ => [], fun x => [Row x.2.1 (rows (((combos (m + 1) (upI 0 cs.length)).take x.1).foldl (fillS cs room) (fillO cs room m)).1), Rows2 ZA zp, Row A (rows cs)]⟩ (fun x => zp.length - x.1) (0, o) ⟨Nat.zero_le _, hg⟩ ⟨rfl, rfl, rfl, rfl, rfl, rfl, trivial⟩ (.refl _) ⟨mB, mB, mB, trivial⟩ fun x hx => ?_; clear hg; obtain ⟨i, o⟩ := x; obtain ⟨hi, hgs⟩ := hx; simp only at hi hgs; have hgl := hgs.l; have hgb := hgs.b; have hge := hgs.e; refine hc_seq (hc_seq (hc_region (r_move rfl rfl (r_move rfl rfl ?_)))); refine r_len_sl rfl T.u_intss rfl ?_; refine r_lss rfl rfl rfl (hl_nil (then_n ?_)); refine c_dec rfl (fun hb3 => ?_) (fun hb3 => ?_)
   ·have hb3' := hb3; try simp at hb3'
    have hi2 : i < zp.length := by omega
    have hcl : i < (combos (m + 1) (upI 0 cs.length)).length := by omega
    have hpl : (zp.getD i default).l = (combos (m + 1) (upI 0 cs.length)).getD i default := by rw [← lsts_at zp hi2, hz]; rfl
    have hpc : (zp.getD i default).l ∈ combos (m + 1) (upI 0 cs.length) := by rw [hpl]; exact getD_mem hcl
    have hps := combos_sub hpc; have hpb : ∀ v ∈ (zp.getD i default).l, 0 ≤ v ∧ v < (cs.length : Int) := fun v hv => by have := upI_mem (hps.subset hv); omega
    have hplen : (zp.getD i default).l.length ≤ cs.length := by have := hps.length_le; rw [upI_len] at this; omega
    refine hc_skip (then_n (hc_seq (hc_block (hc_seq (hc_region (r_move rfl rfl (r_move rfl rfl (r_move rfl rfl ?_)))))))); refine hl_outer (A := ZA) (ps := zp) mB ?_; refine r_elem (α := Sl Int) zp i rfl T.u_intss T.sz_ints rfl rfl rfl mB rfl hi2 (by decide) ?_; refine r_load (v := .slice (zp.getD i default).a (zp.getD i default).l.length (zp.getD i default).c) rfl T.cell_ints rfl (cell_row mB (rows_get0 hi2 rfl)) ?_; refine hl_inner (A := ZA) (ps := zp) (p := (zp.getD i default)) mB (getD_mem hi2) ?_; refine hl_call F.ref09_lines_cb rfl rfl (ref09_lines_meets cs (zp.getD i default).l hcd hpb (by omega)) (List.Perm.refl _) ⟨mB, mB, trivial⟩ fun _ _ => ?_; refine r_move rfl rfl (r_leq rfl rfl rfl (r_move rfl rfl ?_)); refine g_split rfl rfl ?_ ?_
    ·intro hg1; have hg1' := hg1; try simp at hg1'
     have hli : (linL cs (zp.getD i default).l).sum ≤ room := by simpa using hg1
     refine g_yes rfl rfl hg1 (r_move rfl rfl (g_yes rfl rfl hg1 (r_move rfl rfl (g_yes rfl rfl hg1 (r_move rfl rfl (g_yes rfl rfl hg1 ?_)))))); refine hl_outer (A := ZA) (ps := zp) mB ?_; refine r_elem (α := Sl Int) zp i rfl T.u_intss T.sz_ints rfl rfl rfl mB rfl hi2 (by decide) ?_; refine g_yes rfl rfl hg1 ?_; refine r_load (v := .slice (zp.getD i default).a (zp.getD i default).l.length (zp.getD i default).c) rfl T.cell_ints rfl (cell_row mB (rows_get0 hi2 rfl)) ?_; refine hl_inner (A := ZA) (ps := zp) (p := (zp.getD i default)) mB (getD_mem hi2) ?_; refine g_yes rfl rfl hg1 (r_move rfl rfl (g_yes rfl rfl hg1 ?_)); refine hl_call F.ref09_better_cb rfl rfl (ref09_better_meets cs (zp.getD i default).l (((combos (m + 1) (upI 0 cs.length)).take i).foldl (fillS cs room) (fillO cs room m)).1 hcd hpb hgb (by omega) (by omega)) (List.Perm.refl _) ⟨mB, mB, mB, trivial⟩ fun _ _ => ?_; refine p_t rfl rfl (bt1 hg1) rfl ?_; refine hl_nil (then_n ?_); refine c_dec rfl (fun hb4 => ?_) (fun hb4 => ?_)
     ·have hb4' := hb4; try simp at hb4'
      refine hc_region (r_move rfl rfl (r_move rfl rfl ?_)); refine hl_outer (A := ZA) (ps := zp) mB ?_; refine r_elem (α := Sl Int) zp i rfl T.u_intss T.sz_ints rfl rfl rfl mB rfl hi2 (by decide) ?_; refine r_load (v := .slice (zp.getD i default).a (zp.getD i default).l.length (zp.getD i default).c) rfl T.cell_ints rfl (cell_row mB (rows_get0 hi2 rfl)) ?_; refine hl_inner (A := ZA) (ps := zp) (p := (zp.getD i default)) mB (getD_mem hi2) ?_; refine r_assign rfl rfl (hl_nil (inb_n (then_n (hc_region (r_move rfl rfl ?_))))); refine r_add _ rfl rfl rfl rfl (by unfold I64; omega) ?_; refine r_assign rfl rfl (hl_nil ?_); have hst : (((combos (m + 1) (upI 0 cs.length)).take (i + 1)).foldl (fillS cs room) (fillO cs room m)) = fillS cs room (((combos (m + 1) (upI 0 cs.length)).take i).foldl (fillS cs room) (fillO cs room m)) (zp.getD i default).l := by rw [take_succ_getD _ i hcl, List.foldl_append, ← hpl]; rfl
      have hgn := good_step (room := room) hgs hplen hpb; rw [← hst] at hgn; have hs2 : (((combos (m + 1) (upI 0 cs.length)).take (i + 1)).foldl (fillS cs room) (fillO cs room m)).1 = (zp.getD i default).l := by rw [hst]; rw [fillS, if_pos ⟨hli, by rw [hge]; exact hb4⟩]; rfl
      exact again _ (i + 1, ((zp.getD i default).a, (zp.getD i default).c)) ⟨by show i + 1 ≤ zp.length; omega, hgn⟩ (by show zp.length - (i + 1) < zp.length - i; omega) ⟨rfl, rfl, congrArg (fun h : List Int => some (Value.slice (((zp.getD i default).a, (zp.getD i default).c)).1 h.length (((zp.getD i default).a, (zp.getD i default).c)).2)) hs2.symm, rfl, rfl, rfl, trivial⟩ (.refl _) ⟨by show Row (((zp.getD i default).a, (zp.getD i default).c)).1 (rows (((combos (m + 1) (upI 0 cs.length)).take (i + 1)).foldl (fillS cs room) (fillO cs room m)).1) ∈ _; rw [hs2]; exact mB, mB, mB, trivial⟩
     ·have hb4' := hb4; try simp at hb4'
      refine hc_skip (inb_n (then_n (hc_region (r_move rfl rfl ?_)))); refine r_add _ rfl rfl rfl rfl (by unfold I64; omega) ?_; refine r_assign rfl rfl (hl_nil ?_); have hst : (((combos (m + 1) (upI 0 cs.length)).take (i + 1)).foldl (fillS cs room) (fillO cs room m)) = fillS cs room (((combos (m + 1) (upI 0 cs.length)).take i).foldl (fillS cs room) (fillO cs room m)) (zp.getD i default).l := by rw [take_succ_getD _ i hcl, List.foldl_append, ← hpl]; rfl
      have hgn := good_step (room := room) hgs hplen hpb; rw [← hst] at hgn; have hs2 : (((combos (m + 1) (upI 0 cs.length)).take (i + 1)).foldl (fillS cs room) (fillO cs room m)).1 = (((combos (m + 1) (upI 0 cs.length)).take i).foldl (fillS cs room) (fillO cs room m)).1 := by rw [hst]; rw [fillS, if_neg (fun h => hb4 (by rw [← hge]; exact h.2))]
      exact again _ (i + 1, o) ⟨by show i + 1 ≤ zp.length; omega, hgn⟩ (by show zp.length - (i + 1) < zp.length - i; omega) ⟨rfl, rfl, congrArg (fun h : List Int => some (Value.slice (o).1 h.length (o).2)) hs2.symm, rfl, rfl, rfl, trivial⟩ (.refl _) ⟨by show Row (o).1 (rows (((combos (m + 1) (upI 0 cs.length)).take (i + 1)).foldl (fillS cs room) (fillO cs room m)).1) ∈ _; rw [hs2]; exact mB, mB, mB, trivial⟩
    ·intro hg1; have hg1' := hg1; try simp at hg1'
     have hli : ¬ (linL cs (zp.getD i default).l).sum ≤ room := by simpa using hg1
     refine g_no rfl rfl rfl rfl rfl hg1 (g_no rfl rfl rfl rfl rfl hg1 (g_no rfl rfl rfl rfl rfl hg1 (g_no rfl rfl rfl rfl rfl hg1 (g_no rfl rfl rfl rfl rfl hg1 (g_no rfl rfl rfl rfl rfl hg1 (g_no rfl rfl rfl rfl rfl hg1 ?_)))))); refine p_f rfl rfl (bf2 hg1) rfl ?_; refine hl_nil (then_n (c_f rfl rfl (hc_skip (inb_n (then_n (hc_region (r_move rfl rfl ?_))))))); refine r_add _ rfl rfl rfl rfl (by unfold I64; omega) ?_; refine r_assign rfl rfl (hl_nil ?_); have hst : (((combos (m + 1) (upI 0 cs.length)).take (i + 1)).foldl (fillS cs room) (fillO cs room m)) = fillS cs room (((combos (m + 1) (upI 0 cs.length)).take i).foldl (fillS cs room) (fillO cs room m)) (zp.getD i default).l := by rw [take_succ_getD _ i hcl, List.foldl_append, ← hpl]; rfl
     have hgn := good_step (room := room) hgs hplen hpb; rw [← hst] at hgn; have hs2 : (((combos (m + 1) (upI 0 cs.length)).take (i + 1)).foldl (fillS cs room) (fillO cs room m)).1 = (((combos (m + 1) (upI 0 cs.length)).take i).foldl (fillS cs room) (fillO cs room m)).1 := by rw [hst]; rw [fillS, if_neg (fun h => hli h.1)]
     exact again _ (i + 1, o) ⟨by show i + 1 ≤ zp.length; omega, hgn⟩ (by show zp.length - (i + 1) < zp.length - i; omega) ⟨rfl, rfl, congrArg (fun h : List Int => some (Value.slice (o).1 h.length (o).2)) hs2.symm, rfl, rfl, rfl, trivial⟩ (.refl _) ⟨by show Row (o).1 (rows (((combos (m + 1) (upI 0 cs.length)).take (i + 1)).foldl (fillS cs room) (fillO cs room m)).1) ∈ _; rw [hs2]; exact mB, mB, mB, trivial⟩
   ·have hb3' := hb3; try simp at hb3'
    obtain rfl : i = zp.length := by omega
    refine hc_exit (then_exit (then_exit (inb_hit (inb_n (then_n (hc_region (r_move rfl rfl ?_))))))); refine r_add _ rfl rfl rfl rfl (by unfold I64; omega) ?_; refine r_assign rfl rfl (hl_nil ?_); have hfo : (fillO cs room (m + 1)) = (((combos (m + 1) (upI 0 cs.length)).take zp.length).foldl (fillS cs room) (fillO cs room m)) := by rw [hzl, List.take_length]; rfl
    exact again _ (m + 1, o) ⟨by show m + 1 ≤ cs.length; omega, by show GoodS cs (fillO cs room (m + 1)); rw [hfo]; exact hgs⟩ (by show cs.length - (m + 1) < cs.length - m; omega) ⟨rfl, rfl, congrArg (fun h : Hn => some (Value.slice o.1 h.1.length o.2)) hfo.symm, rfl, trivial⟩ (.refl _) ⟨by show Row o.1 (rows (fillO cs room (m + 1)).1) ∈ _; rw [hfo]; exact mB, mB, trivial⟩
  ·have hb2' := hb2; try simp at hb2'
   obtain rfl : m = cs.length := by omega
   have hgl := hg.l; have hgb := hg.b; have hfe := fill_e h0; refine hc_exit (then_exit (then_exit (inb_hit (then_n (hc_seq (hc_region (r_move rfl rfl (r_move rfl rfl (r_move rfl rfl ?_))))))))); refine hl_call F.ref09_worth_cb rfl rfl (ref09_worth_meets cs (fillO cs room cs.length).1 hcd hgb (by omega)) (List.Perm.refl _) ⟨mB, mB, trivial⟩ fun _ _ => ?_; refine r_assign rfl rfl (r_assign rfl rfl (r_assign rfl rfl (hl_nil (then_n (hc_ret ?_))))); have hgw : (priL cs (fillO cs room cs.length).1).sum = (fillO cs room cs.length).2.2 := (congrArg (fun h : Hn => h.2.2) hg.e).symm; exact ret3 o rfl rfl rfl rfl (by show Value.tuple #[.slice o.1 (fillE cs room).1.length o.2, int (fillE cs room).2.1, int (fillE cs room).2.2] = _; rw [hfe, ← hgw]) rfl trivial (List.nil_sublist _) (by show LSub _ [Row o.1 (rows (fillE cs room).1)]; rw [hfe]; exact ⟨mB, trivial⟩)
theorem ref09_Exact_meets {A : Option Addr} {ca : Nat} (cs : List Cd) (room : Int) (hn : cs.length ≤ 1000000) : Meets Try.prog F.ref09_Exact [.slice A cs.length ca, int room] { LI := [Row A (rows cs)], val := fun x : OutC => .tuple #[.slice x.1 (exactE cs room).1.length x.2, int (exactE cs room).2], LO := fun x => [Row x.1 (rows (exactE cs room).1)] } := by
 refine meets_intro F.ref09_Exact_f rfl (Nat.le_of_ble_eq_true rfl) fun w0 => ?_; refine hc_seq (hc_region (r_assign rfl rfl (r_assign rfl rfl (hl_nil (then_n (hc_seq (hc_seq (hc_region (r_move rfl rfl (r_move rfl rfl ?_)))))))))); refine hl_call F.ref09_checkCards_cb rfl rfl (ref09_checkCards_meets cs room hn) (List.Perm.refl _) ⟨mB, trivial⟩ fun _ _ => ?_; refine r_assign rfl rfl (hl_nil (then_n (hc_seq (hc_region (r_move rfl rfl (r_neq rfl rfl rfl (hl_nil (then_n ?_)))))))); refine c_dec rfl (fun hb1 => ?_) (fun hb1 => ?_)
 ·have hb1' := hb1; try simp at hb1'
  refine hc_seq (hc_region (r_move rfl rfl (r_assign rfl rfl (r_assign rfl rfl (hl_nil (then_n (hc_ret (then_ret ?_)))))))); refine hq_nilrow (α := Int) ?_; exact ret2 (none, 0) rfl rfl rfl (by show Value.tuple #[.slice (none) (exactE cs room).1.length (0), int (exactE cs room).2] = _; rw [exactE, if_pos hb1]; rfl) rfl trivial (List.nil_sublist _) (by show LSub _ [Row (none) (rows (exactE cs room).1)]; rw [exactE, if_pos hb1]; exact ⟨m0, trivial⟩)
 ·have hb1' := hb1; try simp at hb1'
  have h0 : cardsE cs room = 0 := Classical.not_not.1 hb1; have hcs := cards_ok9 h0; obtain ⟨h8, hcd, hro⟩ := hcs; refine hc_skip (then_n (hc_seq (hc_seq (hc_region (r_assign rfl rfl (hl_nil (then_n (hc_block ?_)))))))); refine hc_loop (β := Nat) ⟨fun m => m ≤ cs.length + 1 ∧ ∀ c : List Int, c.Sublist (upI 0 cs.length) → c.length < m → ¬ (handL cs c).2.1 = room, fun m => [(0, .slice A cs.length ca), (1, int room), (7, int m)], fun _ => [], fun _ => [Row A (rows cs)]⟩ (fun m => cs.length + 1 - m) 0 ⟨Nat.zero_le _, fun c _ h => absurd h (Nat.not_lt_zero _)⟩ ⟨rfl, rfl, rfl, trivial⟩ (List.nil_sublist _) ⟨mB, trivial⟩ fun m hm => ?_; obtain ⟨hm, hno⟩ := hm; refine hc_seq (hc_seq (hc_region (r_move rfl rfl (r_move rfl rfl ?_)))); refine r_len_sl rfl T.u_L_api_Card rfl ?_; refine r_leq rfl rfl rfl (hl_nil (then_n ?_)); refine c_dec rfl (fun hb2 => ?_) (fun hb2 => ?_)
  ·have hb2' := hb2; try simp at hb2'
   have hm2 : m ≤ cs.length := by omega
   refine hc_skip (then_n (hc_seq (hc_block (hc_seq (hc_region (r_move rfl rfl ?_)))))); refine r_len_sl rfl T.u_L_api_Card rfl ?_; refine r_move rfl rfl ?_; refine hl_call F.ref09_Picks_cb rfl rfl (ref09_Picks_meets cs.length (by omega) (m) 0 (by omega) (by omega)) (List.Perm.refl _) trivial fun y hz => ?_; obtain ⟨zp, ZA, zc⟩ := y; change lsts zp = _ at hz; have hzl : zp.length = (combos (m) (upI 0 cs.length)).length := by rw [← lsts_len, hz]
   have hzb : zp.length ≤ 256 := by have h9 := combos_pow (upI 0 cs.length) (m); rw [upI_len] at h9; have h8 : 2 ^ (cs.length - 0) ≤ 2 ^ 8 := Nat.pow_le_pow_right (by decide) (by omega); omega
   refine r_assign rfl rfl (hl_nil (then_n (hc_seq (hc_region (r_assign rfl rfl (hl_nil (then_n (hc_block ?_)))))))); refine hc_loop (β := Nat) ⟨fun i => i ≤ zp.length ∧ ∀ j, j < i → ¬ (handL cs ((combos m (upI 0 cs.length)).getD j default)).2.1 = room, fun i => [(0, .slice A cs.length ca), (1, int room), (7, int m), (8, .slice ZA zp.length zc), (9, int i)], fun _ => [], fun _ => [Rows2 ZA zp, Row A (rows cs)]⟩ (fun i => zp.length - i) 0 ⟨Nat.zero_le _, fun j h => absurd h (Nat.not_lt_zero _)⟩ ⟨rfl, rfl, rfl, rfl, rfl, trivial⟩ (.refl _) ⟨mB, mB, trivial⟩ fun i hi => ?_; obtain ⟨hi, hnj⟩ := hi; refine hc_seq (hc_seq (hc_region (r_move rfl rfl (r_move rfl rfl ?_)))); refine r_len_sl rfl T.u_intss rfl ?_; refine r_lss rfl rfl rfl (hl_nil (then_n ?_)); refine c_dec rfl (fun hb3 => ?_) (fun hb3 => ?_)
   ·have hb3' := hb3; try simp at hb3'
    have hi2 : i < zp.length := by omega
    have hcl : i < (combos (m) (upI 0 cs.length)).length := by omega
    have hpl : (zp.getD i default).l = (combos (m) (upI 0 cs.length)).getD i default := by rw [← lsts_at zp hi2, hz]; rfl
    have hpc : (zp.getD i default).l ∈ combos (m) (upI 0 cs.length) := by rw [hpl]; exact getD_mem hcl
    have hps := combos_sub hpc; have hpb : ∀ v ∈ (zp.getD i default).l, 0 ≤ v ∧ v < (cs.length : Int) := fun v hv => by have := upI_mem (hps.subset hv); omega
    have hplen : (zp.getD i default).l.length ≤ cs.length := by have := hps.length_le; rw [upI_len] at this; omega
    refine hc_skip (then_n (hc_seq (hc_block (hc_seq (hc_region (r_move rfl rfl (r_move rfl rfl (r_move rfl rfl ?_)))))))); refine hl_outer (A := ZA) (ps := zp) mB ?_; refine r_elem (α := Sl Int) zp i rfl T.u_intss T.sz_ints rfl rfl rfl mB rfl hi2 (by decide) ?_; refine r_load (v := .slice (zp.getD i default).a (zp.getD i default).l.length (zp.getD i default).c) rfl T.cell_ints rfl (cell_row mB (rows_get0 hi2 rfl)) ?_; refine hl_inner (A := ZA) (ps := zp) (p := (zp.getD i default)) mB (getD_mem hi2) ?_; refine hl_call F.ref09_lines_cb rfl rfl (ref09_lines_meets cs (zp.getD i default).l hcd hpb (by omega)) (List.Perm.refl _) ⟨mB, mB, trivial⟩ fun _ _ => ?_; refine r_move rfl rfl (r_eql rfl rfl rfl (hl_nil (then_n ?_))); refine c_dec rfl (fun hb4 => ?_) (fun hb4 => ?_)
    ·have hb4' := hb4; try simp at hb4'
     have hbest := first_best hcl hno hnj (by rw [← hpl]; exact hb4); rw [← hpl] at hbest; have hEx := exact_some h0 hbest; refine hc_seq (hc_region (r_move rfl rfl (r_move rfl rfl ?_))); refine hl_outer (A := ZA) (ps := zp) mB ?_; refine r_elem (α := Sl Int) zp i rfl T.u_intss T.sz_ints rfl rfl rfl mB rfl hi2 (by decide) ?_; refine r_load (v := .slice (zp.getD i default).a (zp.getD i default).l.length (zp.getD i default).c) rfl T.cell_ints rfl (cell_row mB (rows_get0 hi2 rfl)) ?_; refine hl_inner (A := ZA) (ps := zp) (p := (zp.getD i default)) mB (getD_mem hi2) ?_; refine r_assign rfl rfl (r_assign rfl rfl (hl_nil (then_n (hc_ret (inb_ret (then_ret (then_ret (inb_ret (inb_ret (then_ret (then_ret ?_))))))))))); refine inb_ret (then_ret ?_); exact ret2 ((zp.getD i default).a, (zp.getD i default).c) rfl rfl rfl (by show Value.tuple #[.slice ((zp.getD i default).a) (exactE cs room).1.length ((zp.getD i default).c), int (exactE cs room).2] = _; rw [hEx]; rfl) rfl trivial (List.nil_sublist _) (by show LSub _ [Row ((zp.getD i default).a) (rows (exactE cs room).1)]; rw [hEx]; exact ⟨mB, trivial⟩)
    ·have hb4' := hb4; try simp at hb4'
     refine hc_skip (inb_n (then_n (hc_region (r_move rfl rfl ?_)))); refine r_add _ rfl rfl rfl rfl (by unfold I64; omega) ?_; refine r_assign rfl rfl (hl_nil ?_)
     exact again _ (i + 1) ⟨by show i + 1 ≤ zp.length; omega, fun j hj => (Nat.lt_or_ge j i).elim (hnj j) fun h => by
       have e : j = i := by omega
       rw [e, ← hpl]
       exact hb4⟩ (by show zp.length - (i + 1) < zp.length - i; omega) ⟨rfl, rfl, rfl, rfl, rfl, trivial⟩ (.refl _) ⟨mB, mB, trivial⟩
   ·have hb3' := hb3; try simp at hb3'
    obtain rfl : i = zp.length := by omega
    refine hc_exit (then_exit (then_exit (inb_hit (inb_n (then_n (hc_region (r_move rfl rfl ?_))))))); refine r_add _ rfl rfl rfl rfl (by unfold I64; omega) ?_; refine r_assign rfl rfl (hl_nil ?_)
    exact again _ (m + 1) ⟨by show m + 1 ≤ cs.length + 1; omega, fun c hc hl => (Nat.lt_or_ge c.length m).elim (hno c hc) fun h => by
      have h5 := combos_mem hc; rw [show c.length = m by omega] at h5; obtain ⟨j, hj, e⟩ := List.getElem_of_mem h5; have h6 := hnj j (by omega); rw [getD_at hj, e] at h6
      exact h6⟩ (by show cs.length + 1 - (m + 1) < cs.length + 1 - m; omega) ⟨rfl, rfl, rfl, trivial⟩ (.refl _) ⟨mB, trivial⟩
  ·have hb2' := hb2; try simp at hb2'
   have hEx := exact_none h0 (fun c hc => hno c hc (by have := hc.length_le; rw [upI_len] at this; omega)); refine hc_exit (then_exit (then_exit (inb_hit (then_n (hc_seq (hc_region (r_assign rfl rfl (r_assign rfl rfl (hl_nil (then_n (hc_ret ?_))))))))))); refine hq_nilrow (α := Int) ?_; exact ret2 (none, 0) rfl rfl rfl (by show Value.tuple #[.slice (none) (exactE cs room).1.length (0), int (exactE cs room).2] = _; rw [hEx]; rfl) rfl trivial (List.nil_sublist _) (by show LSub _ [Row (none) (rows (exactE cs room).1)]; rw [hEx]; exact ⟨m0, trivial⟩)
end Go.Proofs.Ytdlbbfcfahahdaa
end
