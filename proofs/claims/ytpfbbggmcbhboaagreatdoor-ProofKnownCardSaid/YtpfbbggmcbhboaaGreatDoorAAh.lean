/- Texts. -/

import Derived.Test.YtpfbbggmcbhboaaGreatDoorAAg
set_option linter.unusedVariables false
set_option linter.unusedSimpArgs false
section
namespace Go.Proofs.YtpfbbggmcbhboaaGreatDoor
open Go Go.W Tryz T F
set_option maxRecDepth 20000
attribute [local irreducible] HL HC HQ HB Row Rows2 Blk Facts
def behindP (x : Lst) (m : Mk) : Lst := (if m.1 = 3 then x.1 else x.1 + 1, m :: x.2)
def leastP (f : Lst) (l : List Lst) : Lst := l.foldl (fun f x => if cmpL x f < 0 then x else f) f
def leastOf : List Lst → Lst
  | [] => (0, [])
  | f :: l => leastP f l
def diffP (old page : List Str) (i j : Nat) : Lst :=
  leastOf ((if i = old.length ∧ j = page.length then [(0, [])] else []) ++
    (if h : j < page.length then [behindP (diffP old page i (j + 1)) (1, (i : Int), page.getD j default)] else []) ++
    (if h : i < old.length then [behindP (diffP old page (i + 1) j) (3, (i : Int), [])] else []) ++
    (if h : i < old.length ∧ j < page.length then behindP (diffP old page (i + 1) (j + 1)) (2, (i : Int), page.getD j default) :: (if old.getD i default = page.getD j default then [diffP old page (i + 1) (j + 1)] else []) else []))
termination_by (old.length - i) + (page.length - j)
decreasing_by all_goals omega
theorem mj5 (f : Lst) (l : List Lst) : leastP f l ∈ f :: l := by
  unfold leastP
  induction l generalizing f with
  | nil => simp
  | cons x l ih =>
    rw [List.foldl_cons]; have := ih (if cmpL x f < 0 then x else f)
    rcases List.mem_cons.1 this with h | h
    · rw [h]; split <;> simp
    simp [h]
theorem kz1 {l : List Lst} (h : l ≠ []) : leastOf l ∈ l := by
  cases l with
  | nil => exact absurd rfl h
  | cons f l => exact mj5 f l
theorem mj4 (f : LstV) (l : List LstV) : (leastV f l).dat = leastP f.dat (l.map LstV.dat) := by
  unfold leastV leastP
  induction l generalizing f with
  | nil => rfl
  | cons x l ih =>
    rw [List.foldl_cons, ih, List.map_cons, List.foldl_cons]
    congr 1
    split <;> rfl
theorem pj0 {f : LstV} {l : List LstV} {c : List Lst} (h : (f :: l).map LstV.dat = c) : (leastV f l).dat = leastOf c := by
  rw [← h, mj4]; rfl
theorem lj6 (old page : List Str) : ∀ (d i j : Nat), (old.length - i) + (page.length - j) ≤ d → 0 ≤ (diffP old page i j).1 ∧ (diffP old page i j).1 ≤ (old.length - i : Nat) + (page.length - j : Nat) ∧ (diffP old page i j).2.length ≤ (old.length - i) + (page.length - j) := by
  intro d
  induction d with
  | zero =>
    intro i j h; unfold diffP; rw [dif_neg (by omega), dif_neg (by omega), dif_neg (by omega)]
    split <;> simp [leastOf, leastP] <;> omega
  | succ d ih =>
    intro i j h
    have key : ∀ c : List Lst, (∀ x ∈ c, 0 ≤ x.1 ∧ x.1 ≤ (old.length - i : Nat) + (page.length - j : Nat) ∧ x.2.length ≤ (old.length - i) + (page.length - j)) → 0 ≤ (leastOf c).1 ∧ (leastOf c).1 ≤ (old.length - i : Nat) + (page.length - j : Nat) ∧ (leastOf c).2.length ≤ (old.length - i) + (page.length - j) := by
      intro c hc
      by_cases hn : c = []
      · subst hn; simp [leastOf]; omega
      exact hc _ (kz1 hn)
    have bh : ∀ (x : Lst) (m : Mk) (N : Nat), 0 ≤ x.1 ∧ x.1 ≤ (N : Int) ∧ x.2.length ≤ N → 0 ≤ (behindP x m).1 ∧ (behindP x m).1 ≤ ((N + 1 : Nat) : Int) ∧ (behindP x m).2.length ≤ N + 1 := by
      intro x m N hx; unfold behindP; refine ⟨?_, ?_, ?_⟩
      · simp only; split <;> omega
      · simp only; split <;> omega
      simp only [List.length_cons]; omega
    unfold diffP; refine key _ fun x hx => ?_; simp only [List.mem_append] at hx
    rcases hx with ((hx | hx) | hx) | hx
    · split at hx
      · simp at hx; subst hx; simp; omega
      simp at hx
    · split at hx
      · rename_i hj
        simp at hx; subst hx
        have := bh (diffP old page i (j + 1)) (1, (i : Int), page.getD j default) ((old.length - i) + (page.length - (j + 1))) (by have := ih i (j + 1) (by omega); omega); have e : page.length - j = page.length - (j + 1) + 1 := by omega
        simp only [List.getD_eq_getElem?_getD] at this
        omega
      simp at hx
    · split at hx
      · rename_i hj
        simp at hx; subst hx
        have := bh (diffP old page (i + 1) j) (3, (i : Int), ([] : Str)) ((old.length - (i + 1)) + (page.length - j)) (by have := ih (i + 1) j (by omega); omega)
        omega
      simp at hx
    split at hx
    · rename_i hj
      have h2 := ih (i + 1) (j + 1) (by omega)
      rcases List.mem_cons.1 hx with hx | hx
      · subst hx
        have := bh (diffP old page (i + 1) (j + 1)) (2, (i : Int), page.getD j default) ((old.length - (i + 1)) + (page.length - (j + 1))) (by omega)
        omega
      split at hx
      · simp at hx; subst hx; omega
      simp at hx
    simp at hx
abbrev Memo := List (Ment (Int × Int))
def MI (old page : List Str) (l : Memo) (Fs : List Fact) : Prop := ∀ e ∈ l, ∃ (x : LstV) (i j : Nat), e.2.1 = x.v ∧ x.row ∈ Fs ∧ e.1 = ((i : Int), (j : Int)) ∧ x.dat = diffP old page i j
theorem MI.mono {old page : List Str} {l : Memo} {Fs Gs : List Fact} (h : MI old page l Fs) (hs : ∀ F ∈ Fs, F ∈ Gs) : MI old page l Gs := fun e he => by
  obtain ⟨x, i, j, h1, h2, h3⟩ := h e he; exact ⟨x, i, j, h1, hs _ h2, h3⟩
theorem MI.get {old page : List Str} {l : Memo} {Fs : List Fact} (h : MI old page l Fs) {i j : Nat} {v : Value} (hv : getM l ((i : Int), (j : Int)) = some v) : ∃ x : LstV, v = x.v ∧ x.row ∈ Fs ∧ x.dat = diffP old page i j := by
  obtain ⟨e, he, h1, h2⟩ := lj0 hv; obtain ⟨x, i', j', h3, h4, h5, h6⟩ := h e he; rw [h1] at h5; simp only [Prod.mk.injEq, Int.natCast_inj] at h5; obtain ⟨rfl, rfl⟩ := h5; exact ⟨x, h2 ▸ h3, h4, h6⟩
theorem MI.put {old page : List Str} {l : Memo} {Fs : List Fact} (h : MI old page l Fs) {i j clk : Nat} {x : LstV} (hx : x.row ∈ Fs) (hd : x.dat = diffP old page i j) : MI old page (putM l ((i : Int), (j : Int)) x.v clk) Fs := fun e he => by
  rcases rj9 he with ⟨h1, h2⟩ | he
  · exact ⟨x, i, j, h2, hx, h1, hd⟩
  exact h e he
theorem zv_list (w : World) : (zeroValue u4).run prog w = .ok (.agg #[int 0, .slice none 0 0]) w := n5
abbrev KP : KeyC prog G6 pair := KeyC.pair kj1 V7 J2
def capV (gk go gp gf : Nat) : Value := .func (.func bH) #[] #[.pointer (k5 gk), .pointer (k5 go), .pointer (k5 gp), .pointer (k5 gf)]
def cellsD (gk gm go gp gf : Nat) (A B : Option Addr) (n ca m cb : Nat) : List Fact :=
  [Blk gk (.cells #[.map (some gm)] J3 (0, 0)), Blk go (.cells #[.slice A n ca] gR (0, 0)), Blk gp (.cells #[.slice B m cb] gR (0, 0)), Blk gf (.cells #[capV gk go gp gf] M2 (0, 0))]
def diffCon (gk gm go gp gf : Nat) (A B : Option Addr) (ca cb : Nat) (old page : List Str) (l : Memo) (clk : Nat) (Fs : List Fact) (i j : Nat) : Con (Memo × Nat × List Fact × LstV) :=
  { hpI := [(gm, mapO pair l clk)], LI := Facts Fs :: Row A (rows old) :: Row B (rows page) :: cellsD gk gm go gp gf A B old.length ca page.length cb,
    inv := fun x => MI old page x.1 x.2.2.1 ∧ x.2.2.2.dat = diffP old page i j, val := fun x => x.2.2.2.v, hpO := fun x => [(gm, mapO pair x.1 x.2.1)], LO := fun x => [x.2.2.2.row, Facts x.2.2.1] }
def argD (gk go gp gf : Nat) (i j : Nat) : List Value := [int i, int j, .pointer (k5 gk), .pointer (k5 go), .pointer (k5 gp), .pointer (k5 gf)]
def cand0 (old page : List Str) (i j : Nat) : List Lst := if i = old.length ∧ j = page.length then [(0, [])] else []
def cand1 (old page : List Str) (i j : Nat) : List Lst := cand0 old page i j ++ (if j < page.length then [behindP (diffP old page i (j + 1)) (1, (i : Int), page.getD j default)] else [])
def cand2 (old page : List Str) (i j : Nat) : List Lst := cand1 old page i j ++ (if i < old.length then [behindP (diffP old page (i + 1) j) (3, (i : Int), [])] else [])
def cand3 (old page : List Str) (i j : Nat) : List Lst := cand2 old page i j ++ (if i < old.length ∧ j < page.length then behindP (diffP old page (i + 1) (j + 1)) (2, (i : Int), page.getD j default) :: (if old.getD i default = page.getD j default then [diffP old page (i + 1) (j + 1)] else []) else [])
theorem sq6 (old page : List Str) (i j : Nat) : diffP old page i j = leastOf (cand3 old page i j) := by
  rw [diffP]; simp only [dite_eq_ite, cand3, cand2, cand1, cand0]
theorem bdV {old page : List Str} {x : LstV} {i j : Nat} (h : x.dat = diffP old page i j) (ho : old.length ≤ 1000) (hp : page.length ≤ 1000) : (0 ≤ x.1 ∧ x.1 ≤ 1000000) ∧ x.2.l.length ≤ 1000000 := by
  have := lj6 old page _ i j (Nat.le_refl _); rw [← h] at this; obtain ⟨h1, h2, h3⟩ := this; simp only [LstV.dat] at h1 h2 h3; exact ⟨⟨h1, by omega⟩, by omega⟩
theorem pm8 {α : Type} (l : List α) (a b c : α) : ((a :: l) ++ [b, c]).Perm (l ++ [a, b, c]) := C0 fun p => by simp only [List.countP_append, List.countP_cons, List.countP_nil]; omega
theorem pm9 {α : Type} (l : List α) (s a b c : α) : (s :: a :: (l ++ [b, c])).Perm (l ++ [s, a, b, c]) := C0 fun p => by simp only [List.countP_append, List.countP_cons, List.countP_nil]; omega
theorem pm10 {α : Type} (l : List α) (a b c d : α) : (l ++ [a, b, c, d]).Perm (a :: (l ++ [b, c, d])) := C0 fun p => by simp only [List.countP_append, List.countP_cons, List.countP_nil]; omega
theorem pm11 {α : Type} (l : List α) (s a b c d : α) : (s :: a :: (l ++ [b, c, d])).Perm (l ++ [s, a, b, c, d]) := C0 fun p => by simp only [List.countP_append, List.countP_cons, List.countP_nil]; omega
theorem sx3 {old page : List Str} {i j : Nat} (hi : i ≤ old.length) (hj : j ≤ page.length) : cand3 old page i j ≠ [] := by
  unfold cand3 cand2 cand1 cand0
  by_cases h1 : j < page.length
  · simp [h1]
  by_cases h2 : i < old.length
  · simp [h2]
  have e1 : i = old.length := by omega
  have e2 : j = page.length := by omega
  simp [e1, e2]
theorem sx4 {old page : List Str} {i j : Nat} (ho : old.length ≤ 1000) (hp : page.length ≤ 1000) : ∀ x ∈ cand3 old page i j, x.2.length ≤ 1000000 := by
  have b : ∀ a b, (diffP old page a b).2.length ≤ 2000 := fun a b => by have := (lj6 old page _ a b (Nat.le_refl _)).2.2; omega
  intro x hx; unfold cand3 cand2 cand1 cand0 at hx; simp only [List.mem_append] at hx
  rcases hx with ((hx | hx) | hx) | hx
  · split at hx <;> simp at hx
    subst hx; simp
  · split at hx <;> simp at hx
    subst hx; have := b i (j + 1); simp only [behindP, List.length_cons]; omega
  · split at hx <;> simp at hx
    subst hx; have := b (i + 1) j; simp only [behindP, List.length_cons]; omega
  split at hx
  · rcases List.mem_cons.1 hx with hx | hx
    · subst hx; have := b (i + 1) (j + 1); simp only [behindP, List.length_cons]; omega
    split at hx <;> simp at hx
    subst hx; have := b (i + 1) (j + 1); omega
  simp at hx
theorem iq5 (old page : List Str) (i j : Nat) : (cand2 old page i j).length ≤ 3 := by
  have h1 : ∀ (p : Prop) [Decidable p] (x : Lst), (if p then [x] else []).length ≤ 1 := by intro p _ x; split <;> simp
  unfold cand2 cand1 cand0; rw [List.length_append, List.length_append]; have a := h1 (i = old.length ∧ j = page.length) (0, []); have b := h1 (j < page.length) (behindP (diffP old page i (j + 1)) (1, (i : Int), page.getD j default)); have c := h1 (i < old.length) (behindP (diffP old page (i + 1) j) (3, (i : Int), []))
  omega
structure DSt where
  l : Memo
  clk : Nat
  Fs : List Fact
  cs : List LstV
  o : OutC
  og : Hp
def dInv (old page : List Str) (c : List Lst) (x : DSt) : Prop := MI old page x.l x.Fs ∧ x.cs.map LstV.dat = c ∧ Grow u4 2 x.o.1 x.cs.length x.o.2 (rows x.cs) x.og ∧ (∀ y ∈ x.cs, y.row ∈ x.Fs) ∧ x.cs.length ≤ 10
abbrev dSta (gk gm go gp gf g8 g9 : Nat) (A B : Option Addr) (ca cb : Nat) (old page : List Str) (i j : Nat) (c : List Lst) : Sta DSt :=
  { inv := dInv old page c
    fr := fun x => [(0, int i), (1, int j), (2, .pointer (k5 gk)), (3, .pointer (k5 go)), (4, .pointer (k5 gp)), (5, .pointer (k5 gf)), (8, .pointer (k5 g8)), (9, .pointer (k5 g9)), (12, .slice x.o.1 x.cs.length x.o.2)]
    hp := fun x => (gm, mapO pair x.l x.clk) :: (x.og ++ [(g8, .cells #[int 0, .slice none 0 0] u4 (0, 0)), (g9, .cells #[int i, int j] G6 (0, 0))])
    L := fun x => Facts x.Fs :: Row A (rows old) :: Row B (rows page) :: cellsD gk gm go gp gf A B old.length ca page.length cb }
theorem wK {gk gm go gp gf : Nat} {A B : Option Addr} {ca cb : Nat} {old page : List Str} (ho : old.length ≤ 1000) (hpl : page.length ≤ 1000) (d : Nat) : ∀ (i j : Nat) (l : Memo) (clk : Nat) (Fs : List Fact), (old.length - i) + (page.length - j) < d → i ≤ old.length → j ≤ page.length → MI old page l Fs →
    Meets prog bH (argD gk go gp gf i j) (diffCon gk gm go gp gf A B ca cb old page l clk Fs i j) := by
 induction d
 case zero => intro i j l clk Fs hd; omega
 rename_i d ih
 intro i j l clk Fs hd hi hj hM; refine i3 zD rfl q6 fun w0 => c7 (y9 rfl (fun _ => H5 _) fun g8 => ?_); refine n7 (b7 rfl (b7 rfl ?_)); refine A9 _ rfl rfl (fun _ => aj4 ..) (y9 rfl (fun _ => ix4 _) fun g9 => u0 rfl rfl M6 I3 (by rfl) (by rfl) ?_); refine b8 (yR ?_)
 obtain ⟨y, b, hv, hb, hy⟩ : ∃ (y : LstV) (b : Bool), (getM l ((i : Int), (j : Int))).getD (.agg #[int 0, .slice none 0 0]) = y.v ∧ (getM l ((i : Int), (j : Int))).isSome = b ∧ (b = true → y.row ∈ Fs ∧ y.dat = diffP old page i j) := by
   cases hg : getM l ((i : Int), (j : Int)) with
   | none => exact ⟨(0, ⟨none, 0, []⟩), false, rfl, rfl, by intro h; cases h⟩
   | some v =>
     obtain ⟨y, rfl, h1, h2⟩ := hM.get hg; exact ⟨y, true, rfl, rfl, fun _ => ⟨h1, h2⟩⟩
 refine i4 ?_
 first | refine b6 rfl p7 rfl (i5 mB rfl) ?_ | refine b6 rfl p7 rfl (j4 mB rfl) ?_ | refine b6 rfl p7 rfl (i9 mB (d7 (by omega) rfl)) ?_ | refine b6 rfl p7 rfl (i7 mB (rows_get (by omega) rfl)) ?_
 first | refine C8 rfl I4 I3 rfl mB (by rfl) ?_ | refine D6 rfl I4 I3 rfl mB (by rfl) ?_ | refine u3 rfl I4 I3 rfl rfl (q8 mB (s6 (by omega))) ?_
 refine hz8 (k := ((i : Int), (j : Int))) _ _ b KP rfl N6 rfl rfl (V2 m2) zv_list hv hb ?_; refine b7 rfl (j6 rfl rfl rfl (j6 rfl rfl rfl ?_)); refine y9 rfl (fun _ => H5 _) fun g10 => u0 rfl rfl M6 j7 (by rfl) (by rfl) ?_; refine c3 rfl (n7 (b7 rfl (b8 ?_)))
 first | refine k8 rfl (fun hb1 => ?_) (fun hb1 => ?_) | refine d9 rfl (fun hb1 => ?_) (fun hb1 => ?_)
 ·have hb1' := hb1; try simp at hb1'
  obtain ⟨hy1, hy2⟩ := hy hb1; refine c7 ?_
  first | refine C8 rfl k7 j7 rfl mB (by rfl) ?_ | refine D6 rfl k7 j7 rfl mB (by rfl) ?_ | refine u3 rfl k7 j7 rfl rfl (q8 mB (s6 (by omega))) ?_
  refine u0 rfl rfl M6 j7 (by rfl) (by rfl) ?_; refine b8 (D4 ?_); refine hq_pick (F := y.row) m0 hy1 ?_; exact lL (l, clk, Fs, y) rfl rfl k7 j7 rfl m0 rfl rfl ⟨hM, hy2⟩ (.cons _ (.cons _ (.cons _ (.refl _)))) ⟨m0, m1, tK⟩
 have hb1' := hb1; try simp at hb1'
 refine d8 (d4 (c7 (c3 rfl (b8 ?_)))); refine dz6 (dSta gk gm go gp gf g8 g9 A B ca cb old page i j (cand0 old page i j)) ?_ ?_
 ·skip
  refine c7 (b7 rfl ?_)
  first | refine b6 rfl j1 rfl (i5 mB rfl) ?_ | refine b6 rfl j1 rfl (j4 mB rfl) ?_ | refine b6 rfl j1 rfl (i9 mB (d7 (by omega) rfl)) ?_ | refine b6 rfl j1 rfl (i7 mB (rows_get (by omega) rfl)) ?_
  refine l8 rfl r5 rfl ?_; refine E3 rfl rfl rfl (b7 rfl ?_); refine n6 rfl rfl ?_ ?_
  ·intro hg1; have hg1' := hg1; try simp at hg1'
   refine k9 hg1 (b7 rfl (k9 hg1 ?_))
   first | refine b6 rfl j1 rfl (i5 mB rfl) ?_ | refine b6 rfl j1 rfl (j4 mB rfl) ?_ | refine b6 rfl j1 rfl (i9 mB (d7 (by omega) rfl)) ?_ | refine b6 rfl j1 rfl (i7 mB (rows_get (by omega) rfl)) ?_
   refine k9 hg1 (l8 rfl r5 rfl ?_); refine k9 hg1 (E3 rfl rfl rfl ?_); refine p_t rfl rfl (bt1 hg1) rfl (b8 ?_)
   first | refine k8 rfl (fun hb2 => ?_) (fun hb2 => ?_) | refine d9 rfl (fun hb2 => ?_) (fun hb2 => ?_)
   ·have hb2' := hb2; try simp at hb2'
    refine i4 (b7 rfl ?_); refine A9 _ rfl rfl (fun _ => xQ ..) (j8 _ rfl rfl (fun _ => I7 ..) fun gS => ?_); refine E7 1 (rows [((0, ⟨none, 0, []⟩) : LstV)]) M3 rfl rfl rfl (Grow.nil _ _) (.refl _) (Src.own (m := 1) m0 rfl rfl) rfl rfl (by decide) (by decide) fun A' c' og' hG' => ?_; refine c3 rfl (d6 ?_); refine M0 (α := Mk) ?_
    refine tN (Fs := Row none (rows ([] : List Mk)) :: Fs) (fun F hF => by
      rcases List.mem_cons.1 hF with rfl | hF
      · exact .inl m0
      exact .inr ⟨Fs, m1, hF⟩) ?_
    exact uH _ ⟨l, clk, _, [(0, ⟨none, 0, []⟩)], (A', c'), og'⟩ ⟨hM.mono (fun _ h => List.mem_cons_of_mem _ h), by rw [cand0, if_pos (by omega)]; rfl, hG', by simp [LstV.row], by simp⟩ mC (fun p => by simp only [int, G6, u4, diffCon, dSta, List.countP_append, List.countP_cons, List.countP_nil]; omega) ⟨m0, m3, m4, m5, m6, m7, m8, tK⟩
   have hb2' := hb2; try simp at hb2'
   refine d8 ?_; exact uH _ ⟨l, clk, Fs, [], (none, 0), []⟩ ⟨hM, by rw [cand0, if_neg (by omega)]; rfl, Grow.nil _ _, by simp, by simp⟩ mC (fun p => by simp only [int, G6, u4, diffCon, dSta, List.countP_append, List.countP_cons, List.countP_nil]; omega) ⟨m0, m1, m2, m3, m4, m5, m6, tK⟩
  intro hg1; have hg1' := hg1; try simp at hg1'
  refine u2 hg1 (u2 hg1 (u2 hg1 (u2 hg1 ?_))); refine p_f rfl rfl (bf2 hg1) rfl ?_; refine b8 (c_f rfl rfl (d8 ?_)); exact uH _ ⟨l, clk, Fs, [], (none, 0), []⟩ ⟨hM, by rw [cand0, if_neg (by omega)]; rfl, Grow.nil _ _, by simp, by simp⟩ mC (fun p => by simp only [int, G6, u4, diffCon, dSta, List.countP_append, List.countP_cons, List.countP_nil]; omega) ⟨m0, m1, m2, m3, m4, m5, m6, tK⟩
 refine fun x hx => ?_; obtain ⟨l, clk, Fs, cs, o, og⟩ := x; obtain ⟨hM, hcs, hG, hrow, hlen⟩ := hx; simp only at hM hcs hG hrow hlen; refine dz6 (dSta gk gm go gp gf g8 g9 A B ca cb old page i j (cand1 old page i j)) ?_ ?_
 ·skip
  refine c7 (b7 rfl ?_)
  first | refine b6 rfl j1 rfl (i5 mB rfl) ?_ | refine b6 rfl j1 rfl (j4 mB rfl) ?_ | refine b6 rfl j1 rfl (i9 mB (d7 (by omega) rfl)) ?_ | refine b6 rfl j1 rfl (i7 mB (rows_get (by omega) rfl)) ?_
  refine l8 rfl r5 rfl ?_; refine z8 rfl rfl rfl (b8 ?_)
  first | refine k8 rfl (fun hb3 => ?_) (fun hb3 => ?_) | refine d9 rfl (fun hb3 => ?_) (fun hb3 => ?_)
  ·have hb3' := hb3; try simp at hb3'
   have hj3 : j < page.length := by omega
   refine R6 ((gm, mapO pair l clk) :: og) ([_, _]) l6 14 [5] mixed (by decide) (by decide) (by decide) rfl rfl rfl (v0 rfl ?_)
   apply q9 _ rfl rfl rfl
   ·intro w1
    first | refine b6 rfl l5 rfl (j4 mB rfl) ?_ | refine b6 rfl l5 rfl (i5 mB rfl) ?_ | refine b6 rfl l5 rfl (i9 mB (d7 (by omega) rfl)) ?_ | refine b6 rfl l5 rfl (i7 mB (rows_get (by omega) rfl)) ?_
    refine d6 ?_; exact l3 rfl
   refine v0 rfl (v0 rfl (u9 (fun w1 => v6 ((j + 1 : Nat) : Int) rfl rfl rfl (by omega) r6 (q_z rfl)) ?_)); refine sB ⟨Memo × Nat × List Fact × LstV, fun x => MI old page x.1 x.2.2.1 ∧ x.2.2.2.dat = diffP old page i (j + 1), fun x => x.2.2.2.v, fun x => [x.2.2.2.row, Facts x.2.2.1], fun x => (gm, mapO pair x.1 x.2.1) :: og⟩ rfl rfl rfl ?_ ?_
   ·intro w1; refine V9 (vs := [int i, int ((j + 1 : Nat) : Int)]) V5 rfl rfl rfl (ih i (j + 1) l clk Fs (by omega) hi (by omega) hM) l6 ⟨m0, m1, m2, m3, m4, m5, m6, tK⟩ fun x hx => d6 ?_; exact X2 x hx (fun _ => rfl) (.refl _) ⟨m0, m1, tK⟩
   refine v0 rfl ?_
   apply q9 _ rfl rfl rfl
   ·intro w1
    first | refine b6 rfl j1 rfl (j4 mB rfl) ?_ | refine b6 rfl j1 rfl (i5 mB rfl) ?_ | refine b6 rfl j1 rfl (i9 mB (d7 (by omega) rfl)) ?_ | refine b6 rfl j1 rfl (i7 mB (rows_get (by omega) rfl)) ?_
    refine d6 ?_; exact l3 rfl
   refine v0 rfl (u9 (fun w1 => z5 (α := Str) _ _ rfl r5 z2 rfl rfl rfl mB rfl (by omega) (by decide) (q_z rfl)) (u9 (fun w1 => b6 rfl j5 rfl (i9 mB (d7 (by omega) rfl)) (q_z rfl)) (u9 (fun w1 => A9 _ rfl rfl (fun _ => E6 ..) (q_z rfl)) ?_))); refine lT ⟨LstV, fun y => y.dat = behindP (diffP old page i (j + 1)) (1, (i : Int), page.getD j default), fun y => .agg #[int y.1, .slice y.2.a y.2.l.length y.2.c], fun y => [y.row]⟩ rfl rfl rfl ?_ ?_
   ·intro x hx; intro w1; refine d5 S2 rfl rfl (R3 x.2.2.2 (1, (i : Int), page.getD j default) (bdV hx.2 ho hpl).1 (bdV hx.2 ho hpl).2) l6 ⟨m0, tK⟩ fun o1 ho1 => d6 ?_; exact X3 (_, ⟨o1.1, o1.2, _⟩) (by rw [← hx.2]; rfl) rfl ⟨m0, tK⟩
   refine lT ⟨Nat × LstV, fun z => z.2.dat = behindP (diffP old page i (j + 1)) (1, (i : Int), page.getD j default), fun z => .slice (some ⟨z.1, 0, none⟩) 1 1, fun z => [Row (some ⟨z.1, 0, none⟩) (rows [z.2]), z.2.row]⟩ rfl rfl rfl ?_ ?_
   ·intro y hy; intro w1; refine j8 _ rfl rfl (fun _ => I7 ..) fun gS => d6 (R5 (rows [y]) ⟨[], List.append_nil _⟩ ?_); exact X3 (gS, y) hy rfl ⟨m0, m1, tK⟩
   refine E8 ⟨rfl, ?_⟩; intro x hx y1 hy1 z hz; refine E7 (cs.length + 1) (rows (cs ++ [z.2])) M3 rfl rfl rfl hG (pm8 _ _ _ _) (Src.row (news := rows [z.2]) (m := 1) m0 rfl (aW _) (by decide)) rfl (z7 cs [z.2]).symm (by unfold maxLen; omega) (by omega) fun A' c' og' hG' => ?_; refine c3 rfl (d6 ?_); have hl0 : cs.length ≤ 1 := by have := congrArg List.length hcs; rw [List.length_map] at this; rw [this, cand0]; split <;> simp
   refine tN (Fs := z.2.row :: (x.2.2.1 ++ Fs)) (fun F hF => by
     rcases List.mem_cons.1 hF with rfl | hF
     · exact .inl m1
     rcases List.mem_append.1 hF with hF | hF
     · exact .inr ⟨_, m4, hF⟩
     exact .inr ⟨Fs, m5, hF⟩) ?_
   exact uH _ ⟨x.1, x.2.1, z.2.row :: (x.2.2.1 ++ Fs), cs ++ [z.2], (A', c'), og'⟩ ⟨hx.1.mono (fun F h => by simp [h]), by rw [List.map_append, hcs, cand1, if_pos hj3]; show _ ++ [z.2.dat] = _; rw [show z.2.dat = _ from hz], by rw [B7]; exact hG', fun y hy => by
     rcases List.mem_append.1 hy with h | h
     · simp [hrow y h]
     simp at h; subst h; simp, by rw [B7]; omega⟩ ⟨rfl, rfl, rfl, rfl, rfl, rfl, rfl, rfl, by rw [B7]; rfl, tK⟩ (fun p => by simp only [int, G6, u4, diffCon, dSta, List.countP_append, List.countP_cons, List.countP_nil]; omega) ⟨m0, m7, m8, m9, m10, m11, m12, tK⟩
  have hb3' := hb3; try simp at hb3'
  have hj3 : ¬ j < page.length := by omega
  refine d8 ?_; exact uH _ ⟨l, clk, Fs, cs, o, og⟩ ⟨hM, by rw [hcs, cand1, if_neg hj3, List.append_nil], hG, hrow, hlen⟩ mC (fun p => by simp only [int, G6, u4, diffCon, dSta, List.countP_append, List.countP_cons, List.countP_nil]; omega) ⟨m0, m1, m2, m3, m4, m5, m6, tK⟩
 refine fun x hx => ?_; obtain ⟨l, clk, Fs, cs, o, og⟩ := x; obtain ⟨hM, hcs, hG, hrow, hlen⟩ := hx; simp only at hM hcs hG hrow hlen; refine dz6 (dSta gk gm go gp gf g8 g9 A B ca cb old page i j (cand2 old page i j)) ?_ ?_
 ·skip
  refine c7 (b7 rfl ?_)
  first | refine b6 rfl j1 rfl (i5 mB rfl) ?_ | refine b6 rfl j1 rfl (j4 mB rfl) ?_ | refine b6 rfl j1 rfl (i9 mB (d7 (by omega) rfl)) ?_ | refine b6 rfl j1 rfl (i7 mB (rows_get (by omega) rfl)) ?_
  refine l8 rfl r5 rfl ?_; refine z8 rfl rfl rfl (b8 ?_)
  first | refine k8 rfl (fun hb4 => ?_) (fun hb4 => ?_) | refine d9 rfl (fun hb4 => ?_) (fun hb4 => ?_)
  ·have hb4' := hb4; try simp at hb4'
   have hi4 : i < old.length := by omega
   refine i4 (b7 rfl ?_)
   first | refine b6 rfl l5 rfl (i5 mB rfl) ?_ | refine b6 rfl l5 rfl (j4 mB rfl) ?_ | refine b6 rfl l5 rfl (i9 mB (d7 (by omega) rfl)) ?_ | refine b6 rfl l5 rfl (i7 mB (rows_get (by omega) rfl)) ?_
   refine b7 rfl (v6 ((i + 1 : Nat) : Int) rfl rfl rfl (by omega) r6 (b7 rfl (V9 (vs := [int ((i + 1 : Nat) : Int), int j]) V5 rfl rfl rfl (ih (i + 1) j l clk Fs (by omega) (by omega) hj hM) l6 ⟨m0, m1, m2, m3, m4, m5, m6, tK⟩ fun x hx => b7 rfl (A9 _ rfl rfl (fun _ => jX ..) (d5 S2 rfl rfl (R3 x.2.2.2 (3, (i : Int), []) (bdV hx.2 ho hpl).1 (bdV hx.2 ho hpl).2) l6 ⟨m0, tK⟩ fun o1 ho1 => ?_))))); obtain ⟨z, hz⟩ : ∃ z : LstV, z = (x.2.2.2.1, ⟨o1.1, o1.2, (3, (i : Int), []) :: x.2.2.2.2.l⟩) := ⟨_, rfl⟩; have hzd : z.dat = behindP (diffP old page (i + 1) j) (3, (i : Int), []) := by rw [hz, ← hx.2]; rfl
   refine nj6 (F := z.row) (fun w hw => by rw [hz]; exact hw.fs _ m0) (fun k hk => ⟨_, m0, by rw [hz] at hk; exact hk⟩) ?_; refine j8 [(0, .agg #[int z.1, .slice z.2.a z.2.l.length z.2.c])] rfl (by rw [hz]; rfl) (fun _ => I7 ..) fun gS => ?_; refine E7 (cs.length + 1) (rows (cs ++ [z])) M3 rfl rfl rfl hG (pm9 _ _ _ _ _) (Src.own (cs := (El.cells z).toArray) (m := 1) (List.mem_append_right _ m0) rfl rfl) rfl (by rw [z7]; simp [rows]) (by unfold maxLen; omega) (by omega) fun A' c' og' hG' => ?_; refine c3 rfl (d6 ?_); have hl0 : cs.length ≤ 2 := by have := congrArg List.length hcs; rw [List.length_map] at this; rw [this, cand1, cand0, List.length_append]; split <;> split <;> simp
   refine tN (Fs := z.row :: (x.2.2.1 ++ Fs)) (fun F hF => by
     rcases List.mem_cons.1 hF with rfl | hF
     · exact .inl m0
     rcases List.mem_append.1 hF with hF | hF
     · exact .inr ⟨_, m3, hF⟩
     exact .inr ⟨Fs, m4, hF⟩) ?_
   exact uH _ ⟨x.1, x.2.1, z.row :: (x.2.2.1 ++ Fs), cs ++ [z], (A', c'), og'⟩ ⟨hx.1.mono (fun F h => by simp [h]), by rw [List.map_append, hcs, cand2, if_pos hi4]; show _ ++ [z.dat] = _; rw [hzd], by rw [B7]; exact hG', fun y hy => by
     rcases List.mem_append.1 hy with h | h
     · simp [hrow y h]
     simp at h; subst h; simp, by rw [B7]; omega⟩ ⟨rfl, rfl, rfl, rfl, rfl, rfl, rfl, rfl, by rw [B7]; rfl, tK⟩ (fun p => by simp only [int, G6, u4, diffCon, dSta, List.countP_append, List.countP_cons, List.countP_nil]; omega) ⟨m0, m6, m7, m8, m9, m10, m11, tK⟩
  have hb4' := hb4; try simp at hb4'
  have hi4 : ¬ i < old.length := by omega
  refine d8 ?_; exact uH _ ⟨l, clk, Fs, cs, o, og⟩ ⟨hM, by rw [hcs, cand2, if_neg hi4, List.append_nil], hG, hrow, hlen⟩ mC (fun p => by simp only [int, G6, u4, diffCon, dSta, List.countP_append, List.countP_cons, List.countP_nil]; omega) ⟨m0, m1, m2, m3, m4, m5, m6, tK⟩
 refine fun x hx => ?_; obtain ⟨l, clk, Fs, cs, o, og⟩ := x; obtain ⟨hM, hcs, hG, hrow, hlen⟩ := hx; simp only at hM hcs hG hrow hlen; refine dz6 (dSta gk gm go gp gf g8 g9 A B ca cb old page i j (cand3 old page i j)) ?_ ?_
 ·skip
  refine c7 (b7 rfl ?_)
  first | refine b6 rfl j1 rfl (i5 mB rfl) ?_ | refine b6 rfl j1 rfl (j4 mB rfl) ?_ | refine b6 rfl j1 rfl (i9 mB (d7 (by omega) rfl)) ?_ | refine b6 rfl j1 rfl (i7 mB (rows_get (by omega) rfl)) ?_
  refine l8 rfl r5 rfl ?_; refine z8 rfl rfl rfl (b7 rfl ?_); refine n6 rfl rfl ?_ ?_
  ·intro hg2; have hg2' := hg2; try simp at hg2'
   refine k9 hg2 (b7 rfl (k9 hg2 ?_))
   first | refine b6 rfl j1 rfl (i5 mB rfl) ?_ | refine b6 rfl j1 rfl (j4 mB rfl) ?_ | refine b6 rfl j1 rfl (i9 mB (d7 (by omega) rfl)) ?_ | refine b6 rfl j1 rfl (i7 mB (rows_get (by omega) rfl)) ?_
   refine k9 hg2 (l8 rfl r5 rfl ?_); refine k9 hg2 (z8 rfl rfl rfl ?_); refine p_t rfl rfl (bt1 hg2) rfl (b8 ?_)
   first | refine k8 rfl (fun hb5 => ?_) (fun hb5 => ?_) | refine d9 rfl (fun hb5 => ?_) (fun hb5 => ?_)
   ·have hb5' := hb5; try simp at hb5'
    have hij : i < old.length ∧ j < page.length := by omega
    refine c7 ?_
    first | refine b6 rfl l5 rfl (i5 mB rfl) ?_ | refine b6 rfl l5 rfl (j4 mB rfl) ?_ | refine b6 rfl l5 rfl (i9 mB (d7 (by omega) rfl)) ?_ | refine b6 rfl l5 rfl (i7 mB (rows_get (by omega) rfl)) ?_
    refine b7 rfl (v6 ((i + 1 : Nat) : Int) rfl rfl rfl (by omega) r6 (b7 rfl (v6 ((j + 1 : Nat) : Int) rfl rfl rfl (by omega) r6 (V9 (vs := [int ((i + 1 : Nat) : Int), int ((j + 1 : Nat) : Int)]) V5 rfl rfl rfl (ih (i + 1) (j + 1) l clk Fs (by omega) (by omega) (by omega) hM) l6 ⟨m0, m1, m2, m3, m4, m5, m6, tK⟩ fun x hx => y9 rfl (fun _ => H5 _) fun g13 => u0 rfl rfl M6 j7 (by rfl) (by rfl) ?_)))); refine b8 (c8 ?_); refine R6 (og) ([_, _, _, _]) (pm9 _ _ _ _ _) 10 [] mixed (by decide) (by decide) (by decide) rfl rfl rfl (v0 rfl ?_)
    apply q9 _ rfl rfl rfl
    ·intro w1
     first | refine C8 rfl k7 j7 rfl mB (by rfl) ?_ | refine D6 rfl k7 j7 rfl mB (by rfl) ?_ | refine u3 rfl k7 j7 rfl rfl (q8 mB (s6 (by omega))) ?_
     refine d6 ?_; exact l3 rfl
    refine v0 rfl ?_
    apply q9 _ rfl rfl rfl
    ·intro w1
     first | refine b6 rfl j1 rfl (j4 mB rfl) ?_ | refine b6 rfl j1 rfl (i5 mB rfl) ?_ | refine b6 rfl j1 rfl (i9 mB (d7 (by omega) rfl)) ?_ | refine b6 rfl j1 rfl (i7 mB (rows_get (by omega) rfl)) ?_
     refine d6 ?_; exact l3 rfl
    refine v0 rfl (u9 (fun w1 => z5 (α := Str) _ _ rfl r5 z2 rfl rfl rfl mB rfl (by omega) (by decide) (q_z rfl)) (u9 (fun w1 => b6 rfl j5 rfl (i9 mB (d7 (by omega) rfl)) (q_z rfl)) (u9 (fun w1 => A9 _ rfl rfl (fun _ => E6 ..) (q_z rfl)) ?_))); refine lT ⟨LstV, fun y => y.dat = behindP (diffP old page (i + 1) (j + 1)) (2, (i : Int), page.getD j default), fun y => .agg #[int y.1, .slice y.2.a y.2.l.length y.2.c], fun y => [y.row]⟩ rfl rfl rfl ?_ ?_
    ·intro w1; refine d5 S2 rfl rfl (R3 x.2.2.2 (2, (i : Int), page.getD j default) (bdV hx.2 ho hpl).1 (bdV hx.2 ho hpl).2) l6 ⟨m0, tK⟩ fun o1 ho1 => d6 ?_; exact X3 (_, ⟨o1.1, o1.2, _⟩) (by rw [← hx.2]; rfl) rfl ⟨m0, tK⟩
    refine lT ⟨Nat × LstV, fun z => z.2.dat = behindP (diffP old page (i + 1) (j + 1)) (2, (i : Int), page.getD j default), fun z => .slice (some ⟨z.1, 0, none⟩) 1 1, fun z => [Row (some ⟨z.1, 0, none⟩) (rows [z.2]), z.2.row]⟩ rfl rfl rfl ?_ ?_
    ·intro y hy; intro w1; refine j8 _ rfl rfl (fun _ => I7 ..) fun gS => d6 (R5 (rows [y]) ⟨[], List.append_nil _⟩ ?_); exact X3 (gS, y) hy rfl ⟨m0, m1, tK⟩
    refine E8 ⟨rfl, ?_⟩; intro y1 hy1 z hz; refine E7 (cs.length + 1) (rows (cs ++ [z.2])) M3 rfl rfl rfl hG l6 (Src.row (news := rows [z.2]) (m := 1) m0 rfl (aW _) (by decide)) rfl (z7 cs [z.2]).symm (by unfold maxLen; omega) (by omega) fun A' c' og' hG' => ?_; refine c3 rfl (b8 (c8 ?_)); refine R6 (og') ([_, _, _, _]) l6 8 [] mixed (by decide) (by decide) (by decide) rfl rfl rfl ?_
    apply q9 _ rfl rfl rfl
    ·intro w1
     first | refine b6 rfl j1 rfl (j4 mB rfl) ?_ | refine b6 rfl j1 rfl (i5 mB rfl) ?_ | refine b6 rfl j1 rfl (i9 mB (d7 (by omega) rfl)) ?_ | refine b6 rfl j1 rfl (i7 mB (rows_get (by omega) rfl)) ?_
     refine d6 ?_; exact l3 rfl
    refine v0 rfl (u9 (fun w1 => z5 (α := Str) _ _ rfl r5 z2 rfl rfl rfl mB rfl (by omega) (by decide) (q_z rfl)) (u9 (fun w1 => b6 rfl j5 rfl (i9 mB (d7 (by omega) rfl)) (q_z rfl)) ?_))
    apply q9 _ rfl rfl rfl
    ·intro w1
     first | refine b6 rfl j1 rfl (j4 mB rfl) ?_ | refine b6 rfl j1 rfl (i5 mB rfl) ?_ | refine b6 rfl j1 rfl (i9 mB (d7 (by omega) rfl)) ?_ | refine b6 rfl j1 rfl (i7 mB (rows_get (by omega) rfl)) ?_
     refine d6 ?_; exact l3 rfl
    refine v0 rfl (u9 (fun w1 => z5 (α := Str) _ _ rfl r5 z2 rfl rfl rfl mB rfl (by omega) (by decide) (q_z rfl)) (u9 (fun w1 => b6 rfl j5 rfl (i9 mB (d7 (by omega) rfl)) (q_z rfl)) ?_)); refine E8 ⟨rfl, ?_⟩; refine mF rfl rfl rfl (b8 ?_)
    first | refine k8 rfl (fun hb6 => ?_) (fun hb6 => ?_) | refine d9 rfl (fun hb6 => ?_) (fun hb6 => ?_)
    ·have hb6' := hb6; try simp at hb6'
     refine bE (pm10 _ _ _ _ _) ?_; refine i4 (b7 rfl ?_)
     first | refine C8 rfl k7 j7 rfl mB (by rfl) ?_ | refine D6 rfl k7 j7 rfl mB (by rfl) ?_ | refine u3 rfl k7 j7 rfl rfl (q8 mB (s6 (by omega))) ?_
     refine j8 _ rfl rfl (fun _ => I7 ..) fun gS => ?_; refine E7 (cs.length + 2) (rows (cs ++ [z.2] ++ [x.2.2.2])) M3 rfl rfl rfl hG' (pm11 _ _ _ _ _ _) (Src.own (cs := (El.cells (x.2.2.2 : LstV)).toArray) (m := 1) (List.mem_append_right _ m0) rfl rfl) rfl (by rw [z7 (cs ++ [z.2])]; simp [rows]) (by unfold maxLen; omega) (by omega) fun A2 c2 og2 hG2 => ?_; refine c3 rfl (d6 ?_); have hl0 : cs.length ≤ 3 := by have := congrArg List.length hcs; rw [List.length_map] at this; rw [this]; exact iq5 ..
     refine tN (Fs := z.2.row :: x.2.2.2.row :: (x.2.2.1 ++ Fs)) (fun F hF => by
       rcases List.mem_cons.1 hF with rfl | hF
       · exact .inl m1
       rcases List.mem_cons.1 hF with rfl | hF
       · exact .inl m3
       rcases List.mem_append.1 hF with hF | hF
       · exact .inr ⟨_, m4, hF⟩
       exact .inr ⟨Fs, m5, hF⟩) ?_
     exact uH _ ⟨x.1, x.2.1, z.2.row :: x.2.2.2.row :: (x.2.2.1 ++ Fs), cs ++ [z.2] ++ [x.2.2.2], (A2, c2), og2⟩ ⟨hx.1.mono (fun F h => by simp [h]), by rw [List.map_append, List.map_append, hcs, cand3, if_pos hij, if_pos hb6, List.append_assoc]; show _ ++ ([z.2.dat] ++ [LstV.dat x.2.2.2]) = _; rw [show z.2.dat = _ from hz, show LstV.dat x.2.2.2 = _ from hx.2]; rfl, by rw [B7, B7]; exact hG2, fun y hy => by
       simp only [List.mem_append, List.mem_singleton] at hy
       rcases hy with (h | h) | h
       · simp [hrow y h]
       · subst h; simp
       subst h; simp, by rw [B7, B7]; omega⟩ ⟨rfl, rfl, rfl, rfl, rfl, rfl, rfl, rfl, by rw [B7, B7]; rfl, tK⟩ (fun p => by simp only [int, G6, u4, diffCon, dSta, List.countP_append, List.countP_cons, List.countP_nil]; omega) ⟨m0, m7, m8, m9, m10, m11, m12, tK⟩
    have hb6' := hb6; try simp at hb6'
    refine d8 ?_; have hl0 : cs.length ≤ 3 := by have := congrArg List.length hcs; rw [List.length_map] at this; rw [this]; exact iq5 ..
    refine tN (Fs := z.2.row :: x.2.2.2.row :: (x.2.2.1 ++ Fs)) (fun F hF => by
      rcases List.mem_cons.1 hF with rfl | hF
      · exact .inl m1
      rcases List.mem_cons.1 hF with rfl | hF
      · exact .inl m3
      rcases List.mem_append.1 hF with hF | hF
      · exact .inr ⟨_, m4, hF⟩
      exact .inr ⟨Fs, m5, hF⟩) ?_
    exact uH _ ⟨x.1, x.2.1, z.2.row :: x.2.2.2.row :: (x.2.2.1 ++ Fs), cs ++ [z.2], (A', c'), og'⟩ ⟨hx.1.mono (fun F h => by simp [h]), by rw [List.map_append, hcs, cand3, if_pos hij, if_neg hb6]; show _ ++ [z.2.dat] = _; rw [show z.2.dat = _ from hz], by rw [B7]; exact hG', fun y hy => by
      simp only [List.mem_append, List.mem_singleton] at hy
      rcases hy with h | h
      · simp [hrow y h]
      subst h; simp, by rw [B7]; omega⟩ ⟨rfl, rfl, rfl, rfl, rfl, rfl, rfl, rfl, by rw [B7]; rfl, tK⟩ (fun p => by simp only [int, G6, u4, diffCon, dSta, List.countP_append, List.countP_cons, List.countP_nil]; omega) ⟨m0, m7, m8, m9, m10, m11, m12, tK⟩
   have hb5' := hb5; try simp at hb5'
   refine d8 ?_; exact uH _ ⟨l, clk, Fs, cs, o, og⟩ ⟨hM, by rw [hcs, cand3, if_neg (by omega), List.append_nil], hG, hrow, hlen⟩ mC (fun p => by simp only [int, G6, u4, diffCon, dSta, List.countP_append, List.countP_cons, List.countP_nil]; omega) ⟨m0, m1, m2, m3, m4, m5, m6, tK⟩
  intro hg2; have hg2' := hg2; try simp at hg2'
  refine u2 hg2 (u2 hg2 (u2 hg2 (u2 hg2 ?_))); refine p_f rfl rfl (bf2 hg2) rfl ?_; refine b8 (c_f rfl rfl (d8 ?_)); exact uH _ ⟨l, clk, Fs, cs, o, og⟩ ⟨hM, by rw [hcs, cand3, if_neg (by omega), List.append_nil], hG, hrow, hlen⟩ mC (fun p => by simp only [int, G6, u4, diffCon, dSta, List.countP_append, List.countP_cons, List.countP_nil]; omega) ⟨m0, m1, m2, m3, m4, m5, m6, tK⟩
 refine fun x hx => ?_; obtain ⟨l, clk, Fs, cs, o, og⟩ := x; obtain ⟨hM, hcs, hG, hrow, hlen⟩ := hx; simp only at hM hcs hG hrow hlen; refine c8 ?_; have hne : cand3 old page i j ≠ [] := sx3 hi hj; have hbd := sx4 (i := i) (j := j) ho hpl
 obtain ⟨f, r, rfl⟩ : ∃ f r, cs = f :: r := by
   cases cs with
   | nil => exact absurd (by rw [← hcs]; rfl) hne
   | cons f r => exact ⟨f, r, rfl⟩
 refine bE (pm3 _ _ _ _) (rz9 hG (V3 8 mixed (by decide) (by decide) rfl rfl ?_))
 apply q9 _ rfl rfl rfl
 ·intro w1
  first | refine b6 rfl p7 rfl (j4 mB rfl) ?_ | refine b6 rfl p7 rfl (i5 mB rfl) ?_ | refine b6 rfl p7 rfl (i9 mB (d7 (by omega) rfl)) ?_ | refine b6 rfl p7 rfl (i7 mB (rows_get (by omega) rfl)) ?_
  refine d6 ?_; exact l3 rfl
 apply q9 _ rfl rfl rfl
 ·intro w1
  first | refine C8 rfl I4 I3 rfl mB (by rfl) ?_ | refine D6 rfl I4 I3 rfl mB (by rfl) ?_ | refine u3 rfl I4 I3 rfl rfl (q8 mB (s6 (by omega))) ?_
  refine d6 ?_; exact l3 rfl
 refine v0 rfl ?_; refine u9 (fun w1 => z5 (α := LstV) (f :: r) 0 rfl X1 j7 rfl rfl rfl m3 rfl (by simp) (by decide) (q_z rfl)) ?_; refine u9 (fun w1 => u3 rfl k7 j7 rfl rfl (q8 (A := o.1) (cs := rows (f :: r)) (j := 0 * El.sz LstV) m3 (s6 (l := f :: r) (i := 0) (by simp))) (q_z rfl)) ?_; refine v0 rfl ?_; refine u9 (fun w1 => dq5 1 rfl X1 j7 rfl rfl rfl (by simp) (q_z rfl)) ?_; refine lT ⟨LstV, fun y => y.dat = diffP old page i j ∧ y.row ∈ Fs, fun y => .agg #[int y.1, .slice y.2.a y.2.l.length y.2.c], fun y => [y.row]⟩ rfl rfl rfl ?_ ?_
 ·intro w1; refine mj7 (p := f :: r) (ca := o.2) 1 (f :: r).length m0 hG.le ?_; rw [List.take_length]
  refine rz4 (Fs := (f :: r).map LstV.row) (fun F hF => by
    obtain ⟨y, hy, rfl⟩ := List.mem_map.1 hF
    exact .inr ⟨Fs, m2, hrow y hy⟩) ?_
  refine d5 (vs := [fnV C4, f.v, .slice (cutA o.1 o.2 1 2) r.length (o.2 - 1)]) zC rfl rfl (xX f r (by simp at hlen; omega) (fun y hy => hbd y.dat (by rw [← hcs]; exact List.mem_map_of_mem hy))) l6 ⟨m1, m0, tK⟩ fun _ _ => ?_; refine cz8 (F := (leastV f r).row) m0 (List.mem_map_of_mem (wO f r)) (d6 ?_); exact X3 (leastV f r) ⟨by rw [sq6]; exact pj0 hcs, hrow _ (wO f r)⟩ rfl ⟨m0, tK⟩
 refine E8 ⟨rfl, ?_⟩; intro y2 hy2; refine kF (k := ((i : Int), (j : Int))) KP (.inl rfl) N6 rfl rfl rfl (.refl _) (n7 ?_)
 first | refine b6 rfl p7 rfl (i5 mB rfl) ?_ | refine b6 rfl p7 rfl (j4 mB rfl) ?_ | refine b6 rfl p7 rfl (i9 mB (d7 (by omega) rfl)) ?_ | refine b6 rfl p7 rfl (i7 mB (rows_get (by omega) rfl)) ?_
 first | refine C8 rfl I4 I3 rfl mB (by rfl) ?_ | refine D6 rfl I4 I3 rfl mB (by rfl) ?_ | refine u3 rfl I4 I3 rfl rfl (q8 mB (s6 (by omega))) ?_
 refine iz8 (k := ((i : Int), (j : Int))) (v := LstV.v y2) KP rfl N6 rfl rfl (V2 m0) (by rw [kz9, if_pos rfl]; rfl) ?_; refine u0 rfl rfl M6 j7 (by rfl) (by rfl) ?_; refine b8 (l4 ?_); exact lL (putM l ((i : Int), (j : Int)) (LstV.v y2) clk, clkM l ((i : Int), (j : Int)) clk, Fs, y2) rfl rfl k7 j7 rfl m0 rfl rfl ⟨hM.put hy2.2 hy2.1, hy2.1⟩ (.cons _ (.cons_cons _ nK)) ⟨m0, m2, tK⟩
def outV {α : Type} [El α] (l : List α) : Con OutC := { val := fun x => .slice x.1 l.length x.2, LO := fun x => [Row x.1 (rows l)] }
theorem nS {A B : Option Addr} {ca cb : Nat} (old page : List Str) (ho : old.length ≤ 1000) (hpl : page.length ≤ 1000) : Meets prog mO [.slice A old.length ca, .slice B page.length cb] { outV (diffP old page 0 0).2 with LI := [Row A (rows old), Row B (rows page)] } := by
 refine i3 cq0 rfl q6 fun w0 => c7 (aJ rfl rfl fun go => aJ rfl rfl fun gp => ?_); refine c3 rfl (n7 ?_); refine qM pair rfl fun gm => y9 rfl (fun _ => jY _) fun gk => A4 rfl rfl M6 jT (by rfl) (by rfl) (n7 (y9 rfl (fun _ => iC _) fun gf => ?_)); refine n7 (qN rfl rfl rfl ?_); refine A4 rfl rfl M6 iA (by rfl) (by rfl) ?_; refine b8 (c8 (O6 (O6 ?_))); refine bE (perm3 _ _ _ _) (O6 (bE (.swap _ _ _) (O6 ?_))); refine sj0 (Fs := []) (fun F hF => by simp at hF) ?_; refine i4 ?_
 first | refine b6 rfl l5 rfl (i5 mB rfl) ?_ | refine b6 rfl l5 rfl (j4 mB rfl) ?_ | refine b6 rfl l5 rfl (i9 mB (d7 (by omega) rfl)) ?_ | refine b6 rfl l5 rfl (i7 mB (rows_get (by omega) rfl)) ?_
 refine V9 (vs := [int (0 : Nat), int (0 : Nat)]) V5 rfl rfl rfl (wK (gk := gk) (gm := gm) (go := go) (gp := gp) (gf := gf) (A := A) (B := B) (ca := ca) (cb := cb) ho hpl _ 0 0 [] 0 [] (Nat.lt_succ_self _) (Nat.zero_le _) (Nat.zero_le _) (by intro e he; simp at he)) l6 ⟨m0, m5, m6, m3, m2, m1, m4, tK⟩ fun x hx => ?_; obtain ⟨l1, clk1, Fs1, x⟩ := x; have hx2 : x.2.l = (diffP old page 0 0).2 := by rw [← hx.2]; rfl
 refine r_field (v := .slice x.2.a x.2.l.length x.2.c) rfl rfl (fun _ => xP ..) ?_; refine c3 rfl (b8 (l4 ?_)); rw [← hx2]; exact ret1 (x.2.a, x.2.c) rfl rfl rfl tK nK ⟨m0, tK⟩
def diffE (old page : List Str) (ms : List Mk) : List Mk × Int := if ¬ pageErr old = 0 then ([], pageErr old) else if ¬ pageErr page = 0 then ([], pageErr page) else (ms, 0)
def outE {α : Type} [El α] (r : List α × Int) : Con OutC := { val := fun x => .tuple #[.slice x.1 r.1.length x.2, int r.2], LO := fun x => [Row x.1 (rows r.1)] }
theorem V1 {p : List Str} (h : pageErr p = 0) : p.length ≤ 6 := by unfold pageErr at h; split at h <;> omega
theorem gC {A B : Option Addr} {ca cb : Nat} (old page : List Str) : Meets prog W7 [.slice A old.length ca, .slice B page.length cb] { outE (diffE old page (diffP old page 0 0).2) with LI := [Row A (rows old), Row B (rows page)] } := by
 refine i3 cq3 rfl q6 fun w0 => ?_; refine c7 (c3 rfl (c3 rfl (b8 (c8 (c7 (b7 rfl ?_)))))); refine d5 B4 rfl rfl (B3 old) (.refl _) ⟨m0, tK⟩ fun _ _ => ?_; refine c3 rfl (n7 (b7 rfl (y5 rfl rfl rfl (b8 ?_))))
 first | refine k8 rfl (fun hb1 => ?_) (fun hb1 => ?_) | refine d9 rfl (fun hb1 => ?_) (fun hb1 => ?_)
 ·have hb1' := hb1; try simp at hb1'
  have e : diffE old page (diffP old page 0 0).2 = ([], pageErr old) := by rw [diffE, if_pos hb1]
  rw [e]; refine c7 (b7 rfl (c3 rfl (c3 rfl (b8 (D4 (uU ?_)))))); exact ret2 (none, 0) rfl rfl rfl rfl rfl tK (.refl _) ⟨m0, tK⟩
 have hb1' := hb1; try simp at hb1'
 refine d8 (d4 (c8 (c7 (b7 rfl ?_)))); refine d5 B4 rfl rfl (B3 page) (.refl _) ⟨m1, tK⟩ fun _ _ => ?_; refine c3 rfl (n7 (b7 rfl (y5 rfl rfl rfl (b8 ?_))))
 first | refine k8 rfl (fun hb2 => ?_) (fun hb2 => ?_) | refine d9 rfl (fun hb2 => ?_) (fun hb2 => ?_)
 ·have hb2' := hb2; try simp at hb2'
  have e : diffE old page (diffP old page 0 0).2 = ([], pageErr page) := by rw [diffE, if_neg hb1, if_pos hb2]
  rw [e]; refine c7 (b7 rfl (c3 rfl (c3 rfl (b8 (D4 (uU ?_)))))); exact ret2 (none, 0) rfl rfl rfl rfl rfl tK (.refl _) ⟨m0, tK⟩
 have hb2' := hb2; try simp at hb2'
 have e : diffE old page (diffP old page 0 0).2 = ((diffP old page 0 0).2, 0) := by rw [diffE, if_neg hb1, if_neg hb2]
 rw [e]; have h1 := V1 (Classical.not_not.1 hb1); have h2 := V1 (Classical.not_not.1 hb2); refine d8 (d4 (c7 (b7 rfl (b7 rfl ?_)))); refine d5 pL rfl rfl (nS old page (by omega) (by omega)) (.refl _) ⟨m0, m1, tK⟩ fun x hx => ?_; refine c3 rfl (c3 rfl (b8 (l4 ?_))); exact ret2 x rfl rfl rfl rfl rfl tK (.refl _) ⟨m0, tK⟩
def beforeR (a b : Mk) : Bool := if ¬ a.2.1 = b.2.1 then decide (a.2.1 < b.2.1) else if ¬ a.1 = b.1 then decide (a.1 < b.1) else Op.bytesLess a.2.2 b.2.2
def lexR : List Mk → List Mk → Bool
  | a :: l, b :: l' => if ¬ a = b then beforeR a b else lexR l l'
  | _, _ => false
def betterR (a b : List Mk) : Bool := if ¬ (costM a : Int) = costM b then decide ((costM a : Int) < costM b) else if ¬ (a.length : Int) = b.length then decide ((a.length : Int) < b.length) else lexR a b
def pickR (s : Option (List Mk)) (l : List Mk) : Option (List Mk) :=
  match s with
  | none => some l
  | some b => if betterR l b = true then some l else some b
def diffR (old page : List Str) (i k : Nat) : List Mk :=
  if i = old.length ∧ k = page.length then [] else
  (if h : i < old.length then pickR
    (if h : i < old.length ∧ k < page.length then pickR
      (if h : k < page.length then pickR
        (if h : i < old.length ∧ k < page.length ∧ old.getD i default = page.getD k default then some (diffR old page (i + 1) (k + 1)) else none)
        ((1, (i : Int), page.getD k default) :: diffR old page i (k + 1)) else
        (if h : i < old.length ∧ k < page.length ∧ old.getD i default = page.getD k default then some (diffR old page (i + 1) (k + 1)) else none))
      ((2, (i : Int), page.getD k default) :: diffR old page (i + 1) (k + 1)) else
      (if h : k < page.length then pickR
        (if h : i < old.length ∧ k < page.length ∧ old.getD i default = page.getD k default then some (diffR old page (i + 1) (k + 1)) else none)
        ((1, (i : Int), page.getD k default) :: diffR old page i (k + 1)) else
        (if h : i < old.length ∧ k < page.length ∧ old.getD i default = page.getD k default then some (diffR old page (i + 1) (k + 1)) else none)))
    ((3, (i : Int), []) :: diffR old page (i + 1) k) else
    (if h : i < old.length ∧ k < page.length then pickR
      (if h : k < page.length then pickR
        (if h : i < old.length ∧ k < page.length ∧ old.getD i default = page.getD k default then some (diffR old page (i + 1) (k + 1)) else none)
        ((1, (i : Int), page.getD k default) :: diffR old page i (k + 1)) else
        (if h : i < old.length ∧ k < page.length ∧ old.getD i default = page.getD k default then some (diffR old page (i + 1) (k + 1)) else none))
      ((2, (i : Int), page.getD k default) :: diffR old page (i + 1) (k + 1)) else
      (if h : k < page.length then pickR
        (if h : i < old.length ∧ k < page.length ∧ old.getD i default = page.getD k default then some (diffR old page (i + 1) (k + 1)) else none)
        ((1, (i : Int), page.getD k default) :: diffR old page i (k + 1)) else
        (if h : i < old.length ∧ k < page.length ∧ old.getD i default = page.getD k default then some (diffR old page (i + 1) (k + 1)) else none)))).getD []
termination_by (old.length - i) + (page.length - k)
decreasing_by all_goals omega
def dr0 (old page : List Str) (i k : Nat) : Option (List Mk) := if i < old.length ∧ k < page.length ∧ old.getD i default = page.getD k default then some (diffR old page (i + 1) (k + 1)) else none
def dr1 (old page : List Str) (i k : Nat) : Option (List Mk) := if k < page.length then pickR (dr0 old page i k) ((1, (i : Int), page.getD k default) :: diffR old page i (k + 1)) else dr0 old page i k
def dr2 (old page : List Str) (i k : Nat) : Option (List Mk) := if i < old.length ∧ k < page.length then pickR (dr1 old page i k) ((2, (i : Int), page.getD k default) :: diffR old page (i + 1) (k + 1)) else dr1 old page i k
def dr3 (old page : List Str) (i k : Nat) : Option (List Mk) := if i < old.length then pickR (dr2 old page i k) ((3, (i : Int), []) :: diffR old page (i + 1) k) else dr2 old page i k
theorem rq1 (s : Option (List Mk)) (l : List Mk) : pickR s l = some l ∨ (pickR s l = s) := by
  unfold pickR
  cases s with
  | none => exact .inl rfl
  | some b => simp only; split <;> simp
def Bd (N : Nat) (s : Option (List Mk)) : Prop := ∀ b, s = some b → b.length ≤ N
theorem Bd.pick {N : Nat} {s : Option (List Mk)} {l : List Mk} (h : Bd N s) (hl : l.length ≤ N) : Bd N (pickR s l) := by
  intro b hb
  rcases rq1 s l with h1 | h1
  · rw [h1] at hb; cases hb; exact hl
  rw [h1] at hb; exact h b hb
structure RSt where
  s : Option (List Mk)
  o : OutC
abbrev rSta (A B : Option Addr) (ca cb : Nat) (old page : List Str) (i k : Nat) (r : Option (List Mk)) : Sta RSt :=
  { inv := fun x => x.s = r
    fr := fun x => [(0, .slice A old.length ca), (1, .slice B page.length cb), (2, int i), (3, int k), (9, .slice x.o.1 (x.s.getD []).length x.o.2), (10, .bool x.s.isSome)]
    hp := fun _ => []
    L := fun x => [Row x.o.1 (rows (x.s.getD [])), Row A (rows old), Row B (rows page)] }
theorem yG {α : Type} [Inhabited α] {l : List α} {k : Nat} {s : α} (hk : k < l.length) (h : s ∉ l.take k) (h1 : ¬ s = l.getD k default) : s ∉ l.take (k + 1) := by
  rw [v7 l k hk]; simp only [List.mem_append, List.mem_singleton, not_or]; exact ⟨h, h1⟩
theorem nH {A : Option Addr} {c : Nat} (l : List Str) (s : Str) (hl : l.length ≤ 1000000) : Meets prog Z0 [.slice A l.length c, str s] { LI := [Row A (rows l)], inv := fun z : Int => (0 ≤ z ↔ s ∈ l), val := fun z => int z } := by
 refine i3 qZ rfl q6 fun w0 => ?_; refine c7 (c3 rfl (b8 (c8 (c7 (b7 rfl ?_))))); refine l8 rfl r5 rfl ?_; refine b7 rfl (b8 (k6 ?_)); refine y6 (β := Nat) ⟨fun k => k ≤ l.length ∧ s ∉ l.take k, fun k => [(0, .slice A l.length c), (1, str s), (7, int l.length), (8, int k)], fun _ => [], fun _ => [Row A (rows l)]⟩ (fun k => l.length - k) 0 ⟨Nat.zero_le _, by simp⟩ mC (.refl _) ⟨m0, tK⟩ fun k hk => ?_; obtain ⟨hk, ht⟩ := hk; refine c7 (z8 rfl rfl rfl (b8 (c8 ?_)))
 first | refine k8 rfl (fun hb1 => ?_) (fun hb1 => ?_) | refine d9 rfl (fun hb1 => ?_) (fun hb1 => ?_)
 ·have hb1' := hb1; try simp at hb1'
  have hk2 : k < l.length := by omega
  refine d8 (d4 (c8 (k6 (c7 (b7 rfl (c3 rfl (n7 ?_))))))); refine b7 rfl (b7 rfl (b7 rfl ?_)); refine z5 (α := Str) _ _ rfl r5 z2 rfl rfl rfl mB rfl (by omega) (by decide) (b6 rfl j5 rfl (i9 mB (d7 (by omega) rfl)) ?_); refine mF rfl rfl rfl (b8 ?_)
  first | refine k8 rfl (fun hb2 => ?_) (fun hb2 => ?_) | refine d9 rfl (fun hb2 => ?_) (fun hb2 => ?_)
  ·have hb2' := hb2; try simp at hb2'
   refine c7 (b7 rfl (c3 rfl (b8 (l4 (C7 (r9 (C7 ?_))))))); exact ret1 (k : Int) rfl rfl rfl ⟨fun _ => by rw [hb2]; exact W0 hk2, fun _ => by omega⟩ (.refl _) tK
  have hb2' := hb2; try simp at hb2'
  refine d8 (u7 (d4 (i4 ?_))); refine v6 _ rfl rfl rfl rfl r6 ?_; refine b7 rfl (d6 ?_); exact again _ (k + 1) ⟨by omega, yG hk2 ht hb2⟩ (D5 (by omega)) mC (.refl _) ⟨m0, tK⟩
 have hb1' := hb1; try simp at hb1'
 have hk2 : k = l.length := by omega
 subst hk2; rw [List.take_length] at ht; refine s9 (E4 (u6 (d4 (c7 (c3 rfl (b8 (l4 ?_))))))); exact ret1 (-1) rfl rfl rfl ⟨fun h => by omega, fun h => absurd h ht⟩ (.refl _) tK
theorem M4 {A : Option Addr} {c : Nat} (l : List Str) (s : Str) (hl : l.length ≤ 1000000) : Meets prog R9 [.slice A l.length c, str s] { LI := [Row A (rows l)], val := fun _ : Unit => .bool (decide (s ∈ l)) } := by
 refine i3 lH rfl q6 fun w0 => ?_; refine c7 (c3 rfl (n7 (b7 rfl (b7 rfl ?_)))); refine d5 pE rfl rfl (nH l s hl) (.refl _) ⟨m0, tK⟩ fun z hz => ?_; refine lN rfl rfl rfl (c3 rfl (b8 (l4 ?_))); exact ret1 () rfl (congrArg (fun b => some (Value.bool b)) (decide_eq_decide.2 hz)) rfl tK (.refl _) tK
theorem nI {A : Option Addr} {c : Nat} (l : List Int) (s : Int) (hl : l.length ≤ 1000000) : Meets prog Z1 [.slice A l.length c, int s] { LI := [Row A (rows l)], inv := fun z : Int => (0 ≤ z ↔ s ∈ l), val := fun z => int z } := by
 refine i3 rC rfl q6 fun w0 => ?_; refine c7 (c3 rfl (b8 (c8 (c7 (b7 rfl ?_))))); refine l8 rfl L8 rfl ?_; refine b7 rfl (b8 (k6 ?_)); refine y6 (β := Nat) ⟨fun k => k ≤ l.length ∧ s ∉ l.take k, fun k => [(0, .slice A l.length c), (1, int s), (7, int l.length), (8, int k)], fun _ => [], fun _ => [Row A (rows l)]⟩ (fun k => l.length - k) 0 ⟨Nat.zero_le _, by simp⟩ mC (.refl _) ⟨m0, tK⟩ fun k hk => ?_; obtain ⟨hk, ht⟩ := hk; refine c7 (z8 rfl rfl rfl (b8 (c8 ?_)))
 first | refine k8 rfl (fun hb1 => ?_) (fun hb1 => ?_) | refine d9 rfl (fun hb1 => ?_) (fun hb1 => ?_)
 ·have hb1' := hb1; try simp at hb1'
  have hk2 : k < l.length := by omega
  refine d8 (d4 (c8 (k6 (c7 (b7 rfl (c3 rfl (n7 ?_))))))); refine b7 rfl (b7 rfl (b7 rfl ?_)); refine z5 (α := Int) _ _ rfl L8 J2 rfl rfl rfl mB rfl (by omega) (by decide) (b6 rfl a9 rfl (i9 mB (d7 (by omega) rfl)) ?_); refine E3 rfl rfl rfl (b8 ?_)
  first | refine k8 rfl (fun hb2 => ?_) (fun hb2 => ?_) | refine d9 rfl (fun hb2 => ?_) (fun hb2 => ?_)
  ·have hb2' := hb2; try simp at hb2'
   refine c7 (b7 rfl (c3 rfl (b8 (l4 (C7 (r9 (C7 ?_))))))); exact ret1 (k : Int) rfl rfl rfl ⟨fun _ => by rw [hb2]; exact W0 hk2, fun _ => by omega⟩ (.refl _) tK
  have hb2' := hb2; try simp at hb2'
  refine d8 (u7 (d4 (i4 ?_))); refine v6 _ rfl rfl rfl rfl r6 ?_; refine b7 rfl (d6 ?_); exact again _ (k + 1) ⟨by omega, yG hk2 ht hb2⟩ (D5 (by omega)) mC (.refl _) ⟨m0, tK⟩
 have hb1' := hb1; try simp at hb1'
 have hk2 : k = l.length := by omega
 subst hk2; rw [List.take_length] at ht; refine s9 (E4 (u6 (d4 (c7 (c3 rfl (b8 (l4 ?_))))))); exact ret1 (-1) rfl rfl rfl ⟨fun h => by omega, fun h => absurd h ht⟩ (.refl _) tK
theorem kD {A : Option Addr} {c : Nat} (l : List Int) (s : Int) (hl : l.length ≤ 1000000) : Meets prog S1 [.slice A l.length c, int s] { LI := [Row A (rows l)], val := fun _ : Unit => .bool (decide (s ∈ l)) } := by
 refine i3 lI rfl q6 fun w0 => ?_; refine c7 (c3 rfl (n7 (b7 rfl (b7 rfl ?_)))); refine d5 pF rfl rfl (nI l s hl) (.refl _) ⟨m0, tK⟩ fun z hz => ?_; refine lN rfl rfl rfl (c3 rfl (b8 (l4 ?_))); exact ret1 () rfl (congrArg (fun b => some (Value.bool b)) (decide_eq_decide.2 hz)) rfl tK (.refl _) tK
theorem zO {α β : Type} (f : β → Int) (g : α → β) : ∀ l : List α, firstErr f (l.map g) = firstErr (fun a => f (g a)) l
  | [] => rfl
  | a :: l => by simp only [List.map_cons, firstErr, zO f g l]
abbrev years (ps : List (Sl Str)) : List (List Str) := ps.map (·.l)
def yearsErr (ys : List (List Str)) : Int := if 4 < ys.length then 6 else firstErr pageErr ys
theorem hJ (ps : List (Sl Str)) : yearsErr (years ps) = if 4 < ps.length then 6 else firstErr (fun p : Sl Str => pageErr p.l) ps := by rw [yearsErr, zO, List.length_map]
def askedErr (ys : List (List Str)) (p : List Str) : Int := if yearsErr ys = 0 then pageErr p else yearsErr ys
theorem V0 {A : Option Addr} {c : Nat} (ps : List (Sl Str)) : Meets prog aM [.slice A ps.length c] { LI := [Rows2 A ps], val := fun _ : Unit => int (yearsErr (years ps)) } := by
 refine i3 sJ rfl q6 fun w0 => ?_; refine c7 (c3 rfl (b8 (c8 (c7 (b7 rfl ?_))))); refine l8 rfl G2 rfl ?_; refine M5 rfl rfl rfl (b8 ?_)
 first | refine k8 rfl (fun hb1 => ?_) (fun hb1 => ?_) | refine d9 rfl (fun hb1 => ?_) (fun hb1 => ?_)
 ·have hb1' := hb1; try simp at hb1'
  have hb1 : 4 < ps.length := by omega
  refine c7 (c3 rfl (b8 (D4 ?_))); exact ret1 () rfl (congrArg (fun b => some (int b)) (by rw [hJ, if_pos hb1])) rfl tK nK tK
 have hb1' := hb1; try simp at hb1'
 have hb1 : ¬ 4 < ps.length := by omega
 refine yU m0 (d8 (d4 (c8 (c7 (b7 rfl ?_))))); refine l8 rfl G2 rfl ?_; refine b7 rfl (b8 (k6 ?_)); refine y6 (β := Nat) ⟨fun k => k ≤ ps.length ∧ firstErr (fun p : Sl Str => pageErr p.l) (ps.take k) = 0, fun k => [(9, .slice A ps.length c), (10, int ps.length), (11, int k)], fun _ => [], fun _ => [Row A (rows ps), Rows2 A ps]⟩ (fun k => ps.length - k) 0 ⟨Nat.zero_le _, rfl⟩ mC (.refl _) ⟨m0, m1, tK⟩ fun k hk => ?_; obtain ⟨hk, ht⟩ := hk; refine c7 (z8 rfl rfl rfl (b8 (c8 ?_)))
 first | refine k8 rfl (fun hb2 => ?_) (fun hb2 => ?_) | refine d9 rfl (fun hb2 => ?_) (fun hb2 => ?_)
 ·have hb2' := hb2; try simp at hb2'
  have hk2 : k < ps.length := by omega
  refine d8 (d4 (c8 (k6 (c7 ?_)))); refine z5 (α := (Sl Str)) _ _ rfl G2 U1 rfl rfl rfl mB rfl (by omega) (by decide) (b6 rfl j1 rfl (i9 mB (d7 (by omega) rfl)) ?_); refine c3 rfl (n7 (b7 rfl ?_)); refine tO (p := ps.getD k default) m1 (W0 hk2) (d5 B4 rfl rfl (B3 (ps.getD k default).l) (.refl _) ⟨m0, tK⟩ fun _ _ => ?_); refine c3 rfl (n7 (b7 rfl (y5 rfl rfl rfl (b8 ?_))))
  first | refine k8 rfl (fun hb3 => ?_) (fun hb3 => ?_) | refine d9 rfl (fun hb3 => ?_) (fun hb3 => ?_)
  ·have hb3' := hb3; try simp at hb3'
   refine c7 (b7 rfl (c3 rfl (b8 (l4 (C7 (r9 (C7 ?_))))))); exact ret1 () rfl (congrArg (fun b => some (int b)) (by rw [hJ, if_neg hb1]; exact (zP hk2 ht hb3).symm)) rfl tK nK tK
  have hb3' := hb3; try simp at hb3'
  refine d8 (u7 (d4 (i4 ?_))); refine v6 _ rfl rfl rfl rfl r6 ?_; refine b7 rfl (d6 ?_); exact again _ (k + 1) ⟨by omega, by rw [uC hk2 ht]; exact Classical.not_not.1 hb3⟩ (D5 (by omega)) mC (.refl _) ⟨m1, m2, tK⟩
 have hb2' := hb2; try simp at hb2'
 have hk2 : k = ps.length := by omega
 subst hk2; rw [List.take_length] at ht; refine s9 (E4 (u6 (d4 (c7 (c3 rfl (b8 (l4 ?_))))))); exact ret1 () rfl (congrArg (fun b => some (int b)) (by rw [hJ, if_neg hb1, ht])) rfl tK nK tK
theorem cQ {A B : Option Addr} {ca cb : Nat} (ps : List (Sl Str)) (p : List Str) :
    Meets prog kV [.slice A ps.length ca, .slice B p.length cb] { LI := [Rows2 A ps, Row B (rows p)], val := fun _ : Unit => int (askedErr (years ps) p) } := by
 refine i3 ax4 rfl q6 fun w0 => ?_; refine c7 (c3 rfl (b8 (c8 (c7 (b7 rfl ?_))))); refine d5 V4 rfl rfl (V0 ps) (.refl _) ⟨m0, tK⟩ fun _ _ => ?_; refine c3 rfl (n7 (b7 rfl (y5 rfl rfl rfl (b8 ?_))))
 first | refine k8 rfl (fun hb1 => ?_) (fun hb1 => ?_) | refine d9 rfl (fun hb1 => ?_) (fun hb1 => ?_)
 ·have hb1' := hb1; try simp at hb1'
  refine c7 (b7 rfl (c3 rfl (b8 (D4 ?_)))); exact ret1 () rfl (congrArg (fun b => some (int b)) (by rw [askedErr, if_neg hb1])) rfl tK nK tK
 have hb1' := hb1; try simp at hb1'
 refine d8 (d4 (c7 (b7 rfl ?_))); refine d5 B4 rfl rfl (B3 p) (.refl _) ⟨m1, tK⟩ fun _ _ => ?_; refine c3 rfl (b8 (l4 ?_)); exact ret1 () rfl (congrArg (fun b => some (int b)) (by rw [askedErr, if_pos (Classical.not_not.1 hb1)])) rfl tK nK tK
def originN (ps : List (Sl Str)) (s : Str) : Nat → Int
  | 0 => -1
  | k + 1 => if s ∈ (ps.getD k default).l then (k : Int) else originN ps s k
theorem kx3 {ps : List (Sl Str)} {s : Str} {k : Nat} (h : 0 < k) : originN ps s k = if s ∈ (ps.getD (k - 1) default).l then ((k - 1 : Nat) : Int) else originN ps s (k - 1) := by
  cases k with
  | zero => omega
  | succ k => rfl
theorem bO {A : Option Addr} {c : Nat} (ps : List (Sl Str)) (s : Str) (hl : ps.length ≤ 1000000) (hp : ∀ p ∈ ps, p.l.length ≤ 1000000) : Meets prog bG [.slice A ps.length c, str s] { LI := [Rows2 A ps], val := fun _ : Unit => int (originN ps s ps.length) } := by
 refine i3 zA rfl q6 fun w0 => ?_; refine c7 (c3 rfl (b8 (yR (yU m0 (i4 (b7 rfl ?_)))))); refine l8 rfl G2 rfl (iF _ rfl rfl rfl rfl r6 ?_); refine c3 rfl (b8 (k6 ?_)); refine y6 (β := Nat) ⟨fun k => k ≤ ps.length ∧ originN ps s ps.length = originN ps s k, fun k => [(0, .slice A ps.length c), (1, str s), (5, int ((k : Int) - 1))], fun _ => [], fun _ => [Row A (rows ps), Rows2 A ps]⟩ (fun k => k) ps.length ⟨Nat.le_refl _, rfl⟩ mC (.refl _) ⟨m0, m1, tK⟩ fun k hk => ?_; obtain ⟨hk, ht⟩ := hk; refine c8 (c7 (b7 rfl (lN rfl rfl rfl (b8 ?_))))
 first | refine k8 rfl (fun hb1 => ?_) (fun hb1 => ?_) | refine d9 rfl (fun hb1 => ?_) (fun hb1 => ?_)
 ·have hb1' := hb1; try simp at hb1'
  have hk2 : 0 < k := by omega
  rw [kx3 hk2] at ht; have hmem := W0 (l := ps) (k := k - 1) (by omega); refine d8 (d4 (c8 (k6 (c7 (b7 rfl (b7 rfl ?_)))))); refine z5 (α := Sl Str) _ (k - 1) rfl G2 U1 rfl rfl (by omega) m0 rfl (by omega) (by decide) (b6 rfl j1 rfl (i9 mB (d7 (by omega) rfl)) (b7 rfl (tO (p := ps.getD (k - 1) default) m1 hmem (d5 M7 rfl rfl (M4 (ps.getD (k - 1) default).l s (hp _ hmem)) l6 ⟨m0, tK⟩ fun _ _ => b8 ?_))))
  first | refine k8 rfl (fun hb2 => ?_) (fun hb2 => ?_) | refine d9 rfl (fun hb2 => ?_) (fun hb2 => ?_)
  ·have hb2' := hb2; try simp at hb2'
   rw [if_pos hb2] at ht; refine c7 (b7 rfl (c3 rfl (b8 (l4 (C7 (r9 (C7 ?_))))))); exact ret1 () rfl (congrArg (fun n => some (int n)) (by rw [ht]; omega)) rfl tK (.refl _) tK
  have hb2' := hb2; try simp at hb2'
  rw [if_neg hb2] at ht; refine d8 (u7 (d4 (i4 (b7 rfl ?_)))); refine iF _ rfl rfl rfl rfl r6 ?_; refine c3 rfl (d6 ?_); refine again _ (k - 1) ⟨by omega, ht⟩ (by show k - 1 < k; omega) ⟨rfl, rfl, congrArg (fun n => some (int n)) (by omega), tK⟩ (.refl _) ⟨m1, m2, tK⟩
 have hb1' := hb1; try simp at hb1'
 have hk2 : k = 0 := by omega
 refine s9 (E4 (u6 (d4 (c7 (c3 rfl (b8 (l4 ?_))))))); exact ret1 () rfl (congrArg (fun n => some (int n)) (by rw [ht, hk2]; rfl)) rfl tK (.refl _) tK
def originE (ps : List (Sl Str)) (p : List Str) : List Int × Int := if ¬ askedErr (years ps) p = 0 then ([], askedErr (years ps) p) else (p.map fun s => originN ps s ps.length, 0)
theorem aV {ps : List (Sl Str)} (h : yearsErr (years ps) = 0) : ps.length ≤ 4 ∧ ∀ p ∈ ps, p.l.length ≤ 6 := by
  rw [hJ] at h
  split at h
  · omega
  exact ⟨by omega, fun p hp => V1 (W8 h p hp)⟩
theorem mZ {ps : List (Sl Str)} {p : List Str} (h : askedErr (years ps) p = 0) : yearsErr (years ps) = 0 ∧ pageErr p = 0 := by
  unfold askedErr at h
  split at h
  · rename_i h1; exact ⟨h1, h⟩
  rename_i h1; exact absurd h h1
theorem wM {A B : Option Addr} {ca cb : Nat} (ps : List (Sl Str)) (p : List Str) : Meets prog bI [.slice A ps.length ca, .slice B p.length cb] { outErr (originE ps p) with LI := [Rows2 A ps, Row B (rows p)] } := by
 refine i3 zI rfl q6 fun w0 => ?_; refine c7 (c3 rfl (c3 rfl (b8 (c8 (c7 (b7 rfl (b7 rfl ?_))))))); refine d5 dA rfl rfl (cQ ps p) (.refl _) ⟨m0, m1, tK⟩ fun _ _ => ?_; refine c3 rfl (n7 (b7 rfl (y5 rfl rfl rfl (b8 ?_))))
 first | refine k8 rfl (fun hb1 => ?_) (fun hb1 => ?_) | refine d9 rfl (fun hb1 => ?_) (fun hb1 => ?_)
 ·have hb1' := hb1; try simp at hb1'
  have e : originE ps p = ([], askedErr (years ps) p) := by rw [originE, if_pos hb1]
  rw [e]; refine c7 (b7 rfl (c3 rfl (c3 rfl (b8 (D4 (uU ?_)))))); exact ret2 (none, 0) rfl rfl rfl rfl rfl (Nat.le_refl _) nK ⟨m0, tK⟩
 have hb1' := hb1; try simp at hb1'
 have e : originE ps p = (p.map fun s => originN ps s ps.length, 0) := by rw [originE, if_neg hb1]
 rw [e]; obtain ⟨h1, h2⟩ := mZ (Classical.not_not.1 hb1); obtain ⟨h3, h4⟩ := aV h1; have h5 := V1 h2; refine d8 (d4 (c7 (c3 rfl (b8 (c8 (c7 (b7 rfl ?_))))))); refine l8 rfl r5 rfl ?_; refine b7 rfl (b8 (k6 ?_)); refine y6 (β := Nat × OutC × Hp) ⟨fun ⟨k, o, og⟩ => k ≤ p.length ∧ Grow I6 1 o.1 k o.2 (rows ((p.take k).map fun s => originN ps s ps.length)) og, fun ⟨k, o, og⟩ => [(0, .slice A ps.length ca), (7, .slice o.1 k o.2), (16, .slice B p.length cb), (17, int p.length), (18, int k)], fun ⟨k, o, og⟩ => og, fun _ => [Rows2 A ps, Row B (rows p)]⟩ (fun x => p.length - x.1) (0, (none, 0), []) ⟨Nat.zero_le _, Grow.nil _ _⟩ mC (.refl _) ⟨m0, m1, tK⟩ fun x hx => ?_; obtain ⟨k, o, og⟩ := x; obtain ⟨hk, hG⟩ := hx; refine c7 (z8 rfl rfl rfl (b8 (c8 ?_)))
 first | refine k8 rfl (fun hb2 => ?_) (fun hb2 => ?_) | refine d9 rfl (fun hb2 => ?_) (fun hb2 => ?_)
 ·have hb2' := hb2; try simp at hb2'
  have hk2 : k < p.length := by omega
  refine d8 (d4 (c8 (k6 (c7 ?_)))); refine z5 (α := Str) _ _ rfl r5 z2 rfl rfl rfl mB rfl (by omega) (by decide) (b6 rfl j5 rfl (i9 mB (d7 (by omega) rfl)) ?_); refine c3 rfl (b8 ?_); have hst : (p.take (k + 1)).map (fun s => originN ps s ps.length) = (p.take k).map (fun s => originN ps s ps.length) ++ [originN ps (p.getD k default) ps.length] := by rw [v7 p k hk2, List.map_append]; rfl
  refine i4 (b7 rfl (b7 rfl (b7 rfl ?_))); refine d5 bS rfl rfl (bO ps (p.getD k default) (by omega) (fun q hq => by have := h4 q hq; omega)) l6 ⟨m0, tK⟩ fun _ _ => ?_; refine j8 _ rfl rfl (fun _ => jB ..) fun gS => ?_; refine E7 (k + 1) (rows ((p.take (k + 1)).map fun s => originN ps s ps.length)) qA rfl rfl rfl hG (List.perm_append_comm (l₁ := [_])) (Src.own (cs := #[int (originN ps (p.getD k default) ps.length)]) (m := 1) (List.mem_append_right _ m0) rfl rfl) rfl (by rw [hst, z7]; rfl) (by unfold maxLen; omega) (by omega) fun A' c' og' hG' => ?_; refine c3 rfl (d6 (u7 (d4 (i4 ?_)))); refine v6 _ rfl rfl rfl rfl r6 ?_; refine b7 rfl (d6 ?_); exact again _ (k + 1, (A', c'), og') ⟨by omega, hG'⟩ (D5 (by omega)) mC (List.sublist_append_left _ _) ⟨m0, m1, tK⟩
 have hb2' := hb2; try simp at hb2'
 have hk2 : k = p.length := by omega
 subst hk2; rw [List.take_length] at hG; refine s9 (E4 (u6 (d4 (c7 (b7 rfl (c3 rfl (c3 rfl (b8 ?_)))))))); refine l4 (aq5 hG ?_); exact ret2 o rfl rfl rfl (by show Value.tuple #[.slice o.1 (p.map _).length o.2, int 0] = _; rw [List.length_map]) rfl (by show (p.map _).length ≤ o.2; rw [List.length_map]; exact hG.le) (.refl _) ⟨m0, tK⟩
def countN (l : List Str) (s : Str) : Nat := (l.filter fun x => decide (x = s)).length
theorem lj7 {l : List Str} {s : Str} {k : Nat} (h : k < l.length) : countN (l.take (k + 1)) s = countN (l.take k) s + (if l.getD k default = s then 1 else 0) := by
  rw [v7 l k h]; unfold countN; rw [List.filter_append, List.length_append]
  congr 1
  by_cases h3 : l.getD k default = s
  · rw [if_pos h3, List.filter_cons_of_pos (by simpa using h3)]; rfl
  rw [if_neg h3, List.filter_cons_of_neg (by simpa using h3)]; rfl
theorem iq4 (l : List Str) (s : Str) : countN l s ≤ l.length := List.length_filter_le _ _
def growsM (m : Mk) : Int := if m.1 = 1 then 1 else if m.1 = 3 then -1 else 0
end Go.Proofs.YtpfbbggmcbhboaaGreatDoor
end
