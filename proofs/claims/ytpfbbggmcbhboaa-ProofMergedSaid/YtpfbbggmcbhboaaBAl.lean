/- Texts. -/

import Derived.Test.YtpfbbggmcbhboaaBAk
set_option linter.unusedVariables false
set_option linter.unusedSimpArgs false
section
namespace Go.Proofs.Ytpfbbggmcbhboaa
open Go Go.W
set_option maxRecDepth 20000
attribute [local irreducible] HL HC HQ HB Row Rows2 Blk Facts
def behindP (x : Lst) (m : Mk) : Lst := (if m.1 = 3 then x.1 else x.1 + 1, m :: x.2)
def leastP (f : Lst) (l : List Lst) : Lst := l.foldl (fun f x => if cmpL x f < 0 then x else f) f
def leastOf : List Lst → Lst
  | [] => (0, [])
  | f :: l => leastP f l
def diffP (old page : List Str) (i j : Nat) : Lst :=
  leastOf ((if i = old.length ∧ j = page.length then [(0, [])] else []) ++
    (if h : j < page.length then [behindP (diffP old page i (j + 1)) (1, (i : Int), page.getD j default)] else []) ++
    (if h : i < old.length then [behindP (diffP old page (i + 1) j) (3, (i : Int), [])] else []) ++
    (if h : i < old.length ∧ j < page.length then behindP (diffP old page (i + 1) (j + 1)) (2, (i : Int), page.getD j default) :: (if old.getD i default = page.getD j default then [diffP old page (i + 1) (j + 1)] else []) else []))
termination_by (old.length - i) + (page.length - j)
decreasing_by all_goals omega
theorem leastP_mem (f : Lst) (l : List Lst) : leastP f l ∈ f :: l := by
  unfold leastP
  induction l generalizing f with
  | nil => simp
  | cons x l ih =>
    rw [List.foldl_cons]; have := ih (if cmpL x f < 0 then x else f)
    rcases List.mem_cons.1 this with h | h
    · rw [h]; split <;> simp
    · simp [h]
theorem leastOf_mem {l : List Lst} (h : l ≠ []) : leastOf l ∈ l := by
  cases l with
  | nil => exact absurd rfl h
  | cons f l => exact leastP_mem f l
theorem leastV_dat (f : LstV) (l : List LstV) : (leastV f l).dat = leastP f.dat (l.map LstV.dat) := by
  unfold leastV leastP
  induction l generalizing f with
  | nil => rfl
  | cons x l ih =>
    rw [List.foldl_cons, ih, List.map_cons, List.foldl_cons]
    congr 1
    split <;> rfl
theorem leastV_of {f : LstV} {l : List LstV} {c : List Lst} (h : (f :: l).map LstV.dat = c) : (leastV f l).dat = leastOf c := by
  rw [← h, leastV_dat]; rfl
theorem diffP_bd (old page : List Str) : ∀ (d i j : Nat), (old.length - i) + (page.length - j) ≤ d → 0 ≤ (diffP old page i j).1 ∧ (diffP old page i j).1 ≤ (old.length - i : Nat) + (page.length - j : Nat) ∧ (diffP old page i j).2.length ≤ (old.length - i) + (page.length - j) := by
  intro d
  induction d with
  | zero =>
    intro i j h; unfold diffP; rw [dif_neg (by omega), dif_neg (by omega), dif_neg (by omega)]
    split <;> simp [leastOf, leastP] <;> omega
  | succ d ih =>
    intro i j h
    have key : ∀ c : List Lst, (∀ x ∈ c, 0 ≤ x.1 ∧ x.1 ≤ (old.length - i : Nat) + (page.length - j : Nat) ∧ x.2.length ≤ (old.length - i) + (page.length - j)) → 0 ≤ (leastOf c).1 ∧ (leastOf c).1 ≤ (old.length - i : Nat) + (page.length - j : Nat) ∧ (leastOf c).2.length ≤ (old.length - i) + (page.length - j) := by
      intro c hc
      by_cases hn : c = []
      · subst hn; simp [leastOf]; omega
      · exact hc _ (leastOf_mem hn)
    have bh : ∀ (x : Lst) (m : Mk) (N : Nat), 0 ≤ x.1 ∧ x.1 ≤ (N : Int) ∧ x.2.length ≤ N → 0 ≤ (behindP x m).1 ∧ (behindP x m).1 ≤ ((N + 1 : Nat) : Int) ∧ (behindP x m).2.length ≤ N + 1 := by
      intro x m N hx; unfold behindP; refine ⟨?_, ?_, ?_⟩
      · simp only; split <;> omega
      · simp only; split <;> omega
      · simp only [List.length_cons]; omega
    unfold diffP; refine key _ fun x hx => ?_; simp only [List.mem_append] at hx
    rcases hx with ((hx | hx) | hx) | hx
    · split at hx
      · simp at hx; subst hx; simp; omega
      · simp at hx
    · split at hx
      · rename_i hj
        simp at hx; subst hx
        have := bh (diffP old page i (j + 1)) (1, (i : Int), page.getD j default) ((old.length - i) + (page.length - (j + 1))) (by have := ih i (j + 1) (by omega); omega); have e : page.length - j = page.length - (j + 1) + 1 := by omega
        simp only [List.getD_eq_getElem?_getD] at this
        omega
      · simp at hx
    · split at hx
      · rename_i hj
        simp at hx; subst hx
        have := bh (diffP old page (i + 1) j) (3, (i : Int), ([] : Str)) ((old.length - (i + 1)) + (page.length - j)) (by have := ih (i + 1) j (by omega); omega)
        omega
      · simp at hx
    · split at hx
      · rename_i hj
        have h2 := ih (i + 1) (j + 1) (by omega)
        rcases List.mem_cons.1 hx with hx | hx
        · subst hx
          have := bh (diffP old page (i + 1) (j + 1)) (2, (i : Int), page.getD j default) ((old.length - (i + 1)) + (page.length - (j + 1))) (by omega)
          omega
        · split at hx
          · simp at hx; subst hx; omega
          · simp at hx
      · simp at hx
abbrev Memo := List (Ment (Int × Int))
def MI (old page : List Str) (l : Memo) (Fs : List Fact) : Prop := ∀ e ∈ l, ∃ (x : LstV) (i j : Nat), e.2.1 = x.v ∧ x.row ∈ Fs ∧ e.1 = ((i : Int), (j : Int)) ∧ x.dat = diffP old page i j
theorem MI.mono {old page : List Str} {l : Memo} {Fs Gs : List Fact} (h : MI old page l Fs) (hs : ∀ F ∈ Fs, F ∈ Gs) : MI old page l Gs := fun e he => by
  obtain ⟨x, i, j, h1, h2, h3⟩ := h e he; exact ⟨x, i, j, h1, hs _ h2, h3⟩
theorem MI.get {old page : List Str} {l : Memo} {Fs : List Fact} (h : MI old page l Fs) {i j : Nat} {v : Value} (hv : getM l ((i : Int), (j : Int)) = some v) : ∃ x : LstV, v = x.v ∧ x.row ∈ Fs ∧ x.dat = diffP old page i j := by
  obtain ⟨e, he, h1, h2⟩ := getM_mem hv; obtain ⟨x, i', j', h3, h4, h5, h6⟩ := h e he; rw [h1] at h5; simp only [Prod.mk.injEq, Int.natCast_inj] at h5; obtain ⟨rfl, rfl⟩ := h5; exact ⟨x, h2 ▸ h3, h4, h6⟩
theorem MI.put {old page : List Str} {l : Memo} {Fs : List Fact} (h : MI old page l Fs) {i j clk : Nat} {x : LstV} (hx : x.row ∈ Fs) (hd : x.dat = diffP old page i j) : MI old page (putM l ((i : Int), (j : Int)) x.v clk) Fs := fun e he => by
  rcases putM_mem he with ⟨h1, h2⟩ | he
  · exact ⟨x, i, j, h2, hx, h1, hd⟩
  · exact h e he
theorem zv_list (w : World) : (zeroValue T.proof_list).run Try.prog w = .ok (.agg #[int 0, .slice none 0 0]) w := by kernel_rfl
abbrev KP : KeyC Try.prog T.A2_int pair := KeyC.pair T.u_A2_int T.u_int T.sz_int
def capV (gk go gp gf : Nat) : Value := .func (.func F.proof_diff_1) #[] #[.pointer (some ⟨gk, 0, none⟩), .pointer (some ⟨go, 0, none⟩), .pointer (some ⟨gp, 0, none⟩), .pointer (some ⟨gf, 0, none⟩)]
def cellsD (gk gm go gp gf : Nat) (A B : Option Addr) (n ca m cb : Nat) : List Fact :=
  [Blk gk (.cells #[.map (some gm)] T.map_2_int_proof_list (0, 0)), Blk go (.cells #[.slice A n ca] T.strs (0, 0)), Blk gp (.cells #[.slice B m cb] T.strs (0, 0)), Blk gf (.cells #[capV gk go gp gf] T.func_int_int_proof_list (0, 0))]
def diffCon (gk gm go gp gf : Nat) (A B : Option Addr) (ca cb : Nat) (old page : List Str) (l : Memo) (clk : Nat) (Fs : List Fact) (i j : Nat) : Con (Memo × Nat × List Fact × LstV) :=
  { hpI := [(gm, mapO pair l clk)], LI := Facts Fs :: Row A (rows old) :: Row B (rows page) :: cellsD gk gm go gp gf A B old.length ca page.length cb,
    inv := fun x => MI old page x.1 x.2.2.1 ∧ x.2.2.2.dat = diffP old page i j, val := fun x => x.2.2.2.v, hpO := fun x => [(gm, mapO pair x.1 x.2.1)], LO := fun x => [x.2.2.2.row, Facts x.2.2.1] }
def argD (gk go gp gf : Nat) (i j : Nat) : List Value := [int i, int j, .pointer (some ⟨gk, 0, none⟩), .pointer (some ⟨go, 0, none⟩), .pointer (some ⟨gp, 0, none⟩), .pointer (some ⟨gf, 0, none⟩)]
def cand0 (old page : List Str) (i j : Nat) : List Lst := if i = old.length ∧ j = page.length then [(0, [])] else []
def cand1 (old page : List Str) (i j : Nat) : List Lst := cand0 old page i j ++ (if j < page.length then [behindP (diffP old page i (j + 1)) (1, (i : Int), page.getD j default)] else [])
def cand2 (old page : List Str) (i j : Nat) : List Lst := cand1 old page i j ++ (if i < old.length then [behindP (diffP old page (i + 1) j) (3, (i : Int), [])] else [])
def cand3 (old page : List Str) (i j : Nat) : List Lst := cand2 old page i j ++ (if i < old.length ∧ j < page.length then behindP (diffP old page (i + 1) (j + 1)) (2, (i : Int), page.getD j default) :: (if old.getD i default = page.getD j default then [diffP old page (i + 1) (j + 1)] else []) else [])
theorem diffP_eq (old page : List Str) (i j : Nat) : diffP old page i j = leastOf (cand3 old page i j) := by
  rw [diffP]; simp only [dite_eq_ite, cand3, cand2, cand1, cand0]
theorem bdV {old page : List Str} {x : LstV} {i j : Nat} (h : x.dat = diffP old page i j) (ho : old.length ≤ 1000) (hp : page.length ≤ 1000) : (0 ≤ x.1 ∧ x.1 ≤ 1000000) ∧ x.2.l.length ≤ 1000000 := by
  have := diffP_bd old page _ i j (Nat.le_refl _); rw [← h] at this; obtain ⟨h1, h2, h3⟩ := this; simp only [LstV.dat] at h1 h2 h3; exact ⟨⟨h1, by omega⟩, by omega⟩
theorem pm8 {α : Type} (l : List α) (a b c : α) : ((a :: l) ++ [b, c]).Perm (l ++ [a, b, c]) := perm_of fun p => by simp only [List.countP_append, List.countP_cons, List.countP_nil]; omega
theorem pm9 {α : Type} (l : List α) (s a b c : α) : (s :: a :: (l ++ [b, c])).Perm (l ++ [s, a, b, c]) := perm_of fun p => by simp only [List.countP_append, List.countP_cons, List.countP_nil]; omega
theorem pm10 {α : Type} (l : List α) (a b c d : α) : (l ++ [a, b, c, d]).Perm (a :: (l ++ [b, c, d])) := perm_of fun p => by simp only [List.countP_append, List.countP_cons, List.countP_nil]; omega
theorem pm11 {α : Type} (l : List α) (s a b c d : α) : (s :: a :: (l ++ [b, c, d])).Perm (l ++ [s, a, b, c, d]) := perm_of fun p => by simp only [List.countP_append, List.countP_cons, List.countP_nil]; omega
theorem cand3_ne {old page : List Str} {i j : Nat} (hi : i ≤ old.length) (hj : j ≤ page.length) : cand3 old page i j ≠ [] := by
  unfold cand3 cand2 cand1 cand0
  by_cases h1 : j < page.length
  · simp [h1]
  · by_cases h2 : i < old.length
    · simp [h2]
    · have e1 : i = old.length := by omega
      have e2 : j = page.length := by omega
      simp [e1, e2]
theorem cand3_bd {old page : List Str} {i j : Nat} (ho : old.length ≤ 1000) (hp : page.length ≤ 1000) : ∀ x ∈ cand3 old page i j, x.2.length ≤ 1000000 := by
  have b : ∀ a b, (diffP old page a b).2.length ≤ 2000 := fun a b => by have := (diffP_bd old page _ a b (Nat.le_refl _)).2.2; omega
  intro x hx; unfold cand3 cand2 cand1 cand0 at hx; simp only [List.mem_append] at hx
  rcases hx with ((hx | hx) | hx) | hx
  · split at hx <;> simp at hx
    subst hx; simp
  · split at hx <;> simp at hx
    subst hx; have := b i (j + 1); simp only [behindP, List.length_cons]; omega
  · split at hx <;> simp at hx
    subst hx; have := b (i + 1) j; simp only [behindP, List.length_cons]; omega
  · split at hx
    · rcases List.mem_cons.1 hx with hx | hx
      · subst hx; have := b (i + 1) (j + 1); simp only [behindP, List.length_cons]; omega
      · split at hx <;> simp at hx
        subst hx; have := b (i + 1) (j + 1); omega
    · simp at hx
theorem cand2_len (old page : List Str) (i j : Nat) : (cand2 old page i j).length ≤ 3 := by
  have h1 : ∀ (p : Prop) [Decidable p] (x : Lst), (if p then [x] else []).length ≤ 1 := by intro p _ x; split <;> simp
  unfold cand2 cand1 cand0; rw [List.length_append, List.length_append]; have a := h1 (i = old.length ∧ j = page.length) (0, []); have b := h1 (j < page.length) (behindP (diffP old page i (j + 1)) (1, (i : Int), page.getD j default)); have c := h1 (i < old.length) (behindP (diffP old page (i + 1) j) (3, (i : Int), []))
  omega
structure DSt where
  l : Memo
  clk : Nat
  Fs : List Fact
  cs : List LstV
  o : OutC
  og : Hp
def dInv (old page : List Str) (c : List Lst) (x : DSt) : Prop := MI old page x.l x.Fs ∧ x.cs.map LstV.dat = c ∧ Grow T.proof_list 2 x.o.1 x.cs.length x.o.2 (rows x.cs) x.og ∧ (∀ y ∈ x.cs, y.row ∈ x.Fs) ∧ x.cs.length ≤ 10
abbrev dSta (gk gm go gp gf g8 g9 : Nat) (A B : Option Addr) (ca cb : Nat) (old page : List Str) (i j : Nat) (c : List Lst) : Sta DSt :=
  { inv := dInv old page c
    fr := fun x => [(0, int i), (1, int j), (2, .pointer (some ⟨gk, 0, none⟩)), (3, .pointer (some ⟨go, 0, none⟩)), (4, .pointer (some ⟨gp, 0, none⟩)), (5, .pointer (some ⟨gf, 0, none⟩)), (8, .pointer (some ⟨g8, 0, none⟩)), (9, .pointer (some ⟨g9, 0, none⟩)), (12, .slice x.o.1 x.cs.length x.o.2)]
    hp := fun x => (gm, mapO pair x.l x.clk) :: (x.og ++ [(g8, .cells #[int 0, .slice none 0 0] T.proof_list (0, 0)), (g9, .cells #[int i, int j] T.A2_int (0, 0))])
    L := fun x => Facts x.Fs :: Row A (rows old) :: Row B (rows page) :: cellsD gk gm go gp gf A B old.length ca page.length cb }
theorem proof_diff_1_meets {gk gm go gp gf : Nat} {A B : Option Addr} {ca cb : Nat} {old page : List Str} (ho : old.length ≤ 1000) (hpl : page.length ≤ 1000) (d : Nat) : ∀ (i j : Nat) (l : Memo) (clk : Nat) (Fs : List Fact), (old.length - i) + (page.length - j) < d → i ≤ old.length → j ≤ page.length → MI old page l Fs →
    Meets Try.prog F.proof_diff_1 (argD gk go gp gf i j) (diffCon gk gm go gp gf A B ca cb old page l clk Fs i j) := by
 induction d
 case zero => intro i j l clk Fs hd; omega
 rename_i d ih
 intro i j l clk Fs hd hi hj hM; refine meets_intro F.proof_diff_1_f rfl (Nat.le_of_ble_eq_true rfl) fun w0 => ?_; refine hc_seq (hc_region ?_); refine r_alloc rfl (fun _ => T.al_proof_list _) fun g8 => ?_; refine hl_nil (then_n (hc_seq (hc_region (r_move rfl rfl (r_move rfl rfl ?_))))); refine r_build _ rfl rfl (fun _ => T.bd_A2_int_0_1 ..) ?_; refine r_alloc rfl (fun _ => T.al_A2_int _) fun g9 => ?_; refine r_storeS rfl rfl (by first | exact .refl _ | exact perm2 _ _ _ | exact perm3 _ _ _ _ | exact perm4 _ _ _ _ _) T.sz_A2_int (by rfl) (by rfl) ?_; refine hl_nil (then_n (hc_seq (hc_seq ?_)))
 obtain ⟨y, b, hv, hb, hy⟩ : ∃ (y : LstV) (b : Bool), (getM l ((i : Int), (j : Int))).getD (.agg #[int 0, .slice none 0 0]) = y.v ∧ (getM l ((i : Int), (j : Int))).isSome = b ∧ (b = true → y.row ∈ Fs ∧ y.dat = diffP old page i j) := by
   cases hg : getM l ((i : Int), (j : Int)) with
   | none => exact ⟨(0, ⟨none, 0, []⟩), false, rfl, rfl, by intro h; cases h⟩
   | some v =>
     obtain ⟨y, rfl, h1, h2⟩ := hM.get hg; exact ⟨y, true, rfl, rfl, fun _ => ⟨h1, h2⟩⟩
 refine hc_region ?_
 first | refine r_load rfl T.cell_map_2_int_proof_list rfl (cell_own mB rfl) ?_ | refine r_load rfl T.cell_map_2_int_proof_list rfl (cell_blk mB rfl) ?_ | refine r_load rfl T.cell_map_2_int_proof_list rfl (cell_row mB (rows_get0 (by omega) rfl)) ?_ | refine r_load rfl T.cell_map_2_int_proof_list rfl (cell_row_f mB (rows_get (by omega) rfl)) ?_
 first | refine r_loadA rfl T.row_A2_int T.sz_A2_int rfl mB (by rfl) ?_ | refine r_loadB rfl T.row_A2_int T.sz_A2_int rfl mB (by rfl) ?_ | refine r_loadS rfl T.row_A2_int T.sz_A2_int rfl rfl (cells_row mB (rows_all (by omega))) ?_
 refine r_lookOkG (k := ((i : Int), (j : Int))) _ _ b KP rfl T.u_map_2_int_proof_list rfl rfl (map_own m2) zv_list hv hb ?_; refine r_move rfl rfl (r_extract rfl rfl rfl (r_extract rfl rfl rfl ?_)); refine r_alloc rfl (fun _ => T.al_proof_list _) fun g10 => ?_; refine r_storeS rfl rfl (by first | exact .refl _ | exact perm2 _ _ _ | exact perm3 _ _ _ _ | exact perm4 _ _ _ _ _) T.sz_proof_list (by rfl) (by rfl) ?_; refine r_assign rfl rfl (hl_nil (then_n (hc_seq (hc_region (r_move rfl rfl (hl_nil (then_n ?_)))))))
 first | refine c_dec rfl (fun hb1 => ?_) (fun hb1 => ?_) | refine hc_cond rfl (fun hb1 => ?_) (fun hb1 => ?_)
 ·have hb1' := hb1; try simp at hb1'
  obtain ⟨hy1, hy2⟩ := hy hb1; refine hc_seq (hc_region ?_)
  first | refine r_loadA rfl T.row_proof_list T.sz_proof_list rfl mB (by rfl) ?_ | refine r_loadB rfl T.row_proof_list T.sz_proof_list rfl mB (by rfl) ?_ | refine r_loadS rfl T.row_proof_list T.sz_proof_list rfl rfl (cells_row mB (rows_all (by omega))) ?_
  refine r_storeS rfl rfl (by first | exact .refl _ | exact perm2 _ _ _ | exact perm3 _ _ _ _ | exact perm4 _ _ _ _ _) T.sz_proof_list (by rfl) (by rfl) ?_; refine hl_nil (then_n (hc_ret (then_ret ?_))); refine hq_pick (F := y.row) m0 hy1 ?_; exact ret_row (l, clk, Fs, y) rfl rfl T.row_proof_list T.sz_proof_list rfl m0 rfl rfl ⟨hM, hy2⟩ (.cons _ (.cons _ (.cons _ (.refl _)))) ⟨m0, m1, trivial⟩
 ·have hb1' := hb1; try simp at hb1'
  refine hc_skip (then_n (hc_seq (hc_region (r_assign rfl rfl (hl_nil (then_n ?_)))))); refine hc_cut (dSta gk gm go gp gf g8 g9 A B ca cb old page i j (cand0 old page i j)) ?_ ?_
  ·skip
   refine hc_seq (hc_region (r_move rfl rfl ?_))
   first | refine r_load rfl T.cell_strs rfl (cell_own mB rfl) ?_ | refine r_load rfl T.cell_strs rfl (cell_blk mB rfl) ?_ | refine r_load rfl T.cell_strs rfl (cell_row mB (rows_get0 (by omega) rfl)) ?_ | refine r_load rfl T.cell_strs rfl (cell_row_f mB (rows_get (by omega) rfl)) ?_
   refine r_len_sl rfl T.u_strs rfl ?_; refine r_eql rfl rfl rfl (r_move rfl rfl ?_); refine g_split rfl rfl ?_ ?_
   ·intro hg1; have hg1' := hg1; try simp at hg1'
    refine g_yes rfl rfl hg1 (r_move rfl rfl (g_yes rfl rfl hg1 ?_))
    first | refine r_load rfl T.cell_strs rfl (cell_own mB rfl) ?_ | refine r_load rfl T.cell_strs rfl (cell_blk mB rfl) ?_ | refine r_load rfl T.cell_strs rfl (cell_row mB (rows_get0 (by omega) rfl)) ?_ | refine r_load rfl T.cell_strs rfl (cell_row_f mB (rows_get (by omega) rfl)) ?_
    refine g_yes rfl rfl hg1 ?_; refine r_len_sl rfl T.u_strs rfl ?_; refine g_yes rfl rfl hg1 (r_eql rfl rfl rfl ?_); refine p_t rfl rfl (bt1 hg1) rfl ?_; refine hl_nil (then_n ?_)
    first | refine c_dec rfl (fun hb2 => ?_) (fun hb2 => ?_) | refine hc_cond rfl (fun hb2 => ?_) (fun hb2 => ?_)
    ·have hb2' := hb2; try simp at hb2'
     refine hc_region (r_move rfl rfl ?_); refine r_build _ rfl rfl (fun _ => T.bd_proof_list_ ..) ?_; refine r_buildSlice _ rfl rfl (fun _ => T.bs_L_proof_list_1 ..) fun gS => ?_; refine r_append 1 (rows [((0, ⟨none, 0, []⟩) : LstV)]) T.el_L_proof_list rfl rfl rfl (Grow.nil _ _) (.refl _) (Src.own (m := 1) m0 rfl rfl) rfl rfl (by decide) (by decide) fun A' c' og' hG' => ?_; refine r_assign rfl rfl (hl_nil ?_); refine hq_nilrow (α := Mk) ?_
     refine hq_facts (Fs := Row none (rows ([] : List Mk)) :: Fs) (fun F hF => by
       rcases List.mem_cons.1 hF with rfl | hF
       · exact .inl m0
       · exact .inr ⟨Fs, m1, hF⟩) ?_
     exact cut_c _ ⟨l, clk, _, [(0, ⟨none, 0, []⟩)], (A', c'), og'⟩ ⟨hM.mono (fun _ h => List.mem_cons_of_mem _ h), by rw [cand0, if_pos (by omega)]; rfl, hG', by simp [LstV.row], by simp⟩ ⟨rfl, rfl, rfl, rfl, rfl, rfl, rfl, rfl, rfl, trivial⟩ (fun p => by simp only [int, T.A2_int, T.proof_list, diffCon, dSta, List.countP_append, List.countP_cons, List.countP_nil]; omega) ⟨m0, m3, m4, m5, m6, m7, m8, trivial⟩
    ·have hb2' := hb2; try simp at hb2'
     refine hc_skip ?_; exact cut_c _ ⟨l, clk, Fs, [], (none, 0), []⟩ ⟨hM, by rw [cand0, if_neg (by omega)]; rfl, Grow.nil _ _, by simp, by simp⟩ ⟨rfl, rfl, rfl, rfl, rfl, rfl, rfl, rfl, rfl, trivial⟩ (fun p => by simp only [int, T.A2_int, T.proof_list, diffCon, dSta, List.countP_append, List.countP_cons, List.countP_nil]; omega) ⟨m0, m1, m2, m3, m4, m5, m6, trivial⟩
   ·intro hg1; have hg1' := hg1; try simp at hg1'
    refine g_no rfl rfl rfl rfl rfl hg1 (g_no rfl rfl rfl rfl rfl hg1 (g_no rfl rfl rfl rfl rfl hg1 (g_no rfl rfl rfl rfl rfl hg1 ?_))); refine p_f rfl rfl (bf2 hg1) rfl ?_; refine hl_nil (then_n (c_f rfl rfl (hc_skip ?_))); exact cut_c _ ⟨l, clk, Fs, [], (none, 0), []⟩ ⟨hM, by rw [cand0, if_neg (by omega)]; rfl, Grow.nil _ _, by simp, by simp⟩ ⟨rfl, rfl, rfl, rfl, rfl, rfl, rfl, rfl, rfl, trivial⟩ (fun p => by simp only [int, T.A2_int, T.proof_list, diffCon, dSta, List.countP_append, List.countP_cons, List.countP_nil]; omega) ⟨m0, m1, m2, m3, m4, m5, m6, trivial⟩
  ·refine fun x hx => ?_; obtain ⟨l, clk, Fs, cs, o, og⟩ := x; obtain ⟨hM, hcs, hG, hrow, hlen⟩ := hx; simp only at hM hcs hG hrow hlen; refine hc_cut (dSta gk gm go gp gf g8 g9 A B ca cb old page i j (cand1 old page i j)) ?_ ?_
   ·skip
    refine hc_seq (hc_region (r_move rfl rfl ?_))
    first | refine r_load rfl T.cell_strs rfl (cell_own mB rfl) ?_ | refine r_load rfl T.cell_strs rfl (cell_blk mB rfl) ?_ | refine r_load rfl T.cell_strs rfl (cell_row mB (rows_get0 (by omega) rfl)) ?_ | refine r_load rfl T.cell_strs rfl (cell_row_f mB (rows_get (by omega) rfl)) ?_
    refine r_len_sl rfl T.u_strs rfl ?_; refine r_lss rfl rfl rfl (hl_nil (then_n ?_))
    first | refine c_dec rfl (fun hb3 => ?_) (fun hb3 => ?_) | refine hc_cond rfl (fun hb3 => ?_) (fun hb3 => ?_)
    ·have hb3' := hb3; try simp at hb3'
     have hj3 : j < page.length := by omega
     refine hc_drawW ((gm, mapO pair l clk) :: og) ([_, _]) (List.Perm.refl _) 14 [5] mixed (by decide) (by decide) (by decide) rfl rfl rfl ?_; refine hb_ex _ rfl rfl rfl (fun w1 => r_move rfl rfl (hl_nil (qe_done rfl))) ?_
     apply hb_ex _ rfl rfl rfl
     ·intro w1
      first | refine r_load rfl T.cell_func_int_int_proof_list rfl (cell_blk mB rfl) ?_ | refine r_load rfl T.cell_func_int_int_proof_list rfl (cell_own mB rfl) ?_ | refine r_load rfl T.cell_func_int_int_proof_list rfl (cell_row mB (rows_get0 (by omega) rfl)) ?_ | refine r_load rfl T.cell_func_int_int_proof_list rfl (cell_row_f mB (rows_get (by omega) rfl)) ?_
      refine hl_nil ?_; exact qe_done rfl
     refine hb_ex _ rfl rfl rfl (fun w1 => r_move rfl rfl (hl_nil (qe_done rfl))) ?_; refine hb_ex _ rfl rfl rfl (fun w1 => r_move rfl rfl (hl_nil (qe_done rfl))) ?_; refine hb_ex _ rfl rfl rfl (fun w1 => r_add ((j + 1 : Nat) : Int) rfl rfl rfl (by omega) (by unfold I64; omega) (hl_nil (qe_done rfl))) ?_; refine hb_wr ⟨Memo × Nat × List Fact × LstV, fun x => MI old page x.1 x.2.2.1 ∧ x.2.2.2.dat = diffP old page i (j + 1), fun x => x.2.2.2.v, fun x => [x.2.2.2.row, Facts x.2.2.1], fun x => (gm, mapO pair x.1 x.2.1) :: og⟩ rfl rfl rfl ?_ ?_
     ·intro w1; refine hl_callv (vs := [int i, int ((j + 1 : Nat) : Int)]) F.proof_diff_1_cb rfl rfl rfl (ih i (j + 1) l clk Fs (by omega) hi (by omega) hM) (List.Perm.refl _) ⟨m0, m1, m2, m3, m4, m5, m6, trivial⟩ fun x hx => ?_; refine hl_nil ?_; exact qw_done x hx (fun _ => rfl) (.refl _) ⟨m0, m1, trivial⟩
     refine hb_ex _ rfl rfl rfl (fun w1 => r_move rfl rfl (hl_nil (qe_done rfl))) ?_
     apply hb_ex _ rfl rfl rfl
     ·intro w1
      first | refine r_load rfl T.cell_strs rfl (cell_blk mB rfl) ?_ | refine r_load rfl T.cell_strs rfl (cell_own mB rfl) ?_ | refine r_load rfl T.cell_strs rfl (cell_row mB (rows_get0 (by omega) rfl)) ?_ | refine r_load rfl T.cell_strs rfl (cell_row_f mB (rows_get (by omega) rfl)) ?_
      refine hl_nil ?_; exact qe_done rfl
     refine hb_ex _ rfl rfl rfl (fun w1 => r_move rfl rfl (hl_nil (qe_done rfl))) ?_; refine hb_ex _ rfl rfl rfl (fun w1 => r_elem (α := Str) _ _ rfl T.u_strs T.sz_string rfl rfl rfl mB rfl (by omega) (by decide) (hl_nil (qe_done rfl))) ?_; refine hb_ex _ rfl rfl rfl (fun w1 => r_load rfl T.cell_string rfl (cell_row mB (rows_get0 (by omega) rfl)) (hl_nil (qe_done rfl))) ?_; refine hb_ex _ rfl rfl rfl (fun w1 => r_build _ rfl rfl (fun _ => T.bd_api_Mark_0_1_2 ..) (hl_nil (qe_done rfl))) ?_; refine hb_vs ⟨LstV, fun y => y.dat = behindP (diffP old page i (j + 1)) (1, (i : Int), page.getD j default), fun y => .agg #[int y.1, .slice y.2.a y.2.l.length y.2.c], fun y => [y.row]⟩ rfl rfl rfl ?_ ?_
     ·intro x hx; intro w1; refine hl_call F.proof_list_behind_cb rfl rfl (proof_list_behind_meets x.2.2.2 (1, (i : Int), page.getD j default) (bdV hx.2 ho hpl).1 (bdV hx.2 ho hpl).2) (List.Perm.refl _) ⟨m0, trivial⟩ fun o1 ho1 => ?_; refine hl_nil ?_; exact qv_done (_, ⟨o1.1, o1.2, _⟩) (by rw [← hx.2]; rfl) rfl ⟨m0, trivial⟩
     refine hb_vs ⟨Nat × LstV, fun z => z.2.dat = behindP (diffP old page i (j + 1)) (1, (i : Int), page.getD j default), fun z => .slice (some ⟨z.1, 0, none⟩) 1 1, fun z => [Row (some ⟨z.1, 0, none⟩) (rows [z.2]), z.2.row]⟩ rfl rfl rfl ?_ ?_
     ·intro y hy; intro w1; refine r_buildSlice _ rfl rfl (fun _ => T.bs_L_proof_list_1 ..) fun gS => ?_; refine hl_nil ?_; refine hq_letgo (rows [y]) ⟨[], List.append_nil _⟩ ?_; exact qv_done (gS, y) hy rfl ⟨m0, m1, trivial⟩
     refine hb_nil ⟨rfl, ?_⟩; intro x hx y1 hy1 z hz; refine r_append (cs.length + 1) (rows (cs ++ [z.2])) T.el_L_proof_list rfl rfl rfl hG (pm8 _ _ _ _) (Src.row (news := rows [z.2]) (m := 1) m0 rfl (rows_one _) (by decide)) rfl (rows_append cs [z.2]).symm (by unfold maxLen; omega) (by omega) fun A' c' og' hG' => ?_; refine r_assign rfl rfl (hl_nil ?_); have hl0 : cs.length ≤ 1 := by have := congrArg List.length hcs; rw [List.length_map] at this; rw [this, cand0]; split <;> simp
     refine hq_facts (Fs := z.2.row :: (x.2.2.1 ++ Fs)) (fun F hF => by
       rcases List.mem_cons.1 hF with rfl | hF
       · exact .inl m1
       · rcases List.mem_append.1 hF with hF | hF
         · exact .inr ⟨_, m4, hF⟩
         · exact .inr ⟨Fs, m5, hF⟩) ?_
     exact cut_c _ ⟨x.1, x.2.1, z.2.row :: (x.2.2.1 ++ Fs), cs ++ [z.2], (A', c'), og'⟩ ⟨hx.1.mono (fun F h => by simp [h]), by rw [List.map_append, hcs, cand1, if_pos hj3]; show _ ++ [z.2.dat] = _; rw [show z.2.dat = _ from hz], by rw [len_snoc]; exact hG', fun y hy => by
       rcases List.mem_append.1 hy with h | h
       · simp [hrow y h]
       · simp at h; subst h; simp, by rw [len_snoc]; omega⟩ ⟨rfl, rfl, rfl, rfl, rfl, rfl, rfl, rfl, by rw [len_snoc]; rfl, trivial⟩ (fun p => by simp only [int, T.A2_int, T.proof_list, diffCon, dSta, List.countP_append, List.countP_cons, List.countP_nil]; omega) ⟨m0, m7, m8, m9, m10, m11, m12, trivial⟩
    ·have hb3' := hb3; try simp at hb3'
     have hj3 : ¬ j < page.length := by omega
     refine hc_skip ?_; exact cut_c _ ⟨l, clk, Fs, cs, o, og⟩ ⟨hM, by rw [hcs, cand1, if_neg hj3, List.append_nil], hG, hrow, hlen⟩ ⟨rfl, rfl, rfl, rfl, rfl, rfl, rfl, rfl, rfl, trivial⟩ (fun p => by simp only [int, T.A2_int, T.proof_list, diffCon, dSta, List.countP_append, List.countP_cons, List.countP_nil]; omega) ⟨m0, m1, m2, m3, m4, m5, m6, trivial⟩
   ·refine fun x hx => ?_; obtain ⟨l, clk, Fs, cs, o, og⟩ := x; obtain ⟨hM, hcs, hG, hrow, hlen⟩ := hx; simp only at hM hcs hG hrow hlen; refine hc_cut (dSta gk gm go gp gf g8 g9 A B ca cb old page i j (cand2 old page i j)) ?_ ?_
    ·skip
     refine hc_seq (hc_region (r_move rfl rfl ?_))
     first | refine r_load rfl T.cell_strs rfl (cell_own mB rfl) ?_ | refine r_load rfl T.cell_strs rfl (cell_blk mB rfl) ?_ | refine r_load rfl T.cell_strs rfl (cell_row mB (rows_get0 (by omega) rfl)) ?_ | refine r_load rfl T.cell_strs rfl (cell_row_f mB (rows_get (by omega) rfl)) ?_
     refine r_len_sl rfl T.u_strs rfl ?_; refine r_lss rfl rfl rfl (hl_nil (then_n ?_))
     first | refine c_dec rfl (fun hb4 => ?_) (fun hb4 => ?_) | refine hc_cond rfl (fun hb4 => ?_) (fun hb4 => ?_)
     ·have hb4' := hb4; try simp at hb4'
      have hi4 : i < old.length := by omega
      refine hc_region (r_move rfl rfl ?_)
      first | refine r_load rfl T.cell_func_int_int_proof_list rfl (cell_own mB rfl) ?_ | refine r_load rfl T.cell_func_int_int_proof_list rfl (cell_blk mB rfl) ?_ | refine r_load rfl T.cell_func_int_int_proof_list rfl (cell_row mB (rows_get0 (by omega) rfl)) ?_ | refine r_load rfl T.cell_func_int_int_proof_list rfl (cell_row_f mB (rows_get (by omega) rfl)) ?_
      refine r_move rfl rfl ?_; refine r_add ((i + 1 : Nat) : Int) rfl rfl rfl (by omega) (by unfold I64; omega) ?_; refine r_move rfl rfl ?_; refine hl_callv (vs := [int ((i + 1 : Nat) : Int), int j]) F.proof_diff_1_cb rfl rfl rfl (ih (i + 1) j l clk Fs (by omega) (by omega) hj hM) (List.Perm.refl _) ⟨m0, m1, m2, m3, m4, m5, m6, trivial⟩ fun x hx => ?_; refine r_move rfl rfl ?_; refine r_build _ rfl rfl (fun _ => T.bd_api_Mark_0_1 ..) ?_; refine hl_call F.proof_list_behind_cb rfl rfl (proof_list_behind_meets x.2.2.2 (3, (i : Int), []) (bdV hx.2 ho hpl).1 (bdV hx.2 ho hpl).2) (List.Perm.refl _) ⟨m0, trivial⟩ fun o1 ho1 => ?_; obtain ⟨z, hz⟩ : ∃ z : LstV, z = (x.2.2.2.1, ⟨o1.1, o1.2, (3, (i : Int), []) :: x.2.2.2.2.l⟩) := ⟨_, rfl⟩; have hzd : z.dat = behindP (diffP old page (i + 1) j) (3, (i : Int), []) := by rw [hz, ← hx.2]; rfl
      refine hl_more (F := z.row) (fun w hw => by rw [hz]; exact hw.fs _ m0) (fun k hk => ⟨_, m0, by rw [hz] at hk; exact hk⟩) ?_; refine r_buildSlice [(0, .agg #[int z.1, .slice z.2.a z.2.l.length z.2.c])] rfl (by rw [hz]; rfl) (fun _ => T.bs_L_proof_list_1 ..) fun gS => ?_; refine r_append (cs.length + 1) (rows (cs ++ [z])) T.el_L_proof_list rfl rfl rfl hG (pm9 _ _ _ _ _) (Src.own (cs := (El.cells z).toArray) (m := 1) (List.mem_append_right _ m0) rfl rfl) rfl (by rw [rows_append]; simp [rows]) (by unfold maxLen; omega) (by omega) fun A' c' og' hG' => ?_; refine r_assign rfl rfl (hl_nil ?_); have hl0 : cs.length ≤ 2 := by have := congrArg List.length hcs; rw [List.length_map] at this; rw [this, cand1, cand0, List.length_append]; split <;> split <;> simp
      refine hq_facts (Fs := z.row :: (x.2.2.1 ++ Fs)) (fun F hF => by
        rcases List.mem_cons.1 hF with rfl | hF
        · exact .inl m0
        · rcases List.mem_append.1 hF with hF | hF
          · exact .inr ⟨_, m3, hF⟩
          · exact .inr ⟨Fs, m4, hF⟩) ?_
      exact cut_c _ ⟨x.1, x.2.1, z.row :: (x.2.2.1 ++ Fs), cs ++ [z], (A', c'), og'⟩ ⟨hx.1.mono (fun F h => by simp [h]), by rw [List.map_append, hcs, cand2, if_pos hi4]; show _ ++ [z.dat] = _; rw [hzd], by rw [len_snoc]; exact hG', fun y hy => by
        rcases List.mem_append.1 hy with h | h
        · simp [hrow y h]
        · simp at h; subst h; simp, by rw [len_snoc]; omega⟩ ⟨rfl, rfl, rfl, rfl, rfl, rfl, rfl, rfl, by rw [len_snoc]; rfl, trivial⟩ (fun p => by simp only [int, T.A2_int, T.proof_list, diffCon, dSta, List.countP_append, List.countP_cons, List.countP_nil]; omega) ⟨m0, m6, m7, m8, m9, m10, m11, trivial⟩
     ·have hb4' := hb4; try simp at hb4'
      have hi4 : ¬ i < old.length := by omega
      refine hc_skip ?_; exact cut_c _ ⟨l, clk, Fs, cs, o, og⟩ ⟨hM, by rw [hcs, cand2, if_neg hi4, List.append_nil], hG, hrow, hlen⟩ ⟨rfl, rfl, rfl, rfl, rfl, rfl, rfl, rfl, rfl, trivial⟩ (fun p => by simp only [int, T.A2_int, T.proof_list, diffCon, dSta, List.countP_append, List.countP_cons, List.countP_nil]; omega) ⟨m0, m1, m2, m3, m4, m5, m6, trivial⟩
    ·refine fun x hx => ?_; obtain ⟨l, clk, Fs, cs, o, og⟩ := x; obtain ⟨hM, hcs, hG, hrow, hlen⟩ := hx; simp only at hM hcs hG hrow hlen; refine hc_cut (dSta gk gm go gp gf g8 g9 A B ca cb old page i j (cand3 old page i j)) ?_ ?_
     ·skip
      refine hc_seq (hc_region (r_move rfl rfl ?_))
      first | refine r_load rfl T.cell_strs rfl (cell_own mB rfl) ?_ | refine r_load rfl T.cell_strs rfl (cell_blk mB rfl) ?_ | refine r_load rfl T.cell_strs rfl (cell_row mB (rows_get0 (by omega) rfl)) ?_ | refine r_load rfl T.cell_strs rfl (cell_row_f mB (rows_get (by omega) rfl)) ?_
      refine r_len_sl rfl T.u_strs rfl ?_; refine r_lss rfl rfl rfl (r_move rfl rfl ?_); refine g_split rfl rfl ?_ ?_
      ·intro hg2; have hg2' := hg2; try simp at hg2'
       refine g_yes rfl rfl hg2 (r_move rfl rfl (g_yes rfl rfl hg2 ?_))
       first | refine r_load rfl T.cell_strs rfl (cell_own mB rfl) ?_ | refine r_load rfl T.cell_strs rfl (cell_blk mB rfl) ?_ | refine r_load rfl T.cell_strs rfl (cell_row mB (rows_get0 (by omega) rfl)) ?_ | refine r_load rfl T.cell_strs rfl (cell_row_f mB (rows_get (by omega) rfl)) ?_
       refine g_yes rfl rfl hg2 ?_; refine r_len_sl rfl T.u_strs rfl ?_; refine g_yes rfl rfl hg2 (r_lss rfl rfl rfl ?_); refine p_t rfl rfl (bt1 hg2) rfl ?_; refine hl_nil (then_n ?_)
       first | refine c_dec rfl (fun hb5 => ?_) (fun hb5 => ?_) | refine hc_cond rfl (fun hb5 => ?_) (fun hb5 => ?_)
       ·have hb5' := hb5; try simp at hb5'
        have hij : i < old.length ∧ j < page.length := by omega
        refine hc_seq (hc_region ?_)
        first | refine r_load rfl T.cell_func_int_int_proof_list rfl (cell_own mB rfl) ?_ | refine r_load rfl T.cell_func_int_int_proof_list rfl (cell_blk mB rfl) ?_ | refine r_load rfl T.cell_func_int_int_proof_list rfl (cell_row mB (rows_get0 (by omega) rfl)) ?_ | refine r_load rfl T.cell_func_int_int_proof_list rfl (cell_row_f mB (rows_get (by omega) rfl)) ?_
        refine r_move rfl rfl ?_; refine r_add ((i + 1 : Nat) : Int) rfl rfl rfl (by omega) (by unfold I64; omega) ?_; refine r_move rfl rfl ?_; refine r_add ((j + 1 : Nat) : Int) rfl rfl rfl (by omega) (by unfold I64; omega) ?_; refine hl_callv (vs := [int ((i + 1 : Nat) : Int), int ((j + 1 : Nat) : Int)]) F.proof_diff_1_cb rfl rfl rfl (ih (i + 1) (j + 1) l clk Fs (by omega) (by omega) (by omega) hM) (List.Perm.refl _) ⟨m0, m1, m2, m3, m4, m5, m6, trivial⟩ fun x hx => ?_; refine r_alloc rfl (fun _ => T.al_proof_list _) fun g13 => ?_; refine r_storeS rfl rfl (by first | exact .refl _ | exact perm2 _ _ _ | exact perm3 _ _ _ _ | exact perm4 _ _ _ _ _) T.sz_proof_list (by rfl) (by rfl) ?_; refine hl_nil (then_n (hc_seq ?_)); refine hc_drawW (og) ([_, _, _, _]) (pm9 _ _ _ _ _) 10 [] mixed (by decide) (by decide) (by decide) rfl rfl rfl ?_; refine hb_ex _ rfl rfl rfl (fun w1 => r_move rfl rfl (hl_nil (qe_done rfl))) ?_
        apply hb_ex _ rfl rfl rfl
        ·intro w1
         first | refine r_loadA rfl T.row_proof_list T.sz_proof_list rfl mB (by rfl) ?_ | refine r_loadB rfl T.row_proof_list T.sz_proof_list rfl mB (by rfl) ?_ | refine r_loadS rfl T.row_proof_list T.sz_proof_list rfl rfl (cells_row mB (rows_all (by omega))) ?_
         refine hl_nil ?_; exact qe_done rfl
        refine hb_ex _ rfl rfl rfl (fun w1 => r_move rfl rfl (hl_nil (qe_done rfl))) ?_
        apply hb_ex _ rfl rfl rfl
        ·intro w1
         first | refine r_load rfl T.cell_strs rfl (cell_blk mB rfl) ?_ | refine r_load rfl T.cell_strs rfl (cell_own mB rfl) ?_ | refine r_load rfl T.cell_strs rfl (cell_row mB (rows_get0 (by omega) rfl)) ?_ | refine r_load rfl T.cell_strs rfl (cell_row_f mB (rows_get (by omega) rfl)) ?_
         refine hl_nil ?_; exact qe_done rfl
        refine hb_ex _ rfl rfl rfl (fun w1 => r_move rfl rfl (hl_nil (qe_done rfl))) ?_; refine hb_ex _ rfl rfl rfl (fun w1 => r_elem (α := Str) _ _ rfl T.u_strs T.sz_string rfl rfl rfl mB rfl (by omega) (by decide) (hl_nil (qe_done rfl))) ?_; refine hb_ex _ rfl rfl rfl (fun w1 => r_load rfl T.cell_string rfl (cell_row mB (rows_get0 (by omega) rfl)) (hl_nil (qe_done rfl))) ?_; refine hb_ex _ rfl rfl rfl (fun w1 => r_build _ rfl rfl (fun _ => T.bd_api_Mark_0_1_2 ..) (hl_nil (qe_done rfl))) ?_; refine hb_vs ⟨LstV, fun y => y.dat = behindP (diffP old page (i + 1) (j + 1)) (2, (i : Int), page.getD j default), fun y => .agg #[int y.1, .slice y.2.a y.2.l.length y.2.c], fun y => [y.row]⟩ rfl rfl rfl ?_ ?_
        ·intro w1; refine hl_call F.proof_list_behind_cb rfl rfl (proof_list_behind_meets x.2.2.2 (2, (i : Int), page.getD j default) (bdV hx.2 ho hpl).1 (bdV hx.2 ho hpl).2) (List.Perm.refl _) ⟨m0, trivial⟩ fun o1 ho1 => ?_; refine hl_nil ?_; exact qv_done (_, ⟨o1.1, o1.2, _⟩) (by rw [← hx.2]; rfl) rfl ⟨m0, trivial⟩
        refine hb_vs ⟨Nat × LstV, fun z => z.2.dat = behindP (diffP old page (i + 1) (j + 1)) (2, (i : Int), page.getD j default), fun z => .slice (some ⟨z.1, 0, none⟩) 1 1, fun z => [Row (some ⟨z.1, 0, none⟩) (rows [z.2]), z.2.row]⟩ rfl rfl rfl ?_ ?_
        ·intro y hy; intro w1; refine r_buildSlice _ rfl rfl (fun _ => T.bs_L_proof_list_1 ..) fun gS => ?_; refine hl_nil ?_; refine hq_letgo (rows [y]) ⟨[], List.append_nil _⟩ ?_; exact qv_done (gS, y) hy rfl ⟨m0, m1, trivial⟩
        refine hb_nil ⟨rfl, ?_⟩; intro y1 hy1 z hz; refine r_append (cs.length + 1) (rows (cs ++ [z.2])) T.el_L_proof_list rfl rfl rfl hG (List.Perm.refl _) (Src.row (news := rows [z.2]) (m := 1) m0 rfl (rows_one _) (by decide)) rfl (rows_append cs [z.2]).symm (by unfold maxLen; omega) (by omega) fun A' c' og' hG' => ?_; refine r_assign rfl rfl (hl_nil (then_n (hc_seq ?_))); refine hc_drawW (og') ([_, _, _, _]) (List.Perm.refl _) 8 [] mixed (by decide) (by decide) (by decide) rfl rfl rfl ?_
        apply hb_ex _ rfl rfl rfl
        ·intro w1
         first | refine r_load rfl T.cell_strs rfl (cell_blk mB rfl) ?_ | refine r_load rfl T.cell_strs rfl (cell_own mB rfl) ?_ | refine r_load rfl T.cell_strs rfl (cell_row mB (rows_get0 (by omega) rfl)) ?_ | refine r_load rfl T.cell_strs rfl (cell_row_f mB (rows_get (by omega) rfl)) ?_
         refine hl_nil ?_; exact qe_done rfl
        refine hb_ex _ rfl rfl rfl (fun w1 => r_move rfl rfl (hl_nil (qe_done rfl))) ?_; refine hb_ex _ rfl rfl rfl (fun w1 => r_elem (α := Str) _ _ rfl T.u_strs T.sz_string rfl rfl rfl mB rfl (by omega) (by decide) (hl_nil (qe_done rfl))) ?_; refine hb_ex _ rfl rfl rfl (fun w1 => r_load rfl T.cell_string rfl (cell_row mB (rows_get0 (by omega) rfl)) (hl_nil (qe_done rfl))) ?_
        apply hb_ex _ rfl rfl rfl
        ·intro w1
         first | refine r_load rfl T.cell_strs rfl (cell_blk mB rfl) ?_ | refine r_load rfl T.cell_strs rfl (cell_own mB rfl) ?_ | refine r_load rfl T.cell_strs rfl (cell_row mB (rows_get0 (by omega) rfl)) ?_ | refine r_load rfl T.cell_strs rfl (cell_row_f mB (rows_get (by omega) rfl)) ?_
         refine hl_nil ?_; exact qe_done rfl
        refine hb_ex _ rfl rfl rfl (fun w1 => r_move rfl rfl (hl_nil (qe_done rfl))) ?_; refine hb_ex _ rfl rfl rfl (fun w1 => r_elem (α := Str) _ _ rfl T.u_strs T.sz_string rfl rfl rfl mB rfl (by omega) (by decide) (hl_nil (qe_done rfl))) ?_; refine hb_ex _ rfl rfl rfl (fun w1 => r_load rfl T.cell_string rfl (cell_row mB (rows_get0 (by omega) rfl)) (hl_nil (qe_done rfl))) ?_; refine hb_nil ⟨rfl, ?_⟩; refine r_seql rfl rfl rfl (hl_nil (then_n ?_))
        first | refine c_dec rfl (fun hb6 => ?_) (fun hb6 => ?_) | refine hc_cond rfl (fun hb6 => ?_) (fun hb6 => ?_)
        ·have hb6' := hb6; try simp at hb6'
         refine hc_perm (pm10 _ _ _ _ _) ?_; refine hc_region (r_move rfl rfl ?_)
         first | refine r_loadA rfl T.row_proof_list T.sz_proof_list rfl mB (by rfl) ?_ | refine r_loadB rfl T.row_proof_list T.sz_proof_list rfl mB (by rfl) ?_ | refine r_loadS rfl T.row_proof_list T.sz_proof_list rfl rfl (cells_row mB (rows_all (by omega))) ?_
         refine r_buildSlice _ rfl rfl (fun _ => T.bs_L_proof_list_1 ..) fun gS => ?_; refine r_append (cs.length + 2) (rows (cs ++ [z.2] ++ [x.2.2.2])) T.el_L_proof_list rfl rfl rfl hG' (pm11 _ _ _ _ _ _) (Src.own (cs := (El.cells (x.2.2.2 : LstV)).toArray) (m := 1) (List.mem_append_right _ m0) rfl rfl) rfl (by rw [rows_append (cs ++ [z.2])]; simp [rows]) (by unfold maxLen; omega) (by omega) fun A2 c2 og2 hG2 => ?_; refine r_assign rfl rfl (hl_nil ?_); have hl0 : cs.length ≤ 3 := by have := congrArg List.length hcs; rw [List.length_map] at this; rw [this]; exact cand2_len ..
         refine hq_facts (Fs := z.2.row :: x.2.2.2.row :: (x.2.2.1 ++ Fs)) (fun F hF => by
           rcases List.mem_cons.1 hF with rfl | hF
           · exact .inl m1
           rcases List.mem_cons.1 hF with rfl | hF
           · exact .inl m3
           · rcases List.mem_append.1 hF with hF | hF
             · exact .inr ⟨_, m4, hF⟩
             · exact .inr ⟨Fs, m5, hF⟩) ?_
         exact cut_c _ ⟨x.1, x.2.1, z.2.row :: x.2.2.2.row :: (x.2.2.1 ++ Fs), cs ++ [z.2] ++ [x.2.2.2], (A2, c2), og2⟩ ⟨hx.1.mono (fun F h => by simp [h]), by rw [List.map_append, List.map_append, hcs, cand3, if_pos hij, if_pos hb6, List.append_assoc]; show _ ++ ([z.2.dat] ++ [LstV.dat x.2.2.2]) = _; rw [show z.2.dat = _ from hz, show LstV.dat x.2.2.2 = _ from hx.2]; rfl, by rw [len_snoc, len_snoc]; exact hG2, fun y hy => by
           simp only [List.mem_append, List.mem_singleton] at hy
           rcases hy with (h | h) | h
           · simp [hrow y h]
           · subst h; simp
           · subst h; simp, by rw [len_snoc, len_snoc]; omega⟩ ⟨rfl, rfl, rfl, rfl, rfl, rfl, rfl, rfl, by rw [len_snoc, len_snoc]; rfl, trivial⟩ (fun p => by simp only [int, T.A2_int, T.proof_list, diffCon, dSta, List.countP_append, List.countP_cons, List.countP_nil]; omega) ⟨m0, m7, m8, m9, m10, m11, m12, trivial⟩
        ·have hb6' := hb6; try simp at hb6'
         refine hc_skip ?_; have hl0 : cs.length ≤ 3 := by have := congrArg List.length hcs; rw [List.length_map] at this; rw [this]; exact cand2_len ..
         refine hq_facts (Fs := z.2.row :: x.2.2.2.row :: (x.2.2.1 ++ Fs)) (fun F hF => by
           rcases List.mem_cons.1 hF with rfl | hF
           · exact .inl m1
           rcases List.mem_cons.1 hF with rfl | hF
           · exact .inl m3
           · rcases List.mem_append.1 hF with hF | hF
             · exact .inr ⟨_, m4, hF⟩
             · exact .inr ⟨Fs, m5, hF⟩) ?_
         exact cut_c _ ⟨x.1, x.2.1, z.2.row :: x.2.2.2.row :: (x.2.2.1 ++ Fs), cs ++ [z.2], (A', c'), og'⟩ ⟨hx.1.mono (fun F h => by simp [h]), by rw [List.map_append, hcs, cand3, if_pos hij, if_neg hb6]; show _ ++ [z.2.dat] = _; rw [show z.2.dat = _ from hz], by rw [len_snoc]; exact hG', fun y hy => by
           simp only [List.mem_append, List.mem_singleton] at hy
           rcases hy with h | h
           · simp [hrow y h]
           · subst h; simp, by rw [len_snoc]; omega⟩ ⟨rfl, rfl, rfl, rfl, rfl, rfl, rfl, rfl, by rw [len_snoc]; rfl, trivial⟩ (fun p => by simp only [int, T.A2_int, T.proof_list, diffCon, dSta, List.countP_append, List.countP_cons, List.countP_nil]; omega) ⟨m0, m7, m8, m9, m10, m11, m12, trivial⟩
       ·have hb5' := hb5; try simp at hb5'
        refine hc_skip ?_; exact cut_c _ ⟨l, clk, Fs, cs, o, og⟩ ⟨hM, by rw [hcs, cand3, if_neg (by omega), List.append_nil], hG, hrow, hlen⟩ ⟨rfl, rfl, rfl, rfl, rfl, rfl, rfl, rfl, rfl, trivial⟩ (fun p => by simp only [int, T.A2_int, T.proof_list, diffCon, dSta, List.countP_append, List.countP_cons, List.countP_nil]; omega) ⟨m0, m1, m2, m3, m4, m5, m6, trivial⟩
      ·intro hg2; have hg2' := hg2; try simp at hg2'
       refine g_no rfl rfl rfl rfl rfl hg2 (g_no rfl rfl rfl rfl rfl hg2 (g_no rfl rfl rfl rfl rfl hg2 (g_no rfl rfl rfl rfl rfl hg2 ?_))); refine p_f rfl rfl (bf2 hg2) rfl ?_; refine hl_nil (then_n (c_f rfl rfl (hc_skip ?_))); exact cut_c _ ⟨l, clk, Fs, cs, o, og⟩ ⟨hM, by rw [hcs, cand3, if_neg (by omega), List.append_nil], hG, hrow, hlen⟩ ⟨rfl, rfl, rfl, rfl, rfl, rfl, rfl, rfl, rfl, trivial⟩ (fun p => by simp only [int, T.A2_int, T.proof_list, diffCon, dSta, List.countP_append, List.countP_cons, List.countP_nil]; omega) ⟨m0, m1, m2, m3, m4, m5, m6, trivial⟩
     ·refine fun x hx => ?_; obtain ⟨l, clk, Fs, cs, o, og⟩ := x; obtain ⟨hM, hcs, hG, hrow, hlen⟩ := hx; simp only at hM hcs hG hrow hlen; refine hc_seq ?_; have hne : cand3 old page i j ≠ [] := cand3_ne hi hj; have hbd := cand3_bd (i := i) (j := j) ho hpl
      obtain ⟨f, r, rfl⟩ : ∃ f r, cs = f :: r := by
        cases cs with
        | nil => exact absurd (by rw [← hcs]; rfl) hne
        | cons f r => exact ⟨f, r, rfl⟩
      refine hc_perm (pm3 _ _ _ _) ?_; refine hc_grown hG ?_; refine hc_draw 8 mixed (by decide) (by decide) rfl rfl ?_
      apply hb_ex _ rfl rfl rfl
      ·intro w1
       first | refine r_load rfl T.cell_map_2_int_proof_list rfl (cell_blk mB rfl) ?_ | refine r_load rfl T.cell_map_2_int_proof_list rfl (cell_own mB rfl) ?_ | refine r_load rfl T.cell_map_2_int_proof_list rfl (cell_row mB (rows_get0 (by omega) rfl)) ?_ | refine r_load rfl T.cell_map_2_int_proof_list rfl (cell_row_f mB (rows_get (by omega) rfl)) ?_
       refine hl_nil ?_; exact qe_done rfl
      apply hb_ex _ rfl rfl rfl
      ·intro w1
       first | refine r_loadA rfl T.row_A2_int T.sz_A2_int rfl mB (by rfl) ?_ | refine r_loadB rfl T.row_A2_int T.sz_A2_int rfl mB (by rfl) ?_ | refine r_loadS rfl T.row_A2_int T.sz_A2_int rfl rfl (cells_row mB (rows_all (by omega))) ?_
       refine hl_nil ?_; exact qe_done rfl
      refine hb_ex _ rfl rfl rfl (fun w1 => r_move rfl rfl (hl_nil (qe_done rfl))) ?_; refine hb_ex _ rfl rfl rfl (fun w1 => r_elem (α := LstV) (f :: r) 0 rfl T.u_L_proof_list T.sz_proof_list rfl rfl rfl m3 rfl (by simp) (by decide) (hl_nil (qe_done rfl))) ?_; refine hb_ex _ rfl rfl rfl (fun w1 => r_loadS rfl T.row_proof_list T.sz_proof_list rfl rfl (cells_row (A := o.1) (cs := rows (f :: r)) (j := 0 * El.sz LstV) m3 (rows_all (l := f :: r) (i := 0) (by simp))) (hl_nil (qe_done rfl))) ?_; refine hb_ex _ rfl rfl rfl (fun w1 => r_move rfl rfl (hl_nil (qe_done rfl))) ?_; refine hb_ex _ rfl rfl rfl (fun w1 => r_slice_lo 1 rfl T.u_L_proof_list T.sz_proof_list rfl rfl rfl (by simp) (hl_nil (qe_done rfl))) ?_; refine hb_vs ⟨LstV, fun y => y.dat = diffP old page i j ∧ y.row ∈ Fs, fun y => .agg #[int y.1, .slice y.2.a y.2.l.length y.2.c], fun y => [y.row]⟩ rfl rfl rfl ?_ ?_
      ·intro w1; refine hl_cut (p := f :: r) (ca := o.2) 1 (f :: r).length m0 hG.le ?_; rw [List.take_length]
       refine hl_facts (Fs := (f :: r).map LstV.row) (fun F hF => by
         obtain ⟨y, hy, rfl⟩ := List.mem_map.1 hF
         exact .inr ⟨Fs, m2, hrow y hy⟩) ?_
       refine hl_call (vs := [fnV F.proof_compareLists, f.v, .slice (cutA o.1 o.2 1 2) r.length (o.2 - 1)]) F.proof_least_cb rfl rfl (proof_least_meets f r (by simp at hlen; omega) (fun y hy => hbd y.dat (by rw [← hcs]; exact List.mem_map_of_mem hy))) (List.Perm.refl _) ⟨m1, m0, trivial⟩ fun _ _ => ?_; refine hl_pick (F := (leastV f r).row) m0 (List.mem_map_of_mem (leastV_mem f r)) ?_; refine hl_nil ?_; exact qv_done (leastV f r) ⟨by rw [diffP_eq]; exact leastV_of hcs, hrow _ (leastV_mem f r)⟩ rfl ⟨m0, trivial⟩
      refine hb_nil ⟨rfl, ?_⟩; intro y2 hy2; refine r_insert (k := ((i : Int), (j : Int))) KP (.inl rfl) T.u_map_2_int_proof_list rfl rfl rfl (.refl _) ?_; refine hl_nil (then_n (hc_seq (hc_region ?_)))
      first | refine r_load rfl T.cell_map_2_int_proof_list rfl (cell_own mB rfl) ?_ | refine r_load rfl T.cell_map_2_int_proof_list rfl (cell_blk mB rfl) ?_ | refine r_load rfl T.cell_map_2_int_proof_list rfl (cell_row mB (rows_get0 (by omega) rfl)) ?_ | refine r_load rfl T.cell_map_2_int_proof_list rfl (cell_row_f mB (rows_get (by omega) rfl)) ?_
      first | refine r_loadA rfl T.row_A2_int T.sz_A2_int rfl mB (by rfl) ?_ | refine r_loadB rfl T.row_A2_int T.sz_A2_int rfl mB (by rfl) ?_ | refine r_loadS rfl T.row_A2_int T.sz_A2_int rfl rfl (cells_row mB (rows_all (by omega))) ?_
      refine r_look (k := ((i : Int), (j : Int))) (v := LstV.v y2) KP rfl T.u_map_2_int_proof_list rfl rfl (map_own m0) (by rw [getM_put, if_pos rfl]; rfl) ?_; refine r_storeS rfl rfl (by first | exact .refl _ | exact perm2 _ _ _ | exact perm3 _ _ _ _ | exact perm4 _ _ _ _ _) T.sz_proof_list (by rfl) (by rfl) ?_; refine hl_nil (then_n (hc_ret ?_)); exact ret_row (putM l ((i : Int), (j : Int)) (LstV.v y2) clk, clkM l ((i : Int), (j : Int)) clk, Fs, y2) rfl rfl T.row_proof_list T.sz_proof_list rfl m0 rfl rfl ⟨hM.put hy2.2 hy2.1, hy2.1⟩ (.cons _ (.cons_cons _ (List.nil_sublist _))) ⟨m0, m2, trivial⟩
end Go.Proofs.Ytpfbbggmcbhboaa
end
section
namespace Go.Proofs.Ytpfbbggmcbhboaa
open Go Go.W
set_option maxRecDepth 20000
attribute [local irreducible] HL HC HQ HB Row Rows2 Blk Facts
def outV {α : Type} [El α] (l : List α) : Con OutC := { val := fun x => .slice x.1 l.length x.2, LO := fun x => [Row x.1 (rows l)] }
theorem proof_diff_meets {A B : Option Addr} {ca cb : Nat} (old page : List Str) (ho : old.length ≤ 1000) (hpl : page.length ≤ 1000) : Meets Try.prog F.proof_diff [.slice A old.length ca, .slice B page.length cb] { outV (diffP old page 0 0).2 with LI := [Row A (rows old), Row B (rows page)] } := by
 refine meets_intro F.proof_diff_f rfl (Nat.le_of_ble_eq_true rfl) fun w0 => ?_; refine hc_seq (hc_region ?_); refine r_box rfl rfl fun go => ?_; refine r_box rfl rfl fun gp => ?_; refine r_assign rfl rfl (hl_nil (then_n (hc_seq (hc_region ?_)))); refine r_makeMapM pair rfl fun gm => ?_; refine r_alloc rfl (fun _ => T.al_map_2_int_proof_list _) fun gk => ?_; refine r_store rfl rfl (by first | exact .refl _ | exact perm2 _ _ _ | exact perm3 _ _ _ _ | exact perm4 _ _ _ _ _) T.sz_map_2_int_proof_list (by rfl) (by rfl) ?_; refine hl_nil (then_n (hc_seq (hc_region ?_))); refine r_alloc rfl (fun _ => T.al_func_int_int_proof_list _) fun gf => ?_; refine hl_nil (then_n (hc_seq (hc_region (r_makeFunc rfl rfl rfl ?_)))); refine r_store rfl rfl (by first | exact .refl _ | exact perm2 _ _ _ | exact perm3 _ _ _ _ | exact perm4 _ _ _ _ _) T.sz_func_int_int_proof_list (by rfl) (by rfl) ?_; refine hl_nil (then_n (hc_seq (hc_letgoB (hc_letgoB ?_)))); refine hc_perm (perm3 _ _ _ _) ?_; refine hc_letgoB ?_; refine hc_perm (.swap _ _ _) ?_; refine hc_letgoB ?_; refine hc_facts (Fs := []) (fun F hF => by simp at hF) ?_; refine hc_region ?_
 first | refine r_load rfl T.cell_func_int_int_proof_list rfl (cell_own mB rfl) ?_ | refine r_load rfl T.cell_func_int_int_proof_list rfl (cell_blk mB rfl) ?_ | refine r_load rfl T.cell_func_int_int_proof_list rfl (cell_row mB (rows_get0 (by omega) rfl)) ?_ | refine r_load rfl T.cell_func_int_int_proof_list rfl (cell_row_f mB (rows_get (by omega) rfl)) ?_
 refine hl_callv (vs := [int (0 : Nat), int (0 : Nat)]) F.proof_diff_1_cb rfl rfl rfl (proof_diff_1_meets (gk := gk) (gm := gm) (go := go) (gp := gp) (gf := gf) (A := A) (B := B) (ca := ca) (cb := cb) ho hpl _ 0 0 [] 0 [] (Nat.lt_succ_self _) (Nat.zero_le _) (Nat.zero_le _) (by intro e he; simp at he)) (List.Perm.refl _) ⟨m0, m5, m6, m3, m2, m1, m4, trivial⟩ fun x hx => ?_; obtain ⟨l1, clk1, Fs1, x⟩ := x; have hx2 : x.2.l = (diffP old page 0 0).2 := by rw [← hx.2]; rfl
 refine r_field (v := .slice x.2.a x.2.l.length x.2.c) rfl rfl (fun _ => T.f_proof_list_1 ..) ?_; refine r_assign rfl rfl (hl_nil (then_n (hc_ret ?_))); rw [← hx2]; exact ret1 (x.2.a, x.2.c) rfl rfl rfl trivial (List.nil_sublist _) ⟨m0, trivial⟩
def diffE (old page : List Str) (ms : List Mk) : List Mk × Int := if ¬ pageErr old = 0 then ([], pageErr old) else if ¬ pageErr page = 0 then ([], pageErr page) else (ms, 0)
def outE {α : Type} [El α] (r : List α × Int) : Con OutC := { val := fun x => .tuple #[.slice x.1 r.1.length x.2, int r.2], LO := fun x => [Row x.1 (rows r.1)] }
theorem pageErr_zero {p : List Str} (h : pageErr p = 0) : p.length ≤ 6 := by unfold pageErr at h; split at h <;> omega
theorem proof_Diff_meets {A B : Option Addr} {ca cb : Nat} (old page : List Str) : Meets Try.prog F.proof_Diff [.slice A old.length ca, .slice B page.length cb] { outE (diffE old page (diffP old page 0 0).2) with LI := [Row A (rows old), Row B (rows page)] } := by
 refine meets_intro F.proof_Diff_f rfl (Nat.le_of_ble_eq_true rfl) fun w0 => ?_; refine hc_seq (hc_region (r_assign rfl rfl (r_assign rfl rfl (hl_nil (then_n (hc_seq (hc_seq (hc_region (r_move rfl rfl ?_))))))))); refine hl_call F.proof_Check_cb rfl rfl (proof_Check_meets old) (.refl _) ⟨m0, trivial⟩ fun _ _ => ?_; refine r_assign rfl rfl (hl_nil (then_n (hc_seq (hc_region (r_move rfl rfl (r_neq rfl rfl rfl (hl_nil (then_n ?_))))))))
 first | refine c_dec rfl (fun hb1 => ?_) (fun hb1 => ?_) | refine hc_cond rfl (fun hb1 => ?_) (fun hb1 => ?_)
 ·have hb1' := hb1; try simp at hb1'
  have e : diffE old page (diffP old page 0 0).2 = ([], pageErr old) := by rw [diffE, if_pos hb1]
  rw [e]; refine hc_seq (hc_region (r_move rfl rfl (r_assign rfl rfl (r_assign rfl rfl (hl_nil (then_n (hc_ret (then_ret (hq_nil0 ?_))))))))); exact ret2 (none, 0) rfl rfl rfl rfl rfl trivial (.refl _) ⟨m0, trivial⟩
 ·have hb1' := hb1; try simp at hb1'
  refine hc_skip (then_n (hc_seq (hc_seq (hc_region (r_move rfl rfl ?_))))); refine hl_call F.proof_Check_cb rfl rfl (proof_Check_meets page) (.refl _) ⟨m1, trivial⟩ fun _ _ => ?_; refine r_assign rfl rfl (hl_nil (then_n (hc_seq (hc_region (r_move rfl rfl (r_neq rfl rfl rfl (hl_nil (then_n ?_))))))))
  first | refine c_dec rfl (fun hb2 => ?_) (fun hb2 => ?_) | refine hc_cond rfl (fun hb2 => ?_) (fun hb2 => ?_)
  ·have hb2' := hb2; try simp at hb2'
   have e : diffE old page (diffP old page 0 0).2 = ([], pageErr page) := by rw [diffE, if_neg hb1, if_pos hb2]
   rw [e]; refine hc_seq (hc_region (r_move rfl rfl (r_assign rfl rfl (r_assign rfl rfl (hl_nil (then_n (hc_ret (then_ret (hq_nil0 ?_))))))))); exact ret2 (none, 0) rfl rfl rfl rfl rfl trivial (.refl _) ⟨m0, trivial⟩
  ·have hb2' := hb2; try simp at hb2'
   have e : diffE old page (diffP old page 0 0).2 = ((diffP old page 0 0).2, 0) := by rw [diffE, if_neg hb1, if_neg hb2]
   rw [e]; have h1 := pageErr_zero (Classical.not_not.1 hb1); have h2 := pageErr_zero (Classical.not_not.1 hb2); refine hc_skip (then_n (hc_seq (hc_region (r_move rfl rfl (r_move rfl rfl ?_))))); refine hl_call F.proof_diff_cb rfl rfl (proof_diff_meets old page (by omega) (by omega)) (.refl _) ⟨m0, m1, trivial⟩ fun x hx => ?_; refine r_assign rfl rfl (r_assign rfl rfl (hl_nil (then_n (hc_ret ?_)))); exact ret2 x rfl rfl rfl rfl rfl trivial (.refl _) ⟨m0, trivial⟩
def beforeR (a b : Mk) : Bool := if ¬ a.2.1 = b.2.1 then decide (a.2.1 < b.2.1) else if ¬ a.1 = b.1 then decide (a.1 < b.1) else Op.bytesLess a.2.2 b.2.2
def lexR : List Mk → List Mk → Bool
  | a :: l, b :: l' => if ¬ a = b then beforeR a b else lexR l l'
  | _, _ => false
def betterR (a b : List Mk) : Bool := if ¬ (costM a : Int) = costM b then decide ((costM a : Int) < costM b) else if ¬ (a.length : Int) = b.length then decide ((a.length : Int) < b.length) else lexR a b
end Go.Proofs.Ytpfbbggmcbhboaa
end
section
namespace Go.Proofs.Ytpfbbggmcbhboaa
open Go Go.W
set_option maxRecDepth 20000
attribute [local irreducible] HL HC HQ HB Row Rows2 Blk Facts
def pickR (s : Option (List Mk)) (l : List Mk) : Option (List Mk) :=
  match s with
  | none => some l
  | some b => if betterR l b = true then some l else some b
def diffR (old page : List Str) (i k : Nat) : List Mk :=
  if i = old.length ∧ k = page.length then [] else
  (if h : i < old.length then pickR
    (if h : i < old.length ∧ k < page.length then pickR
      (if h : k < page.length then pickR
        (if h : i < old.length ∧ k < page.length ∧ old.getD i default = page.getD k default then some (diffR old page (i + 1) (k + 1)) else none)
        ((1, (i : Int), page.getD k default) :: diffR old page i (k + 1)) else
        (if h : i < old.length ∧ k < page.length ∧ old.getD i default = page.getD k default then some (diffR old page (i + 1) (k + 1)) else none))
      ((2, (i : Int), page.getD k default) :: diffR old page (i + 1) (k + 1)) else
      (if h : k < page.length then pickR
        (if h : i < old.length ∧ k < page.length ∧ old.getD i default = page.getD k default then some (diffR old page (i + 1) (k + 1)) else none)
        ((1, (i : Int), page.getD k default) :: diffR old page i (k + 1)) else
        (if h : i < old.length ∧ k < page.length ∧ old.getD i default = page.getD k default then some (diffR old page (i + 1) (k + 1)) else none)))
    ((3, (i : Int), []) :: diffR old page (i + 1) k) else
    (if h : i < old.length ∧ k < page.length then pickR
      (if h : k < page.length then pickR
        (if h : i < old.length ∧ k < page.length ∧ old.getD i default = page.getD k default then some (diffR old page (i + 1) (k + 1)) else none)
        ((1, (i : Int), page.getD k default) :: diffR old page i (k + 1)) else
        (if h : i < old.length ∧ k < page.length ∧ old.getD i default = page.getD k default then some (diffR old page (i + 1) (k + 1)) else none))
      ((2, (i : Int), page.getD k default) :: diffR old page (i + 1) (k + 1)) else
      (if h : k < page.length then pickR
        (if h : i < old.length ∧ k < page.length ∧ old.getD i default = page.getD k default then some (diffR old page (i + 1) (k + 1)) else none)
        ((1, (i : Int), page.getD k default) :: diffR old page i (k + 1)) else
        (if h : i < old.length ∧ k < page.length ∧ old.getD i default = page.getD k default then some (diffR old page (i + 1) (k + 1)) else none)))).getD []
termination_by (old.length - i) + (page.length - k)
decreasing_by all_goals omega
def dr0 (old page : List Str) (i k : Nat) : Option (List Mk) := if i < old.length ∧ k < page.length ∧ old.getD i default = page.getD k default then some (diffR old page (i + 1) (k + 1)) else none
def dr1 (old page : List Str) (i k : Nat) : Option (List Mk) := if k < page.length then pickR (dr0 old page i k) ((1, (i : Int), page.getD k default) :: diffR old page i (k + 1)) else dr0 old page i k
def dr2 (old page : List Str) (i k : Nat) : Option (List Mk) := if i < old.length ∧ k < page.length then pickR (dr1 old page i k) ((2, (i : Int), page.getD k default) :: diffR old page (i + 1) (k + 1)) else dr1 old page i k
def dr3 (old page : List Str) (i k : Nat) : Option (List Mk) := if i < old.length then pickR (dr2 old page i k) ((3, (i : Int), []) :: diffR old page (i + 1) k) else dr2 old page i k
theorem pickR_or (s : Option (List Mk)) (l : List Mk) : pickR s l = some l ∨ (pickR s l = s) := by
  unfold pickR
  cases s with
  | none => exact .inl rfl
  | some b => simp only; split <;> simp
def Bd (N : Nat) (s : Option (List Mk)) : Prop := ∀ b, s = some b → b.length ≤ N
theorem Bd.pick {N : Nat} {s : Option (List Mk)} {l : List Mk} (h : Bd N s) (hl : l.length ≤ N) : Bd N (pickR s l) := by
  intro b hb
  rcases pickR_or s l with h1 | h1
  · rw [h1] at hb; cases hb; exact hl
  · rw [h1] at hb; exact h b hb
structure RSt where
  s : Option (List Mk)
  o : OutC
abbrev rSta (A B : Option Addr) (ca cb : Nat) (old page : List Str) (i k : Nat) (r : Option (List Mk)) : Sta RSt :=
  { inv := fun x => x.s = r
    fr := fun x => [(0, .slice A old.length ca), (1, .slice B page.length cb), (2, int i), (3, int k), (9, .slice x.o.1 (x.s.getD []).length x.o.2), (10, .bool x.s.isSome)]
    hp := fun _ => []
    L := fun x => [Row x.o.1 (rows (x.s.getD [])), Row A (rows old), Row B (rows page)] }
end Go.Proofs.Ytpfbbggmcbhboaa
end
section
namespace Go.Proofs.Ytpfbbggmcbhboaa
open Go Go.W
set_option maxRecDepth 20000
attribute [local irreducible] HL HC HQ HB Row Rows2 Blk Facts
theorem not_mem_take {α : Type} [Inhabited α] {l : List α} {k : Nat} {s : α} (hk : k < l.length) (h : s ∉ l.take k) (h1 : ¬ s = l.getD k default) : s ∉ l.take (k + 1) := by
  rw [take_succ_getD l k hk]; simp only [List.mem_append, List.mem_singleton, not_or]; exact ⟨h, h1⟩
theorem slices_Index_strs_meets {A : Option Addr} {c : Nat} (l : List Str) (s : Str) (hl : l.length ≤ 1000000) : Meets Try.prog F.slices_Index_strs [.slice A l.length c, str s] { LI := [Row A (rows l)], inv := fun z : Int => (0 ≤ z ↔ s ∈ l), val := fun z => int z } := by
 refine meets_intro F.slices_Index_strs_f rfl (Nat.le_of_ble_eq_true rfl) fun w0 => ?_; refine hc_seq (hc_region (r_assign rfl rfl (hl_nil (then_n (hc_seq (hc_seq (hc_region (r_move rfl rfl ?_)))))))); refine r_len_sl rfl T.u_strs rfl ?_; refine r_move rfl rfl (hl_nil (then_n (hc_block ?_))); refine hc_loop (β := Nat) ⟨fun k => k ≤ l.length ∧ s ∉ l.take k, fun k => [(0, .slice A l.length c), (1, str s), (7, int l.length), (8, int k)], fun _ => [], fun _ => [Row A (rows l)]⟩ (fun k => l.length - k) 0 ⟨Nat.zero_le _, by simp⟩ ⟨rfl, rfl, rfl, rfl, trivial⟩ (.refl _) ⟨m0, trivial⟩ fun k hk => ?_; obtain ⟨hk, ht⟩ := hk; refine hc_seq (hc_region (r_lss rfl rfl rfl (hl_nil (then_n (hc_seq ?_)))))
 first | refine c_dec rfl (fun hb1 => ?_) (fun hb1 => ?_) | refine hc_cond rfl (fun hb1 => ?_) (fun hb1 => ?_)
 ·have hb1' := hb1; try simp at hb1'
  have hk2 : k < l.length := by omega
  refine hc_skip (then_n (hc_seq (hc_block (hc_seq (hc_region (r_move rfl rfl (r_assign rfl rfl (hl_nil (then_n (hc_seq (hc_region ?_))))))))))); refine r_move rfl rfl (r_move rfl rfl (r_move rfl rfl ?_)); refine r_elem (α := Str) _ _ rfl T.u_strs T.sz_string rfl rfl rfl mB rfl (by omega) (by decide) ?_; refine r_load rfl T.cell_string rfl (cell_row mB (rows_get0 (by omega) rfl)) ?_; refine r_seql rfl rfl rfl (hl_nil (then_n ?_))
  first | refine c_dec rfl (fun hb2 => ?_) (fun hb2 => ?_) | refine hc_cond rfl (fun hb2 => ?_) (fun hb2 => ?_)
  ·have hb2' := hb2; try simp at hb2'
   refine hc_seq (hc_region (r_move rfl rfl (r_assign rfl rfl (hl_nil (then_n (hc_ret (inb_ret (then_ret (then_ret (inb_ret (then_ret ?_))))))))))); exact ret1 (k : Int) rfl rfl rfl ⟨fun _ => by rw [hb2]; exact getD_mem hk2, fun _ => by omega⟩ (.refl _) trivial
  ·have hb2' := hb2; try simp at hb2'
   refine hc_skip (inb_n (then_n (hc_region ?_))); refine r_add _ rfl rfl rfl rfl (by unfold I64; omega) ?_; refine r_move rfl rfl (hl_nil ?_); exact again _ (k + 1) ⟨by omega, not_mem_take hk2 ht hb2⟩ (by show l.length - (k + 1) < l.length - k; omega) ⟨rfl, rfl, rfl, rfl, trivial⟩ (.refl _) ⟨m0, trivial⟩
 ·have hb1' := hb1; try simp at hb1'
  have hk2 : k = l.length := by omega
  subst hk2; rw [List.take_length] at ht; refine hc_exit (then_exit (then_exit (inb_hit (then_n (hc_seq (hc_region (r_assign rfl rfl (hl_nil (then_n (hc_ret ?_)))))))))); exact ret1 (-1) rfl rfl rfl ⟨fun h => by omega, fun h => absurd h ht⟩ (.refl _) trivial
theorem slices_Contains_strs_meets {A : Option Addr} {c : Nat} (l : List Str) (s : Str) (hl : l.length ≤ 1000000) : Meets Try.prog F.slices_Contains_strs [.slice A l.length c, str s] { LI := [Row A (rows l)], val := fun _ : Unit => .bool (decide (s ∈ l)) } := by
 refine meets_intro F.slices_Contains_strs_f rfl (Nat.le_of_ble_eq_true rfl) fun w0 => ?_; refine hc_seq (hc_region (r_assign rfl rfl (hl_nil (then_n (hc_seq (hc_region (r_move rfl rfl (r_move rfl rfl ?_)))))))); refine hl_call F.slices_Index_strs_cb rfl rfl (slices_Index_strs_meets l s hl) (.refl _) ⟨m0, trivial⟩ fun z hz => ?_; refine r_geq rfl rfl rfl (r_assign rfl rfl (hl_nil (then_n (hc_ret ?_)))); exact ret1 () rfl (congrArg (fun b => some (Value.bool b)) (decide_eq_decide.2 hz)) rfl trivial (.refl _) trivial
theorem slices_Index_ints_meets {A : Option Addr} {c : Nat} (l : List Int) (s : Int) (hl : l.length ≤ 1000000) : Meets Try.prog F.slices_Index_ints [.slice A l.length c, int s] { LI := [Row A (rows l)], inv := fun z : Int => (0 ≤ z ↔ s ∈ l), val := fun z => int z } := by
 refine meets_intro F.slices_Index_ints_f rfl (Nat.le_of_ble_eq_true rfl) fun w0 => ?_; refine hc_seq (hc_region (r_assign rfl rfl (hl_nil (then_n (hc_seq (hc_seq (hc_region (r_move rfl rfl ?_)))))))); refine r_len_sl rfl T.u_ints rfl ?_; refine r_move rfl rfl (hl_nil (then_n (hc_block ?_))); refine hc_loop (β := Nat) ⟨fun k => k ≤ l.length ∧ s ∉ l.take k, fun k => [(0, .slice A l.length c), (1, int s), (7, int l.length), (8, int k)], fun _ => [], fun _ => [Row A (rows l)]⟩ (fun k => l.length - k) 0 ⟨Nat.zero_le _, by simp⟩ ⟨rfl, rfl, rfl, rfl, trivial⟩ (.refl _) ⟨m0, trivial⟩ fun k hk => ?_; obtain ⟨hk, ht⟩ := hk; refine hc_seq (hc_region (r_lss rfl rfl rfl (hl_nil (then_n (hc_seq ?_)))))
 first | refine c_dec rfl (fun hb1 => ?_) (fun hb1 => ?_) | refine hc_cond rfl (fun hb1 => ?_) (fun hb1 => ?_)
 ·have hb1' := hb1; try simp at hb1'
  have hk2 : k < l.length := by omega
  refine hc_skip (then_n (hc_seq (hc_block (hc_seq (hc_region (r_move rfl rfl (r_assign rfl rfl (hl_nil (then_n (hc_seq (hc_region ?_))))))))))); refine r_move rfl rfl (r_move rfl rfl (r_move rfl rfl ?_)); refine r_elem (α := Int) _ _ rfl T.u_ints T.sz_int rfl rfl rfl mB rfl (by omega) (by decide) ?_; refine r_load rfl T.cell_int rfl (cell_row mB (rows_get0 (by omega) rfl)) ?_; refine r_eql rfl rfl rfl (hl_nil (then_n ?_))
  first | refine c_dec rfl (fun hb2 => ?_) (fun hb2 => ?_) | refine hc_cond rfl (fun hb2 => ?_) (fun hb2 => ?_)
  ·have hb2' := hb2; try simp at hb2'
   refine hc_seq (hc_region (r_move rfl rfl (r_assign rfl rfl (hl_nil (then_n (hc_ret (inb_ret (then_ret (then_ret (inb_ret (then_ret ?_))))))))))); exact ret1 (k : Int) rfl rfl rfl ⟨fun _ => by rw [hb2]; exact getD_mem hk2, fun _ => by omega⟩ (.refl _) trivial
  ·have hb2' := hb2; try simp at hb2'
   refine hc_skip (inb_n (then_n (hc_region ?_))); refine r_add _ rfl rfl rfl rfl (by unfold I64; omega) ?_; refine r_move rfl rfl (hl_nil ?_); exact again _ (k + 1) ⟨by omega, not_mem_take hk2 ht hb2⟩ (by show l.length - (k + 1) < l.length - k; omega) ⟨rfl, rfl, rfl, rfl, trivial⟩ (.refl _) ⟨m0, trivial⟩
 ·have hb1' := hb1; try simp at hb1'
  have hk2 : k = l.length := by omega
  subst hk2; rw [List.take_length] at ht; refine hc_exit (then_exit (then_exit (inb_hit (then_n (hc_seq (hc_region (r_assign rfl rfl (hl_nil (then_n (hc_ret ?_)))))))))); exact ret1 (-1) rfl rfl rfl ⟨fun h => by omega, fun h => absurd h ht⟩ (.refl _) trivial
theorem slices_Contains_ints_meets {A : Option Addr} {c : Nat} (l : List Int) (s : Int) (hl : l.length ≤ 1000000) : Meets Try.prog F.slices_Contains_ints [.slice A l.length c, int s] { LI := [Row A (rows l)], val := fun _ : Unit => .bool (decide (s ∈ l)) } := by
 refine meets_intro F.slices_Contains_ints_f rfl (Nat.le_of_ble_eq_true rfl) fun w0 => ?_; refine hc_seq (hc_region (r_assign rfl rfl (hl_nil (then_n (hc_seq (hc_region (r_move rfl rfl (r_move rfl rfl ?_)))))))); refine hl_call F.slices_Index_ints_cb rfl rfl (slices_Index_ints_meets l s hl) (.refl _) ⟨m0, trivial⟩ fun z hz => ?_; refine r_geq rfl rfl rfl (r_assign rfl rfl (hl_nil (then_n (hc_ret ?_)))); exact ret1 () rfl (congrArg (fun b => some (Value.bool b)) (decide_eq_decide.2 hz)) rfl trivial (.refl _) trivial
theorem firstErr_map {α β : Type} (f : β → Int) (g : α → β) : ∀ l : List α, firstErr f (l.map g) = firstErr (fun a => f (g a)) l
  | [] => rfl
  | a :: l => by simp only [List.map_cons, firstErr, firstErr_map f g l]
abbrev years (ps : List (Sl Str)) : List (List Str) := ps.map (·.l)
def yearsErr (ys : List (List Str)) : Int := if 4 < ys.length then 6 else firstErr pageErr ys
theorem yearsErr_of (ps : List (Sl Str)) : yearsErr (years ps) = if 4 < ps.length then 6 else firstErr (fun p : Sl Str => pageErr p.l) ps := by rw [yearsErr, firstErr_map, List.length_map]
def askedErr (ys : List (List Str)) (p : List Str) : Int := if yearsErr ys = 0 then pageErr p else yearsErr ys
theorem proof_yearsError_meets {A : Option Addr} {c : Nat} (ps : List (Sl Str)) : Meets Try.prog F.proof_yearsError [.slice A ps.length c] { LI := [Rows2 A ps], val := fun _ : Unit => int (yearsErr (years ps)) } := by
 refine meets_intro F.proof_yearsError_f rfl (Nat.le_of_ble_eq_true rfl) fun w0 => ?_; refine hc_seq (hc_region (r_assign rfl rfl (hl_nil (then_n (hc_seq (hc_seq (hc_region (r_move rfl rfl ?_)))))))); refine r_len_sl rfl T.u_pages rfl ?_; refine r_gtr rfl rfl rfl (hl_nil (then_n ?_))
 first | refine c_dec rfl (fun hb1 => ?_) (fun hb1 => ?_) | refine hc_cond rfl (fun hb1 => ?_) (fun hb1 => ?_)
 ·have hb1' := hb1; try simp at hb1'
  have hb1 : 4 < ps.length := by omega
  refine hc_seq (hc_region (r_assign rfl rfl (hl_nil (then_n (hc_ret (then_ret ?_)))))); exact ret1 () rfl (congrArg (fun b => some (int b)) (by rw [yearsErr_of, if_pos hb1])) rfl trivial (List.nil_sublist _) trivial
 ·have hb1' := hb1; try simp at hb1'
  have hb1 : ¬ 4 < ps.length := by omega
  refine hc_outer m0 (hc_skip (then_n (hc_seq (hc_seq (hc_region (r_move rfl rfl ?_)))))); refine r_len_sl rfl T.u_pages rfl ?_; refine r_move rfl rfl (hl_nil (then_n (hc_block ?_))); refine hc_loop (β := Nat) ⟨fun k => k ≤ ps.length ∧ firstErr (fun p : Sl Str => pageErr p.l) (ps.take k) = 0, fun k => [(9, .slice A ps.length c), (10, int ps.length), (11, int k)], fun _ => [], fun _ => [Row A (rows ps), Rows2 A ps]⟩ (fun k => ps.length - k) 0 ⟨Nat.zero_le _, rfl⟩ ⟨rfl, rfl, rfl, trivial⟩ (.refl _) ⟨m0, m1, trivial⟩ fun k hk => ?_; obtain ⟨hk, ht⟩ := hk; refine hc_seq (hc_region (r_lss rfl rfl rfl (hl_nil (then_n (hc_seq ?_)))))
  first | refine c_dec rfl (fun hb2 => ?_) (fun hb2 => ?_) | refine hc_cond rfl (fun hb2 => ?_) (fun hb2 => ?_)
  ·have hb2' := hb2; try simp at hb2'
   have hk2 : k < ps.length := by omega
   refine hc_skip (then_n (hc_seq (hc_block (hc_seq (hc_region ?_))))); refine r_elem (α := (Sl Str)) _ _ rfl T.u_pages T.sz_strs rfl rfl rfl mB rfl (by omega) (by decide) ?_; refine r_load rfl T.cell_strs rfl (cell_row mB (rows_get0 (by omega) rfl)) ?_; refine r_assign rfl rfl (hl_nil (then_n (hc_seq (hc_region (r_move rfl rfl ?_))))); refine hl_inner (p := ps.getD k default) m1 (getD_mem hk2) ?_; refine hl_call F.proof_Check_cb rfl rfl (proof_Check_meets (ps.getD k default).l) (.refl _) ⟨m0, trivial⟩ fun _ _ => ?_; refine r_assign rfl rfl (hl_nil (then_n (hc_seq (hc_region (r_move rfl rfl (r_neq rfl rfl rfl (hl_nil (then_n ?_))))))))
   first | refine c_dec rfl (fun hb3 => ?_) (fun hb3 => ?_) | refine hc_cond rfl (fun hb3 => ?_) (fun hb3 => ?_)
   ·have hb3' := hb3; try simp at hb3'
    refine hc_seq (hc_region (r_move rfl rfl (r_assign rfl rfl (hl_nil (then_n (hc_ret (inb_ret (then_ret (then_ret (inb_ret (then_ret ?_))))))))))); exact ret1 () rfl (congrArg (fun b => some (int b)) (by rw [yearsErr_of, if_neg hb1]; exact (firstErr_atD hk2 ht hb3).symm)) rfl trivial (List.nil_sublist _) trivial
   ·have hb3' := hb3; try simp at hb3'
    refine hc_skip (inb_n (then_n (hc_region ?_))); refine r_add _ rfl rfl rfl rfl (by unfold I64; omega) ?_; refine r_move rfl rfl (hl_nil ?_); exact again _ (k + 1) ⟨by omega, by rw [firstErr_takeD hk2 ht]; exact Classical.not_not.1 hb3⟩ (by show ps.length - (k + 1) < ps.length - k; omega) ⟨rfl, rfl, rfl, trivial⟩ (.refl _) ⟨m1, m2, trivial⟩
  ·have hb2' := hb2; try simp at hb2'
   have hk2 : k = ps.length := by omega
   subst hk2; rw [List.take_length] at ht; refine hc_exit (then_exit (then_exit (inb_hit (then_n (hc_seq (hc_region (r_assign rfl rfl (hl_nil (then_n (hc_ret ?_)))))))))); exact ret1 () rfl (congrArg (fun b => some (int b)) (by rw [yearsErr_of, if_neg hb1, ht])) rfl trivial (List.nil_sublist _) trivial
theorem proof_asked_meets {A B : Option Addr} {ca cb : Nat} (ps : List (Sl Str)) (p : List Str) :
    Meets Try.prog F.proof_asked [.slice A ps.length ca, .slice B p.length cb] { LI := [Rows2 A ps, Row B (rows p)], val := fun _ : Unit => int (askedErr (years ps) p) } := by
 refine meets_intro F.proof_asked_f rfl (Nat.le_of_ble_eq_true rfl) fun w0 => ?_; refine hc_seq (hc_region (r_assign rfl rfl (hl_nil (then_n (hc_seq (hc_seq (hc_region (r_move rfl rfl ?_)))))))); refine hl_call F.proof_yearsError_cb rfl rfl (proof_yearsError_meets ps) (.refl _) ⟨m0, trivial⟩ fun _ _ => ?_; refine r_assign rfl rfl (hl_nil (then_n (hc_seq (hc_region (r_move rfl rfl (r_neq rfl rfl rfl (hl_nil (then_n ?_))))))))
 first | refine c_dec rfl (fun hb1 => ?_) (fun hb1 => ?_) | refine hc_cond rfl (fun hb1 => ?_) (fun hb1 => ?_)
 ·have hb1' := hb1; try simp at hb1'
  refine hc_seq (hc_region (r_move rfl rfl (r_assign rfl rfl (hl_nil (then_n (hc_ret (then_ret ?_))))))); exact ret1 () rfl (congrArg (fun b => some (int b)) (by rw [askedErr, if_neg hb1])) rfl trivial (List.nil_sublist _) trivial
 ·have hb1' := hb1; try simp at hb1'
  refine hc_skip (then_n (hc_seq (hc_region (r_move rfl rfl ?_)))); refine hl_call F.proof_Check_cb rfl rfl (proof_Check_meets p) (.refl _) ⟨m1, trivial⟩ fun _ _ => ?_; refine r_assign rfl rfl (hl_nil (then_n (hc_ret ?_))); exact ret1 () rfl (congrArg (fun b => some (int b)) (by rw [askedErr, if_pos (Classical.not_not.1 hb1)])) rfl trivial (List.nil_sublist _) trivial
def originN (ps : List (Sl Str)) (s : Str) : Nat → Int
  | 0 => -1
  | k + 1 => if s ∈ (ps.getD k default).l then (k : Int) else originN ps s k
theorem originN_pos {ps : List (Sl Str)} {s : Str} {k : Nat} (h : 0 < k) : originN ps s k = if s ∈ (ps.getD (k - 1) default).l then ((k - 1 : Nat) : Int) else originN ps s (k - 1) := by
  cases k with
  | zero => omega
  | succ k => rfl
theorem proof_origin_meets {A : Option Addr} {c : Nat} (ps : List (Sl Str)) (s : Str) (hl : ps.length ≤ 1000000) (hp : ∀ p ∈ ps, p.l.length ≤ 1000000) : Meets Try.prog F.proof_origin [.slice A ps.length c, str s] { LI := [Rows2 A ps], val := fun _ : Unit => int (originN ps s ps.length) } := by
 refine meets_intro F.proof_origin_f rfl (Nat.le_of_ble_eq_true rfl) fun w0 => ?_; refine hc_seq (hc_region (r_assign rfl rfl (hl_nil (then_n (hc_seq (hc_seq (hc_outer m0 (hc_region (r_move rfl rfl ?_))))))))); refine r_len_sl rfl T.u_pages rfl ?_; refine r_sub _ rfl rfl rfl rfl (by unfold I64; omega) ?_; refine r_assign rfl rfl (hl_nil (then_n (hc_block ?_))); refine hc_loop (β := Nat) ⟨fun k => k ≤ ps.length ∧ originN ps s ps.length = originN ps s k, fun k => [(0, .slice A ps.length c), (1, str s), (5, int ((k : Int) - 1))], fun _ => [], fun _ => [Row A (rows ps), Rows2 A ps]⟩ (fun k => k) ps.length ⟨Nat.le_refl _, rfl⟩ ⟨rfl, rfl, rfl, trivial⟩ (.refl _) ⟨m0, m1, trivial⟩ fun k hk => ?_; obtain ⟨hk, ht⟩ := hk; refine hc_seq (hc_seq (hc_region (r_move rfl rfl (r_geq rfl rfl rfl (hl_nil (then_n ?_))))))
 first | refine c_dec rfl (fun hb1 => ?_) (fun hb1 => ?_) | refine hc_cond rfl (fun hb1 => ?_) (fun hb1 => ?_)
 ·have hb1' := hb1; try simp at hb1'
  have hk2 : 0 < k := by omega
  rw [originN_pos hk2] at ht; have hmem := getD_mem (l := ps) (k := k - 1) (by omega); refine hc_skip (then_n (hc_seq (hc_block (hc_seq (hc_region (r_move rfl rfl (r_move rfl rfl ?_))))))); refine r_elem (α := Sl Str) _ (k - 1) rfl T.u_pages T.sz_strs rfl rfl (by omega) m0 rfl (by omega) (by decide) ?_; refine r_load rfl T.cell_strs rfl (cell_row mB (rows_get0 (by omega) rfl)) ?_; refine r_move rfl rfl ?_; refine hl_inner (p := ps.getD (k - 1) default) m1 hmem ?_; refine hl_call F.slices_Contains_strs_cb rfl rfl (slices_Contains_strs_meets (ps.getD (k - 1) default).l s (hp _ hmem)) (List.Perm.refl _) ⟨m0, trivial⟩ fun _ _ => ?_; refine hl_nil (then_n ?_)
  first | refine c_dec rfl (fun hb2 => ?_) (fun hb2 => ?_) | refine hc_cond rfl (fun hb2 => ?_) (fun hb2 => ?_)
  ·have hb2' := hb2; try simp at hb2'
   rw [if_pos hb2] at ht; refine hc_seq (hc_region (r_move rfl rfl (r_assign rfl rfl (hl_nil (then_n (hc_ret (inb_ret (then_ret (then_ret (inb_ret (then_ret ?_))))))))))); exact ret1 () rfl (congrArg (fun n => some (int n)) (by rw [ht]; omega)) rfl trivial (.refl _) trivial
  ·have hb2' := hb2; try simp at hb2'
   rw [if_neg hb2] at ht; refine hc_skip (inb_n (then_n (hc_region (r_move rfl rfl ?_)))); refine r_sub _ rfl rfl rfl rfl (by unfold I64; omega) ?_; refine r_assign rfl rfl (hl_nil ?_); refine again _ (k - 1) ⟨by omega, ht⟩ (by show k - 1 < k; omega) ⟨rfl, rfl, congrArg (fun n => some (int n)) (by omega), trivial⟩ (.refl _) ⟨m1, m2, trivial⟩
 ·have hb1' := hb1; try simp at hb1'
  have hk2 : k = 0 := by omega
  refine hc_exit (then_exit (then_exit (inb_hit (then_n (hc_seq (hc_region (r_assign rfl rfl (hl_nil (then_n (hc_ret ?_)))))))))); exact ret1 () rfl (congrArg (fun n => some (int n)) (by rw [ht, hk2]; rfl)) rfl trivial (.refl _) trivial
def originE (ps : List (Sl Str)) (p : List Str) : List Int × Int := if ¬ askedErr (years ps) p = 0 then ([], askedErr (years ps) p) else (p.map fun s => originN ps s ps.length, 0)
theorem yearsErr_zero {ps : List (Sl Str)} (h : yearsErr (years ps) = 0) : ps.length ≤ 4 ∧ ∀ p ∈ ps, p.l.length ≤ 6 := by
  rw [yearsErr_of] at h
  split at h
  · omega
  · exact ⟨by omega, fun p hp => pageErr_zero (firstErr_zero h p hp)⟩
theorem askedErr_zero {ps : List (Sl Str)} {p : List Str} (h : askedErr (years ps) p = 0) : yearsErr (years ps) = 0 ∧ pageErr p = 0 := by
  unfold askedErr at h
  split at h
  · rename_i h1; exact ⟨h1, h⟩
  · rename_i h1; exact absurd h h1
theorem proof_Origin_meets {A B : Option Addr} {ca cb : Nat} (ps : List (Sl Str)) (p : List Str) : Meets Try.prog F.proof_Origin [.slice A ps.length ca, .slice B p.length cb] { outErr (originE ps p) with LI := [Rows2 A ps, Row B (rows p)] } := by
 refine meets_intro F.proof_Origin_f rfl (Nat.le_of_ble_eq_true rfl) fun w0 => ?_; refine hc_seq (hc_region (r_assign rfl rfl (r_assign rfl rfl (hl_nil (then_n (hc_seq (hc_seq (hc_region (r_move rfl rfl (r_move rfl rfl ?_)))))))))); refine hl_call F.proof_asked_cb rfl rfl (proof_asked_meets ps p) (.refl _) ⟨m0, m1, trivial⟩ fun _ _ => ?_; refine r_assign rfl rfl (hl_nil (then_n (hc_seq (hc_region (r_move rfl rfl (r_neq rfl rfl rfl (hl_nil (then_n ?_))))))))
 first | refine c_dec rfl (fun hb1 => ?_) (fun hb1 => ?_) | refine hc_cond rfl (fun hb1 => ?_) (fun hb1 => ?_)
 ·have hb1' := hb1; try simp at hb1'
  have e : originE ps p = ([], askedErr (years ps) p) := by rw [originE, if_pos hb1]
  rw [e]; refine hc_seq (hc_region (r_move rfl rfl (r_assign rfl rfl (r_assign rfl rfl (hl_nil (then_n (hc_ret (then_ret (hq_nil0 ?_))))))))); exact ret2 (none, 0) rfl rfl rfl rfl rfl (Nat.le_refl _) (List.nil_sublist _) ⟨m0, trivial⟩
 ·have hb1' := hb1; try simp at hb1'
  have e : originE ps p = (p.map fun s => originN ps s ps.length, 0) := by rw [originE, if_neg hb1]
  rw [e]; obtain ⟨h1, h2⟩ := askedErr_zero (Classical.not_not.1 hb1); obtain ⟨h3, h4⟩ := yearsErr_zero h1; have h5 := pageErr_zero h2; refine hc_skip (then_n (hc_seq (hc_region (r_assign rfl rfl (hl_nil (then_n (hc_seq (hc_seq (hc_region (r_move rfl rfl ?_)))))))))); refine r_len_sl rfl T.u_strs rfl ?_; refine r_move rfl rfl (hl_nil (then_n (hc_block ?_))); refine hc_loop (β := Nat × OutC × Hp) ⟨fun ⟨k, o, og⟩ => k ≤ p.length ∧ Grow T.int 1 o.1 k o.2 (rows ((p.take k).map fun s => originN ps s ps.length)) og, fun ⟨k, o, og⟩ => [(0, .slice A ps.length ca), (7, .slice o.1 k o.2), (16, .slice B p.length cb), (17, int p.length), (18, int k)], fun ⟨k, o, og⟩ => og, fun _ => [Rows2 A ps, Row B (rows p)]⟩ (fun x => p.length - x.1) (0, (none, 0), []) ⟨Nat.zero_le _, Grow.nil _ _⟩ ⟨rfl, rfl, rfl, rfl, rfl, trivial⟩ (.refl _) ⟨m0, m1, trivial⟩ fun x hx => ?_; obtain ⟨k, o, og⟩ := x; obtain ⟨hk, hG⟩ := hx; refine hc_seq (hc_region (r_lss rfl rfl rfl (hl_nil (then_n (hc_seq ?_)))))
  first | refine c_dec rfl (fun hb2 => ?_) (fun hb2 => ?_) | refine hc_cond rfl (fun hb2 => ?_) (fun hb2 => ?_)
  ·have hb2' := hb2; try simp at hb2'
   have hk2 : k < p.length := by omega
   refine hc_skip (then_n (hc_seq (hc_block (hc_seq (hc_region ?_))))); refine r_elem (α := Str) _ _ rfl T.u_strs T.sz_string rfl rfl rfl mB rfl (by omega) (by decide) ?_; refine r_load rfl T.cell_string rfl (cell_row mB (rows_get0 (by omega) rfl)) ?_; refine r_assign rfl rfl (hl_nil (then_n ?_)); have hst : (p.take (k + 1)).map (fun s => originN ps s ps.length) = (p.take k).map (fun s => originN ps s ps.length) ++ [originN ps (p.getD k default) ps.length] := by rw [take_succ_getD p k hk2, List.map_append]; rfl
   refine hc_region (r_move rfl rfl (r_move rfl rfl (r_move rfl rfl ?_))); refine hl_call F.proof_origin_cb rfl rfl (proof_origin_meets ps (p.getD k default) (by omega) (fun q hq => by have := h4 q hq; omega)) (List.Perm.refl _) ⟨m0, trivial⟩ fun _ _ => ?_; refine r_buildSlice _ rfl rfl (fun _ => T.bs_ints_1 ..) fun gS => ?_; refine r_append (k + 1) (rows ((p.take (k + 1)).map fun s => originN ps s ps.length)) T.el_ints rfl rfl rfl hG (List.perm_append_comm (l₁ := [_])) (Src.own (cs := #[int (originN ps (p.getD k default) ps.length)]) (m := 1) (List.mem_append_right _ m0) rfl rfl) rfl (by rw [hst, rows_append]; rfl) (by unfold maxLen; omega) (by omega) fun A' c' og' hG' => ?_; refine r_assign rfl rfl (hl_nil (inb_n (then_n (hc_region ?_)))); refine r_add _ rfl rfl rfl rfl (by unfold I64; omega) ?_; refine r_move rfl rfl (hl_nil ?_); exact again _ (k + 1, (A', c'), og') ⟨by omega, hG'⟩ (by show p.length - (k + 1) < p.length - k; omega) ⟨rfl, rfl, rfl, rfl, rfl, trivial⟩ (List.sublist_append_left _ _) ⟨m0, m1, trivial⟩
  ·have hb2' := hb2; try simp at hb2'
   have hk2 : k = p.length := by omega
   subst hk2; rw [List.take_length] at hG; refine hc_exit (then_exit (then_exit (inb_hit (then_n (hc_seq (hc_region (r_move rfl rfl (r_assign rfl rfl (r_assign rfl rfl (hl_nil (then_n ?_))))))))))); refine hc_ret (hq_grown0 hG ?_); exact ret2 o rfl rfl rfl (by show Value.tuple #[.slice o.1 (p.map _).length o.2, int 0] = _; rw [List.length_map]) rfl (by show (p.map _).length ≤ o.2; rw [List.length_map]; exact hG.le) (.refl _) ⟨m0, trivial⟩
def countN (l : List Str) (s : Str) : Nat := (l.filter fun x => decide (x = s)).length
def growsM (m : Mk) : Int := if m.1 = 1 then 1 else if m.1 = 3 then -1 else 0
end Go.Proofs.Ytpfbbggmcbhboaa
end
